/- Caches walked: the names of the policies and the marks of a cache: the reference's. -/
import Derived.Test.YtaphnkgjcmneoaaGreatDoorCio
import Derived.Test.YtaphnkgjcmneoaaGreatDoorPackB
namespace Go.Proofs.YtaphnkgjcmneoaaGreatDoor
open Go.RowKit

def Names8 (w : World) (B : Nat) : Prop := ∀ j, j < 8 → w.cell? ⟨B, j, none⟩ = some (.string (bsOf (([] :: nmL).getD j [])))
theorem l4Names_any (k : Nat) (hk : k ≤ 7) (w : World) :
    Calls Tryz.prog 57 #[.int .i64 (k : Int)] w fun e w' => ∃ B m, e = .returned (.slice (some ⟨B, k, none⟩) (8 - k) m) ∧ Names8 w' B ∧ Ext w w' := by
  obtain ⟨W, hW⟩ : ∃ W, W = w.alloc (.cells #[.string { data := #[] }, .string { data := #[108, 114, 117] }, .string { data := #[102, 105, 102, 111] }, .string { data := #[108, 105, 102, 111] }, .string { data := #[102, 108, 117, 115, 104] }, .string { data := #[108, 102, 117] }, .string { data := #[99, 108, 111, 99, 107] }, .string { data := #[109, 114, 117] }] 9) := ⟨_, rfl⟩
  have eW : Ext w W := by rw [hW]; infer_instance
  have hN : Names8 W w.heap.size := by
    intro j hj
    rw [hW, World.cell?_alloc_new]
    rcases j with _ | _ | _ | _ | _ | _ | _ | _ | j <;> first | rfl | omega
  go_enter Tryz.func57, Tryz.ntmps57
  have h8 : ¬ (8 : Nat) < k := by omega
  go_wp2_with fail
  rw [← hW]
  refine bodyPost_ret (v := .slice (some ⟨w.heap.size, k, none⟩) (8 - k) (8 - k)) (by simp [results, Tryz.results57, go_sem]) rfl ?_
  exact ⟨w.heap.size, 8 - k, rfl, hN, eW⟩
theorem specPn_any (p : Int) (w : World) :
    Calls Tryz.prog 20 #[.int .i64 p] w fun e w' => e = .returned (.tuple #[.string (bsOf (pnT p)), .bool (inB p 1 7)]) ∧ Ext w w' := by
  cases hb : inB p 1 7 with
  | false =>
    have hT := hid (show bsOf (pnT p) = { data := #[] } by unfold pnT; rw [hb]; rfl)
    replace hb := hid hb
    go_enter Tryz.func20, Tryz.ntmps20
    go_wp2_with fail
    refine (l1In_any _ _ _ _).mono ?_; rw [hb.out]; rintro e w1 ⟨rfl, rfl⟩
    go_wp2_with fail
    go_ret2
    rw [hT.out]
    exact ⟨rfl, Ext.refl _⟩
  | true =>
    have hp := inB_true.1 hb
    obtain ⟨k, hk⟩ : ∃ k : Nat, p = (k : Int) := ⟨p.toNat, by omega⟩
    have hk7 : k ≤ 7 := by omega
    have hk0 : 1 ≤ k := by omega
    have hn := nm_at hp
    obtain ⟨T, hT⟩ : ∃ T, T = bsOf (pnT p) := ⟨_, rfl⟩
    have hcell : ∀ (u : World) (B : Nat), Names8 u B → u.cell? ⟨B, k, none⟩ = some (.string T) := fun u B h => by
      rw [h k (by omega), hT, ← hn, hk]
      obtain ⟨k, rfl⟩ : ∃ q, k = q + 1 := ⟨k - 1, by omega⟩
      rw [List.getD_cons_succ]
      congr 4
      omega
    rw [← hT]
    replace hb := hid hb
    replace hn := hid hn
    replace hcell := hid hcell
    replace hT := hid hT
    subst hk
    have hC := fun u => l4Names_any k hk7 u
    replace hC := hid hC
    go_enter Tryz.func20, Tryz.ntmps20
    go_wp2_with fail
    refine (l1In_any _ _ _ _).mono ?_; rw [hb.out]; rintro e w1 ⟨rfl, rfl⟩
    go_wp2_with fail
    refine (hC.out _).mono ?_
    rintro e w1 ⟨B, m, rfl, hN, e1⟩
    have hc := hcell.out _ _ hN
    replace hN := hid hN
    have h8 : 0 < 8 - k := by omega
    go_wp2_with fail
    go_ret2
    exact ⟨rfl, e1⟩
theorem pol_hit {k : Nat} (hk : k < 7) : polOf (nmL.getD k []) = (k : Int) + 1 := by
  rcases k with _ | _ | _ | _ | _ | _ | _ | k <;> first | decide | omega
theorem pol_miss {L : List UInt8} (h : ∀ j, j < 7 → nmL.getD j [] ≠ L) : polOf L = 0 := by
  unfold polOf
  rw [if_neg]
  intro hm
  obtain ⟨j, hj, e⟩ := List.getElem_of_mem hm
  exact h j hj (by rw [← e]; simp [List.getD, List.getElem?_eq_getElem hj])
set_option maxHeartbeats 800000 in
theorem l4Policy_any (L : List UInt8) (w : World) : Calls Tryz.prog 60 #[.string (bsOf L)] w fun e w' => e = .returned (.int .i64 (polOf L)) ∧ Ext w w' := by
  obtain ⟨S, hS⟩ : ∃ S, S = bsOf L := ⟨_, rfl⟩
  rw [← hS]
  replace hS := hid hS
  have hC := hid (fun u => l4Names_any 0 (by omega) u)
  go_enter Tryz.func60, Tryz.ntmps60
  go_wp2_with fail
  refine (hC.out _).mono ?_
  rintro e w1 ⟨B, m, rfl, hN, e1⟩
  replace hN := hid hN
  go_wp2_with fail
  go_loopw [4] (fun iv wr => ∃ k : Nat, k < 8 ∧ iv = .int .i64 ((k + 1 : Nat) : Int) ∧ Hid (∀ j, j < k → nmL.getD j [] ≠ L) ∧ Ext w1 wr) (fun iv _ => 8 - (intOf iv).toNat)
  case atStart => exact ⟨0, by omega, rfl, by intro j hj; omega, Ext.refl _⟩
  case round =>
    obtain ⟨k, hk, rfl, hno, hq⟩ := hrel
    obtain ⟨wo, rfl⟩ : ∃ y : World, y = wr := ⟨_, rfl⟩
    by_cases hlt : k < 7
    · obtain ⟨T, hT⟩ : ∃ T, T = bsOf (nmL.getD k []) := ⟨_, rfl⟩
      have hc : wo.cell? ⟨B, k + 1, none⟩ = some (.string T) := by
        have h1 := hq.cell (hN.out (k + 1) (by omega))
        rw [h1, List.getD_cons_succ, hT]
      have hk1 : k + 1 < 8 := by omega
      by_cases he : T = S
      · have hb : (T.toList == S.toList) = true := (Lib.bytes_beq_iff _ _).2 he
        have hv := hid (show polOf L = ((k + 1 : Nat) : Int) by
          rw [show L = nmL.getD k [] from bsOf_inj (by rw [← hS.out, ← he, hT]), pol_hit hlt]
          omega)
        replace he := hid he
        replace hT := hid hT
        go_wp2_with fail
        go_ret
        exact ⟨by rw [hv.out]; rfl, Ext.trans e1 hq⟩
      · have hb : (T.toList == S.toList) = false := (Lib.bytes_beq_false_iff _ _).2 he
        have hno2 := hid (show ∀ j, j < k + 1 → nmL.getD j [] ≠ L from fun j hj => by
          by_cases e : j = k
          · intro h; rw [e] at h; exact he (by rw [hT, hS.out, h])
          · exact hno.out j (by omega))
        replace he := hid he
        replace hT := hid hT
        go_wp2_with fail
        go_roundw
        case rel => exact ⟨k + 1, by omega, by go_num, hno2, hq⟩
        case measure => simp [intOf]; omega
    · have hk7 : k = 7 := by omega
      have hv := hid (pol_miss fun j hj => hno.out j (by omega))
      subst hk7
      go_wp2_with fail
      go_ret
      exact ⟨by rw [hv.out]; rfl, Ext.trans e1 hq⟩
theorem specPo_any (L : List UInt8) (w : World) :
    Calls Tryz.prog 23 #[.string (bsOf L)] w fun e w' => e = .returned (.tuple #[.int .i64 (polOf L), .bool (decide (1 ≤ polOf L))]) ∧ Ext w w' := by
  have hP := l4Policy_any L w
  obtain ⟨q, hq⟩ : ∃ q, q = polOf L := ⟨_, rfl⟩
  have hr := pol_rng L
  rw [← hq] at hP hr ⊢
  obtain ⟨S, hS⟩ : ∃ S, S = bsOf L := ⟨_, rfl⟩
  rw [← hS] at hP ⊢
  replace hS := hid hS
  replace hq := hid hq
  replace hP := hid hP
  go_enter Tryz.func23, Tryz.ntmps23
  go_wp2_with fail
  refine hP.out.mono ?_
  rintro e w1 ⟨rfl, e1⟩
  go_wp2_with fail
  go_ret2
  exact ⟨by congr 3, e1⟩
end Go.Proofs.YtaphnkgjcmneoaaGreatDoor
