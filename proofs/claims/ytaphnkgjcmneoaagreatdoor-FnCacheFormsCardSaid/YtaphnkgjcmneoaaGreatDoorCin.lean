/- The names of the policies: strings.Split and slices.Index off the shelf; PolicyName and PolicyOf of the program. -/
import Derived.Test.YtaphnkgjcmneoaaGreatDoorPackB
import Derived.Test.YtaphnkgjcmneoaaGreatDoorRqj
namespace Go.Proofs.YtaphnkgjcmneoaaGreatDoor
open Go.RowKit

def nmS : ByteArray := { data := #[108, 114, 117, 32, 102, 105, 102, 111, 32, 108, 105, 102, 111, 32, 102, 108, 117, 115, 104, 32, 108, 102, 117, 32, 99, 108, 111, 99, 107, 32, 109, 114, 117] }
def spS : ByteArray := { data := #[32] }
theorem nm_count : Lib.countB nmS spS = 6 := by decide +kernel
theorem bs_self (b : ByteArray) : bsOf b.data.toList = b := by
  apply ByteArray.ext
  simp [bsOf]
theorem nm_split : (Lib.splitB spS 0 6 nmS) = nmL.map bsOf := by
  have h := Lib.splitB_data spS 0 6 nmS
  have h2 : Lib.splitK spS.data.toList 0 6 nmS.data.toList = nmL := by decide +kernel
  rw [h2] at h
  rw [← h, List.map_map]
  conv => lhs; rw [← List.map_id (Lib.splitB spS 0 6 nmS)]
  exact List.map_congr_left fun b _ => (bs_self b).symm
theorem nm_len : nmL.length = 7 := rfl
/-- what policyNames hands over -/
def Names (w : World) (B : Nat) : Prop := ∀ j, j < 7 → w.cell? ⟨B, j, none⟩ = some (.string (bsOf (nmL.getD j [])))
theorem policyNames_any {w : World} (hm : Most w) :
    Calls Tryz.prog 55 #[] w fun e w' => ∃ B m, e = .returned (.slice (some ⟨B, 0, none⟩) 7 m) ∧ Names w' B ∧ Ext w w' := by
  obtain ⟨m, hm'⟩ := hm
  have hS : Calls Tryz.prog 80 #[.string nmS, .string spS] w fun e w' => ∃ B m, e = .returned (.slice (some ⟨B, 0, none⟩) 7 m) ∧ Names w' B ∧ Ext w w' := by
    refine (Tryz.strings_Split nmS spS m w (by decide) hm' (by decide)).mono ?_
    rintro e w' ⟨rfl, rfl⟩
    rw [nm_count, nm_split]
    refine ⟨w.heap.size, 7, rfl, ?_, inferInstance⟩
    intro j hj
    have h7 : (nmL.map bsOf).map Value.string = (nmL.map fun L => Value.string (bsOf L)) := by rw [List.map_map]; rfl
    rw [h7]
    rw [World.cell?_alloc_new, List.getElem?_toArray, List.getElem?_map, List.getElem?_eq_getElem (show j < nmL.length from hj), Option.map_some]
    congr 3
    simp [List.getD, List.getElem?_eq_getElem (show j < nmL.length from hj)]
  go_enter Tryz.func55, Tryz.ntmps55
  go_wp2_with fail
  refine hS.mono ?_
  rintro e w1 ⟨B, m1, rfl, hN, e1⟩
  go_wp2_with fail
  go_ret
  exact ⟨B, m1, rfl, hN, e1⟩
theorem idxFromS_ix (x : List UInt8) : ∀ (Z : List (List UInt8)) (i : Nat), Lib.idxFromS (Z.map bsOf) (bsOf x) i = if x ∈ Z then ((i + Z.idxOf x : Nat) : Int) else -1
  | [], i => by simp [Lib.idxFromS]
  | z :: Z, i => by
    have ih := idxFromS_ix x Z (i + 1)
    rw [List.map_cons, Lib.idxFromS]
    by_cases h : z = x
    · subst h
      rw [if_pos rfl, if_pos (.head _)]
      simp
    · have hb : bsOf z ≠ bsOf x := fun e => h (by have := congrArg (fun b => b.data.toList) e; simpa [bsOf] using this)
      rw [if_neg hb, ih]
      by_cases hm : x ∈ Z
      · rw [if_pos hm, if_pos (.tail _ hm), List.idxOf_cons, beq_eq_false_iff_ne.2 h, cond_false]
        congr 1; omega
      · rw [if_neg hm, if_neg (fun hh => by rcases List.mem_cons.1 hh with e | e; exact h e.symm; exact hm e)]
theorem pol_ix (L : List UInt8) : Lib.idxOfS (nmL.map bsOf) (bsOf L) = polOf L - 1 := by
  unfold Lib.idxOfS polOf
  rw [idxFromS_ix]
  split <;> omega
theorem pol_rng (L : List UInt8) : 0 ≤ polOf L ∧ polOf L ≤ 7 := by
  by_cases h : polOf L = 0
  · omega
  · have := name_of h; omega
theorem isPol_any (p : Int) (w : World) : Calls Tryz.prog 30 #[.int .i64 p] w fun e w' => e = .returned (.bool (inB p 1 7)) ∧ w = w' := by
  go_enter Tryz.func30, Tryz.ntmps30
  go_wp2_with (go_at_call 36; refine (within_any _ _ _ _).mono ?_; rintro e w' ⟨rfl, rfl⟩)
  go_ret
  exact ⟨rfl, rfl⟩
def pnT (p : Int) : List UInt8 := if inB p 1 7 then nmOf p else []
theorem nm_at {p : Int} (h : 1 ≤ p ∧ p ≤ 7) : nmL.getD (p - 1).toNat [] = pnT p := by
  unfold pnT nmOf
  rw [if_pos (inB_true.2 h)]
theorem PolicyName_any {p : Int} {w : World} (hm : Most w) :
    Calls Tryz.prog 19 #[.int .i64 p] w fun e w' => e = .returned (.tuple #[.string (bsOf (pnT p)), .bool (inB p 1 7)]) ∧ Ext w w' := by
  have hP := policyNames_any hm
  have hI := isPol_any p w
  cases hb : inB p 1 7 with
  | false =>
    have hT := hid (show bsOf (pnT p) = { data := #[] } by unfold pnT; rw [hb]; rfl)
    rw [hb] at hI
    replace hP := hid hP
    replace hI := hid hI
    replace hb := hid hb
    go_enter Tryz.func19, Tryz.ntmps19
    go_wp2_with fail
    refine hI.out.mono ?_
    rintro e w1 ⟨rfl, rfl⟩
    go_wp2_with fail
    go_ret2
    rw [hT.out]
    exact ⟨rfl, Ext.refl _⟩
  | true =>
    have hp := inB_true.1 hb
    obtain ⟨k, hk⟩ : ∃ k : Nat, p = (k : Int) + 1 := ⟨(p - 1).toNat, by omega⟩
    have hk7 : k < 7 := by omega
    have hn := nm_at hp
    rw [show (p - 1).toNat = k by omega] at hn
    obtain ⟨T, hT⟩ : ∃ T, T = bsOf (pnT p) := ⟨_, rfl⟩
    have hcell : ∀ (u : World) (B : Nat), Names u B → u.cell? ⟨B, k, none⟩ = some (.string T) := fun u B h => by
      rw [h k hk7, hn, hT]
    rw [hb] at hI
    rw [← hT]
    replace hP := hid hP
    replace hb := hid hb
    replace hn := hid hn
    replace hcell := hid hcell
    replace hT := hid hT
    subst hk
    replace hI := hid hI
    go_enter Tryz.func19, Tryz.ntmps19
    go_wp2_with fail
    refine hI.out.mono ?_
    rintro e w1 ⟨rfl, rfl⟩
    go_wp2_with fail
    refine hP.out.mono ?_
    rintro e w1 ⟨B, m, rfl, hN, e1⟩
    have hc := hcell.out _ _ hN
    replace hN := hid hN
    go_wp2_with fail
    go_ret2
    exact ⟨rfl, e1⟩
theorem PolicyOf_any {L : List UInt8} {w : World} (hm : Most w) :
    Calls Tryz.prog 22 #[.string (bsOf L)] w fun e w' => e = .returned (.tuple #[.int .i64 (polOf L), .bool (decide (1 ≤ polOf L))]) ∧ Ext w w' := by
  have hP := policyNames_any hm
  have hI : ∀ (u : World) (B m : Nat), Names u B → Calls Tryz.prog 59 #[.slice (some ⟨B, 0, none⟩) 7 m, .string (bsOf L)] u fun e w' => e = .returned (.int .i64 (polOf L - 1)) ∧ w' = u := by
    intro u B m hN
    have h := Tryz.slices_Index_string B 0 7 m (nmL.map bsOf) (bsOf L) u (by simp [nm_len]) (by omega) (fun j hj => by
      have hj7 : j < 7 := by simpa [nm_len] using hj
      rw [Nat.zero_add, hN j hj7]
      rcases j with _ | _ | _ | _ | _ | _ | _ | j <;> first | rfl | omega)
    rw [show (nmL.map bsOf).take 7 = nmL.map bsOf from List.take_of_length_le (by simp [nm_len]), pol_ix] at h
    exact h
  obtain ⟨q, hq⟩ : ∃ q, q = polOf L := ⟨_, rfl⟩
  have hr := pol_rng L
  rw [← hq] at hI hr ⊢
  obtain ⟨S, hS⟩ : ∃ S, S = bsOf L := ⟨_, rfl⟩
  rw [← hS] at hI ⊢
  replace hS := hid hS
  replace hq := hid hq
  replace hP := hid hP
  replace hI := hid hI
  by_cases h0 : q = 0
  · subst h0
    go_enter Tryz.func22, Tryz.ntmps22
    go_wp2_with fail
    refine hP.out.mono ?_
    rintro e w1 ⟨B, m, rfl, hN, e1⟩
    have hC := hid (hI.out _ _ m hN)
    replace hN := hid hN
    go_wp2_with fail
    refine hC.out.mono ?_
    rintro e w2 ⟨rfl, rfl⟩
    go_wp2_with fail
    go_ret2
    exact ⟨rfl, e1⟩
  · have hd := hid (show decide (1 ≤ q) = true from decide_eq_true (by omega))
    have h1 : 1 ≤ q := by omega
    go_enter Tryz.func22, Tryz.ntmps22
    go_wp2_with fail
    refine hP.out.mono ?_
    rintro e w1 ⟨B, m, rfl, hN, e1⟩
    have hC := hid (hI.out _ _ m hN)
    replace hN := hid hN
    go_wp2_with fail
    refine hC.out.mono ?_
    rintro e w2 ⟨rfl, rfl⟩
    go_wp2_with fail
    go_ret2
    rw [hd.out]
    exact ⟨rfl, e1⟩
end Go.Proofs.YtaphnkgjcmneoaaGreatDoor
