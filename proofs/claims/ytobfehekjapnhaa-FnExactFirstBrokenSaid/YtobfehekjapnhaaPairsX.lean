/- PairsOf of the reference and of the program. -/
import Derived.Test.YtobfehekjapnhaaAfter
namespace Go.Proofs.Ytobfehekjapnhaa
open Go.RowKit

def prM (M S N : List (List Int)) (s : Int) : Nat := (prEnd (grOf M S N s.toNat (offN M S s)) s.toNat).getD 0
def prsL (M S N : List (List Int)) (s : Int) : List (List Int) := if prB M S N s = true then prLst (grOf M S N s.toNat (offN M S s)) s.toNat (prM M S N s) else []
theorem prsL_no {M S N : List (List Int)} {s : Int} (h : prB M S N s = false) : prsL M S N s = [] := by simp [prsL, h]
theorem prsL_yes {M S N : List (List Int)} {s : Int} {n m : Nat} (h0 : algOk M S N s [] = true) (hn : offEnd M S s.toNat = some n) (hm : prEnd (grOf M S N s.toNat n) s.toNat = some m) : prsL M S N s = prLst (grOf M S N s.toNat n) s.toNat m := by
  rw [prsL, if_pos (prB_some h0 hn hm), prM, offN_some hn, hm]
  rfl
theorem prB_parts {M S N : List (List Int)} {s : Int} (h : prB M S N s = true) : algOk M S N s [] = true ∧ ∃ n m, offEnd M S s.toNat = some n ∧ prEnd (grOf M S N s.toNat n) s.toNat = some m := by
  simp only [prB, Bool.and_eq_true] at h
  refine ⟨h.1, ?_⟩
  cases ho : offEnd M S s.toNat with
  | none => rw [ho] at h; simp at h
  | some n =>
    rw [ho] at h
    obtain ⟨m, hm⟩ := Option.isSome_iff_exists.1 h.2
    exact ⟨n, m, rfl, hm⟩
theorem prsL_len {M S N : List (List Int)} {s : Int} : (prsL M S N s).length ≤ 600 := by
  cases h : prB M S N s with
  | false => rw [prsL_no h]; simp
  | true =>
    obtain ⟨h0, n, m, hn, hm⟩ := prB_parts h
    have hgk := gr_ok (algOk_parts h0).1 (algOk_parts h0).2 hn
    have hsI := startB_state (algOk_parts h0).1
    have := prEnd_some (g := grOf M S N s.toNat n) hgk (by show s.toNat < M.length; omega) hm
    rw [prsL_yes h0 hn hm]
    omega

set_option maxHeartbeats 800000 in
set_option maxRecDepth 100000 in
theorem specPairs_any {v vN : Value} {M S N : List (List Int)} {s : Int} {w0 w : World} [Ext w0 w] (hp : IsProb w0 v M S) (hN : IsRows w0 vN N) (_hs : I64 s) :
    Calls Try.prog 28 #[v, vN, .int .i64 s] w fun e w' => ∃ d0 m0, e = .returned (.tuple #[.slice d0 (prsL M S N s).length m0, .bool (prB M S N s)]) ∧ IsFlat w' (.slice d0 (prsL M S N s).length m0) 2 (prsL M S N s) ∧ Ext w w' := by
  have hp' := hp
  obtain ⟨v1, v2, rfl, hM, hS⟩ := hp
  obtain ⟨a1, c1, rfl, l1⟩ := hM.form
  obtain ⟨a2, c2, rfl, l2⟩ := hS.form
  have hN' := hN
  obtain ⟨aN, cN, rfl, lN⟩ := hN.form
  go_enter Try.func28, Try.ntmps28
  go_wp2_with fail
  refine (l9Get_any (w0 := w0) hp' hN').mono ?_
  rintro e w2 ⟨hpost, hb2⟩
  have e2 : Ext w w2 := Ext.trans inferInstance hb2
  rcases hpost with ⟨hno, d1, n1, m1, d2, n2, m2, bb, rfl⟩ | ⟨n, m, hal, hoff, hend, pd, pm, sd, sm, rfl, hL, hMs⟩
  · have hz := hid (prsL_no hno)
    have hno' := hid hno
    clear hno
    go_wp2_with fail
    go_ret2
    rw [hz.out, hno'.out]
    exact ⟨_, _, rfl, IsFlat.zero _ _ _ _, Ext.trans e2 inferInstance⟩
  · have hv := hid (prsL_yes hal hoff hend)
    have hok := hid (prB_some hal hoff hend)
    replace hoff := hid hoff
    replace hend := hid hend
    replace hal := hid hal
    generalize prLst (grOf M S N s.toNat n) s.toNat m = L at *
    go_wp2_with fail
    go_ret2
    rw [hv.out, hok.out]
    exact ⟨_, _, rfl, hL.ext, Ext.trans e2 inferInstance⟩

set_option maxHeartbeats 800000 in
set_option maxRecDepth 100000 in
theorem implPairs_any {v vN : Value} {M S N : List (List Int)} {s : Int} {w0 w : World} [Ext w0 w] (hp : IsProb w0 v M S) (hN : IsRows w0 vN N) (_hs : I64 s) :
    Calls Try.prog 29 #[v, vN, .int .i64 s] w fun e w' => ∃ d0 m0, e = .returned (.tuple #[.slice d0 (prsL M S N s).length m0, .bool (prB M S N s)]) ∧ Own w' w.heap.size [flatRowOf 59 2 (.slice d0 (prsL M S N s).length m0) (prsL M S N s)] ∧ Ext w w' := by
  have hp' := hp
  obtain ⟨v1, v2, rfl, hM, hS⟩ := hp
  obtain ⟨a1, c1, rfl, l1⟩ := hM.form
  obtain ⟨a2, c2, rfl, l2⟩ := hS.form
  have hN' := hN
  obtain ⟨aN, cN, rfl, lN⟩ := hN.form
  go_enter Try.func29, Try.ntmps29
  go_wp2_with fail
  refine (pairsOf_any (w0 := w0) hp' hN').mono ?_
  rintro e w2 ⟨hpost, hb2⟩
  have hsz : w.heap.size ≤ (w.alloc (.cells #[.slice a1 M.length c1, .slice a2 S.length c2] 29)).heap.size := by simp
  have e2 : Ext w w2 := Ext.trans inferInstance hb2
  rcases hpost with ⟨hno, rfl⟩ | ⟨n, m, hal, hoff, hend, bx, pd, ed, pm, em, rfl, hown⟩
  · have hz := hid (prsL_no hno)
    have hno' := hid hno
    clear hno
    go_wp2_with fail
    go_ret2
    rw [hz.out, hno'.out]
    exact ⟨_, _, rfl, (Own.nil _ _).cons_nil _ _, e2⟩
  · have hv := hid (prsL_yes hal hoff hend)
    have hok := hid (prB_some hal hoff hend)
    replace hoff := hid hoff
    replace hend := hid hend
    replace hal := hid hal
    have t0 : w2.cell? ⟨bx, 0, none⟩ = some (.slice pd (prLst (grOf M S N s.toNat n) s.toNat m).length pm) := hown.cellIn (.head _) (j := 0) (by omega)
    have hown2 := hown.tail.sub (S := [flatRowOf 59 2 (.slice pd (prLst (grOf M S N s.toNat n) s.toNat m).length pm) (prLst (grOf M S N s.toNat n) s.toNat m)]) (List.Sublist.cons_cons _ (List.nil_sublist _))
    clear hown
    generalize prLst (grOf M S N s.toNat n) s.toNat m = L at *
    go_wp2_with fail
    go_ret2
    rw [hv.out, hok.out]
    exact ⟨_, _, rfl, hown2.mono hsz, e2⟩

end Go.Proofs.Ytobfehekjapnhaa
