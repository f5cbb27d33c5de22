/- ParseCache's values by the reference in plain words, and boxes as rows. -/
import Derived.Test.YtaphnkgjcmneoaaGreatDoorCjp
import Derived.Test.YtaphnkgjcmneoaaGreatDoorPackA
namespace Go.Proofs.YtaphnkgjcmneoaaGreatDoor
open Go.RowKit

theorem wdSok_no {p : Int} {W : List (List UInt8)} {t : Nat} {y : List UInt8} (h : W[t]? = some y) (hn : wdSok p y = false) : W.all (wdSok p) = false := by
  rw [Bool.eq_false_iff]
  intro ha
  have := (List.all_eq_true.1 ha) y (List.mem_of_getElem? h)
  rw [hn] at this
  cases this
theorem wdSall_snoc {p : Int} {W : List (List UInt8)} {t : Nat} {y : List UInt8} (h : W[t]? = some y) : (W.take (t + 1)).all (wdSok p) = ((W.take t).all (wdSok p) && wdSok p y) := by
  rw [List.take_add_one, h, List.all_append]
  simp
theorem wdsS_snoc {W : List (List UInt8)} {t : Nat} {y : List UInt8} (h : W[t]? = some y) : wdsS (W.take (t + 1)) = wdsS (W.take t) ++ [rs0 (Lib.cut y [58]).1] := by
  unfold wdsS
  rw [List.take_add_one, h, List.map_append]
  simp
theorem wdsSM_snoc {W : List (List UInt8)} {t : Nat} {y : List UInt8} {p : Int} (hp : mkd p = true) (h : W[t]? = some y) : wdsSM p (W.take (t + 1)) = wdsSM p (W.take t) ++ [rs0 (Lib.cut y [58]).2.1] := by
  unfold wdsSM
  rw [if_pos hp, if_pos hp, List.take_add_one, h, List.map_append]
  simp
theorem wdsSM_no {p : Int} (hp : mkd p = false) (W : List (List UInt8)) : wdsSM p W = [] := by
  unfold wdsSM
  rw [hp]; rfl
theorem rs0_i64 (L : List UInt8) : I64 (rs0 L) := by
  unfold rs0
  cases h : rsO L with
  | none => show I64 0; unfold I64; omega
  | some v => have := rsO_iff.1 h; show I64 v; unfold I64; omega
theorem wdsS_i64 (W : List (List UInt8)) : ∀ x ∈ wdsS W, I64 x := by
  intro x hx
  unfold wdsS at hx
  obtain ⟨w, _, rfl⟩ := List.mem_map.1 hx
  exact rs0_i64 _
theorem wdsSM_i64 (p : Int) (W : List (List UInt8)) : ∀ x ∈ wdsSM p W, I64 x := by
  intro x hx
  unfold wdsSM at hx
  split at hx
  · obtain ⟨w, _, rfl⟩ := List.mem_map.1 hx
    exact rs0_i64 _
  · cases hx
theorem wdsS_len (W : List (List UInt8)) : (wdsS W).length = W.length := by simp [wdsS]
theorem wdsSM_len (p : Int) (W : List (List UInt8)) : (wdsSM p W).length ≤ W.length := by
  unfold wdsSM
  split <;> simp
theorem psOk_at {n : Int} {L hw : List UInt8} {T : List (List UInt8)} (h : spW 32 L = hw :: T) : psOk n L = ((hdSok hw && decide (T.length + 1 ≤ 7)) && ((T.all (wdSok (hdS hw).1)) && (caB n (hdS hw).1 (hdS hw).2.1 (wdsS T) (wdsSM (hdS hw).1 T) (hdS hw).2.2 && decide (caL (hdS hw).1 (hdS hw).2.1 (wdsS T) (wdsSM (hdS hw).1 T) (hdS hw).2.2 = L)))) := by
  unfold psOk
  rw [h]
  rfl
theorem psV_yes {n : Int} {L hw : List UInt8} {T : List (List UInt8)} (h : spW 32 L = hw :: T) (hk : psOk n L = true) : pcV n L = ((hdS hw).1, (hdS hw).2.1, wdsS T, wdsSM (hdS hw).1 T, (hdS hw).2.2) := by
  have hk2 : pcOk n L = true := by rw [pc_ps]; exact hk
  have hv := pc_vals hk2
  rw [pcV_yes h hk2]
  rw [h] at hv
  simp only [List.headD_cons, List.tail_cons] at hv
  rw [hv.1, hv.2.1, hv.2.2]
/-- the box of a cache as a row -/
def bxRow (c : Nat) (a0 a1 a2 a3 a4 : Value) : Row := ⟨26, 1, .slice (some ⟨c, 0, none⟩) 5 5, 5, [a0, a1, a2, a3, a4]⟩
theorem bx_own {w : World} {B c : Nat} {a0 a1 a2 a3 a4 : Value} {R : List Row} (h : Own w B (bxRow c a0 a1 a2 a3 a4 :: R)) : BX w c a0 a1 a2 a3 a4 := by
  unfold bxRow at h
  exact ⟨h.cellAt (w' := w) (j := 0) (by omega), h.cellAt (w' := w) (j := 1) (by omega), h.cellAt (w' := w) (j := 2) (by omega), h.cellAt (w' := w) (j := 3) (by omega), h.cellAt (w' := w) (j := 4) (by omega), h.frozenAt 0, h.frozenAt 1, h.frozenAt 2, h.frozenAt 3, h.frozenAt 4⟩
theorem bx_set2 {w : World} {B c : Nat} {a0 a1 a2 a3 a4 : Value} {R : List Row} (h : Own w B (bxRow c a0 a1 a2 a3 a4 :: R)) (v : Value) : Own (w.setCell ⟨c, 2, none⟩ v) B (bxRow c a0 a1 v a3 a4 :: R) := Own.set h 2 v
theorem bx_set3 {w : World} {B c : Nat} {a0 a1 a2 a3 a4 : Value} {R : List Row} (h : Own w B (bxRow c a0 a1 a2 a3 a4 :: R)) (v : Value) : Own (w.setCell ⟨c, 3, none⟩ v) B (bxRow c a0 a1 a2 v a4 :: R) := Own.set h 3 v
theorem bx_new {w : World} {B : Nat} {R : List Row} (h : Own w B R) (hB : B ≤ w.heap.size) (a0 a1 a2 a3 a4 : Value) : Own (w.alloc (.cells #[a0, a1, a2, a3, a4] 26)) B (bxRow w.heap.size a0 a1 a2 a3 a4 :: R) :=
  h.lit 26 1 5 #[a0, a1, a2, a3, a4] hB (by unfold maxLen; omega) rfl
end Go.Proofs.YtaphnkgjcmneoaaGreatDoor
