/- What the law of work lists asks, in plain words. -/
import Derived.Test.YtkibmjenjgijmaaWkJ
import Derived.Test.YtkibmjenjgijmaaGrI
import Derived.Test.YtkibmjenjgijmaaGrN
namespace Go.Proofs.Ytkibmjenjgijmaa
open Go.RowKit

--PURE
theorem work_of {M P : List (List Int)} {ws : List Int} (hw : LipW M P ws) (hb : belowB 100000 ws = true) : workB M P ws = true := by
  simp only [workB, Bool.and_eq_true, decide_eq_true_eq]
  exact ⟨hw.1, hb, lipB_of fun i hi j hj => hw.2 i j (by rw [← hw.1]; exact hi) (by rw [← hw.1]; exact hj)⟩
theorem good_below {M P : List (List Int)} {ws : List Int} {L : Int} (hg : GoodW M P ws L) (hL : L ≤ 99999) : belowB 100000 ws = true := belowB_of fun j hj => inB_true.2 (by have := hg.2 j (by rw [← hg.1.1]; exact hj); omega)
/-- the next work list is one -/
theorem st_work {M : List (List Int)} {k r : Int} {ws : List Int} (h : stB M k ws r = true) : iwB M k (stL M k ws r) = true := by
  have h' := h
  rw [stB, Bool.and_eq_true] at h'
  obtain ⟨hM, ⟨hk1, hk3⟩, hrr, hwb⟩ := giv_parts h'.1
  have hg := (wnx_good (r := r) (dst_of_met hM) (k := k.toNat) (by omega) (by omega) (work_good hwb) (by omega) hrr).1
  rw [iwB, stL, if_pos h, work_of hg.1 h'.2, askB_iff.2 ⟨hM, hk1, hk3⟩]
  rfl
theorem wl_all {M : List (List Int)} {a X : List Int} (h : srvB M a X = true) : (wlR M a X).length = X.length + 1 ∧ (∀ i, i < (wlR M a X).length → iwB M a.length (row (wlR M a X) i) = true) ∧
    ∀ i, i < X.length → stB M a.length (row (wlR M a X) i) (nth X i) = true ∧ stL M a.length (row (wlR M a X) i) (nth X i) = row (wlR M a X) (i + 1) ∧ (row (wlR M a X) i).length = (row (wlR M a X) (i + 1)).length ∧ ∀ j, j < (row (wlR M a X) (i + 1)).length → nth (row (wlR M a X) i) j ≤ nth (row (wlR M a X) (i + 1)) j := by
  obtain ⟨hd, hk, ha, hX, hl⟩ := srv_all h
  have hM : metB M = true := by simp only [srvB, Bool.and_eq_true] at h; exact h.1
  have hask : askB M (a.length : Int) = true := askB_iff.2 ⟨hM, by omega, by omega⟩
  have hg := wl_good hd hk.1 hk.2 ha hX (by omega)
  have hw : ∀ i, i ≤ X.length → workB M (confs M.length a.length 0) (wlAt M (confs M.length a.length 0) a X i) = true := fun i hi => work_of (hg i hi).1 (good_below (hg i hi) (by omega))
  rw [wlR_yes h, wlL_len]
  refine ⟨rfl, fun i hi => ?_, fun i hi => ?_⟩
  · rw [wlL_row (by omega), iwB, hask, Int.toNat_natCast, hw i (by omega)]
    rfl
  · rw [wlL_row (by omega), wlL_row (by omega)]
    have hn := wnx_good (r := nth X i) hd hk.1 hk.2 (hg i (by omega)) (by omega) (hX i hi)
    have hgv : givB M (a.length : Int) (wlAt M (confs M.length a.length 0) a X i) (nth X i) = true := by
      rw [givB, hask, Int.toNat_natCast, hw i (by omega)]
      have : inB (nth X i) 0 ((M.length : Int) - 1) = true := inB_true.2 (by have := hX i hi; omega)
      rw [this]
      rfl
    have hst : stB M (a.length : Int) (wlAt M (confs M.length a.length 0) a X i) (nth X i) = true := by
      rw [stB, hgv, Int.toNat_natCast, Bool.true_and]
      exact good_below hn.1 (by omega)
    have hsl : stL M (a.length : Int) (wlAt M (confs M.length a.length 0) a X i) (nth X i) = wlAt M (confs M.length a.length 0) a X (i + 1) := by
      rw [stL, if_pos hst, Int.toNat_natCast]
      rfl
    have hle := (hg (i + 1) (by omega)).1.1
    refine ⟨hst, hsl, by rw [hle, (hg i (by omega)).1.1], fun j hj => ?_⟩
    rw [hle] at hj
    exact hn.2 j hj
end Go.Proofs.Ytkibmjenjgijmaa
