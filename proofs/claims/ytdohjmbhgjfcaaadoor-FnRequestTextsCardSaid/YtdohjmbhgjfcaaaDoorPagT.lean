/- Whether a cache and a sequence are valid: both sides. -/
import Derived.Test.YtdohjmbhgjfcaaaDoorSpecA
import Derived.Test.YtdohjmbhgjfcaaaDoorTakes
import Derived.Test.YtdohjmbhgjfcaaaDoorPagW
namespace Go.Proofs.YtdohjmbhgjfcaaaDoor
open Go.RowKit

/-- whether a size of a cache, a number of pages and a sequence are valid -/
def pagB (k n : Int) (X : List Int) : Bool := inB k 1 6 && (inB n 1 8 && (decide (X.length ≤ 60) && belowB n X))
theorem pagB_in {k n : Int} {X : List Int} (h : pagB k n X = true) : (1 ≤ k ∧ k ≤ 6) ∧ (1 ≤ n ∧ n ≤ 8) ∧ X.length ≤ 60 ∧ pagesB n.toNat X := by
  simp only [pagB, Bool.and_eq_true, decide_eq_true_eq] at h
  obtain ⟨h1, h2, h3, h4⟩ := h
  have h1' := inB_true.1 h1
  have h2' := inB_true.1 h2
  refine ⟨h1', h2', h3, fun j hj => ?_⟩
  have := belowB_at h4 hj
  omega

set_option maxHeartbeats 400000 in
theorem isItems_any (n : Int) (w : World) : Calls Tryd.prog 90 #[.int .i64 n] w fun e w' => e = .returned (.bool (inB n 1 8)) ∧ w = w' := by
  go_enter Tryd.func90, Tryd.ntmps90
  go_wp2_with (go_at_call 63; refine (within_any _ _ _ _).mono ?_; rintro e w' ⟨rfl, rfl⟩)
  go_ret
  exact ⟨rfl, rfl⟩
set_option maxHeartbeats 400000 in
theorem l3Items_any (n : Int) (w : World) : Calls Tryd.prog 97 #[.int .i64 n] w fun e w' => e = .returned (.bool (inB n 1 8)) ∧ w = w' := by
  go_enter Tryd.func97, Tryd.ntmps97
  go_wp2_with (go_at_call 65; refine (l1In_any _ _ _ _).mono ?_; rintro e w' ⟨rfl, rfl⟩)
  go_ret
  exact ⟨rfl, rfl⟩

set_option maxHeartbeats 800000 in
theorem l3List_any {v : Value} {X : List Int} {n : Int} {w0 w : World} [Ext w0 w] (hX : IsInts w0 v X) (hn : 1 ≤ n ∧ n ≤ 8) :
    Calls Tryd.prog 142 #[.int .i64 n, v] w fun e w' => e = .returned (.bool (belowB n X)) ∧ Ext w w' := by
  obtain ⟨a, c, rfl, la⟩ := hX.form
  go_enter Tryd.func142, Tryd.ntmps142
  go_wp2
  go_loopw [5] (fun i wr => ∃ k : Nat, k ≤ X.length ∧ i = .int .i64 k ∧ Hid (∀ j, j < k → inB (nth X j) 0 (n - 1) = true) ∧ Drew w wr) (fun i _ => X.length - (intOf i).toNat)
  case atStart => exact ⟨0, by omega, rfl, by intro j hj; omega, Drew.refl _⟩
  case round =>
    obtain ⟨k, hk, rfl, hok, hd⟩ := hrel
    have e2 : Ext w wr := hd.ext
    have e0 : Ext w0 wr := Ext.trans ‹Ext w0 w› e2
    by_cases hlt : k < X.length
    · obtain ⟨b, o, rfl, hc⟩ := hX.at (w' := wr) hlt
      cases hin : inB (nth X k) 0 (n - 1) with
      | false =>
        have hfin := hid (belowB_not hlt hin)
        replace hin := hid hin
        go_wp2_with fail
        refine (l1In_any _ _ _ _).mono ?_; rw [hin.out]; rintro e w1 ⟨rfl, rfl⟩
        go_wp2_with fail
        go_ret
        exact ⟨ret_bool hfin.out.symm, hd.ext⟩
      | true =>
        replace hin := hid hin
        go_wp2_with fail
        refine (l1In_any _ _ _ _).mono ?_; rw [hin.out]; rintro e w1 ⟨rfl, rfl⟩
        go_wp2_with fail
        go_roundw
        case rel =>
          refine ⟨k + 1, by omega, by go_num, ?_, hd⟩
          intro j hj
          by_cases hjk : j = k
          · subst hjk; exact hin.out
          · exact hok.out j (by omega)
        case measure => simp [intOf]; omega
    · have hkX : k = X.length := by omega
      have hfin := hid (belowB_of (n := n) (l := X) fun j hj => hok.out j (by omega))
      go_wp2
      go_ret
      exact ⟨ret_bool hfin.out.symm, hd.ext⟩

set_option maxHeartbeats 800000 in
theorem l3Good_any {v : Value} {X : List Int} {n : Int} {w0 w : World} [Ext w0 w] (hX : IsInts w0 v X) :
    Calls Tryd.prog 93 #[.int .i64 n, v] w fun e w' => e = .returned (.bool (inB n 1 8 && (decide (X.length ≤ 60) && belowB n X))) ∧ Ext w w' := by
  have hX' := hX
  obtain ⟨a, c, rfl, la⟩ := hX.form
  cases hi : inB n 1 8 with
  | false =>
    replace hi := hid hi
    go_enter Tryd.func93, Tryd.ntmps93
    go_wp2_with fail
    refine (l3Items_any _ _).mono ?_; rw [hi.out]; rintro e w1 ⟨rfl, rfl⟩
    go_wp2_with fail
    go_ret
    exact ⟨rfl, Ext.refl _⟩
  | true =>
    have hn := inB_true.1 hi
    replace hi := hid hi
    by_cases h : X.length ≤ 60
    · have h' : decide ((X.length : Int) ≤ 60) = true := by simp; omega
      have hr := hid (show (true && (decide (X.length ≤ 60) && belowB n X)) = belowB n X by rw [decide_eq_true h]; rfl)
      go_enter Tryd.func93, Tryd.ntmps93
      go_wp2_with fail
      refine (l3Items_any _ _).mono ?_; rw [hi.out]; rintro e w1 ⟨rfl, rfl⟩
      go_wp2_with fail
      refine (l3List_any (w0 := w0) hX' hn).mono ?_; rintro e w2 ⟨rfl, hb⟩
      go_wp2_with fail
      go_ret
      exact ⟨ret_bool hr.out.symm, hb⟩
    · have h' : decide ((X.length : Int) ≤ 60) = false := by simp; omega
      have hr := hid (show (true && (decide (X.length ≤ 60) && belowB n X)) = false by rw [decide_eq_false h]; rfl)
      go_enter Tryd.func93, Tryd.ntmps93
      go_wp2_with fail
      refine (l3Items_any _ _).mono ?_; rw [hi.out]; rintro e w1 ⟨rfl, rfl⟩
      go_wp2_with fail
      go_ret
      exact ⟨ret_bool hr.out.symm, Ext.refl _⟩

set_option maxHeartbeats 800000 in
theorem implRequests_any {v : Value} {X : List Int} {n : Int} {w0 w : World} [Ext w0 w] (hX : IsInts w0 v X) :
    Calls Tryd.prog 25 #[.int .i64 n, v] w fun e w' => e = .returned (.bool (inB n 1 8 && (decide (X.length ≤ 60) && belowB n X))) ∧ Ext w w' := by
  have hX' := hX
  obtain ⟨a, c, rfl, la⟩ := hX.form
  cases hi : inB n 1 8 with
  | false =>
    replace hi := hid hi
    go_enter Tryd.func25, Tryd.ntmps25
    go_wp2_with fail
    refine (isItems_any _ _).mono ?_; rw [hi.out]; rintro e w1 ⟨rfl, rfl⟩
    go_wp2_with fail
    go_ret
    exact ⟨rfl, Ext.refl _⟩
  | true =>
    have hn := inB_true.1 hi
    replace hi := hid hi
    by_cases h : X.length ≤ 60
    · have h' : decide ((X.length : Int) ≤ 60) = true := by simp; omega
      have hr := hid (show (true && (decide (X.length ≤ 60) && belowB n X)) = belowB n X by rw [decide_eq_true h]; rfl)
      go_enter Tryd.func25, Tryd.ntmps25
      go_wp2_with fail
      refine (isItems_any _ _).mono ?_; rw [hi.out]; rintro e w1 ⟨rfl, rfl⟩
      go_wp2_with fail
      refine (areBelow_any (w0 := w0) hX' (by omega) (by omega)).mono ?_; rintro e w2 ⟨rfl, hb⟩
      go_wp2_with fail
      go_ret
      exact ⟨ret_bool hr.out.symm, hb⟩
    · have h' : decide ((X.length : Int) ≤ 60) = false := by simp; omega
      have hr := hid (show (true && (decide (X.length ≤ 60) && belowB n X)) = false by rw [decide_eq_false h]; rfl)
      go_enter Tryd.func25, Tryd.ntmps25
      go_wp2_with fail
      refine (isItems_any _ _).mono ?_; rw [hi.out]; rintro e w1 ⟨rfl, rfl⟩
      go_wp2_with fail
      go_ret
      exact ⟨ret_bool hr.out.symm, Ext.refl _⟩

end Go.Proofs.YtdohjmbhgjfcaaaDoor
