/- The different numbers of a list, and whether numbers are rising: the reference's. -/
import Derived.Test.YtaphnkgjcmneoaaGreatDoorPut
import Derived.Test.YtaphnkgjcmneoaaGreatDoorPackB
namespace Go.Proofs.YtaphnkgjcmneoaaGreatDoor
open Go.RowKit

theorem difL_take {X : List Int} {k : Nat} (h : k < X.length) : difL (X.take (k + 1)) = putL (difL (X.take k)) (nth X k) := by
  rw [take_succ_nth h, difL_snoc]

set_option maxHeartbeats 800000 in
set_option maxRecDepth 100000 in
theorem l3Different_any {v : Value} {X : List Int} {w0 w : World} [Ext w0 w] (hX : IsInts w0 v X) (hl : X.length ≤ 100000) :
    Calls Tryz.prog 68 #[v] w fun e w' => ∃ d m, e = .returned (.slice d (difL X).length m) ∧ IsInts w' (.slice d (difL X).length m) (difL X) ∧ Ext w w' := by
  have hX' := hX
  obtain ⟨da, ma, rfl, la⟩ := hX.form
  have own1 : Own (w.alloc (.cells #[] 3)) w.heap.size [intRowOf 3 (.slice (some ⟨w.heap.size, 0, none⟩) ([] : List Int).length 0) []] := Own.litInts (xs := []) (Nat.le_refl _) rfl rfl (by simp) rfl
  have hr1 : IsInts (w.alloc (.cells #[] 3)) (.slice (some ⟨w.heap.size, 0, none⟩) 0 0) (difL (X.take 0)) := own1.reads (by unfold Short; simp) (by simp)
  have e1 : Ext w (w.alloc (.cells #[] 3)) := inferInstance
  go_enter Tryz.func68, Tryz.ntmps68
  go_upto_region 2 with fail
  generalize w.alloc (.cells #[] 3) = w1 at *
  clear own1
  go_wp2_with fail
  go_loopw [3, 4] (fun u i wr => ∃ t : Nat, t ≤ X.length ∧ i = .int .i64 t ∧ IsInts wr u (difL (X.take t)) ∧ Ext w wr) (fun _ i _ => X.length - (intOf i).toNat)
  case atStart => exact ⟨0, by omega, rfl, hr1, e1⟩
  case round =>
    clear hr1 e1
    obtain ⟨t, ht, rfl, hr, he⟩ := hrel
    obtain ⟨wo, rfl⟩ : ∃ y : World, y = wr := ⟨_, rfl⟩
    obtain ⟨dO, mO, rfl, lO⟩ := hr.form
    have e0 : Ext w0 wo := Ext.trans ‹Ext w0 w› he
    by_cases hlt : t < X.length
    · obtain ⟨ba, oa, hda, hca⟩ := hX'.at (w' := wo) hlt
      cases hda
      have hs := difL_take hlt
      have hle : (difL (X.take t)).length ≤ 100000 := by
        have := difL_len (X.take t)
        rw [List.length_take] at this
        omega
      have hxi := hX'.i64 hlt
      obtain ⟨L, hL⟩ : ∃ l, l = difL (X.take t) := ⟨_, rfl⟩
      obtain ⟨x, hx⟩ : ∃ x, x = nth X t := ⟨_, rfl⟩
      rw [← hL] at hr hs hle ⊢
      rw [← hx] at hca hs hxi
      replace hs := hid hs
      replace hL := hid hL
      replace hx := hid hx
      go_wp2_with fail
      with_reducible refine (l1Put_any (w0 := wo) (w := wo) hr hxi hle).mono ?_
      rintro e w2 ⟨d2, m2, rfl, hr2, e2⟩
      go_wp2_with fail
      go_roundw
      case rel => exact ⟨t + 1, by omega, by go_num, by rw [hs.out]; exact hr2, Ext.trans he e2⟩
      case measure => simp [intOf]; omega
    · have htl : t = X.length := by omega
      have hd : difL (X.take t) = difL X := by rw [htl, List.take_length]
      rw [hd] at hr ⊢
      replace htl := hid htl
      replace hd := hid hd
      go_wp2_with fail
      go_ret
      exact ⟨_, _, rfl, hr, he⟩

/-- whether numbers are in strictly ascending order -/
def rsB (xs : List Int) : Bool := decide (xs = difL xs)
theorem rsB_iff {xs : List Int} : rsB xs = true ↔ SAsc xs := by
  unfold rsB
  rw [decide_eq_true_iff, sasc_iff]
  exact eq_comm
theorem rsg_iff {xs : List Int} : rsg xs ↔ SAsc xs := by
  constructor
  · intro h
    refine List.pairwise_iff_getElem.2 fun i j hi hj hij => ?_
    have := rsg_lt h hij hj
    simpa [nth, hi, hj] using this
  · intro h j hj
    have := List.pairwise_iff_getElem.1 h j (j + 1) (by omega) hj (by omega)
    have hj' : j < xs.length := by omega
    simpa [nth, hj, hj'] using this
theorem rsB_not {xs : List Int} {k : Nat} (hk : k < xs.length) (h0 : 0 < k) (h : nth xs k ≤ nth xs (k - 1)) : rsB xs = false := by
  cases hb : rsB xs with
  | false => rfl
  | true =>
    have := rsg_iff.2 (rsB_iff.1 hb) (k - 1) (by omega)
    rw [Nat.sub_add_cancel h0] at this
    omega

end Go.Proofs.YtaphnkgjcmneoaaGreatDoor
