/- What may leave at a place: the reference's list and the program's. -/
import Derived.Test.YtmabejallkjjmaaPagT
import Derived.Test.YtmabejallkjjmaaPagQ
import Derived.Test.YtmabejallkjjmaaGrA
import Derived.Test.YtmabejallkjjmaaGrB
namespace Go.Proofs.Ytmabejallkjjmaa
open Go.RowKit

set_option maxHeartbeats 1600000 in
set_option maxRecDepth 100000 in
theorem l5Choices_any {k n S p : Nat} (hn : n ≤ 8) (hS : S < 256) (hp : p < 8) (w : World) :
    Calls Try.prog 155 #[.int .i64 k, .int .i64 n, .int .i64 S, .int .i64 p] w fun e w' => ∃ d m, e = .returned (.slice d (choS k n S p).length m) ∧ Own w' w.heap.size [intRowOf 3 (.slice d (choS k n S p).length m) (choS k n S p)] ∧ Ext w w' := by
  cases hb : S.testBit p with
  | true =>
    have hcs := hid (show choS k n S p = [-1] by unfold choS; rw [hb]; rfl)
    replace hb := hid hb
    go_enter Try.func155, Try.ntmps155
    go_wp2_with fail
    refine (l5In_any hS hp w).mono ?_; rw [hb.out]; rintro e w1 ⟨rfl, he1⟩
    go_wp2_with fail
    go_ret
    rw [hcs.out]
    exact ⟨_, _, rfl, Own.litInts he1.size rfl rfl (by simp) rfl, Ext.trans he1 inferInstance⟩
  | false =>
    have hcs := hid (show choS k n S p = choF k n S by unfold choS; rw [hb]; rfl)
    replace hb := hid hb
    by_cases hsz : szS S < k
    · have hsz' : decide ((szS S : Int) < (k : Int)) = true := by simp; omega
      have hc0 := hid (show choX k S 0 = [] ++ [-1] by unfold choX; rw [if_pos hsz]; rfl)
      go_enter Try.func155, Try.ntmps155
      go_wp2_with fail
      refine (l5In_any hS hp w).mono ?_; rw [hb.out]; rintro e w1 ⟨rfl, he1⟩
      go_upto_region 4 with fail
      have own1 : Own (w1.alloc (.cells #[] 3)) w.heap.size [intRowOf 3 (.slice (some ⟨w1.heap.size, 0, none⟩) ([] : List Int).length 0) []] := Own.litInts he1.size rfl rfl (by simp) rfl
      have e1 : Ext w (w1.alloc (.cells #[] 3)) := Ext.trans he1 inferInstance
      generalize w1.alloc (.cells #[] 3) = w2 at *
      go_wp2_with fail
      refine (l5Size_any hS w2).mono ?_; rintro e w3 ⟨rfl, he3⟩
      have own2 := own1.ext (w' := w3)
      have e2 : Ext w w3 := Ext.trans e1 he3
      have hB3 : w.heap.size ≤ w3.heap.size := e2.size
      clear own1 he1 e1 he3
      go_upto_region 6 with (at_builtin; refine wpList_append1 rfl _ _ _ rfl elemInt rfl own2 hB3 rfl rfl (by simp) (by simp) ?_; intro v1 w4 ho hb1)
      have own3 : Own w4 w.heap.size [intRowOf 3 v1 (choX k S 0)] := by rw [hc0.out]; exact own_snoc ho rfl
      have e3 : Ext w w4 := ⟨e2.below.trans hb1⟩
      have hl0 : (choX k S 0).length ≤ 1 := choX_length
      go_wp2
      go_loopw [9, 10] (fun v i wr => ∃ x : Nat, x ≤ n ∧ i = .int .i64 x ∧ Own wr w.heap.size [intRowOf 3 v (choX k S x)] ∧ Ext w wr) (fun _ i _ => n - (intOf i).toNat)
      case atStart => exact ⟨0, by omega, rfl, own3, e3⟩
      case round =>
        obtain ⟨x, hx, rfl, hown, he⟩ := hrel
        obtain ⟨vd, vm, rfl⟩ := hown.formInts
        have hlx : (choX k S x).length ≤ x + 1 := choX_length
        by_cases hlt : x < n
        · have hB : w.heap.size ≤ wr.heap.size := he.size
          cases hbx : S.testBit x with
          | true =>
            have hse := hid (choX_succ_in (k := k) hbx)
            replace hbx := hid hbx
            go_wp2_with fail
            refine (l5In_any hS (by omega) _).mono ?_; rw [hbx.out]; rintro e w6 ⟨rfl, he6⟩
            have hown6 := hown.ext (w' := w6)
            have e6 : Ext w w6 := Ext.trans he he6
            have hB6 : w.heap.size ≤ w6.heap.size := e6.size
            clear he6
            go_wp2_with (at_builtin; refine wpList_append1 rfl _ _ _ rfl elemInt rfl hown6 hB6 rfl rfl (by omega) (by omega) ?_; intro v1 w1 ho hb1)
            go_roundw
            case rel => exact ⟨x + 1, by omega, by go_num, by rw [hse.out]; exact own_snoc ho rfl, ⟨e6.below.trans hb1⟩⟩
            case measure => simp [intOf]; omega
          | false =>
            have hse := hid (choX_succ_out (k := k) hbx)
            replace hbx := hid hbx
            go_wp2_with fail
            refine (l5In_any hS (by omega) _).mono ?_; rw [hbx.out]; rintro e w6 ⟨rfl, he6⟩
            have hown6 := hown.ext (w' := w6)
            have e6 : Ext w w6 := Ext.trans he he6
            clear he6
            go_wp2_with fail
            go_roundw
            case rel => exact ⟨x + 1, by omega, by go_num, by rw [hse.out]; exact hown6, e6⟩
            case measure => simp [intOf]; omega
        · have hxn : x = n := by omega
          subst hxn
          have hcx : choS k x S p = choX k S x := by rw [hcs.out, choX_end]
          go_wp2
          go_ret
          rw [hcx]
          exact ⟨_, _, rfl, hown, he⟩
    · have hsz' : decide ((szS S : Int) < (k : Int)) = false := by simp; omega
      have hc0 := hid (show choX k S 0 = [] by unfold choX; rw [if_neg hsz]; rfl)
      go_enter Try.func155, Try.ntmps155
      go_wp2_with fail
      refine (l5In_any hS hp w).mono ?_; rw [hb.out]; rintro e w1 ⟨rfl, he1⟩
      go_upto_region 4 with fail
      have own1 : Own (w1.alloc (.cells #[] 3)) w.heap.size [intRowOf 3 (.slice (some ⟨w1.heap.size, 0, none⟩) ([] : List Int).length 0) []] := Own.litInts he1.size rfl rfl (by simp) rfl
      have e1 : Ext w (w1.alloc (.cells #[] 3)) := Ext.trans he1 inferInstance
      generalize w1.alloc (.cells #[] 3) = w2 at *
      go_wp2_with fail
      refine (l5Size_any hS w2).mono ?_; rintro e w3 ⟨rfl, he3⟩
      have own3 : Own w3 w.heap.size [intRowOf 3 (.slice (some ⟨w1.heap.size, 0, none⟩) 0 0) (choX k S 0)] := by rw [hc0.out]; exact own1.ext (w' := w3)
      have e3 : Ext w w3 := Ext.trans e1 he3
      clear own1 he1 e1 he3
      go_upto_region 6 with fail
      have hl0 : (choX k S 0).length ≤ 1 := choX_length
      go_wp2
      go_loopw [9, 10] (fun v i wr => ∃ x : Nat, x ≤ n ∧ i = .int .i64 x ∧ Own wr w.heap.size [intRowOf 3 v (choX k S x)] ∧ Ext w wr) (fun _ i _ => n - (intOf i).toNat)
      case atStart => exact ⟨0, by omega, rfl, own3, e3⟩
      case round =>
        obtain ⟨x, hx, rfl, hown, he⟩ := hrel
        obtain ⟨vd, vm, rfl⟩ := hown.formInts
        have hlx : (choX k S x).length ≤ x + 1 := choX_length
        by_cases hlt : x < n
        · have hB : w.heap.size ≤ wr.heap.size := he.size
          cases hbx : S.testBit x with
          | true =>
            have hse := hid (choX_succ_in (k := k) hbx)
            replace hbx := hid hbx
            go_wp2_with fail
            refine (l5In_any hS (by omega) _).mono ?_; rw [hbx.out]; rintro e w6 ⟨rfl, he6⟩
            have hown6 := hown.ext (w' := w6)
            have e6 : Ext w w6 := Ext.trans he he6
            have hB6 : w.heap.size ≤ w6.heap.size := e6.size
            clear he6
            go_wp2_with (at_builtin; refine wpList_append1 rfl _ _ _ rfl elemInt rfl hown6 hB6 rfl rfl (by omega) (by omega) ?_; intro v1 w1 ho hb1)
            go_roundw
            case rel => exact ⟨x + 1, by omega, by go_num, by rw [hse.out]; exact own_snoc ho rfl, ⟨e6.below.trans hb1⟩⟩
            case measure => simp [intOf]; omega
          | false =>
            have hse := hid (choX_succ_out (k := k) hbx)
            replace hbx := hid hbx
            go_wp2_with fail
            refine (l5In_any hS (by omega) _).mono ?_; rw [hbx.out]; rintro e w6 ⟨rfl, he6⟩
            have hown6 := hown.ext (w' := w6)
            have e6 : Ext w w6 := Ext.trans he he6
            clear he6
            go_wp2_with fail
            go_roundw
            case rel => exact ⟨x + 1, by omega, by go_num, by rw [hse.out]; exact hown6, e6⟩
            case measure => simp [intOf]; omega
        · have hxn : x = n := by omega
          subst hxn
          have hcx : choS k x S p = choX k S x := by rw [hcs.out, choX_end]
          go_wp2
          go_ret
          rw [hcx]
          exact ⟨_, _, rfl, hown, he⟩

theorem pgS_sz (S : Nat) : (pgS 8 S).length = szS S := by simp [szS, pgS]
theorem pgS_i64 {x S : Nat} (hx : x ≤ 8) : ∀ y ∈ pgS x S, I64 y := by
  intro y hy
  obtain ⟨q, rfl, hq, _⟩ := mem_pgS hy
  unfold I64; omega
theorem pgS_len (x S : Nat) : (pgS x S).length ≤ x := by
  unfold pgS
  rw [List.length_map]
  exact Nat.le_trans (List.length_filter_le _ _) (by simp)
theorem pgS_in {S x : Nat} (h : S.testBit x = true) : pgS (x + 1) S = pgS x S ++ [(x : Int)] := by rw [pgS_succ, if_pos h]
theorem pgS_out {S x : Nat} (h : S.testBit x = false) : pgS (x + 1) S = pgS x S := by rw [pgS_succ, h]; rfl

end Go.Proofs.Ytmabejallkjjmaa
