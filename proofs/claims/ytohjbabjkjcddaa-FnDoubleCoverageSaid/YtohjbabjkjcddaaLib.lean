/- The library's functions on slices that take a function. -/
import Derived.Test.YtohjbabjkjcddaaLawA
namespace Go.Proofs.Ytohjbabjkjcddaa
open Go.RowKit

set_option maxHeartbeats 400000 in
set_option maxRecDepth 100000 in
theorem indexFuncInts_any {v : Value} {xs : List Int} {w0 w : World} [Ext w0 w] (hx : IsInts w0 v xs) (id : Nat) (caps : Array Value) (p : Int → Bool)
    (hcall : ∀ xa W, (callFunc id xa).run Try.prog W = .ok (.enter id xa) W)
    (hf : ∀ (W : World), Ext w W → ∀ k, k < xs.length → Calls Try.prog id (#[.int .i64 (nth xs k)] ++ caps) W fun e w' => e = .returned (.bool (p (nth xs k))) ∧ Ext W w') :
    Calls Try.prog 156 #[v, .func (.func id) #[] caps] w fun e w' => ∃ r : Int, e = .returned (.int .i64 r) ∧ ((r = -1 ∧ xs.any p = false) ∨ (0 ≤ r ∧ xs.any p = true)) ∧ Ext w w' := by
  obtain ⟨a, c, rfl, la⟩ := hx.form
  go_enter Try.func156, Try.ntmps156
  replace hf := hid hf
  go_wp2
  go_loopw [5, 8] (fun _ i wr => ∃ k : Nat, k ≤ xs.length ∧ i = .int .i64 k ∧ Hid (∀ j, j < k → p (nth xs j) = false) ∧ Ext w wr) (fun _ i _ => xs.length - (intOf i).toNat)
  case atStart => exact ⟨0, by omega, rfl, by intro x hx; omega, inferInstance⟩
  case round =>
    obtain ⟨k, hk, rfl, hno, hb⟩ := hrel
    by_cases hlt : k < xs.length
    · have e0 : Ext w0 wr := Ext.trans ‹Ext w0 w› hb
      obtain ⟨b, o, rfl, hc⟩ := hx.at (w' := wr) hlt
      cases hp : p (nth xs k) with
      | true =>
        replace hp := hid hp
        go_wp2_with fail
        refine (hf.out wr hb k hlt).mono ?_
        rw [hp.out]
        rintro e w1 ⟨rfl, hb1⟩
        go_wp2_with fail
        go_ret
        refine ⟨_, rfl, .inr ⟨by omega, ?_⟩, Ext.trans hb hb1⟩
        exact List.any_eq_true.2 ⟨_, nth_mem hlt, hp.out⟩
      | false =>
        replace hp := hid hp
        go_wp2_with fail
        refine (hf.out wr hb k hlt).mono ?_
        rw [hp.out]
        rintro e w1 ⟨rfl, hb1⟩
        go_wp2_with fail
        go_roundw
        case rel =>
          refine ⟨k + 1, by omega, by go_num, ?_, Ext.trans hb hb1⟩
          intro j hj
          by_cases hjk : j = k
          · subst hjk; exact hp.out
          · exact hno.out j (by omega)
        case measure => simp [intOf]; omega
    · go_wp2
      go_ret
      refine ⟨_, rfl, .inl ⟨rfl, ?_⟩, hb⟩
      rw [List.any_eq_false]
      intro x hx
      obtain ⟨j, hj, rfl⟩ := mem_iff_nth.1 hx
      rw [hno.out j (by omega)]
      simp

set_option maxHeartbeats 400000 in
set_option maxRecDepth 100000 in
theorem containsFuncInts_any {v : Value} {xs : List Int} {w0 w : World} [Ext w0 w] (hx : IsInts w0 v xs) (id : Nat) (caps : Array Value) (p : Int → Bool)
    (hcall : ∀ xa W, (callFunc id xa).run Try.prog W = .ok (.enter id xa) W)
    (hf : ∀ (W : World), Ext w W → ∀ k, k < xs.length → Calls Try.prog id (#[.int .i64 (nth xs k)] ++ caps) W fun e w' => e = .returned (.bool (p (nth xs k))) ∧ Ext W w') :
    Calls Try.prog 126 #[v, .func (.func id) #[] caps] w fun e w' => e = .returned (.bool (xs.any p)) ∧ Ext w w' := by
  obtain ⟨a, c, rfl, la⟩ := hx.form
  go_enter Try.func126, Try.ntmps126
  replace hcall := hid hcall
  replace hf := hid hf
  go_wp2_with fail
  refine (indexFuncInts_any (w0 := w0) hx id caps p hcall.out hf.out).mono ?_
  rintro e w1 ⟨r, rfl, hr, hb⟩
  rcases hr with ⟨rfl, h⟩ | ⟨h0, h⟩
  · replace h := hid h
    go_wp2_with fail
    go_ret
    exact ⟨ret_bool h.out.symm, hb⟩
  · replace h := hid h
    go_wp2_with fail
    go_ret
    exact ⟨ret_bool h.out.symm, hb⟩

set_option maxHeartbeats 400000 in
set_option maxRecDepth 100000 in
theorem indexFuncRows_any {v : Value} {xs : List (List Int)} {w0 w : World} [Ext w0 w] (hx : IsRows w0 v xs) (id : Nat) (caps : Array Value) (p : List Int → Bool)
    (hcall : ∀ xa W, (callFunc id xa).run Try.prog W = .ok (.enter id xa) W)
    (hf : ∀ (W : World), Ext w W → ∀ k, k < xs.length → ∀ d m, IsInts w0 (.slice d (row xs k).length m) (row xs k) → Calls Try.prog id (#[.slice d (row xs k).length m] ++ caps) W fun e w' => e = .returned (.bool (p (row xs k))) ∧ Ext W w') :
    Calls Try.prog 162 #[v, .func (.func id) #[] caps] w fun e w' => ∃ r : Int, e = .returned (.int .i64 r) ∧ ((r = -1 ∧ xs.any p = false) ∨ (0 ≤ r ∧ xs.any p = true)) ∧ Ext w w' := by
  obtain ⟨a, c, rfl, la⟩ := hx.form
  go_enter Try.func162, Try.ntmps162
  replace hf := hid hf
  go_wp2
  go_loopw [5, 8] (fun _ i wr => ∃ k : Nat, k ≤ xs.length ∧ i = .int .i64 k ∧ Hid (∀ j, j < k → p (row xs j) = false) ∧ Ext w wr) (fun _ i _ => xs.length - (intOf i).toNat)
  case atStart => exact ⟨0, by omega, rfl, by intro x hx; omega, inferInstance⟩
  case round =>
    obtain ⟨k, hk, rfl, hno, hb⟩ := hrel
    by_cases hlt : k < xs.length
    · have e0 : Ext w0 wr := Ext.trans ‹Ext w0 w› hb
      obtain ⟨b, o, d, m, rfl, hc, hr, _⟩ := hx.at (w' := wr) hlt
      cases hp : p (row xs k) with
      | true =>
        replace hp := hid hp
        go_wp2_with fail
        refine (hf.out wr hb k hlt d m hr).mono ?_
        rw [hp.out]
        rintro e w1 ⟨rfl, hb1⟩
        go_wp2_with fail
        go_ret
        refine ⟨_, rfl, .inr ⟨by omega, ?_⟩, Ext.trans hb hb1⟩
        exact List.any_eq_true.2 ⟨_, row_mem hlt, hp.out⟩
      | false =>
        replace hp := hid hp
        go_wp2_with fail
        refine (hf.out wr hb k hlt d m hr).mono ?_
        rw [hp.out]
        rintro e w1 ⟨rfl, hb1⟩
        go_wp2_with fail
        go_roundw
        case rel =>
          refine ⟨k + 1, by omega, by go_num, ?_, Ext.trans hb hb1⟩
          intro j hj
          by_cases hjk : j = k
          · subst hjk; exact hp.out
          · exact hno.out j (by omega)
        case measure => simp [intOf]; omega
    · go_wp2
      go_ret
      refine ⟨_, rfl, .inl ⟨rfl, ?_⟩, hb⟩
      rw [List.any_eq_false]
      intro x hx
      obtain ⟨j, hj, rfl⟩ := mem_iff_row.1 hx
      rw [hno.out j (by omega)]
      simp

set_option maxHeartbeats 400000 in
set_option maxRecDepth 100000 in
theorem containsFuncRows_any {v : Value} {xs : List (List Int)} {w0 w : World} [Ext w0 w] (hx : IsRows w0 v xs) (id : Nat) (caps : Array Value) (p : List Int → Bool)
    (hcall : ∀ xa W, (callFunc id xa).run Try.prog W = .ok (.enter id xa) W)
    (hf : ∀ (W : World), Ext w W → ∀ k, k < xs.length → ∀ d m, IsInts w0 (.slice d (row xs k).length m) (row xs k) → Calls Try.prog id (#[.slice d (row xs k).length m] ++ caps) W fun e w' => e = .returned (.bool (p (row xs k))) ∧ Ext W w') :
    Calls Try.prog 141 #[v, .func (.func id) #[] caps] w fun e w' => e = .returned (.bool (xs.any p)) ∧ Ext w w' := by
  obtain ⟨a, c, rfl, la⟩ := hx.form
  go_enter Try.func141, Try.ntmps141
  replace hcall := hid hcall
  replace hf := hid hf
  go_wp2_with fail
  refine (indexFuncRows_any (w0 := w0) hx id caps p hcall.out hf.out).mono ?_
  rintro e w1 ⟨r, rfl, hr, hb⟩
  rcases hr with ⟨rfl, h⟩ | ⟨h0, h⟩
  · replace h := hid h
    go_wp2_with fail
    go_ret
    exact ⟨ret_bool h.out.symm, hb⟩
  · replace h := hid h
    go_wp2_with fail
    go_ret
    exact ⟨ret_bool h.out.symm, hb⟩

end Go.Proofs.Ytohjbabjkjcddaa
