/- The reference's search for a detour; its tests of a metric and a problem, whole. -/
import Derived.Test.YtohjbabjkjcddaaSpecA
import Derived.Test.YtohjbabjkjcddaaLawC
namespace Go.Proofs.Ytohjbabjkjcddaa
open Go.RowKit

def detourAt (M : List (List Int)) (x y z : Nat) : Bool := decide (cell M x y + cell M y z < cell M x z)
abbrev NoDetour (M : List (List Int)) : Prop := ∀ x, x < M.length → ∀ y, y < M.length → ∀ z, z < M.length → detourAt M x y z = false
/-- what is known of the first detour -/
def FirstDet (M : List (List Int)) (xs : List Int) : Prop :=
  (NoDetour M ∧ xs = []) ∨ ∃ x y z : Nat, x < M.length ∧ y < M.length ∧ z < M.length ∧ detourAt M x y z = true ∧ xs = [(x : Int), (y : Int), (z : Int)] ∧
    (∀ x', x' < x → ∀ y', y' < M.length → ∀ z', z' < M.length → detourAt M x' y' z' = false) ∧ (∀ y', y' < y → ∀ z', z' < M.length → detourAt M x y' z' = false) ∧ (∀ z', z' < z → detourAt M x y z' = false)

theorem tableB_square {M : List (List Int)} (h : tableB M = true) : square M = true := by
  simp only [tableB, Bool.and_eq_true] at h; exact h.1.2
theorem tableB_len {M : List (List Int)} (h : tableB M = true) : 1 ≤ M.length ∧ M.length ≤ 6 := by
  simp only [tableB, Bool.and_eq_true] at h
  have := inB_true.1 h.1.1
  omega
theorem tableB_cell {M : List (List Int)} (h : tableB M = true) {x y : Nat} (hx : x < M.length) (hy : y < M.length) : 0 ≤ cell M x y ∧ cell M x y ≤ 99 := by
  simp only [tableB, Bool.and_eq_true, cellsOk, decide_eq_true_eq] at h
  have h1 := h.2 x hx y hy
  simp only [cellOk, Bool.and_eq_true, decide_eq_true_eq] at h1
  obtain ⟨_, h2⟩ := h1
  split at h2
  · rw [decide_eq_true_eq] at h2; omega
  · have := inB_true.1 h2; omega

/-- Row x of a table, its cell y: where it lies. -/
theorem IsRows.cellAt {w w' : World} {b o c n : Nat} {M : List (List Int)} (h : IsRows w (.slice (some ⟨b, o, none⟩) n c) M) (hs : square M = true) [e : Ext w w'] {x y : Nat} (hx : x < M.length) (hy : y < M.length) :
    ∃ d p m, w'.cell? ⟨b, o + x, none⟩ = some (.slice (some ⟨d, p, none⟩) M.length m) ∧ w'.cell? ⟨d, p + y, none⟩ = some (.int .i64 (cell M x y)) ∧ (∀ y', y' < M.length → w'.cell? ⟨d, p + y', none⟩ = some (.int .i64 (cell M x y'))) := by
  obtain ⟨b1, o1, d1, m1, h1, hc1, hr1, _⟩ := h.at (w' := w') hx
  cases h1
  have hl := square_row hs hx
  rw [hl] at hr1 hc1
  obtain ⟨d, p, rfl, hc2⟩ := hr1.at (w' := w') (k := y) (by omega)
  refine ⟨d, p, m1, hc1, hc2, fun y' hy' => ?_⟩
  obtain ⟨d', p', h2, hc3⟩ := hr1.at (w' := w') (k := y') (by omega)
  cases h2
  exact hc3

set_option maxHeartbeats 1000000 in
set_option maxRecDepth 100000 in
theorem l6Detour_any {v : Value} {M : List (List Int)} {w0 w : World} [Ext w0 w] (hm : IsMet w0 v M) (ht : tableB M = true) :
    Calls Try.prog 101 #[v] w fun e w' => ∃ d m xs, e = .returned (.slice d xs.length m) ∧ FirstDet M xs ∧ Own w' w.heap.size [intRowOf 3 (.slice d xs.length m) xs] ∧ Ext w w' := by
  obtain ⟨v1, rfl, hM⟩ := hm
  obtain ⟨a, c, rfl, la⟩ := hM.form
  obtain ⟨hl0, hl6⟩ := tableB_len ht
  obtain ⟨b, o, rfl, _⟩ : ∃ b o, a = some ⟨b, o, none⟩ ∧ True := by
    obtain ⟨b, o, _, _, h, _⟩ := hM.at (w' := w0) (k := 0) (by omega)
    exact ⟨b, o, h, trivial⟩
  have hsq := hid (tableB_square ht)
  have HT := hid ht
  clear ht
  go_enter Try.func101, Try.ntmps101
  go_wp2
  go_loopw [4, 5, 6] (fun i _ _ wr => ∃ x : Nat, x ≤ M.length ∧ i = .int .i64 x ∧ Hid (∀ x', x' < x → ∀ y', y' < M.length → ∀ z', z' < M.length → detourAt M x' y' z' = false) ∧ Drew (w.alloc (.cells #[.slice (some ⟨b, o, none⟩) M.length c] 34)) wr) (fun i _ _ _ => M.length - (intOf i).toNat)
  case atStart => exact ⟨0, by omega, rfl, by intro x hx; omega, Drew.refl _⟩
  case round =>
    obtain ⟨x, hx, rfl, hbx, hd⟩ := hrel
    by_cases hltx : x < M.length
    · go_wp2
      obtain ⟨wo, rfl⟩ : ∃ wo : World, wo = wr := ⟨_, rfl⟩
      go_loopw [5, 6] (fun i _ wr => ∃ y : Nat, y ≤ M.length ∧ i = .int .i64 y ∧ Hid (∀ y', y' < y → ∀ z', z' < M.length → detourAt M x y' z' = false) ∧ Drew (w.alloc (.cells #[.slice (some ⟨b, o, none⟩) M.length c] 34)) wr) (fun i _ _ => M.length - (intOf i).toNat)
      case atStart => exact ⟨0, by omega, rfl, by intro x hx; omega, hd⟩
      case round =>
        obtain ⟨y, hy, rfl, hby, hd⟩ := hrel
        by_cases hlty : y < M.length
        · go_wp2
          obtain ⟨wo2, rfl⟩ : ∃ wo : World, wo = wr := ⟨_, rfl⟩
          go_loopw [6] (fun i wr => ∃ z : Nat, z ≤ M.length ∧ i = .int .i64 z ∧ Hid (∀ z', z' < z → detourAt M x y z' = false) ∧ Drew (w.alloc (.cells #[.slice (some ⟨b, o, none⟩) M.length c] 34)) wr) (fun i _ => M.length - (intOf i).toNat)
          case atStart => exact ⟨0, by omega, rfl, by intro x hx; omega, hd⟩
          case round =>
            obtain ⟨z, hz, rfl, hbz, hd⟩ := hrel
            by_cases hltz : z < M.length
            · have e1 : Ext w wr := Ext.trans inferInstance hd.ext
              have e0 : Ext w0 wr := Ext.trans ‹Ext w0 w› e1
              have hbox : wr.cell? ⟨w.heap.size, 0, none⟩ = some (.slice (some ⟨b, o, none⟩) M.length c) := hd.ext.cell (by go_simp)
              obtain ⟨d1, p1, m1, hc1, hc2, hall⟩ := hM.cellAt (w' := wr) hsq.out hltx hltz
              have hc3 := hall y hlty
              obtain ⟨d2, p2, m2, hc4, hc5, _⟩ := hM.cellAt (w' := wr) hsq.out hlty hltz
              have b1 := tableB_cell HT.out hltx hltz
              have b2 := tableB_cell HT.out hltx hlty
              have b3 := tableB_cell HT.out hlty hltz
              clear hall
              by_cases hbad : cell M x y + cell M y z < cell M x z
              · have hdet := hid (show detourAt M x y z = true by simp [detourAt, hbad])
                go_wp2_with (go_quiet (fail))
                go_ret
                refine ⟨_, _, [(x : Int), (y : Int), (z : Int)], rfl, .inr ⟨x, y, z, hltx, hlty, hltz, hdet.out, rfl, hbx.out, hby.out, hbz.out⟩, ?_, ?_⟩
                · exact Own.litInts (by simpa using e1.size) rfl rfl (by simp) rfl
                · infer_instance
              · have hdet := hid (show detourAt M x y z = false by simp [detourAt, hbad])
                have hbad' : decide (cell M x y + cell M y z < cell M x z) = false := by simpa using hbad
                go_wp2_with (go_quiet (fail))
                go_roundw
                case rel =>
                  refine ⟨z + 1, by omega, by go_num, ?_, hd.step _⟩
                  intro z' hz'
                  by_cases hzz : z' = z
                  · subst hzz; exact hdet.out
                  · exact hbz.out z' (by omega)
                case measure => simp [intOf]; omega
            · go_wp2
              go_roundw
              case rel =>
                refine ⟨y + 1, by omega, by go_num, ?_, hd⟩
                intro y' hy' z' hz'
                by_cases hyy : y' = y
                · subst hyy; exact hbz.out z' (by omega)
                · exact hby.out y' (by omega) z' hz'
              case measure => simp [intOf]; omega
        · go_wp2
          go_roundw
          case rel =>
            refine ⟨x + 1, by omega, by go_num, ?_, hd⟩
            intro x' hx' y' hy' z' hz'
            by_cases hxx : x' = x
            · subst hxx; exact hby.out y' (by omega) z' hz'
            · exact hbx.out x' (by omega) y' hy' z' hz'
          case measure => simp [intOf]; omega
    · go_wp2
      go_ret
      have e1 : Ext w wr := Ext.trans inferInstance hd.ext
      refine ⟨_, _, [], rfl, .inl ⟨fun x' hx' => hbx.out x' (by omega), rfl⟩, ?_, ?_⟩
      · exact Own.litInts e1.size rfl rfl (by simp) rfl
      · infer_instance

/-- whether distances are a metric -/
def NoDetB (M : List (List Int)) : Bool := decide (NoDetour M)
def metB (M : List (List Int)) : Bool := tableB M && NoDetB M
def probB (M S : List (List Int)) : Bool := inB M.length 1 4 && metB M && inB S.length 1 4 && decide (∀ r ∈ S, reqB M.length r = true)

theorem NoDetB_of {M : List (List Int)} {xs : List Int} (h : FirstDet M xs) : NoDetB M = decide (xs = []) := by
  rcases h with ⟨h1, h2⟩ | ⟨x, y, z, hx, hy, hz, h1, h2, _⟩
  · rw [h2, NoDetB, decide_eq_true h1]; rfl
  · rw [decide_eq_false (by rw [h2]; simp), NoDetB, decide_eq_false]
    intro h
    rw [h x hx y hy z hz] at h1
    cases h1

set_option maxHeartbeats 400000 in
theorem l6Good_any {v : Value} {M : List (List Int)} {w0 w : World} [Ext w0 w] (hm : IsMet w0 v M) :
    Calls Try.prog 57 #[v] w fun e w' => e = .returned (.bool (metB M)) ∧ Ext w w' := by
  have hm' := hm
  obtain ⟨v1, rfl, hM⟩ := hm
  obtain ⟨a, c, rfl, la⟩ := hM.form
  cases ht : tableB M with
  | false =>
    have hr := hid (show metB M = false by rw [metB, ht]; rfl)
    replace ht := hid ht
    go_enter Try.func57, Try.ntmps57
    go_wp2_with (go_at_call 100; refine (l6Table_any (w0 := w0) hm').mono ?_; rw [ht.out]; rintro e w' ⟨rfl, hb⟩)
    go_ret
    exact ⟨ret_bool hr.out.symm, Ext.trans inferInstance hb⟩
  | true =>
    replace ht := hid ht
    go_enter Try.func57, Try.ntmps57
    go_wp2_with fail
    refine (l6Table_any (w0 := w0) hm').mono ?_
    rw [ht.out]
    rintro e w1 ⟨rfl, hb1⟩
    have c1 : w1.cell? ⟨w.heap.size, 0, none⟩ = some (.slice a M.length c) := hb1.cell (by go_simp)
    have e1 : Ext w w1 := Ext.trans inferInstance hb1
    have e0 : Ext w0 w1 := Ext.trans ‹Ext w0 w› e1
    go_wp2_with fail
    refine (l6Detour_any (w0 := w0) hm' ht.out).mono ?_
    rintro e w2 ⟨d, m, xs, rfl, hdet, _, hb2⟩
    have e2 : Ext w w2 := Ext.trans e1 hb2
    have hN := hid (NoDetB_of hdet)
    cases xs with
    | nil =>
      go_wp2_with fail
      go_ret
      exact ⟨ret_bool (by rw [metB, ht.out, hN.out]; rfl), e2⟩
    | cons x xs =>
      have h0 : (((x :: xs).length : Int) == 0) = false := by simp; omega
      go_wp2_with fail
      go_ret
      exact ⟨ret_bool (by rw [metB, ht.out, hN.out]; simp; omega), e2⟩

end Go.Proofs.Ytohjbabjkjcddaa
