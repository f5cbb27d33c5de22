/- The program's tests of a metric. -/
import Derived.Test.YtohjbabjkjcddaaLib
import Derived.Test.YtohjbabjkjcddaaSpecB
namespace Go.Proofs.Ytohjbabjkjcddaa
open Go.RowKit

set_option maxHeartbeats 400000 in
theorem within_any (x a b : Int) (w : World) :
    Calls Try.prog 70 #[.int .i64 x, .int .i64 a, .int .i64 b] w fun e w' => e = .returned (.bool (inB x a b)) ∧ w = w' := by
  by_cases h1 : a ≤ x
  · have hr := hid (inB_ge (b := b) h1)
    go_enter Try.func70, Try.ntmps70
    go_wp2
    go_ret
    exact ⟨ret_bool hr.out.symm, rfl⟩
  · have hr := hid (inB_lt (b := b) h1)
    have h1' : x < a := by omega
    clear h1
    go_enter Try.func70, Try.ntmps70
    go_wp2
    go_ret
    exact ⟨ret_bool hr.out.symm, rfl⟩

/-- whether a number is another one -/
def neB (a b : Int) : Bool := a != b
theorem neB_false {a b : Int} : neB a b = false ↔ a = b := by simp [neB]

set_option maxHeartbeats 400000 in
theorem isTable1_any {v : Value} {r : List Int} {n : Int} {B : Nat} {w0 w : World} [Ext w0 w] (hr : IsInts w0 v r) (hn : w.cell? ⟨B, 0, none⟩ = some (.int .i64 n)) :
    Calls Try.prog 142 #[v, .pointer (some ⟨B, 0, none⟩)] w fun e w' => e = .returned (.bool (neB r.length n)) ∧ w = w' := by
  obtain ⟨a, c, rfl, la⟩ := hr.form
  go_enter Try.func142, Try.ntmps142
  go_wp2
  go_ret
  exact ⟨rfl, rfl⟩

theorem isTable1_call (xa : Array Value) (W : World) : (callFunc 142 xa).run Try.prog W = .ok (.enter 142 xa) W := by kernel_rfl

theorem isTable1_all {M : List (List Int)} {n : Int} {B : Nat} {w0 w : World} [Ext w0 w] (hn : w.cell? ⟨B, 0, none⟩ = some (.int .i64 n)) :
    ∀ (W : World), Ext w W → ∀ k, k < M.length → ∀ d m, IsInts w0 (.slice d (row M k).length m) (row M k) →
      Calls Try.prog 142 (#[.slice d (row M k).length m] ++ #[.pointer (some ⟨B, 0, none⟩)]) W fun e w' => e = .returned (.bool ((fun r => neB r.length n) (row M k))) ∧ Ext W w' := by
  intro W hW k hk d m hrow
  have e0 : Ext w0 W := Ext.trans ‹Ext w0 w› hW
  refine (isTable1_any (w0 := w0) hrow (hW.cell hn)).mono ?_
  rintro e w' ⟨rfl, rfl⟩
  exact ⟨rfl, Ext.refl _⟩

theorem square_any (M : List (List Int)) : M.any (fun r => neB r.length M.length) = !square M := by
  rw [Bool.eq_iff_iff, Bool.not_eq_true', List.any_eq_true]
  constructor
  · rintro ⟨r, hr, h⟩
    obtain ⟨k, hk, rfl⟩ := mem_iff_row.1 hr
    refine square_not hk fun h' => ?_
    rw [neB_false.2 (by omega)] at h
    cases h
  · intro h
    simp only [square, decide_eq_false_iff_not] at h
    have h' : ∃ r ∈ M, ¬ r.length = M.length := by
      apply Classical.byContradiction
      intro h2
      exact h fun r hr => Classical.byContradiction fun h3 => h2 ⟨r, hr, h3⟩
    obtain ⟨r, hr, h3⟩ := h'
    refine ⟨r, hr, ?_⟩
    cases hb : neB r.length M.length with
    | true => rfl
    | false => have := neB_false.1 hb; omega

set_option maxHeartbeats 1600000 in
set_option maxRecDepth 100000 in
theorem isTable_any {v : Value} {M : List (List Int)} {w0 w : World} [Ext w0 w] (hm : IsMet w0 v M) :
    Calls Try.prog 113 #[v, .bool false] w fun e w' => e = .returned (.bool (tableB M)) ∧ Ext w w' := by
  obtain ⟨v1, rfl, hM⟩ := hm
  obtain ⟨a, c, rfl, la⟩ := hM.form
  cases hn : inB M.length 1 6 with
  | false =>
    have hr := hid (show tableB M = false by rw [tableB, hn]; rfl)
    replace hn := hid hn
    go_enter Try.func113, Try.ntmps113
    go_wp2_with (go_at_call 70; refine (within_any _ _ _ _).mono ?_; rw [hn.out]; rintro e w' ⟨rfl, rfl⟩)
    go_ret
    exact ⟨ret_bool hr.out.symm, inferInstance⟩
  | true =>
    have hlen := inB_true.1 hn
    replace hn := hid hn
    cases hsq : square M with
    | false =>
      have hr := hid (show tableB M = false by rw [tableB, hsq]; simp)
      have hs := hid (square_any M)
      replace hsq := hid hsq
      go_enter Try.func113, Try.ntmps113
      go_wp2_with fail
      refine (within_any _ _ _ _).mono ?_; rw [hn.out]; rintro e w' ⟨rfl, rfl⟩
      go_wp2_with fail
      generalize hW : (w.alloc (.cells #[.slice a M.length c] 34)).alloc (.cells #[.int .i64 M.length] 3) = W1
      have e1 : Ext w W1 := hW ▸ inferInstance
      have x0 : W1.cell? ⟨w.heap.size, 0, none⟩ = some (.slice a M.length c) := by subst hW; go_simp
      have xn : W1.cell? ⟨w.heap.size + 1, 0, none⟩ = some (.int .i64 M.length) := by subst hW; go_simp
      clear hW
      have e01 : Ext w0 W1 := Ext.trans ‹Ext w0 w› e1
      refine (containsFuncRows_any (w0 := w0) hM _ _ (fun r => neB r.length M.length) isTable1_call (isTable1_all xn)).mono ?_
      rw [hs.out, hsq.out]
      rintro e w2 ⟨rfl, hb⟩
      go_wp2_with fail
      go_ret
      exact ⟨ret_bool hr.out.symm, Ext.trans e1 hb⟩
    | true =>
      have hs := hid (square_any M)
      replace hsq := hid hsq
      go_enter Try.func113, Try.ntmps113
      go_wp2_with fail
      refine (within_any _ _ _ _).mono ?_; rw [hn.out]; rintro e w' ⟨rfl, rfl⟩
      go_wp2_with fail
      generalize hW : (w.alloc (.cells #[.slice a M.length c] 34)).alloc (.cells #[.int .i64 M.length] 3) = W1
      have e1 : Ext w W1 := hW ▸ inferInstance
      have x0 : W1.cell? ⟨w.heap.size, 0, none⟩ = some (.slice a M.length c) := by subst hW; go_simp
      have xn : W1.cell? ⟨w.heap.size + 1, 0, none⟩ = some (.int .i64 M.length) := by subst hW; go_simp
      clear hW
      have e01 : Ext w0 W1 := Ext.trans ‹Ext w0 w› e1
      refine (containsFuncRows_any (w0 := w0) hM _ _ (fun r => neB r.length M.length) isTable1_call (isTable1_all xn)).mono ?_
      rw [hs.out, hsq.out]
      rintro e w2 ⟨rfl, hb⟩
      replace x0 := hb.cell x0
      replace xn := hb.cell xn
      have e2 : Ext w w2 := Ext.trans e1 hb
      have e0 : Ext w0 w2 := Ext.trans ‹Ext w0 w› e2
      clear hb
      obtain ⟨b, o, rfl, _⟩ : ∃ b o, a = some ⟨b, o, none⟩ ∧ True := by
        obtain ⟨b, o, _, _, h, _⟩ := hM.at (w' := w0) (k := 0) (by omega)
        exact ⟨b, o, h, trivial⟩
      go_wp2_with fail
      go_loop [6, 7, 8, 22] (fun _ _ _ i => ∃ x : Nat, x ≤ M.length ∧ i = .int .i64 x ∧ Hid (∀ x', x' < x → ∀ y, y < M.length → cellOk M x' y = true)) (fun _ _ _ i => M.length - (intOf i).toNat)
      case atStart => exact ⟨0, by omega, rfl, by intro x hx; omega⟩
      case round =>
        obtain ⟨x, hx, rfl, hcells⟩ := hrel
        by_cases hltx : x < M.length
        · obtain ⟨d1, p1, m1, hc1, hc2, hall⟩ := hM.cellAt (w' := w2) hsq.out hltx hltx
          replace hall := hid hall
          clear hc2
          go_wp2
          go_loop [7, 8, 31] (fun _ _ i => ∃ y : Nat, y ≤ M.length ∧ i = .int .i64 y ∧ Hid (∀ y', y' < y → cellOk M x y' = true)) (fun _ _ i => M.length - (intOf i).toNat)
          case atStart => exact ⟨0, by omega, rfl, by intro x hx; omega⟩
          case round =>
            obtain ⟨y, hy, rfl, hcy⟩ := hrel
            by_cases hlty : y < M.length
            · have hc2 := hall.out y hlty
              obtain ⟨d2, p2, m2, hc3, hc4, _⟩ := hM.cellAt (w' := w2) hsq.out hlty hltx
              by_cases h2 : x = y
              · have h2' : ((x : Int) == (y : Int)) = true := by simp [h2]
                have h2'' : ((x : Int) != (y : Int)) = false := by simp [h2]
                by_cases h3 : cell M x y = 0
                · have hok := hid (show cellOk M x y = true by rw [cellOk, if_pos h2, decide_eq_true h3, ← h2]; simp)
                  have h3' : (cell M x y != 0) = false := by simp [h3]
                  have h1' : (cell M x y != cell M y x) = false := by rw [← h2]; simp
                  have h4 : cell M x y ≤ 99 := by omega
                  have h5 : decide (99 < cell M x y) = false := by simpa using h4
                  clear h2 h3 h4
                  go_wp2
                  go_round
                  case rel =>
                    refine ⟨y + 1, by omega, by go_num, ?_⟩
                    intro y' hy'
                    by_cases hyy : y' = y
                    · subst hyy; exact hok.out
                    · exact hcy.out y' (by omega)
                  case measure => simp [intOf]; omega
                · have hok := hid (show cellOk M x y = false by rw [cellOk, if_pos h2, decide_eq_false h3]; simp)
                  have h3' : (cell M x y != 0) = true := by simp [h3]
                  clear h2 h3
                  go_wp2
                  go_ret
                  exact ⟨ret_bool (by rw [tableB, cellsOk_not hltx hlty hok.out]; simp), e2⟩
              · have h2' : ((x : Int) == (y : Int)) = false := by simp; omega
                have h2'' : ((x : Int) != (y : Int)) = true := by simp; omega
                by_cases h1 : cell M x y = cell M y x
                · have h1' : (cell M x y != cell M y x) = false := by simp [h1]
                  by_cases h4 : cell M x y ≤ 99
                  · have h5 : decide (99 < cell M x y) = false := by simpa using h4
                    by_cases h6 : cell M x y < 1
                    · have h6' : decide (cell M x y < 1) = true := by simpa using h6
                      have hok := hid (show cellOk M x y = false by rw [cellOk, if_neg h2, inB_lt (by omega)]; simp)
                      clear h1 h2 h4 h6
                      go_wp2
                      go_ret
                      exact ⟨ret_bool (by rw [tableB, cellsOk_not hltx hlty hok.out]; simp), e2⟩
                    · have h6' : decide (cell M x y < 1) = false := by simpa using h6
                      have hok := hid (show cellOk M x y = true by rw [cellOk, if_neg h2, inB_true.2 ⟨by omega, h4⟩, decide_eq_true h1]; rfl)
                      clear h1 h2 h4 h6
                      go_wp2
                      go_round
                      case rel =>
                        refine ⟨y + 1, by omega, by go_num, ?_⟩
                        intro y' hy'
                        by_cases hyy : y' = y
                        · subst hyy; exact hok.out
                        · exact hcy.out y' (by omega)
                      case measure => simp [intOf]; omega
                  · have h5 : decide (99 < cell M x y) = true := by simp; omega
                    have hok := hid (show cellOk M x y = false by rw [cellOk, if_neg h2, inB_false.2 (fun h => h4 h.2)]; simp)
                    clear h1 h2 h4
                    go_wp2
                    go_ret
                    exact ⟨ret_bool (by rw [tableB, cellsOk_not hltx hlty hok.out]; simp), e2⟩
                · have h1' : (cell M x y != cell M y x) = true := by simp [h1]
                  have hok := hid (show cellOk M x y = false by rw [cellOk, decide_eq_false h1]; rfl)
                  clear h1 h2
                  go_wp2
                  go_ret
                  exact ⟨ret_bool (by rw [tableB, cellsOk_not hltx hlty hok.out]; simp), e2⟩
            · go_wp2
              go_round
              case rel =>
                refine ⟨x + 1, by omega, by go_num, ?_⟩
                intro x' hx' y' hy'
                by_cases hxx : x' = x
                · subst hxx; exact hcy.out y' (by omega)
                · exact hcells.out x' (by omega) y' hy'
              case measure => simp [intOf]; omega
        · go_wp2
          go_ret
          have hcs : cellsOk M = true := by
            simp only [cellsOk, decide_eq_true_eq]
            exact fun x' hx' y hy => hcells.out x' (by omega) y hy
          exact ⟨ret_bool (by rw [tableB, hn.out, hsq.out, hcs]; rfl), e2⟩

end Go.Proofs.Ytohjbabjkjcddaa
