/- The reference's tests of a metric and a problem. -/
import Derived.Test.YtohjbabjkjcddaaLawA
namespace Go.Proofs.Ytohjbabjkjcddaa
open Go.RowKit

/-- whether a number lies in a range -/
def inB (x a b : Int) : Bool := decide (a ≤ x ∧ x ≤ b)
theorem inB_true {x a b : Int} : inB x a b = true ↔ a ≤ x ∧ x ≤ b := by simp [inB]
theorem inB_false {x a b : Int} : inB x a b = false ↔ ¬ (a ≤ x ∧ x ≤ b) := by rw [← inB_true, Bool.not_eq_true]

theorem inB_ge {x a b : Int} (h1 : a ≤ x) : inB x a b = decide (x ≤ b) := by simp [inB, h1]
theorem inB_lt {x a b : Int} (h1 : ¬ a ≤ x) : inB x a b = false := by simp [inB, h1]

set_option maxHeartbeats 400000 in
theorem l1In_any (x a b : Int) (w : World) :
    Calls Try.prog 74 #[.int .i64 x, .int .i64 a, .int .i64 b] w fun e w' => e = .returned (.bool (inB x a b)) ∧ w = w' := by
  by_cases h1 : a ≤ x
  · have hr := hid (inB_ge (b := b) h1)
    go_enter Try.func74, Try.ntmps74
    go_wp2
    go_ret
    exact ⟨ret_bool hr.out.symm, rfl⟩
  · have hr := hid (inB_lt (b := b) h1)
    have h1' : x < a := by omega
    clear h1
    go_enter Try.func74, Try.ntmps74
    go_wp2
    go_ret
    exact ⟨ret_bool hr.out.symm, rfl⟩

/-- whether the costs of a request are right -/
def costsOk (costs : List Int) : Bool := decide (∀ c ∈ costs, -1 ≤ c ∧ c ≤ 20)
def canServe (costs : List Int) : Bool := decide (∃ c ∈ costs, 0 ≤ c)
def reqB (n : Int) (costs : List Int) : Bool := costsOk costs && decide ((costs.length : Int) = n) && canServe costs

theorem canServe_take {costs : List Int} {k : Nat} (h : k < costs.length) : canServe (costs.take (k + 1)) = (canServe (costs.take k) || decide (0 ≤ nth costs k)) := by
  rw [take_succ_nth h, Bool.eq_iff_iff]
  simp [canServe, or_and_right, exists_or]
theorem costsOk_take {costs : List Int} {k : Nat} (h : k < costs.length) : costsOk (costs.take (k + 1)) = (costsOk (costs.take k) && inB (nth costs k) (-1) 20) := by
  rw [take_succ_nth h, Bool.eq_iff_iff]
  simp only [costsOk, inB, Bool.and_eq_true, decide_eq_true_eq, List.mem_append, List.mem_singleton]
  constructor
  · exact fun h => ⟨fun c hc => h c (.inl hc), h _ (.inr rfl)⟩
  · rintro ⟨h1, h2⟩ c (hc | rfl)
    · exact h1 c hc
    · exact h2
theorem costsOk_not {costs : List Int} {k : Nat} (h : k < costs.length) (hb : inB (nth costs k) (-1) 20 = false) : costsOk costs = false := by
  rw [Bool.eq_false_iff]
  intro hc
  simp only [costsOk, decide_eq_true_eq] at hc
  exact inB_false.1 hb (hc _ (nth_mem h))

/-- the cell of a table -/
def cell (M : List (List Int)) (x y : Nat) : Int := nth (row M x) y
/-- whether a cell of a table is right -/
def cellOk (M : List (List Int)) (x y : Nat) : Bool := decide (cell M x y = cell M y x) && (if x = y then decide (cell M x y = 0) else inB (cell M x y) 1 99)
def square (M : List (List Int)) : Bool := decide (∀ r ∈ M, r.length = M.length)
def cellsOk (M : List (List Int)) : Bool := decide (∀ x, x < M.length → ∀ y, y < M.length → cellOk M x y = true)
def tableB (M : List (List Int)) : Bool := inB M.length 1 6 && square M && cellsOk M
theorem square_row {M : List (List Int)} (h : square M = true) {x : Nat} (hx : x < M.length) : (row M x).length = M.length := by
  simp only [square, decide_eq_true_eq] at h
  exact h _ (row_mem hx)
theorem square_not {M : List (List Int)} {x : Nat} (hx : x < M.length) (h : (row M x).length ≠ M.length) : square M = false := by
  rw [Bool.eq_false_iff]
  intro h'
  exact h (square_row h' hx)
theorem square_of {M : List (List Int)} (h : ∀ x, x < M.length → (row M x).length = M.length) : square M = true := by
  simp only [square, decide_eq_true_eq]
  intro r hr
  obtain ⟨k, hk, rfl⟩ := mem_iff_row.1 hr
  exact h k hk
theorem cellsOk_not {M : List (List Int)} {x y : Nat} (hx : x < M.length) (hy : y < M.length) (h : cellOk M x y = false) : cellsOk M = false := by
  rw [Bool.eq_false_iff]
  intro h'
  simp only [cellsOk, decide_eq_true_eq] at h'
  rw [h' x hx y hy] at h
  cases h

/-- A value that reads as a metric of distances M. -/
def IsMet (w : World) (v : Value) (M : List (List Int)) : Prop := ∃ v1, v = .agg #[v1] ∧ IsRows w v1 M

set_option maxHeartbeats 1000000 in
set_option maxRecDepth 100000 in
theorem l6Table_any {v : Value} {M : List (List Int)} {w0 w : World} [Ext w0 w] (hm : IsMet w0 v M) :
    Calls Try.prog 100 #[v, .bool false] w fun e w' => e = .returned (.bool (tableB M)) ∧ Ext w w' := by
  obtain ⟨v1, rfl, hM⟩ := hm
  obtain ⟨a, c, rfl, la⟩ := hM.form
  cases hn : inB M.length 1 6 with
  | false =>
    have hr := hid (show tableB M = false by rw [tableB, hn]; rfl)
    replace hn := hid hn
    go_enter Try.func100, Try.ntmps100
    go_wp2_with (go_at_call 74; refine (l1In_any _ _ _ _).mono ?_; rw [hn.out]; rintro e w' ⟨rfl, rfl⟩)
    go_ret
    exact ⟨ret_bool hr.out.symm, inferInstance⟩
  | true =>
    have hlen := inB_true.1 hn
    replace hn := hid hn
    go_enter Try.func100, Try.ntmps100
    go_wp2_with fail
    generalize hW : w.alloc (.cells #[.slice a M.length c] 34) = W
    have eW : Ext w W := hW ▸ inferInstance
    have e0 : Ext w0 W := Ext.trans ‹Ext w0 w› eW
    have hbx : W.cell? ⟨w.heap.size, 0, none⟩ = some (.slice a M.length c) := by subst hW; go_simp
    clear hW
    go_wp2_with (go_at_call 74; refine (l1In_any _ _ _ _).mono ?_; rw [hn.out]; rintro e w' ⟨rfl, rfl⟩)
    go_loop [6] (fun i => ∃ k : Nat, k ≤ M.length ∧ i = .int .i64 k ∧ Hid (∀ x, x < k → (row M x).length = M.length)) (fun i => M.length - (intOf i).toNat)
    case atStart => exact ⟨0, by omega, rfl, by intro x hx; omega⟩
    case round =>
      obtain ⟨k, hk, rfl, hrows⟩ := hrel
      by_cases hlt : k < M.length
      · obtain ⟨b1, o1, d1, m1, rfl, hc1, hr1, _⟩ := hM.at (w' := W) hlt
        by_cases hl : (row M k).length = M.length
        · have hl1 : (((row M k).length : Int) != M.length) = false := by simp [hl]
          replace hl := hid hl
          go_wp2
          go_round
          case rel =>
            refine ⟨k + 1, by omega, by go_num, ?_⟩
            intro x hx
            by_cases hxk : x = k
            · subst hxk; exact hl.out
            · exact hrows.out x (by omega)
          case measure => simp [intOf]; omega
        · have hl1 : (((row M k).length : Int) != M.length) = true := by simp; omega
          have hr := hid (show tableB M = false by rw [tableB, square_not hlt hl]; simp)
          replace hl := hid hl
          go_wp2
          go_ret
          exact ⟨ret_bool hr.out.symm, eW⟩
      · have hsq := hid (square_of fun x hx => hrows.out x (by omega))
        go_wp2
        go_loop [7, 8, 9] (fun i _ _ => ∃ x : Nat, x ≤ M.length ∧ i = .int .i64 x ∧ Hid (∀ x', x' < x → ∀ y, y < M.length → cellOk M x' y = true)) (fun i _ _ => M.length - (intOf i).toNat)
        case atStart => exact ⟨0, by omega, rfl, by intro x hx; omega⟩
        case round =>
          obtain ⟨x, hx, rfl, hcells⟩ := hrel
          by_cases hltx : x < M.length
          · go_wp2
            go_loop [8, 9] (fun i _ => ∃ y : Nat, y ≤ M.length ∧ i = .int .i64 y ∧ Hid (∀ y', y' < y → cellOk M x y' = true)) (fun i _ => M.length - (intOf i).toNat)
            case atStart => exact ⟨0, by omega, rfl, by intro x hx; omega⟩
            case round =>
              obtain ⟨y, hy, rfl, hcy⟩ := hrel
              by_cases hlty : y < M.length
              · obtain ⟨b1, o1, d1, m1, rfl, hc1, hr1, _⟩ := hM.at (w' := W) hltx
                obtain ⟨b2, o2, d2, m2, hq, hc2, hr2, _⟩ := hM.at (w' := W) hlty
                cases hq
                have hl1 := square_row hsq.out hltx
                have hl2 := square_row hsq.out hlty
                rw [hl1] at hr1 hc1
                rw [hl2] at hr2 hc2
                obtain ⟨b3, o3, rfl, hc3⟩ := hr1.at (w' := W) (k := y) (by omega)
                obtain ⟨b4, o4, rfl, hc4⟩ := hr2.at (w' := W) (k := x) (by omega)
                replace hl1 := hid hl1
                replace hl2 := hid hl2
                by_cases h1 : nth (row M x) y = nth (row M y) x
                · have h1' : (nth (row M x) y != nth (row M y) x) = false := by simp [h1]
                  by_cases h2 : x = y
                  · by_cases h3 : nth (row M x) y = 0
                    · have hok := hid (show cellOk M x y = true by simp [cellOk, cell, h2]; rw [← h2]; rw [← h2] at h3; exact h3)
                      have h3' : (nth (row M x) y != 0) = false := by simp [h3]
                      have h2' : ((x : Int) == (y : Int)) = true := by simp [h2]
                      have h2'' : ((x : Int) != (y : Int)) = false := by simp [h2]
                      clear h1 h2 h3
                      go_wp2
                      go_round
                      case rel =>
                        refine ⟨y + 1, by omega, by go_num, ?_⟩
                        intro y' hy'
                        by_cases hyy : y' = y
                        · subst hyy; exact hok.out
                        · exact hcy.out y' (by omega)
                      case measure => simp [intOf]; omega
                    · have hok := hid (show cellOk M x y = false by simp [cellOk, cell, h2]; rw [← h2]; rw [← h2] at h3; exact h3)
                      have h3' : (nth (row M x) y != 0) = true := by simp [h3]
                      have h2' : ((x : Int) == (y : Int)) = true := by simp [h2]
                      have h2'' : ((x : Int) != (y : Int)) = false := by simp [h2]
                      clear h1 h2 h3
                      go_wp2
                      go_ret
                      exact ⟨ret_bool (by rw [tableB, cellsOk_not hltx hlty hok.out]; simp), eW⟩
                  · have h2' : ((x : Int) == (y : Int)) = false := by simp; omega
                    have h2'' : ((x : Int) != (y : Int)) = true := by simp; omega
                    cases hin : inB (nth (row M x) y) 1 99 with
                    | true =>
                      have hok := hid (show cellOk M x y = true by simp [cellOk, cell, h2, hin, h1.symm])
                      clear h1 h2
                      replace hin := hid hin
                      go_wp2_with (go_at_call 74; refine (l1In_any _ _ _ _).mono ?_; rw [hin.out]; rintro e w' ⟨rfl, rfl⟩)
                      go_round
                      case rel =>
                        refine ⟨y + 1, by omega, by go_num, ?_⟩
                        intro y' hy'
                        by_cases hyy : y' = y
                        · subst hyy; exact hok.out
                        · exact hcy.out y' (by omega)
                      case measure => simp [intOf]; omega
                    | false =>
                      have hok := hid (show cellOk M x y = false by simp [cellOk, cell, h2, hin])
                      clear h1 h2
                      replace hin := hid hin
                      go_wp2_with (go_at_call 74; refine (l1In_any _ _ _ _).mono ?_; rw [hin.out]; rintro e w' ⟨rfl, rfl⟩)
                      go_ret
                      exact ⟨ret_bool (by rw [tableB, cellsOk_not hltx hlty hok.out]; simp), eW⟩
                · have h1' : (nth (row M x) y != nth (row M y) x) = true := by simp [h1]
                  have hok := hid (show cellOk M x y = false by simp [cellOk, cell, h1])
                  clear h1
                  go_wp2
                  go_ret
                  exact ⟨ret_bool (by rw [tableB, cellsOk_not hltx hlty hok.out]; simp), eW⟩
              · go_wp2
                go_round
                case rel =>
                  refine ⟨x + 1, by omega, by go_num, ?_⟩
                  intro x' hx' y' hy'
                  by_cases hxx : x' = x
                  · subst hxx; exact hcy.out y' (by omega)
                  · exact hcells.out x' (by omega) y' hy'
                case measure => simp [intOf]; omega
          · go_wp2
            go_ret
            have hcs : cellsOk M = true := by
              simp only [cellsOk, decide_eq_true_eq]
              exact fun x' hx' y hy => hcells.out x' (by omega) y hy
            exact ⟨ret_bool (by rw [tableB, hn.out, hsq.out, hcs]; rfl), eW⟩

end Go.Proofs.Ytohjbabjkjcddaa
