/- Several texts in one: SpecA Lib SpecB ImplA ImplB Served Count Alg Takes. -/
import Derived.Test.YtllfchcocgdcjaaGreatGrA
import Derived.Deep.Cut
/- The reference's tests of a metric and a problem. -/
namespace Go.Proofs.YtllfchcocgdcjaaGreat
open Go.RowKit

/-- whether a number lies in a range -/
def inB (x a b : Int) : Bool := decide (a ≤ x ∧ x ≤ b)
theorem inB_true {x a b : Int} : inB x a b = true ↔ a ≤ x ∧ x ≤ b := by simp [inB]
theorem inB_false {x a b : Int} : inB x a b = false ↔ ¬ (a ≤ x ∧ x ≤ b) := by rw [← inB_true, Bool.not_eq_true]

theorem inB_ge {x a b : Int} (h1 : a ≤ x) : inB x a b = decide (x ≤ b) := by simp [inB, h1]
theorem inB_lt {x a b : Int} (h1 : ¬ a ≤ x) : inB x a b = false := by simp [inB, h1]

set_option maxHeartbeats 400000 in
theorem l1In_any (x a b : Int) (w : World) :
    Calls Tryz.prog 48 #[.int .i64 x, .int .i64 a, .int .i64 b] w fun e w' => e = .returned (.bool (inB x a b)) ∧ w = w' := by
  by_cases h1 : a ≤ x
  · have hr := hid (inB_ge (b := b) h1)
    go_enter Tryz.func48, Tryz.ntmps48
    go_wp2
    go_ret
    exact ⟨ret_bool hr.out.symm, rfl⟩
  · have hr := hid (inB_lt (b := b) h1)
    have h1' : x < a := by omega
    clear h1
    go_enter Tryz.func48, Tryz.ntmps48
    go_wp2
    go_ret
    exact ⟨ret_bool hr.out.symm, rfl⟩

/-- whether the costs of a request are right -/
def costsOk (costs : List Int) : Bool := decide (∀ c ∈ costs, -1 ≤ c ∧ c ≤ 20)
def canServe (costs : List Int) : Bool := decide (∃ c ∈ costs, 0 ≤ c)
def reqB (n : Int) (costs : List Int) : Bool := costsOk costs && decide ((costs.length : Int) = n) && canServe costs

theorem canServe_take {costs : List Int} {k : Nat} (h : k < costs.length) : canServe (costs.take (k + 1)) = (canServe (costs.take k) || decide (0 ≤ nth costs k)) := by
  rw [take_succ_nth h, Bool.eq_iff_iff]
  simp [canServe, or_and_right, exists_or]
theorem costsOk_take {costs : List Int} {k : Nat} (h : k < costs.length) : costsOk (costs.take (k + 1)) = (costsOk (costs.take k) && inB (nth costs k) (-1) 20) := by
  rw [take_succ_nth h, Bool.eq_iff_iff]
  simp only [costsOk, inB, Bool.and_eq_true, decide_eq_true_eq, List.mem_append, List.mem_singleton]
  constructor
  · exact fun h => ⟨fun c hc => h c (.inl hc), h _ (.inr rfl)⟩
  · rintro ⟨h1, h2⟩ c (hc | rfl)
    · exact h1 c hc
    · exact h2
theorem costsOk_not {costs : List Int} {k : Nat} (h : k < costs.length) (hb : inB (nth costs k) (-1) 20 = false) : costsOk costs = false := by
  rw [Bool.eq_false_iff]
  intro hc
  simp only [costsOk, decide_eq_true_eq] at hc
  exact inB_false.1 hb (hc _ (nth_mem h))

/-- the cell of a table -/
def cell (M : List (List Int)) (x y : Nat) : Int := nth (row M x) y
/-- whether a cell of a table is right -/
def cellOk (M : List (List Int)) (x y : Nat) : Bool := decide (cell M x y = cell M y x) && (if x = y then decide (cell M x y = 0) else inB (cell M x y) 1 99)
def square (M : List (List Int)) : Bool := decide (∀ r ∈ M, r.length = M.length)
def cellsOk (M : List (List Int)) : Bool := decide (∀ x, x < M.length → ∀ y, y < M.length → cellOk M x y = true)
def tableB (M : List (List Int)) : Bool := inB M.length 1 6 && square M && cellsOk M
theorem square_row {M : List (List Int)} (h : square M = true) {x : Nat} (hx : x < M.length) : (row M x).length = M.length := by
  simp only [square, decide_eq_true_eq] at h
  exact h _ (row_mem hx)
theorem square_not {M : List (List Int)} {x : Nat} (hx : x < M.length) (h : (row M x).length ≠ M.length) : square M = false := by
  rw [Bool.eq_false_iff]
  intro h'
  exact h (square_row h' hx)
theorem square_of {M : List (List Int)} (h : ∀ x, x < M.length → (row M x).length = M.length) : square M = true := by
  simp only [square, decide_eq_true_eq]
  intro r hr
  obtain ⟨k, hk, rfl⟩ := mem_iff_row.1 hr
  exact h k hk
theorem cellsOk_not {M : List (List Int)} {x y : Nat} (hx : x < M.length) (hy : y < M.length) (h : cellOk M x y = false) : cellsOk M = false := by
  rw [Bool.eq_false_iff]
  intro h'
  simp only [cellsOk, decide_eq_true_eq] at h'
  rw [h' x hx y hy] at h
  cases h

/-- A value that reads as a metric of distances M. -/
def IsMet (w : World) (v : Value) (M : List (List Int)) : Prop := ∃ v1, v = .agg #[v1] ∧ IsRows w v1 M

set_option maxHeartbeats 1000000 in
set_option maxRecDepth 100000 in
theorem l6Table_any {v : Value} {M : List (List Int)} {w0 w : World} [Ext w0 w] (hm : IsMet w0 v M) :
    Calls Tryz.prog 44 #[v, .bool false] w fun e w' => e = .returned (.bool (tableB M)) ∧ Ext w w' := by
  obtain ⟨v1, rfl, hM⟩ := hm
  obtain ⟨a, c, rfl, la⟩ := hM.form
  cases hn : inB M.length 1 6 with
  | false =>
    have hr := hid (show tableB M = false by rw [tableB, hn]; rfl)
    replace hn := hid hn
    go_enter Tryz.func44, Tryz.ntmps44
    go_wp2_with (go_at_call 48; refine (l1In_any _ _ _ _).mono ?_; rw [hn.out]; rintro e w' ⟨rfl, rfl⟩)
    go_ret
    exact ⟨ret_bool hr.out.symm, inferInstance⟩
  | true =>
    have hlen := inB_true.1 hn
    replace hn := hid hn
    go_enter Tryz.func44, Tryz.ntmps44
    go_wp2_with fail
    generalize hW : w.alloc (.cells #[.slice a M.length c] 26) = W
    have eW : Ext w W := hW ▸ inferInstance
    have e0 : Ext w0 W := Ext.trans ‹Ext w0 w› eW
    have hbx : W.cell? ⟨w.heap.size, 0, none⟩ = some (.slice a M.length c) := by subst hW; go_simp
    clear hW
    go_wp2_with (go_at_call 48; refine (l1In_any _ _ _ _).mono ?_; rw [hn.out]; rintro e w' ⟨rfl, rfl⟩)
    go_loop [6] (fun i => ∃ k : Nat, k ≤ M.length ∧ i = .int .i64 k ∧ Hid (∀ x, x < k → (row M x).length = M.length)) (fun i => M.length - (intOf i).toNat)
    case atStart => exact ⟨0, by omega, rfl, by intro x hx; omega⟩
    case round =>
      obtain ⟨k, hk, rfl, hrows⟩ := hrel
      by_cases hlt : k < M.length
      · obtain ⟨b1, o1, d1, m1, rfl, hc1, hr1, _⟩ := hM.at (w' := W) hlt
        by_cases hl : (row M k).length = M.length
        · have hl1 : (((row M k).length : Int) != M.length) = false := by simp [hl]
          replace hl := hid hl
          go_wp2
          go_round
          case rel =>
            refine ⟨k + 1, by omega, by go_num, ?_⟩
            intro x hx
            by_cases hxk : x = k
            · subst hxk; exact hl.out
            · exact hrows.out x (by omega)
          case measure => simp [intOf]; omega
        · have hl1 : (((row M k).length : Int) != M.length) = true := by simp; omega
          have hr := hid (show tableB M = false by rw [tableB, square_not hlt hl]; simp)
          replace hl := hid hl
          go_wp2
          go_ret
          exact ⟨ret_bool hr.out.symm, eW⟩
      · have hsq := hid (square_of fun x hx => hrows.out x (by omega))
        go_wp2
        go_loop [7, 8, 9] (fun i _ _ => ∃ x : Nat, x ≤ M.length ∧ i = .int .i64 x ∧ Hid (∀ x', x' < x → ∀ y, y < M.length → cellOk M x' y = true)) (fun i _ _ => M.length - (intOf i).toNat)
        case atStart => exact ⟨0, by omega, rfl, by intro x hx; omega⟩
        case round =>
          obtain ⟨x, hx, rfl, hcells⟩ := hrel
          by_cases hltx : x < M.length
          · go_wp2
            go_loop [8, 9] (fun i _ => ∃ y : Nat, y ≤ M.length ∧ i = .int .i64 y ∧ Hid (∀ y', y' < y → cellOk M x y' = true)) (fun i _ => M.length - (intOf i).toNat)
            case atStart => exact ⟨0, by omega, rfl, by intro x hx; omega⟩
            case round =>
              obtain ⟨y, hy, rfl, hcy⟩ := hrel
              by_cases hlty : y < M.length
              · obtain ⟨b1, o1, d1, m1, rfl, hc1, hr1, _⟩ := hM.at (w' := W) hltx
                obtain ⟨b2, o2, d2, m2, hq, hc2, hr2, _⟩ := hM.at (w' := W) hlty
                cases hq
                have hl1 := square_row hsq.out hltx
                have hl2 := square_row hsq.out hlty
                rw [hl1] at hr1 hc1
                rw [hl2] at hr2 hc2
                obtain ⟨b3, o3, rfl, hc3⟩ := hr1.at (w' := W) (k := y) (by omega)
                obtain ⟨b4, o4, rfl, hc4⟩ := hr2.at (w' := W) (k := x) (by omega)
                replace hl1 := hid hl1
                replace hl2 := hid hl2
                by_cases h1 : nth (row M x) y = nth (row M y) x
                · have h1' : (nth (row M x) y != nth (row M y) x) = false := by simp [h1]
                  by_cases h2 : x = y
                  · by_cases h3 : nth (row M x) y = 0
                    · have hok := hid (show cellOk M x y = true by simp [cellOk, cell, h2]; rw [← h2]; rw [← h2] at h3; exact h3)
                      have h3' : (nth (row M x) y != 0) = false := by simp [h3]
                      have h2' : ((x : Int) == (y : Int)) = true := by simp [h2]
                      have h2'' : ((x : Int) != (y : Int)) = false := by simp [h2]
                      clear h1 h2 h3
                      go_wp2
                      go_round
                      case rel =>
                        refine ⟨y + 1, by omega, by go_num, ?_⟩
                        intro y' hy'
                        by_cases hyy : y' = y
                        · subst hyy; exact hok.out
                        · exact hcy.out y' (by omega)
                      case measure => simp [intOf]; omega
                    · have hok := hid (show cellOk M x y = false by simp [cellOk, cell, h2]; rw [← h2]; rw [← h2] at h3; exact h3)
                      have h3' : (nth (row M x) y != 0) = true := by simp [h3]
                      have h2' : ((x : Int) == (y : Int)) = true := by simp [h2]
                      have h2'' : ((x : Int) != (y : Int)) = false := by simp [h2]
                      clear h1 h2 h3
                      go_wp2
                      go_ret
                      exact ⟨ret_bool (by rw [tableB, cellsOk_not hltx hlty hok.out]; simp), eW⟩
                  · have h2' : ((x : Int) == (y : Int)) = false := by simp; omega
                    have h2'' : ((x : Int) != (y : Int)) = true := by simp; omega
                    cases hin : inB (nth (row M x) y) 1 99 with
                    | true =>
                      have hok := hid (show cellOk M x y = true by simp [cellOk, cell, h2, hin, h1.symm])
                      clear h1 h2
                      replace hin := hid hin
                      go_wp2_with (go_at_call 48; refine (l1In_any _ _ _ _).mono ?_; rw [hin.out]; rintro e w' ⟨rfl, rfl⟩)
                      go_round
                      case rel =>
                        refine ⟨y + 1, by omega, by go_num, ?_⟩
                        intro y' hy'
                        by_cases hyy : y' = y
                        · subst hyy; exact hok.out
                        · exact hcy.out y' (by omega)
                      case measure => simp [intOf]; omega
                    | false =>
                      have hok := hid (show cellOk M x y = false by simp [cellOk, cell, h2, hin])
                      clear h1 h2
                      replace hin := hid hin
                      go_wp2_with (go_at_call 48; refine (l1In_any _ _ _ _).mono ?_; rw [hin.out]; rintro e w' ⟨rfl, rfl⟩)
                      go_ret
                      exact ⟨ret_bool (by rw [tableB, cellsOk_not hltx hlty hok.out]; simp), eW⟩
                · have h1' : (nth (row M x) y != nth (row M y) x) = true := by simp [h1]
                  have hok := hid (show cellOk M x y = false by simp [cellOk, cell, h1])
                  clear h1
                  go_wp2
                  go_ret
                  exact ⟨ret_bool (by rw [tableB, cellsOk_not hltx hlty hok.out]; simp), eW⟩
              · go_wp2
                go_round
                case rel =>
                  refine ⟨x + 1, by omega, by go_num, ?_⟩
                  intro x' hx' y' hy'
                  by_cases hxx : x' = x
                  · subst hxx; exact hcy.out y' (by omega)
                  · exact hcells.out x' (by omega) y' hy'
                case measure => simp [intOf]; omega
          · go_wp2
            go_ret
            have hcs : cellsOk M = true := by
              simp only [cellsOk, decide_eq_true_eq]
              exact fun x' hx' y hy => hcells.out x' (by omega) y hy
            exact ⟨ret_bool (by rw [tableB, hn.out, hsq.out, hcs]; rfl), eW⟩

end Go.Proofs.YtllfchcocgdcjaaGreat

/- The library's functions on slices that take a function. -/
namespace Go.Proofs.YtllfchcocgdcjaaGreat
open Go.RowKit

set_option maxHeartbeats 400000 in
set_option maxRecDepth 100000 in
theorem indexFuncInts_any {v : Value} {xs : List Int} {w0 w : World} [Ext w0 w] (hx : IsInts w0 v xs) (id : Nat) (caps : Array Value) (p : Int → Bool)
    (hcall : ∀ xa W, (callFunc id xa).run Tryz.prog W = .ok (.enter id xa) W)
    (hf : ∀ (W : World), Ext w W → ∀ k, k < xs.length → Calls Tryz.prog id (#[.int .i64 (nth xs k)] ++ caps) W fun e w' => e = .returned (.bool (p (nth xs k))) ∧ Ext W w') :
    Calls Tryz.prog 93 #[v, .func (.func id) #[] caps] w fun e w' => ∃ r : Int, e = .returned (.int .i64 r) ∧ ((r = -1 ∧ xs.any p = false) ∨ (0 ≤ r ∧ xs.any p = true)) ∧ Ext w w' := by
  obtain ⟨a, c, rfl, la⟩ := hx.form
  go_enter Tryz.func93, Tryz.ntmps93
  replace hf := hid hf
  go_wp2
  go_loopw [5, 8] (fun _ i wr => ∃ k : Nat, k ≤ xs.length ∧ i = .int .i64 k ∧ Hid (∀ j, j < k → p (nth xs j) = false) ∧ Ext w wr) (fun _ i _ => xs.length - (intOf i).toNat)
  case atStart => exact ⟨0, by omega, rfl, by intro x hx; omega, inferInstance⟩
  case round =>
    obtain ⟨k, hk, rfl, hno, hb⟩ := hrel
    by_cases hlt : k < xs.length
    · have e0 : Ext w0 wr := Ext.trans ‹Ext w0 w› hb
      obtain ⟨b, o, rfl, hc⟩ := hx.at (w' := wr) hlt
      cases hp : p (nth xs k) with
      | true =>
        replace hp := hid hp
        go_wp2_with fail
        refine (hf.out wr hb k hlt).mono ?_
        rw [hp.out]
        rintro e w1 ⟨rfl, hb1⟩
        go_wp2_with fail
        go_ret
        refine ⟨_, rfl, .inr ⟨by omega, ?_⟩, Ext.trans hb hb1⟩
        exact List.any_eq_true.2 ⟨_, nth_mem hlt, hp.out⟩
      | false =>
        replace hp := hid hp
        go_wp2_with fail
        refine (hf.out wr hb k hlt).mono ?_
        rw [hp.out]
        rintro e w1 ⟨rfl, hb1⟩
        go_wp2_with fail
        go_roundw
        case rel =>
          refine ⟨k + 1, by omega, by go_num, ?_, Ext.trans hb hb1⟩
          intro j hj
          by_cases hjk : j = k
          · subst hjk; exact hp.out
          · exact hno.out j (by omega)
        case measure => simp [intOf]; omega
    · go_wp2
      go_ret
      refine ⟨_, rfl, .inl ⟨rfl, ?_⟩, hb⟩
      rw [List.any_eq_false]
      intro x hx
      obtain ⟨j, hj, rfl⟩ := mem_iff_nth.1 hx
      rw [hno.out j (by omega)]
      simp

set_option maxHeartbeats 400000 in
set_option maxRecDepth 100000 in
theorem containsFuncInts_any {v : Value} {xs : List Int} {w0 w : World} [Ext w0 w] (hx : IsInts w0 v xs) (id : Nat) (caps : Array Value) (p : Int → Bool)
    (hcall : ∀ xa W, (callFunc id xa).run Tryz.prog W = .ok (.enter id xa) W)
    (hf : ∀ (W : World), Ext w W → ∀ k, k < xs.length → Calls Tryz.prog id (#[.int .i64 (nth xs k)] ++ caps) W fun e w' => e = .returned (.bool (p (nth xs k))) ∧ Ext W w') :
    Calls Tryz.prog 70 #[v, .func (.func id) #[] caps] w fun e w' => e = .returned (.bool (xs.any p)) ∧ Ext w w' := by
  obtain ⟨a, c, rfl, la⟩ := hx.form
  go_enter Tryz.func70, Tryz.ntmps70
  replace hcall := hid hcall
  replace hf := hid hf
  go_wp2_with fail
  refine (indexFuncInts_any (w0 := w0) hx id caps p hcall.out hf.out).mono ?_
  rintro e w1 ⟨r, rfl, hr, hb⟩
  rcases hr with ⟨rfl, h⟩ | ⟨h0, h⟩
  · replace h := hid h
    go_wp2_with fail
    go_ret
    exact ⟨ret_bool h.out.symm, hb⟩
  · replace h := hid h
    go_wp2_with fail
    go_ret
    exact ⟨ret_bool h.out.symm, hb⟩

set_option maxHeartbeats 400000 in
set_option maxRecDepth 100000 in
theorem indexFuncRows_any {v : Value} {xs : List (List Int)} {w0 w : World} [Ext w0 w] (hx : IsRows w0 v xs) (id : Nat) (caps : Array Value) (p : List Int → Bool)
    (hcall : ∀ xa W, (callFunc id xa).run Tryz.prog W = .ok (.enter id xa) W)
    (hf : ∀ (W : World), Ext w W → ∀ k, k < xs.length → ∀ d m, IsInts w0 (.slice d (row xs k).length m) (row xs k) → Calls Tryz.prog id (#[.slice d (row xs k).length m] ++ caps) W fun e w' => e = .returned (.bool (p (row xs k))) ∧ Ext W w') :
    Calls Tryz.prog 101 #[v, .func (.func id) #[] caps] w fun e w' => ∃ r : Int, e = .returned (.int .i64 r) ∧ ((r = -1 ∧ xs.any p = false) ∨ (0 ≤ r ∧ xs.any p = true)) ∧ Ext w w' := by
  obtain ⟨a, c, rfl, la⟩ := hx.form
  go_enter Tryz.func101, Tryz.ntmps101
  replace hf := hid hf
  go_wp2
  go_loopw [5, 8] (fun _ i wr => ∃ k : Nat, k ≤ xs.length ∧ i = .int .i64 k ∧ Hid (∀ j, j < k → p (row xs j) = false) ∧ Ext w wr) (fun _ i _ => xs.length - (intOf i).toNat)
  case atStart => exact ⟨0, by omega, rfl, by intro x hx; omega, inferInstance⟩
  case round =>
    obtain ⟨k, hk, rfl, hno, hb⟩ := hrel
    by_cases hlt : k < xs.length
    · have e0 : Ext w0 wr := Ext.trans ‹Ext w0 w› hb
      obtain ⟨b, o, d, m, rfl, hc, hr, _⟩ := hx.at (w' := wr) hlt
      cases hp : p (row xs k) with
      | true =>
        replace hp := hid hp
        go_wp2_with fail
        refine (hf.out wr hb k hlt d m hr).mono ?_
        rw [hp.out]
        rintro e w1 ⟨rfl, hb1⟩
        go_wp2_with fail
        go_ret
        refine ⟨_, rfl, .inr ⟨by omega, ?_⟩, Ext.trans hb hb1⟩
        exact List.any_eq_true.2 ⟨_, row_mem hlt, hp.out⟩
      | false =>
        replace hp := hid hp
        go_wp2_with fail
        refine (hf.out wr hb k hlt d m hr).mono ?_
        rw [hp.out]
        rintro e w1 ⟨rfl, hb1⟩
        go_wp2_with fail
        go_roundw
        case rel =>
          refine ⟨k + 1, by omega, by go_num, ?_, Ext.trans hb hb1⟩
          intro j hj
          by_cases hjk : j = k
          · subst hjk; exact hp.out
          · exact hno.out j (by omega)
        case measure => simp [intOf]; omega
    · go_wp2
      go_ret
      refine ⟨_, rfl, .inl ⟨rfl, ?_⟩, hb⟩
      rw [List.any_eq_false]
      intro x hx
      obtain ⟨j, hj, rfl⟩ := mem_iff_row.1 hx
      rw [hno.out j (by omega)]
      simp

set_option maxHeartbeats 400000 in
set_option maxRecDepth 100000 in
theorem containsFuncRows_any {v : Value} {xs : List (List Int)} {w0 w : World} [Ext w0 w] (hx : IsRows w0 v xs) (id : Nat) (caps : Array Value) (p : List Int → Bool)
    (hcall : ∀ xa W, (callFunc id xa).run Tryz.prog W = .ok (.enter id xa) W)
    (hf : ∀ (W : World), Ext w W → ∀ k, k < xs.length → ∀ d m, IsInts w0 (.slice d (row xs k).length m) (row xs k) → Calls Tryz.prog id (#[.slice d (row xs k).length m] ++ caps) W fun e w' => e = .returned (.bool (p (row xs k))) ∧ Ext W w') :
    Calls Tryz.prog 90 #[v, .func (.func id) #[] caps] w fun e w' => e = .returned (.bool (xs.any p)) ∧ Ext w w' := by
  obtain ⟨a, c, rfl, la⟩ := hx.form
  go_enter Tryz.func90, Tryz.ntmps90
  replace hcall := hid hcall
  replace hf := hid hf
  go_wp2_with fail
  refine (indexFuncRows_any (w0 := w0) hx id caps p hcall.out hf.out).mono ?_
  rintro e w1 ⟨r, rfl, hr, hb⟩
  rcases hr with ⟨rfl, h⟩ | ⟨h0, h⟩
  · replace h := hid h
    go_wp2_with fail
    go_ret
    exact ⟨ret_bool h.out.symm, hb⟩
  · replace h := hid h
    go_wp2_with fail
    go_ret
    exact ⟨ret_bool h.out.symm, hb⟩

end Go.Proofs.YtllfchcocgdcjaaGreat

/- The reference's search for a detour; its tests of a metric and a problem, whole. -/
namespace Go.Proofs.YtllfchcocgdcjaaGreat
open Go.RowKit

def detourAt (M : List (List Int)) (x y z : Nat) : Bool := decide (cell M x y + cell M y z < cell M x z)
abbrev NoDetour (M : List (List Int)) : Prop := ∀ x, x < M.length → ∀ y, y < M.length → ∀ z, z < M.length → detourAt M x y z = false
/-- what is known of the first detour -/
def FirstDet (M : List (List Int)) (xs : List Int) : Prop :=
  (NoDetour M ∧ xs = []) ∨ ∃ x y z : Nat, x < M.length ∧ y < M.length ∧ z < M.length ∧ detourAt M x y z = true ∧ xs = [(x : Int), (y : Int), (z : Int)] ∧
    (∀ x', x' < x → ∀ y', y' < M.length → ∀ z', z' < M.length → detourAt M x' y' z' = false) ∧ (∀ y', y' < y → ∀ z', z' < M.length → detourAt M x y' z' = false) ∧ (∀ z', z' < z → detourAt M x y z' = false)

theorem tableB_square {M : List (List Int)} (h : tableB M = true) : square M = true := by
  simp only [tableB, Bool.and_eq_true] at h; exact h.1.2
theorem tableB_len {M : List (List Int)} (h : tableB M = true) : 1 ≤ M.length ∧ M.length ≤ 6 := by
  simp only [tableB, Bool.and_eq_true] at h
  have := inB_true.1 h.1.1
  omega
theorem tableB_cell {M : List (List Int)} (h : tableB M = true) {x y : Nat} (hx : x < M.length) (hy : y < M.length) : 0 ≤ cell M x y ∧ cell M x y ≤ 99 := by
  simp only [tableB, Bool.and_eq_true, cellsOk, decide_eq_true_eq] at h
  have h1 := h.2 x hx y hy
  simp only [cellOk, Bool.and_eq_true, decide_eq_true_eq] at h1
  obtain ⟨_, h2⟩ := h1
  split at h2
  · rw [decide_eq_true_eq] at h2; omega
  · have := inB_true.1 h2; omega

/-- Row x of a table, its cell y: where it lies. -/
theorem IsRows.cellAt {w w' : World} {b o c n : Nat} {M : List (List Int)} (h : IsRows w (.slice (some ⟨b, o, none⟩) n c) M) (hs : square M = true) [e : Ext w w'] {x y : Nat} (hx : x < M.length) (hy : y < M.length) :
    ∃ d p m, w'.cell? ⟨b, o + x, none⟩ = some (.slice (some ⟨d, p, none⟩) M.length m) ∧ w'.cell? ⟨d, p + y, none⟩ = some (.int .i64 (cell M x y)) ∧ (∀ y', y' < M.length → w'.cell? ⟨d, p + y', none⟩ = some (.int .i64 (cell M x y'))) := by
  obtain ⟨b1, o1, d1, m1, h1, hc1, hr1, _⟩ := h.at (w' := w') hx
  cases h1
  have hl := square_row hs hx
  rw [hl] at hr1 hc1
  obtain ⟨d, p, rfl, hc2⟩ := hr1.at (w' := w') (k := y) (by omega)
  refine ⟨d, p, m1, hc1, hc2, fun y' hy' => ?_⟩
  obtain ⟨d', p', h2, hc3⟩ := hr1.at (w' := w') (k := y') (by omega)
  cases h2
  exact hc3

set_option maxHeartbeats 1000000 in
set_option maxRecDepth 100000 in
theorem l6Detour_any {v : Value} {M : List (List Int)} {w0 w : World} [Ext w0 w] (hm : IsMet w0 v M) (ht : tableB M = true) :
    Calls Tryz.prog 45 #[v] w fun e w' => ∃ d m xs, e = .returned (.slice d xs.length m) ∧ FirstDet M xs ∧ Own w' w.heap.size [intRowOf 3 (.slice d xs.length m) xs] ∧ Ext w w' := by
  obtain ⟨v1, rfl, hM⟩ := hm
  obtain ⟨a, c, rfl, la⟩ := hM.form
  obtain ⟨hl0, hl6⟩ := tableB_len ht
  obtain ⟨b, o, rfl, _⟩ : ∃ b o, a = some ⟨b, o, none⟩ ∧ True := by
    obtain ⟨b, o, _, _, h, _⟩ := hM.at (w' := w0) (k := 0) (by omega)
    exact ⟨b, o, h, trivial⟩
  have hsq := hid (tableB_square ht)
  have HT := hid ht
  clear ht
  go_enter Tryz.func45, Tryz.ntmps45
  go_wp2
  go_loopw [4, 5, 6] (fun i _ _ wr => ∃ x : Nat, x ≤ M.length ∧ i = .int .i64 x ∧ Hid (∀ x', x' < x → ∀ y', y' < M.length → ∀ z', z' < M.length → detourAt M x' y' z' = false) ∧ Drew (w.alloc (.cells #[.slice (some ⟨b, o, none⟩) M.length c] 26)) wr) (fun i _ _ _ => M.length - (intOf i).toNat)
  case atStart => exact ⟨0, by omega, rfl, by intro x hx; omega, Drew.refl _⟩
  case round =>
    obtain ⟨x, hx, rfl, hbx, hd⟩ := hrel
    by_cases hltx : x < M.length
    · go_wp2
      obtain ⟨wo, rfl⟩ : ∃ wo : World, wo = wr := ⟨_, rfl⟩
      go_loopw [5, 6] (fun i _ wr => ∃ y : Nat, y ≤ M.length ∧ i = .int .i64 y ∧ Hid (∀ y', y' < y → ∀ z', z' < M.length → detourAt M x y' z' = false) ∧ Drew (w.alloc (.cells #[.slice (some ⟨b, o, none⟩) M.length c] 26)) wr) (fun i _ _ => M.length - (intOf i).toNat)
      case atStart => exact ⟨0, by omega, rfl, by intro x hx; omega, hd⟩
      case round =>
        obtain ⟨y, hy, rfl, hby, hd⟩ := hrel
        by_cases hlty : y < M.length
        · go_wp2
          obtain ⟨wo2, rfl⟩ : ∃ wo : World, wo = wr := ⟨_, rfl⟩
          go_loopw [6] (fun i wr => ∃ z : Nat, z ≤ M.length ∧ i = .int .i64 z ∧ Hid (∀ z', z' < z → detourAt M x y z' = false) ∧ Drew (w.alloc (.cells #[.slice (some ⟨b, o, none⟩) M.length c] 26)) wr) (fun i _ => M.length - (intOf i).toNat)
          case atStart => exact ⟨0, by omega, rfl, by intro x hx; omega, hd⟩
          case round =>
            obtain ⟨z, hz, rfl, hbz, hd⟩ := hrel
            by_cases hltz : z < M.length
            · have e1 : Ext w wr := Ext.trans inferInstance hd.ext
              have e0 : Ext w0 wr := Ext.trans ‹Ext w0 w› e1
              have hbox : wr.cell? ⟨w.heap.size, 0, none⟩ = some (.slice (some ⟨b, o, none⟩) M.length c) := hd.ext.cell (by go_simp)
              obtain ⟨d1, p1, m1, hc1, hc2, hall⟩ := hM.cellAt (w' := wr) hsq.out hltx hltz
              have hc3 := hall y hlty
              obtain ⟨d2, p2, m2, hc4, hc5, _⟩ := hM.cellAt (w' := wr) hsq.out hlty hltz
              have b1 := tableB_cell HT.out hltx hltz
              have b2 := tableB_cell HT.out hltx hlty
              have b3 := tableB_cell HT.out hlty hltz
              clear hall
              by_cases hbad : cell M x y + cell M y z < cell M x z
              · have hdet := hid (show detourAt M x y z = true by simp [detourAt, hbad])
                go_wp2_with (go_quiet (fail))
                go_ret
                refine ⟨_, _, [(x : Int), (y : Int), (z : Int)], rfl, .inr ⟨x, y, z, hltx, hlty, hltz, hdet.out, rfl, hbx.out, hby.out, hbz.out⟩, ?_, ?_⟩
                · exact Own.litInts (by simpa using e1.size) rfl rfl (by simp) rfl
                · infer_instance
              · have hdet := hid (show detourAt M x y z = false by simp [detourAt, hbad])
                have hbad' : decide (cell M x y + cell M y z < cell M x z) = false := by simpa using hbad
                go_wp2_with (go_quiet (fail))
                go_roundw
                case rel =>
                  refine ⟨z + 1, by omega, by go_num, ?_, hd.step _⟩
                  intro z' hz'
                  by_cases hzz : z' = z
                  · subst hzz; exact hdet.out
                  · exact hbz.out z' (by omega)
                case measure => simp [intOf]; omega
            · go_wp2
              go_roundw
              case rel =>
                refine ⟨y + 1, by omega, by go_num, ?_, hd⟩
                intro y' hy' z' hz'
                by_cases hyy : y' = y
                · subst hyy; exact hbz.out z' (by omega)
                · exact hby.out y' (by omega) z' hz'
              case measure => simp [intOf]; omega
        · go_wp2
          go_roundw
          case rel =>
            refine ⟨x + 1, by omega, by go_num, ?_, hd⟩
            intro x' hx' y' hy' z' hz'
            by_cases hxx : x' = x
            · subst hxx; exact hby.out y' (by omega) z' hz'
            · exact hbx.out x' (by omega) y' hy' z' hz'
          case measure => simp [intOf]; omega
    · go_wp2
      go_ret
      have e1 : Ext w wr := Ext.trans inferInstance hd.ext
      refine ⟨_, _, [], rfl, .inl ⟨fun x' hx' => hbx.out x' (by omega), rfl⟩, ?_, ?_⟩
      · exact Own.litInts e1.size rfl rfl (by simp) rfl
      · infer_instance

/-- whether distances are a metric -/
def NoDetB (M : List (List Int)) : Bool := decide (NoDetour M)
def metB (M : List (List Int)) : Bool := tableB M && NoDetB M
def probB (M S : List (List Int)) : Bool := inB M.length 1 4 && metB M && inB S.length 1 4 && decide (∀ r ∈ S, reqB M.length r = true)

theorem NoDetB_of {M : List (List Int)} {xs : List Int} (h : FirstDet M xs) : NoDetB M = decide (xs = []) := by
  rcases h with ⟨h1, h2⟩ | ⟨x, y, z, hx, hy, hz, h1, h2, _⟩
  · rw [h2, NoDetB, decide_eq_true h1]; rfl
  · rw [decide_eq_false (by rw [h2]; simp), NoDetB, decide_eq_false]
    intro h
    rw [h x hx y hy z hz] at h1
    cases h1

set_option maxHeartbeats 400000 in
theorem l6Good_any {v : Value} {M : List (List Int)} {w0 w : World} [Ext w0 w] (hm : IsMet w0 v M) :
    Calls Tryz.prog 21 #[v] w fun e w' => e = .returned (.bool (metB M)) ∧ Ext w w' := by
  have hm' := hm
  obtain ⟨v1, rfl, hM⟩ := hm
  obtain ⟨a, c, rfl, la⟩ := hM.form
  cases ht : tableB M with
  | false =>
    have hr := hid (show metB M = false by rw [metB, ht]; rfl)
    replace ht := hid ht
    go_enter Tryz.func21, Tryz.ntmps21
    go_wp2_with (go_at_call 44; refine (l6Table_any (w0 := w0) hm').mono ?_; rw [ht.out]; rintro e w' ⟨rfl, hb⟩)
    go_ret
    exact ⟨ret_bool hr.out.symm, Ext.trans inferInstance hb⟩
  | true =>
    replace ht := hid ht
    go_enter Tryz.func21, Tryz.ntmps21
    go_wp2_with fail
    refine (l6Table_any (w0 := w0) hm').mono ?_
    rw [ht.out]
    rintro e w1 ⟨rfl, hb1⟩
    have c1 : w1.cell? ⟨w.heap.size, 0, none⟩ = some (.slice a M.length c) := hb1.cell (by go_simp)
    have e1 : Ext w w1 := Ext.trans inferInstance hb1
    have e0 : Ext w0 w1 := Ext.trans ‹Ext w0 w› e1
    go_wp2_with fail
    refine (l6Detour_any (w0 := w0) hm' ht.out).mono ?_
    rintro e w2 ⟨d, m, xs, rfl, hdet, _, hb2⟩
    have e2 : Ext w w2 := Ext.trans e1 hb2
    have hN := hid (NoDetB_of hdet)
    cases xs with
    | nil =>
      go_wp2_with fail
      go_ret
      exact ⟨ret_bool (by rw [metB, ht.out, hN.out]; rfl), e2⟩
    | cons x xs =>
      have h0 : (((x :: xs).length : Int) == 0) = false := by simp; omega
      go_wp2_with fail
      go_ret
      exact ⟨ret_bool (by rw [metB, ht.out, hN.out]; simp; omega), e2⟩

end Go.Proofs.YtllfchcocgdcjaaGreat

/- The program's tests of a metric. -/
namespace Go.Proofs.YtllfchcocgdcjaaGreat
open Go.RowKit

set_option maxHeartbeats 400000 in
theorem within_any (x a b : Int) (w : World) :
    Calls Tryz.prog 43 #[.int .i64 x, .int .i64 a, .int .i64 b] w fun e w' => e = .returned (.bool (inB x a b)) ∧ w = w' := by
  by_cases h1 : a ≤ x
  · have hr := hid (inB_ge (b := b) h1)
    go_enter Tryz.func43, Tryz.ntmps43
    go_wp2
    go_ret
    exact ⟨ret_bool hr.out.symm, rfl⟩
  · have hr := hid (inB_lt (b := b) h1)
    have h1' : x < a := by omega
    clear h1
    go_enter Tryz.func43, Tryz.ntmps43
    go_wp2
    go_ret
    exact ⟨ret_bool hr.out.symm, rfl⟩

/-- whether a number is another one -/
def neB (a b : Int) : Bool := a != b
theorem neB_false {a b : Int} : neB a b = false ↔ a = b := by simp [neB]

set_option maxHeartbeats 400000 in
theorem isTable1_any {v : Value} {r : List Int} {n : Int} {B : Nat} {w0 w : World} [Ext w0 w] (hr : IsInts w0 v r) (hn : w.cell? ⟨B, 0, none⟩ = some (.int .i64 n)) :
    Calls Tryz.prog 91 #[v, .pointer (some ⟨B, 0, none⟩)] w fun e w' => e = .returned (.bool (neB r.length n)) ∧ w = w' := by
  obtain ⟨a, c, rfl, la⟩ := hr.form
  go_enter Tryz.func91, Tryz.ntmps91
  go_wp2
  go_ret
  exact ⟨rfl, rfl⟩

theorem isTable1_call (xa : Array Value) (W : World) : (callFunc 91 xa).run Tryz.prog W = .ok (.enter 91 xa) W := by kernel_rfl

theorem isTable1_all {M : List (List Int)} {n : Int} {B : Nat} {w0 w : World} [Ext w0 w] (hn : w.cell? ⟨B, 0, none⟩ = some (.int .i64 n)) :
    ∀ (W : World), Ext w W → ∀ k, k < M.length → ∀ d m, IsInts w0 (.slice d (row M k).length m) (row M k) →
      Calls Tryz.prog 91 (#[.slice d (row M k).length m] ++ #[.pointer (some ⟨B, 0, none⟩)]) W fun e w' => e = .returned (.bool ((fun r => neB r.length n) (row M k))) ∧ Ext W w' := by
  intro W hW k hk d m hrow
  have e0 : Ext w0 W := Ext.trans ‹Ext w0 w› hW
  refine (isTable1_any (w0 := w0) hrow (hW.cell hn)).mono ?_
  rintro e w' ⟨rfl, rfl⟩
  exact ⟨rfl, Ext.refl _⟩

theorem square_any (M : List (List Int)) : M.any (fun r => neB r.length M.length) = !square M := by
  rw [Bool.eq_iff_iff, Bool.not_eq_true', List.any_eq_true]
  constructor
  · rintro ⟨r, hr, h⟩
    obtain ⟨k, hk, rfl⟩ := mem_iff_row.1 hr
    refine square_not hk fun h' => ?_
    rw [neB_false.2 (by omega)] at h
    cases h
  · intro h
    simp only [square, decide_eq_false_iff_not] at h
    have h' : ∃ r ∈ M, ¬ r.length = M.length := by
      apply Classical.byContradiction
      intro h2
      exact h fun r hr => Classical.byContradiction fun h3 => h2 ⟨r, hr, h3⟩
    obtain ⟨r, hr, h3⟩ := h'
    refine ⟨r, hr, ?_⟩
    cases hb : neB r.length M.length with
    | true => rfl
    | false => have := neB_false.1 hb; omega

set_option maxHeartbeats 1600000 in
set_option maxRecDepth 100000 in
theorem isTable_any {v : Value} {M : List (List Int)} {w0 w : World} [Ext w0 w] (hm : IsMet w0 v M) :
    Calls Tryz.prog 67 #[v, .bool false] w fun e w' => e = .returned (.bool (tableB M)) ∧ Ext w w' := by
  obtain ⟨v1, rfl, hM⟩ := hm
  obtain ⟨a, c, rfl, la⟩ := hM.form
  cases hn : inB M.length 1 6 with
  | false =>
    have hr := hid (show tableB M = false by rw [tableB, hn]; rfl)
    replace hn := hid hn
    go_enter Tryz.func67, Tryz.ntmps67
    go_wp2_with (go_at_call 43; refine (within_any _ _ _ _).mono ?_; rw [hn.out]; rintro e w' ⟨rfl, rfl⟩)
    go_ret
    exact ⟨ret_bool hr.out.symm, inferInstance⟩
  | true =>
    have hlen := inB_true.1 hn
    replace hn := hid hn
    cases hsq : square M with
    | false =>
      have hr := hid (show tableB M = false by rw [tableB, hsq]; simp)
      have hs := hid (square_any M)
      replace hsq := hid hsq
      go_enter Tryz.func67, Tryz.ntmps67
      go_wp2_with fail
      refine (within_any _ _ _ _).mono ?_; rw [hn.out]; rintro e w' ⟨rfl, rfl⟩
      go_wp2_with fail
      generalize hW : (w.alloc (.cells #[.slice a M.length c] 26)).alloc (.cells #[.int .i64 M.length] 3) = W1
      have e1 : Ext w W1 := hW ▸ inferInstance
      have x0 : W1.cell? ⟨w.heap.size, 0, none⟩ = some (.slice a M.length c) := by subst hW; go_simp
      have xn : W1.cell? ⟨w.heap.size + 1, 0, none⟩ = some (.int .i64 M.length) := by subst hW; go_simp
      clear hW
      have e01 : Ext w0 W1 := Ext.trans ‹Ext w0 w› e1
      refine (containsFuncRows_any (w0 := w0) hM _ _ (fun r => neB r.length M.length) isTable1_call (isTable1_all xn)).mono ?_
      rw [hs.out, hsq.out]
      rintro e w2 ⟨rfl, hb⟩
      go_wp2_with fail
      go_ret
      exact ⟨ret_bool hr.out.symm, Ext.trans e1 hb⟩
    | true =>
      have hs := hid (square_any M)
      replace hsq := hid hsq
      go_enter Tryz.func67, Tryz.ntmps67
      go_wp2_with fail
      refine (within_any _ _ _ _).mono ?_; rw [hn.out]; rintro e w' ⟨rfl, rfl⟩
      go_wp2_with fail
      generalize hW : (w.alloc (.cells #[.slice a M.length c] 26)).alloc (.cells #[.int .i64 M.length] 3) = W1
      have e1 : Ext w W1 := hW ▸ inferInstance
      have x0 : W1.cell? ⟨w.heap.size, 0, none⟩ = some (.slice a M.length c) := by subst hW; go_simp
      have xn : W1.cell? ⟨w.heap.size + 1, 0, none⟩ = some (.int .i64 M.length) := by subst hW; go_simp
      clear hW
      have e01 : Ext w0 W1 := Ext.trans ‹Ext w0 w› e1
      refine (containsFuncRows_any (w0 := w0) hM _ _ (fun r => neB r.length M.length) isTable1_call (isTable1_all xn)).mono ?_
      rw [hs.out, hsq.out]
      rintro e w2 ⟨rfl, hb⟩
      replace x0 := hb.cell x0
      replace xn := hb.cell xn
      have e2 : Ext w w2 := Ext.trans e1 hb
      have e0 : Ext w0 w2 := Ext.trans ‹Ext w0 w› e2
      clear hb
      obtain ⟨b, o, rfl, _⟩ : ∃ b o, a = some ⟨b, o, none⟩ ∧ True := by
        obtain ⟨b, o, _, _, h, _⟩ := hM.at (w' := w0) (k := 0) (by omega)
        exact ⟨b, o, h, trivial⟩
      go_wp2_with fail
      go_loop [6, 7, 8, 22] (fun _ _ _ i => ∃ x : Nat, x ≤ M.length ∧ i = .int .i64 x ∧ Hid (∀ x', x' < x → ∀ y, y < M.length → cellOk M x' y = true)) (fun _ _ _ i => M.length - (intOf i).toNat)
      case atStart => exact ⟨0, by omega, rfl, by intro x hx; omega⟩
      case round =>
        obtain ⟨x, hx, rfl, hcells⟩ := hrel
        by_cases hltx : x < M.length
        · obtain ⟨d1, p1, m1, hc1, hc2, hall⟩ := hM.cellAt (w' := w2) hsq.out hltx hltx
          replace hall := hid hall
          clear hc2
          go_wp2
          go_loop [7, 8, 31] (fun _ _ i => ∃ y : Nat, y ≤ M.length ∧ i = .int .i64 y ∧ Hid (∀ y', y' < y → cellOk M x y' = true)) (fun _ _ i => M.length - (intOf i).toNat)
          case atStart => exact ⟨0, by omega, rfl, by intro x hx; omega⟩
          case round =>
            obtain ⟨y, hy, rfl, hcy⟩ := hrel
            by_cases hlty : y < M.length
            · have hc2 := hall.out y hlty
              obtain ⟨d2, p2, m2, hc3, hc4, _⟩ := hM.cellAt (w' := w2) hsq.out hlty hltx
              by_cases h2 : x = y
              · have h2' : ((x : Int) == (y : Int)) = true := by simp [h2]
                have h2'' : ((x : Int) != (y : Int)) = false := by simp [h2]
                by_cases h3 : cell M x y = 0
                · have hok := hid (show cellOk M x y = true by rw [cellOk, if_pos h2, decide_eq_true h3, ← h2]; simp)
                  have h3' : (cell M x y != 0) = false := by simp [h3]
                  have h1' : (cell M x y != cell M y x) = false := by rw [← h2]; simp
                  have h4 : cell M x y ≤ 99 := by omega
                  have h5 : decide (99 < cell M x y) = false := by simpa using h4
                  clear h2 h3 h4
                  go_wp2
                  go_round
                  case rel =>
                    refine ⟨y + 1, by omega, by go_num, ?_⟩
                    intro y' hy'
                    by_cases hyy : y' = y
                    · subst hyy; exact hok.out
                    · exact hcy.out y' (by omega)
                  case measure => simp [intOf]; omega
                · have hok := hid (show cellOk M x y = false by rw [cellOk, if_pos h2, decide_eq_false h3]; simp)
                  have h3' : (cell M x y != 0) = true := by simp [h3]
                  clear h2 h3
                  go_wp2
                  go_ret
                  exact ⟨ret_bool (by rw [tableB, cellsOk_not hltx hlty hok.out]; simp), e2⟩
              · have h2' : ((x : Int) == (y : Int)) = false := by simp; omega
                have h2'' : ((x : Int) != (y : Int)) = true := by simp; omega
                by_cases h1 : cell M x y = cell M y x
                · have h1' : (cell M x y != cell M y x) = false := by simp [h1]
                  by_cases h4 : cell M x y ≤ 99
                  · have h5 : decide (99 < cell M x y) = false := by simpa using h4
                    by_cases h6 : cell M x y < 1
                    · have h6' : decide (cell M x y < 1) = true := by simpa using h6
                      have hok := hid (show cellOk M x y = false by rw [cellOk, if_neg h2, inB_lt (by omega)]; simp)
                      clear h1 h2 h4 h6
                      go_wp2
                      go_ret
                      exact ⟨ret_bool (by rw [tableB, cellsOk_not hltx hlty hok.out]; simp), e2⟩
                    · have h6' : decide (cell M x y < 1) = false := by simpa using h6
                      have hok := hid (show cellOk M x y = true by rw [cellOk, if_neg h2, inB_true.2 ⟨by omega, h4⟩, decide_eq_true h1]; rfl)
                      clear h1 h2 h4 h6
                      go_wp2
                      go_round
                      case rel =>
                        refine ⟨y + 1, by omega, by go_num, ?_⟩
                        intro y' hy'
                        by_cases hyy : y' = y
                        · subst hyy; exact hok.out
                        · exact hcy.out y' (by omega)
                      case measure => simp [intOf]; omega
                  · have h5 : decide (99 < cell M x y) = true := by simp; omega
                    have hok := hid (show cellOk M x y = false by rw [cellOk, if_neg h2, inB_false.2 (fun h => h4 h.2)]; simp)
                    clear h1 h2 h4
                    go_wp2
                    go_ret
                    exact ⟨ret_bool (by rw [tableB, cellsOk_not hltx hlty hok.out]; simp), e2⟩
                · have h1' : (cell M x y != cell M y x) = true := by simp [h1]
                  have hok := hid (show cellOk M x y = false by rw [cellOk, decide_eq_false h1]; rfl)
                  clear h1 h2
                  go_wp2
                  go_ret
                  exact ⟨ret_bool (by rw [tableB, cellsOk_not hltx hlty hok.out]; simp), e2⟩
            · go_wp2
              go_round
              case rel =>
                refine ⟨x + 1, by omega, by go_num, ?_⟩
                intro x' hx' y' hy'
                by_cases hxx : x' = x
                · subst hxx; exact hcy.out y' (by omega)
                · exact hcells.out x' (by omega) y' hy'
              case measure => simp [intOf]; omega
        · go_wp2
          go_ret
          have hcs : cellsOk M = true := by
            simp only [cellsOk, decide_eq_true_eq]
            exact fun x' hx' y hy => hcells.out x' (by omega) y hy
          exact ⟨ret_bool (by rw [tableB, hn.out, hsq.out, hcs]; rfl), e2⟩

end Go.Proofs.YtllfchcocgdcjaaGreat

/- The program's search for a detour, IsMetric, IsProblem. -/
namespace Go.Proofs.YtllfchcocgdcjaaGreat
open Go.RowKit

theorem ret_tuple2 {a b c d : Value} (h1 : a = c) (h2 : b = d) : Ending.returned (.tuple #[a, b]) = .returned (.tuple #[c, d]) := by rw [h1, h2]

def isNil (xs : List Int) : Bool := decide (xs = [])

set_option maxHeartbeats 1000000 in
set_option maxRecDepth 100000 in
theorem detour_any {v : Value} {M : List (List Int)} {w0 w : World} [Ext w0 w] (hm : IsMet w0 v M) (ht : tableB M = true) :
    Calls Tryz.prog 68 #[v] w fun e w' => ∃ d m xs, e = .returned (.tuple #[.slice d xs.length m, .bool (!isNil xs)]) ∧ FirstDet M xs ∧ Own w' w.heap.size [intRowOf 3 (.slice d xs.length m) xs] ∧ Ext w w' := by
  obtain ⟨v1, rfl, hM⟩ := hm
  obtain ⟨a, c, rfl, la⟩ := hM.form
  obtain ⟨hl0, hl6⟩ := tableB_len ht
  obtain ⟨b, o, rfl, _⟩ : ∃ b o, a = some ⟨b, o, none⟩ ∧ True := by
    obtain ⟨b, o, _, _, h, _⟩ := hM.at (w' := w0) (k := 0) (by omega)
    exact ⟨b, o, h, trivial⟩
  have hsq := hid (tableB_square ht)
  have HT := hid ht
  clear ht
  go_enter Tryz.func68, Tryz.ntmps68
  go_wp2
  go_loopw [12] (fun i wr => ∃ x : Nat, x ≤ M.length ∧ i = .int .i64 x ∧ Hid (∀ x', x' < x → ∀ y', y' < M.length → ∀ z', z' < M.length → detourAt M x' y' z' = false) ∧ Drew (w.alloc (.cells #[.slice (some ⟨b, o, none⟩) M.length c] 26)) wr) (fun i _ => M.length - (intOf i).toNat)
  case atStart => exact ⟨0, by omega, rfl, by intro x hx; omega, Drew.refl _⟩
  case round =>
    obtain ⟨x, hx, rfl, hbx, hd⟩ := hrel
    by_cases hltx : x < M.length
    · have e1 : Ext w wr := Ext.trans inferInstance hd.ext
      have e0 : Ext w0 wr := Ext.trans ‹Ext w0 w› e1
      obtain ⟨d1, p1, m1, hc1, hc2, hall⟩ := hM.cellAt (w' := wr) hsq.out hltx hltx
      clear hc2 hall
      go_wp2
      obtain ⟨wo, rfl⟩ : ∃ wo : World, wo = wr := ⟨_, rfl⟩
      go_loopw [19] (fun i wr => ∃ y : Nat, y ≤ M.length ∧ i = .int .i64 y ∧ Hid (∀ y', y' < y → ∀ z', z' < M.length → detourAt M x y' z' = false) ∧ Drew wo wr) (fun i _ => M.length - (intOf i).toNat)
      case atStart => exact ⟨0, by omega, rfl, by intro x hx; omega, Drew.refl _⟩
      case round =>
        obtain ⟨y, hy, rfl, hby, hd2⟩ := hrel
        by_cases hlty : y < M.length
        · have hc1' := hd2.ext.cell hc1
          have hbox : wr.cell? ⟨w.heap.size, 0, none⟩ = some (.slice (some ⟨b, o, none⟩) M.length c) := (hd.trans hd2).ext.cell (by go_simp)
          have e2 : Ext w0 wr := Ext.trans e0 hd2.ext
          obtain ⟨d1', p1', m1', hq, hc2, hall⟩ := hM.cellAt (w' := wr) hsq.out hltx hlty
          have hq2 := hq.symm.trans hc1'
          simp only [Option.some.injEq, Value.slice.injEq, Addr.mk.injEq, and_true, true_and] at hq2
          obtain ⟨⟨rfl, rfl⟩, rfl⟩ := hq2
          clear hc1' hq
          replace hall := hid hall
          go_wp2
          obtain ⟨wo2, rfl⟩ : ∃ wo : World, wo = wr := ⟨_, rfl⟩
          go_loopw [27] (fun i wr => ∃ z : Nat, z ≤ M.length ∧ i = .int .i64 z ∧ Hid (∀ z', z' < z → detourAt M x y z' = false) ∧ Drew wo2 wr) (fun i _ => M.length - (intOf i).toNat)
          case atStart => exact ⟨0, by omega, rfl, by intro x hx; omega, Drew.refl _⟩
          case round =>
            obtain ⟨z, hz, rfl, hbz, hd3⟩ := hrel
            by_cases hltz : z < M.length
            · have hbox3 := hd3.ext.cell hbox
              have e3 : Ext w0 wr := Ext.trans e2 hd3.ext
              have hc3 := hd3.ext.cell (hall.out z hltz)
              obtain ⟨d2, p2, m2, hc4, hc5, _⟩ := hM.cellAt (w' := wr) hsq.out hlty hltz
              have b1 := tableB_cell HT.out hltx hltz
              have b2 := tableB_cell HT.out hltx hlty
              have b3 := tableB_cell HT.out hlty hltz
              clear hbox hc2 hc1
              by_cases hbad : cell M x y + cell M y z < cell M x z
              · have hdet := hid (show detourAt M x y z = true by simp [detourAt, hbad])
                have e4 : Ext w wr := Ext.trans (Ext.trans e1 hd2.ext) hd3.ext
                go_wp2_with (go_quiet (fail))
                go_ret2
                refine ⟨_, _, [(x : Int), (y : Int), (z : Int)], ret_tuple2 rfl rfl, .inr ⟨x, y, z, hltx, hlty, hltz, hdet.out, rfl, hbx.out, hby.out, hbz.out⟩, ?_, ?_⟩
                · exact Own.litInts (by simpa using e4.size) rfl rfl (by simp) rfl
                · infer_instance
              · have hdet := hid (show detourAt M x y z = false by simp [detourAt, hbad])
                have hbad' : decide (cell M x y + cell M y z < cell M x z) = false := by simpa using hbad
                go_wp2_with (go_quiet (fail))
                go_roundw
                case rel =>
                  refine ⟨z + 1, by omega, by go_num, ?_, hd3.step _⟩
                  intro z' hz'
                  by_cases hzz : z' = z
                  · subst hzz; exact hdet.out
                  · exact hbz.out z' (by omega)
                case measure => simp [intOf]; omega
            · go_wp2
              go_roundw
              case rel =>
                refine ⟨y + 1, by omega, by go_num, ?_, hd2.trans hd3⟩
                intro y' hy' z' hz'
                by_cases hyy : y' = y
                · subst hyy; exact hbz.out z' (by omega)
                · exact hby.out y' (by omega) z' hz'
              case measure => simp [intOf]; omega
        · go_wp2
          go_roundw
          case rel =>
            refine ⟨x + 1, by omega, by go_num, ?_, hd.trans hd2⟩
            intro x' hx' y' hy' z' hz'
            by_cases hxx : x' = x
            · subst hxx; exact hby.out y' (by omega) z' hz'
            · exact hbx.out x' (by omega) y' hy' z' hz'
          case measure => simp [intOf]; omega
    · have e1 : Ext w wr := Ext.trans inferInstance hd.ext
      go_wp2
      go_ret2
      refine ⟨none, 0, [], ret_tuple2 rfl rfl, .inl ⟨fun x' hx' => hbx.out x' (by omega), rfl⟩, ?_, ?_⟩
      · exact (Own.nil _ _).cons_nil _ _
      · exact e1

set_option maxHeartbeats 400000 in
theorem IsMetric_any {v : Value} {M : List (List Int)} {w0 w : World} [Ext w0 w] (hm : IsMet w0 v M) :
    Calls Tryz.prog 38 #[v] w fun e w' => e = .returned (.bool (metB M)) ∧ Ext w w' := by
  have hm' := hm
  obtain ⟨v1, rfl, hM⟩ := hm
  obtain ⟨a, c, rfl, la⟩ := hM.form
  cases ht : tableB M with
  | false =>
    have hr := hid (show metB M = false by rw [metB, ht]; rfl)
    replace ht := hid ht
    go_enter Tryz.func38, Tryz.ntmps38
    go_wp2_with (go_at_call 67; refine (isTable_any (w0 := w0) hm').mono ?_; rw [ht.out]; rintro e w' ⟨rfl, hb⟩)
    go_ret
    exact ⟨ret_bool hr.out.symm, Ext.trans inferInstance hb⟩
  | true =>
    replace ht := hid ht
    go_enter Tryz.func38, Tryz.ntmps38
    go_wp2_with fail
    refine (isTable_any (w0 := w0) hm').mono ?_
    rw [ht.out]
    rintro e w1 ⟨rfl, hb1⟩
    have c1 : w1.cell? ⟨w.heap.size, 0, none⟩ = some (.slice a M.length c) := hb1.cell (by go_simp)
    have e1 : Ext w w1 := Ext.trans inferInstance hb1
    have e0 : Ext w0 w1 := Ext.trans ‹Ext w0 w› e1
    go_wp2_with fail
    refine (detour_any (w0 := w0) hm' ht.out).mono ?_
    rintro e w2 ⟨d, m, xs, rfl, hdet, _, hb2⟩
    have e2 : Ext w w2 := Ext.trans e1 hb2
    have hN := hid (NoDetB_of hdet)
    go_wp2_with fail
    go_ret
    exact ⟨ret_bool (by rw [metB, ht.out, hN.out]; rfl), e2⟩

theorem costs_any (costs : List Int) : costs.any (fun c => !inB c (-1) 20) = !costsOk costs := by
  rw [Bool.eq_iff_iff, Bool.not_eq_true', List.any_eq_true]
  constructor
  · rintro ⟨c, hc, h⟩
    obtain ⟨k, hk, rfl⟩ := mem_iff_nth.1 hc
    exact costsOk_not hk (by simpa using h)
  · intro h
    apply Classical.byContradiction
    intro h2
    have : costsOk costs = true := by
      simp only [costsOk, decide_eq_true_eq]
      intro c hc
      apply Classical.byContradiction
      intro h3
      exact h2 ⟨c, hc, by rw [inB_false.2 h3]; rfl⟩
    rw [this] at h
    cases h

theorem reqs_any (n : Int) (S : List (List Int)) : (!S.any fun r => !reqB n r) = decide (∀ r ∈ S, reqB n r = true) := by
  rw [List.not_any_eq_all_not, Bool.eq_iff_iff, decide_eq_true_eq, List.all_eq_true]
  simp

end Go.Proofs.YtllfchcocgdcjaaGreat

/- The states in which a request can be served; the number of algorithms. -/
namespace Go.Proofs.YtllfchcocgdcjaaGreat
open Go.RowKit

/-- the indices below k of numbers that are not negative -/
def servedTo (cs : List Int) (k : Nat) : List Int := ((List.range k).filter fun i => decide (0 ≤ nth cs i)).map fun i : Nat => (i : Int)
def servedL (cs : List Int) : List Int := servedTo cs cs.length
theorem servedTo_succ_yes {cs : List Int} {k : Nat} (h : 0 ≤ nth cs k) : servedTo cs (k + 1) = servedTo cs k ++ [(k : Int)] := by
  simp [servedTo, List.range_succ, List.filter_append, h]
theorem servedTo_succ_no {cs : List Int} {k : Nat} (h : ¬ 0 ≤ nth cs k) : servedTo cs (k + 1) = servedTo cs k := by
  simp [servedTo, List.range_succ, List.filter_append, h]
theorem servedTo_length (cs : List Int) (k : Nat) : (servedTo cs k).length ≤ k := by
  induction k with
  | zero => simp [servedTo]
  | succ k ih =>
    by_cases h : 0 ≤ nth cs k
    · rw [servedTo_succ_yes h]; simp; omega
    · rw [servedTo_succ_no h]; omega
theorem servedTo_mem {cs : List Int} {k : Nat} {x : Int} : x ∈ servedTo cs k ↔ ∃ i : Nat, i < k ∧ 0 ≤ nth cs i ∧ x = i := by
  simp only [servedTo, List.mem_map, List.mem_filter, List.mem_range, decide_eq_true_eq]
  constructor
  · rintro ⟨i, ⟨h1, h2⟩, rfl⟩; exact ⟨i, h1, h2, rfl⟩
  · rintro ⟨i, h1, h2, rfl⟩; exact ⟨i, ⟨h1, h2⟩, rfl⟩
theorem servedTo_i64 {cs : List Int} {k : Nat} (hk : k ≤ 17592186044415) : ∀ x ∈ servedTo cs k, I64 x := by
  intro x hx
  obtain ⟨i, h1, _, rfl⟩ := servedTo_mem.1 hx
  unfold I64
  omega

/-- the behind of an append: the value's form -/
theorem Own.formInts {w : World} {B e : Nat} {v : Value} {xs : List Int} {R : List Row} (h : Own w B (intRowOf e v xs :: R)) : ∃ d m, v = .slice d xs.length m := h.form
theorem own_snoc {w : World} {B e : Nat} {v : Value} {xs : List Int} {x : Int} {n : Nat} {R : List Row} (h : Own w B (⟨e, 1, v, n + 1, xs.map (Value.int .i64) ++ [.int .i64 x]⟩ :: R)) (hn : n = xs.length) : Own w B (intRowOf e v (xs ++ [x]) :: R) := by
  subst hn
  unfold intRowOf
  rw [List.map_append, List.length_append]
  exact h

end Go.Proofs.YtllfchcocgdcjaaGreat

/- The number of algorithms: the program's and the reference's. -/
namespace Go.Proofs.YtllfchcocgdcjaaGreat
open Go.RowKit

theorem probB_len {M S : List (List Int)} (h : probB M S = true) : 1 ≤ M.length ∧ M.length ≤ 4 ∧ 1 ≤ S.length ∧ S.length ≤ 4 := by
  simp only [probB, Bool.and_eq_true] at h
  have h1 := inB_true.1 h.1.1.1
  have h2 := inB_true.1 h.1.2
  omega
theorem probB_table {M S : List (List Int)} (h : probB M S = true) : tableB M = true := by
  simp only [probB, metB, Bool.and_eq_true] at h
  exact h.1.1.2.1
theorem probB_nodet {M S : List (List Int)} (h : probB M S = true) : NoDetour M := by
  simp only [probB, metB, NoDetB, Bool.and_eq_true, decide_eq_true_eq] at h
  exact h.1.1.2.2
theorem probB_row {M S : List (List Int)} (h : probB M S = true) {k : Nat} (hk : k < S.length) : (row S k).length = M.length ∧ (∀ c ∈ row S k, -1 ≤ c ∧ c ≤ 20) ∧ ∃ c ∈ row S k, 0 ≤ c := by
  simp only [probB, Bool.and_eq_true, decide_eq_true_eq] at h
  have h1 := h.2 _ (row_mem hk)
  simp only [reqB, costsOk, canServe, Bool.and_eq_true, decide_eq_true_eq] at h1
  exact ⟨by omega, h1.1.1, h1.2⟩
theorem probB_serve {M S : List (List Int)} (h : probB M S = true) {k x : Nat} (hk : k < S.length) (hx : x < M.length) : -1 ≤ cell S k x ∧ cell S k x ≤ 20 := by
  have h1 := probB_row h hk
  exact h1.2.1 _ (nth_mem (by omega))
theorem probB_move {M S : List (List Int)} (h : probB M S = true) {x y : Nat} (hx : x < M.length) (hy : y < M.length) : 0 ≤ cell M x y ∧ cell M x y ≤ 99 :=
  tableB_cell (probB_table h) hx hy

def canN (cs : List Int) : Nat := (servedL cs).length
def prodTo (S : List (List Int)) : Nat → Nat
  | 0 => 1
  | k + 1 => prodTo S k * canN (row S k)
/-- the number of algorithms -/
def countA (M S : List (List Int)) : Nat := prodTo S S.length ^ M.length

theorem canN_le {M S : List (List Int)} (h : probB M S = true) {k : Nat} (hk : k < S.length) : canN (row S k) ≤ 4 := by
  have h1 := (probB_row h hk).1
  have h2 := probB_len h
  have h3 := servedTo_length (row S k) (row S k).length
  unfold canN servedL
  omega
theorem prodTo_le {M S : List (List Int)} (h : probB M S = true) : ∀ k, k ≤ S.length → prodTo S k ≤ 4 ^ k
  | 0, _ => by simp [prodTo]
  | k + 1, hk => by
    rw [prodTo, Nat.pow_succ]
    exact Nat.mul_le_mul (prodTo_le h k (by omega)) (canN_le h (by omega))
theorem count_le {M S : List (List Int)} (h : probB M S = true) {k i : Nat} (hk : k < M.length) (hi : i < S.length) : prodTo S S.length ^ k * prodTo S i * canN (row S i) ≤ 4294967296 := by
  have h2 := probB_len h
  have h3 : prodTo S S.length ≤ 256 := Nat.le_trans (prodTo_le h _ (Nat.le_refl _)) (Nat.le_trans (Nat.pow_le_pow_right (by omega) h2.2.2.2) (by decide))
  have h4 : prodTo S S.length ^ k ≤ 256 ^ 3 := Nat.le_trans (Nat.pow_le_pow_left h3 k) (Nat.pow_le_pow_right (by omega) (by omega))
  have h5 : prodTo S i * canN (row S i) ≤ 4 ^ (i + 1) := prodTo_le h (i + 1) (by omega)
  have h6 : 4 ^ (i + 1) ≤ 4 ^ 4 := Nat.pow_le_pow_right (by omega) (by omega)
  rw [Nat.mul_assoc]
  exact Nat.le_trans (Nat.mul_le_mul h4 (Nat.le_trans h5 h6)) (by decide)

def countR (M S : List (List Int)) : Int := if probB M S = true then (countA M S : Int) else 0

theorem spec_le {M S : List (List Int)} (h : probB M S = true) {r s : Nat} (hr : r < S.length) (hs : s < M.length) : prodTo S r ^ M.length * canN (row S r) ^ s * canN (row S r) ≤ 4294967296 := by
  have h2 := probB_len h
  have h3 : prodTo S r ≤ 64 := Nat.le_trans (prodTo_le h _ (by omega)) (Nat.le_trans (Nat.pow_le_pow_right (n := 4) (by omega) (show r ≤ 3 by omega)) (by decide))
  have h4 : prodTo S r ^ M.length ≤ 64 ^ 4 := Nat.le_trans (Nat.pow_le_pow_left h3 _) (Nat.pow_le_pow_right (by omega) h2.2.1)
  have h5 : canN (row S r) ^ (s + 1) ≤ 4 ^ 4 := Nat.le_trans (Nat.pow_le_pow_left (canN_le h hr) _) (Nat.pow_le_pow_right (by omega) (by omega))
  rw [Nat.mul_assoc, ← Nat.pow_succ]
  exact Nat.le_trans (Nat.mul_le_mul h4 h5) (by decide)

end Go.Proofs.YtllfchcocgdcjaaGreat

/- Tests of an algorithm: the reference's and the program's. -/
namespace Go.Proofs.YtllfchcocgdcjaaGreat
open Go.RowKit

/-- whether a request r can be served in s -/
def stOk (M S : List (List Int)) (r : Nat) (s : Int) : Bool := inB s 0 (M.length - 1) && decide (0 ≤ cell S r s.toNat)
def rowOk (M S : List (List Int)) (x : List Int) : Bool := decide (x.length = S.length) && decide (∀ r, r < x.length → stOk M S r (nth x r) = true)
def algB (M S next : List (List Int)) : Bool := decide (next.length = M.length) && decide (∀ x ∈ next, rowOk M S x = true)

theorem stOk_lt {M : List (List Int)} {s : Int} (h : inB s 0 (M.length - 1) = true) : 0 ≤ s ∧ s.toNat < M.length := by
  have := inB_true.1 h
  omega
theorem rowOk_not {M S : List (List Int)} {x : List Int} {r : Nat} (hr : r < x.length) (h : stOk M S r (nth x r) = false) : rowOk M S x = false := by
  rw [rowOk, Bool.and_eq_false_iff]
  refine .inr (decide_eq_false fun h' => ?_)
  rw [h' r hr] at h
  cases h
theorem algB_not {M S next : List (List Int)} {k : Nat} (hk : k < next.length) (h : rowOk M S (row next k) = false) : algB M S next = false := by
  rw [algB, Bool.and_eq_false_iff]
  refine .inr (decide_eq_false fun h' => ?_)
  rw [h' _ (row_mem hk)] at h
  cases h

theorem rows_all (M S next : List (List Int)) : (!next.any fun x => !rowOk M S x) = decide (∀ x ∈ next, rowOk M S x = true) := by
  rw [List.not_any_eq_all_not, Bool.eq_iff_iff, decide_eq_true_eq, List.all_eq_true]
  simp

def algR (M S next : List (List Int)) : Bool := probB M S && algB M S next

end Go.Proofs.YtllfchcocgdcjaaGreat

/- Tests of a start state and a sequence. -/
namespace Go.Proofs.YtllfchcocgdcjaaGreat
open Go.RowKit

/-- whether all numbers of a list are in 0..n-1 -/
def belowB (n : Int) (l : List Int) : Bool := decide (∀ a ∈ l, inB a 0 (n - 1) = true)
theorem belowB_not {n : Int} {l : List Int} {k : Nat} (hk : k < l.length) (h : inB (nth l k) 0 (n - 1) = false) : belowB n l = false := by
  refine decide_eq_false fun h' => ?_
  rw [h' _ (nth_mem hk)] at h
  cases h
theorem belowB_of {n : Int} {l : List Int} (h : ∀ k, k < l.length → inB (nth l k) 0 (n - 1) = true) : belowB n l = true := by
  refine decide_eq_true fun a ha => ?_
  obtain ⟨k, hk, rfl⟩ := mem_iff_nth.1 ha
  exact h k hk
theorem belowB_at {n : Int} {l : List Int} (h : belowB n l = true) {k : Nat} (hk : k < l.length) : 0 ≤ nth l k ∧ nth l k < n := by
  have := inB_true.1 (of_decide_eq_true h _ (nth_mem hk))
  omega
theorem below_any (n : Int) (l : List Int) : (!l.any fun a => !inB a 0 (n - 1)) = belowB n l := by
  rw [List.not_any_eq_all_not, Bool.eq_iff_iff, List.all_eq_true]
  simp [belowB]

set_option maxHeartbeats 400000 in
theorem areBelow1_any {a n : Int} {B : Nat} {w : World} (hn : w.cell? ⟨B, 0, none⟩ = some (.int .i64 n)) (h0 : 0 ≤ n) (h1 : n ≤ 17592186044415) :
    Calls Tryz.prog 71 #[.int .i64 a, .pointer (some ⟨B, 0, none⟩)] w fun e w' => e = .returned (.bool (!inB a 0 (n - 1))) ∧ w = w' := by
  go_enter Tryz.func71, Tryz.ntmps71
  go_wp2_with (go_at_call 43; refine (within_any _ _ _ _).mono ?_; rintro e w' ⟨rfl, rfl⟩)
  go_ret
  exact ⟨rfl, rfl⟩
theorem areBelow1_call (xa : Array Value) (W : World) : (callFunc 71 xa).run Tryz.prog W = .ok (.enter 71 xa) W := by kernel_rfl
theorem areBelow1_all {l : List Int} {n : Int} {B : Nat} {w : World} (hn : w.cell? ⟨B, 0, none⟩ = some (.int .i64 n)) (h0 : 0 ≤ n) (h1 : n ≤ 17592186044415) :
    ∀ (W : World), Ext w W → ∀ k, k < l.length → Calls Tryz.prog 71 (#[.int .i64 (nth l k)] ++ #[.pointer (some ⟨B, 0, none⟩)]) W fun e w' => e = .returned (.bool ((fun a => !inB a 0 (n - 1)) (nth l k))) ∧ Ext W w' := by
  intro W hW k hk
  refine (areBelow1_any (hW.cell hn) h0 h1).mono ?_
  rintro e w' ⟨rfl, rfl⟩
  exact ⟨rfl, Ext.refl _⟩

set_option maxHeartbeats 400000 in
theorem areBelow_any {v : Value} {l : List Int} {n : Int} {w0 w : World} [Ext w0 w] (hl : IsInts w0 v l) (h0 : 0 ≤ n) (h1 : n ≤ 17592186044415) :
    Calls Tryz.prog 40 #[.int .i64 n, v] w fun e w' => e = .returned (.bool (belowB n l)) ∧ Ext w w' := by
  have hl' := hl
  obtain ⟨a, c, rfl, la⟩ := hl.form
  have hR := hid (below_any n l)
  go_enter Tryz.func40, Tryz.ntmps40
  go_wp2_with fail
  generalize hW : w.alloc (.cells #[.int .i64 n] 3) = W1
  have e1 : Ext w W1 := hW ▸ inferInstance
  have e0 : Ext w0 W1 := Ext.trans ‹Ext w0 w› e1
  have x0 : W1.cell? ⟨w.heap.size, 0, none⟩ = some (.int .i64 n) := by subst hW; go_simp
  clear hW
  refine (containsFuncInts_any (w0 := w0) hl' _ _ (fun a => !inB a 0 (n - 1)) areBelow1_call (areBelow1_all x0 h0 h1)).mono ?_
  rintro e w2 ⟨rfl, hb⟩
  generalize hz : (l.any fun a => !inB a 0 (n - 1)) = z at *
  replace hz := hid hz
  go_wp2_with fail
  go_ret
  exact ⟨ret_bool hR.out, Ext.trans e1 hb⟩

/-- whether a list is a sequence of a problem with m requests -/
def seqB (m : Nat) (reqs : List Int) : Bool := decide (reqs.length ≤ 60) && belowB m reqs
def startB (M S : List (List Int)) (start : Int) (reqs : List Int) : Bool := probB M S && inB start 0 (M.length - 1) && seqB S.length reqs

end Go.Proofs.YtllfchcocgdcjaaGreat

