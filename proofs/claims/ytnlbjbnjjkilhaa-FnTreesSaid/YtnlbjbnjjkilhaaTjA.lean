/- Whether distances are those of a line, walked: IsLineLike. -/
import Derived.Test.YtnlbjbnjjkilhaaTsB
import Derived.Test.YtnlbjbnjjkilhaaPackA
namespace Go.Proofs.Ytnlbjbnjjkilhaa
open Go.RowKit

theorem size_eq {n : Int} (h0 : -4000000000000000000 ≤ n) (h1 : n ≤ 4000000000000000000) (w : World) :
    Calls Try.prog 45 #[.int .i64 n] w fun e w' => e = .returned (.int .i64 (n.natAbs : Nat)) ∧ w = w' := by
  go_enter Try.func45, Try.ntmps45
  go_wp2
  all_goals
    go_ret
    exact ⟨ret_int (by omega), rfl⟩
def maxL (xs : List Int) : Int := xs.foldl max 0
theorem foldl_max : ∀ (xs : List Int) (a : Int), a ≤ xs.foldl max a ∧ (∀ x ∈ xs, x ≤ xs.foldl max a) ∧ (xs.foldl max a = a ∨ xs.foldl max a ∈ xs)
  | [], a => ⟨Int.le_refl _, by simp, .inl rfl⟩
  | x :: xs, a => by
    obtain ⟨h1, h2, h3⟩ := foldl_max xs (max a x)
    rw [List.foldl_cons]
    refine ⟨by omega, fun y hy => ?_, ?_⟩
    · rcases List.mem_cons.1 hy with rfl | hy
      · omega
      · exact h2 y hy
    · rcases h3 with h3 | h3
      · by_cases c : a ≤ x
        · exact .inr (by rw [h3, show max a x = x by omega]; simp)
        · exact .inl (by rw [h3]; omega)
      · exact .inr (List.mem_cons_of_mem _ h3)
theorem maxL_eq {xs : List Int} {r : Int} (h0 : ∀ x ∈ xs, 0 ≤ x) (hr : r ∈ xs) (hm : ∀ x ∈ xs, x ≤ r) : r = maxL xs := by
  obtain ⟨h1, h2, h3⟩ := foldl_max xs 0
  have a1 := h2 r hr
  have a2 := h0 r hr
  unfold maxL
  rcases h3 with h3 | h3
  · omega
  · have := hm _ h3
    omega
theorem row_nn {M : List (List Int)} (h : metB M = true) {x : Nat} (hx : x < M.length) : ∀ v ∈ row M x, 0 ≤ v := by
  intro v hv
  obtain ⟨y, hy, rfl⟩ := List.mem_iff_getElem.1 hv
  rw [tr_row h hx] at hy
  have := (dst_of_met h).pos x y hx hy
  have e : (row M x)[y] = cell M x y := by
    unfold cell
    simp [nth, tr_row h hx, hy]
  rw [e]; exact this.1
/-- the cells of a metric's table -/
theorem met_cells {a1 : Option Addr} {c1 n : Nat} {M : List (List Int)} {w0 : World} (hR : IsRows w0 (.slice a1 n c1) M) (hn : n = M.length) (hM : metB M = true) {x : Nat} (hx : x < n) :
    ∃ bM oM b o m, a1 = some ⟨bM, oM, none⟩ ∧ (∀ u, Ext w0 u → u.cell? ⟨bM, oM + x, none⟩ = some (.slice (some ⟨b, o, none⟩) n m)) ∧ IsInts w0 (.slice (some ⟨b, o, none⟩) n m) (row M x) ∧ (∀ y, y < n → ∀ u, Ext w0 u → u.cell? ⟨b, o + y, none⟩ = some (.int .i64 (cell M x y))) := by
  obtain ⟨bM, oM, d, m, ha1, hcr, hir, _⟩ := hR.at (w' := w0) (k := x) (by rw [← hn]; exact hx)
  rw [tr_row hM (by rw [← hn]; exact hx), ← hn] at hir hcr
  obtain ⟨b, o, hd, _⟩ := hir.at (w' := w0) (k := 0) (by rw [tr_row hM (by rw [← hn]; exact hx)]; omega)
  subst hd
  refine ⟨bM, oM, b, o, m, ha1, fun u eu => eu.cell hcr, hir, fun y hy u eu => ?_⟩
  obtain ⟨b', o', hd', hc⟩ := hir.at (w' := u) (k := y) (by rw [tr_row hM (by rw [← hn]; exact hx), ← hn]; exact hy)
  cases hd'
  exact hc
/-- what is said of a line -/
def LLPost (M : List (List Int)) (w : World) (e : Ending) (w' : World) : Prop :=
  ∃ b, e = .returned (.tuple #[.bool b, .bool (metB M)]) ∧ (b = true → ∃ p : Nat → Int, ∀ x y, x < M.length → y < M.length → cell M x y = max (p x - p y) (p y - p x)) ∧ Ext w w'
set_option maxHeartbeats 3200000 in
set_option maxRecDepth 100000 in
theorem implLL_any {v : Value} {M : List (List Int)} {w0 w : World} [Ext w0 w] (hm : IsMet w0 v M) :
    Calls Try.prog 19 #[v] w (LLPost M w) := by
  have hm' := hm
  have hn6 := hid (fun (hM : metB M = true) => met_len hM)
  have hrow := hid (fun (hM : metB M = true) x (hx : x < M.length) => tr_row hM hx)
  have hD99 := hid (fun (hM : metB M = true) u v (hu : u < M.length) (hv : v < M.length) => (dst_of_met hM).pos u v hu hv)
  have hnn := hid (fun (hM : metB M = true) x (hx : x < M.length) => row_nn hM hx)
  obtain ⟨v1, rfl, hR⟩ := hm
  obtain ⟨a1, c1, rfl, l1⟩ := hR.form
  obtain ⟨mb, hmb⟩ : ∃ mb, mb = metB M := ⟨_, rfl⟩
  obtain ⟨n, hn⟩ : ∃ n, n = M.length := ⟨_, rfl⟩
  unfold LLPost
  rw [← hmb]
  rw [← hn] at hn6 hR l1 hm' hrow hD99 hnn ⊢
  replace hn := hid hn
  go_enter Try.func19, Try.ntmps19
  go_upto_region 1 with fail
  have ea : Ext w (w.alloc (.cells #[.slice a1 n c1] 29)) := inferInstance
  have qa : (w.alloc (.cells #[.slice a1 n c1] 29)).cell? ⟨w.heap.size, 0, none⟩ = some (.slice a1 n c1) := by go_simp
  generalize w.alloc (.cells #[.slice a1 n c1] 29) = wa at *
  have e0a : Ext w0 wa := Ext.trans ‹Ext w0 w› ea
  cases mb with
  | false =>
    have hM := hid hmb.symm
    clear hmb
    go_wp2_with fail
    with_reducible refine (IsMetric_any (w0 := w0) hm').mono ?_
    rw [hM.out]
    rintro e w1 ⟨rfl, e1⟩
    have eF : Ext w w1 := Ext.trans ea e1
    go_wp2_with fail
    refine bodyPost_ret (v := .tuple #[.bool false, .bool false]) (by simp [results, Try.results19, go_sem]) rfl ?_
    exact ⟨false, rfl, by simp, eF⟩
  | true =>
    have hM := hid hmb.symm
    clear hmb
    go_wp2_with fail
    with_reducible refine (IsMetric_any (w0 := w0) hm').mono ?_
    rw [hM.out]
    rintro e w1 ⟨rfl, e1⟩
    have q1 := e1.cell qa
    have e01 : Ext w0 w1 := Ext.trans e0a e1
    have ew1 : Ext w w1 := Ext.trans ea e1
    have hn7 := hn6.out hM.out
    have hRow := hid (fun x (hx : x < n) => met_cells hR hn.out hM.out hx)
    obtain ⟨bM, oM, _, _, _, ha1, _⟩ := hRow.out 0 (by omega)
    subst ha1
    clear e0a ea qa
    go_upto_region 5 with fail
    go_loopw [4, 18] (fun ev xv wr => ∃ en x : Nat, ev = .int .i64 en ∧ xv = .int .i64 x ∧ en < n ∧ x ≤ n ∧ Ext w1 wr) (fun _ xv _ => n - (intOf xv).toNat)
    case atStart => exact ⟨0, 0, rfl, rfl, by omega, by omega, Ext.refl _⟩
    case round =>
      obtain ⟨en, x, rfl, rfl, hen, hx, ew⟩ := hrel
      obtain ⟨wo, rfl⟩ : ∃ y : World, y = wr := ⟨_, rfl⟩
      have e0o : Ext w0 wo := Ext.trans e01 ew
      have qo := ew.cell q1
      obtain ⟨_, _, be, oe, me, ha, hce, hie, hve⟩ := hRow.out en hen
      cases ha
      replace hve := hid hve
      have te := hce wo e0o
      by_cases hxl : x < n
      · obtain ⟨_, _, bx, ox, mx, ha, hcx, hix, _⟩ := hRow.out x hxl
        cases ha
        have tx := hcx wo e0o
        have hE1 : ∀ u, Ext wo u → Calls Try.prog 44 #[.slice (some ⟨bx, ox, none⟩) n mx] u fun e w' => e = .returned (.int .i64 (maxL (row M x))) ∧ u = w' := fun u eu => (@sMax_any (.slice (some ⟨bx, ox, none⟩) n mx) (row M x) w0 u (Ext.trans e0o eu) hix (by rw [hrow.out hM.out x hxl]; omega)).mono fun e w' ⟨r, h1, h2, h3, h4⟩ => ⟨by rw [h1, maxL_eq (hnn.out hM.out x hxl) h2 h3], h4⟩
        have hE2 : ∀ u, Ext wo u → Calls Try.prog 44 #[.slice (some ⟨be, oe, none⟩) n me] u fun e w' => e = .returned (.int .i64 (maxL (row M en))) ∧ u = w' := fun u eu => (@sMax_any (.slice (some ⟨be, oe, none⟩) n me) (row M en) w0 u (Ext.trans e0o eu) hie (by rw [hrow.out hM.out en hen]; omega)).mono fun e w' ⟨r, h1, h2, h3, h4⟩ => ⟨by rw [h1, maxL_eq (hnn.out hM.out en hen) h2 h3], h4⟩
        generalize maxL (row M x) = p1 at *
        generalize maxL (row M en) = p2 at *
        clear hcx hix hce hie hve
        replace hE1 := hid hE1
        replace hE2 := hid hE2
        go_upto_region 7 with fail
        have ed : Ext wo wo.drew := inferInstance
        have qd := ed.cell qo
        have td := ed.cell te
        refine wp_region_held_drew (S := fun u => u.cell? ⟨w.heap.size, 0, none⟩ = some (.slice (some ⟨bM, oM, none⟩) n c1) ∧ u.cell? ⟨bM, oM + en, none⟩ = some (.slice (some ⟨be, oe, none⟩) n me)) (by kernel_rfl) ⟨qd, td⟩ (fun hHeld0 => ?_)
        generalize wo.drew = wd at *
        refine wpAnyH_take (i := 0) (v := .slice (some ⟨bx, ox, none⟩) n mx) rfl (by kernel_rfl) (by kernel_rfl) (by kernel_rfl) (fun _ _ _ h => h) (Or.inl ⟨by rfl, by intro wx hx; go_simp⟩) (by assumption) ?_
        try simp only [List.getElem_toArray, List.getElem_cons_zero, Act.put, List.setIfInBounds_toArray, List.set_cons_zero, List.set_cons_succ]
        refine wpAnyH_take (i := 2) (v := .pointer (some ⟨w.heap.size, 0, none⟩)) rfl (by kernel_rfl) (by kernel_rfl) (by kernel_rfl) (fun _ _ _ h => h) (Or.inl ⟨by rfl, by intro wx hx; go_simp⟩) (by assumption) ?_
        try simp only [List.getElem_toArray, List.getElem_cons_succ, List.getElem_cons_zero, Act.put, List.setIfInBounds_toArray, List.set_cons_zero, List.set_cons_succ]
        refine wpAnyH_take (i := 3) (v := .slice (some ⟨bM, oM, none⟩) n c1) rfl (by kernel_rfl) (by kernel_rfl) (by kernel_rfl) (fun _ _ _ h => h) (Or.inl ⟨by rfl, by intro wx hx; obtain ⟨_, _⟩ := hx; go_simp⟩) (by assumption) ?_
        try simp only [List.getElem_toArray, List.getElem_cons_succ, List.getElem_cons_zero, Act.put, List.setIfInBounds_toArray, List.set_cons_zero, List.set_cons_succ]
        refine wpAnyH_take (i := 4) (v := .int .i64 en) rfl (by kernel_rfl) (by kernel_rfl) (by kernel_rfl) (fun _ _ _ h => h) (Or.inl ⟨by rfl, by intro wx hx; go_simp⟩) (by assumption) ?_
        try simp only [List.getElem_toArray, List.getElem_cons_succ, List.getElem_cons_zero, Act.put, List.setIfInBounds_toArray, List.set_cons_zero, List.set_cons_succ]
        refine wpAnyH_take (i := 5) (v := .pointer (some ⟨bM, oM + en, none⟩)) rfl (by kernel_rfl) (by kernel_rfl) (by kernel_rfl) (fun _ _ _ h => h) (Or.inl ⟨by rfl, by intro wx hx; go_simp⟩) (by assumption) ?_
        try simp only [List.getElem_toArray, List.getElem_cons_succ, List.getElem_cons_zero, Act.put, List.setIfInBounds_toArray, List.set_cons_zero, List.set_cons_succ]
        refine wpAnyH_take (i := 6) (v := .slice (some ⟨be, oe, none⟩) n me) rfl (by kernel_rfl) (by kernel_rfl) (by kernel_rfl) (fun _ _ _ h => h) (Or.inl ⟨by rfl, by intro wx hx; obtain ⟨_, _⟩ := hx; go_simp⟩) (by assumption) ?_
        try simp only [List.getElem_toArray, List.getElem_cons_succ, List.getElem_cons_zero, Act.put, List.setIfInBounds_toArray, List.set_cons_zero, List.set_cons_succ]
        refine wpAnyH_ready (rs := [1]) (by kernel_rfl) (by simp) ?_
        refine AllReadyH.cons rfl (fun K hK => ?_) AllReadyH.nil
        go_simp
        go_at_call 44
        with_reducible refine (hE1.out wd ed).mono ?_
        rintro e w3 ⟨rfl, rfl⟩
        go_wp2_with fail
        refine hK.out _ _ ⟨qd, td⟩ (fun _ => ?_)
        clear hK K
        try simp only [List.getElem_toArray, List.getElem_cons_succ, List.getElem_cons_zero, Act.put, List.setIfInBounds_toArray, List.set_cons_zero, List.set_cons_succ]
        refine wpAnyH_ready (rs := [7]) (by kernel_rfl) (by simp) ?_
        refine AllReadyH.cons rfl (fun K hK => ?_) AllReadyH.nil
        go_simp
        go_at_call 44
        with_reducible refine (hE2.out wd ed).mono ?_
        rintro e w3 ⟨rfl, rfl⟩
        go_wp2_with fail
        refine hK.out _ _ ⟨qd, td⟩ (fun _ => ?_)
        clear hK K
        try simp only [List.getElem_toArray, List.getElem_cons_succ, List.getElem_cons_zero, Act.put, List.setIfInBounds_toArray, List.set_cons_zero, List.set_cons_succ]
        have ew4 : Ext w1 wd := Ext.trans ew ed
        by_cases hgt : p2 < p1
        · skip
          refine wpAnyH_take (i := 8) (v := .bool true) rfl (by kernel_rfl) (by kernel_rfl) (by kernel_rfl) (fun _ _ _ h => h) (Or.inl ⟨by rfl, by intro wx hx; go_simp⟩) (by assumption) ?_
          try simp only [List.getElem_toArray, List.getElem_cons_succ, List.getElem_cons_zero, Act.put, List.setIfInBounds_toArray, List.set_cons_zero, List.set_cons_succ]
          refine wpAnyH_done (by kernel_rfl) ?_ _
          go_wp2_with fail
          go_roundw
          case rel => exact ⟨x, x + 1, rfl, by go_num, hxl, by omega, ew4⟩
          case measure => simp [intOf]; omega
        · skip
          refine wpAnyH_take (i := 8) (v := .bool false) rfl (by kernel_rfl) (by kernel_rfl) (by kernel_rfl) (fun _ _ _ h => h) (Or.inl ⟨by rfl, by intro wx hx; go_simp⟩) (by assumption) ?_
          try simp only [List.getElem_toArray, List.getElem_cons_succ, List.getElem_cons_zero, Act.put, List.setIfInBounds_toArray, List.set_cons_zero, List.set_cons_succ]
          refine wpAnyH_done (by kernel_rfl) ?_ _
          go_wp2_with fail
          go_roundw
          case rel => exact ⟨en, x + 1, rfl, by go_num, hen, by omega, ew4⟩
          case measure => simp [intOf]; omega
      · have hxn : x = n := by omega
        replace hxn := hid hxn
        clear hx
        go_upto_region 12 with fail
        go_loopw [42] (fun xv wr => ∃ x : Nat, xv = .int .i64 x ∧ x ≤ n ∧ Hid (∀ a b, a < x → b < n → cell M a b = max (cell M en a - cell M en b) (cell M en b - cell M en a)) ∧ Ext w1 wr) (fun xv _ => n - (intOf xv).toNat)
        case atStart => exact ⟨0, rfl, by omega, hid (fun a b ha _ => by omega), ew⟩
        case round =>
          clear ew e0o qo te
          obtain ⟨x, rfl, hx, hok, ew⟩ := hrel
          obtain ⟨wo, rfl⟩ : ∃ y : World, y = wr := ⟨_, rfl⟩
          have e0o : Ext w0 wo := Ext.trans e01 ew
          by_cases hxl : x < n
          · obtain ⟨_, _, bx, ox, mx, ha, hcx, hix, hvx⟩ := hRow.out x hxl
            cases ha
            replace hvx := hid hvx
            have tx := hcx wo e0o
            go_upto_region 15 with fail
            go_loopw [49] (fun yv wr => ∃ y : Nat, yv = .int .i64 y ∧ y ≤ n ∧ Hid (∀ b, b < y → cell M x b = max (cell M en x - cell M en b) (cell M en b - cell M en x)) ∧ Ext w1 wr) (fun yv _ => n - (intOf yv).toNat)
            case atStart => exact ⟨0, rfl, by omega, hid (fun b hb => by omega), ew⟩
            case round =>
              clear ew e0o tx
              obtain ⟨y, rfl, hy, hoy, ew⟩ := hrel
              obtain ⟨wo, rfl⟩ : ∃ y : World, y = wr := ⟨_, rfl⟩
              have e0o : Ext w0 wo := Ext.trans e01 ew
              by_cases hyl : y < n
              · have cxy := hvx.out y hyl wo e0o
                have cex := hve.out x hxl wo e0o
                have cey := hve.out y hyl wo e0o
                have b1 := hD99.out hM.out en x hen hxl
                have b2 := hD99.out hM.out en y hen hyl
                have hgo := hid (fun (h : ((cell M en x - cell M en y).natAbs : Int) = cell M x y) => show ∀ b, b < y + 1 → cell M x b = max (cell M en x - cell M en b) (cell M en b - cell M en x) from fun b hb => by
                  by_cases q : b < y
                  · exact hoy.out b q
                  · obtain rfl : b = y := by omega
                    omega)
                generalize cell M en x = p1 at *
                generalize cell M en y = p2 at *
                generalize cell M x y = d at *
                have hE := hid (size_eq (n := p1 - p2) (by omega) (by omega))
                have hnb : ((p1 - p2).natAbs : Int) ≤ 1000 := by omega
                generalize hs : (p1 - p2).natAbs = s at *
                replace hs := hid hs
                go_upto_region 17 with fail
                have ed : Ext wo wo.drew := inferInstance
                have f1 := ed.cell cex
                have f2 := ed.cell cey
                have ew4 : Ext w1 wo.drew := Ext.trans ew ed
                refine wp_region_held_drew (S := fun u => u.cell? ⟨be, oe + x, none⟩ = some (.int .i64 p1) ∧ u.cell? ⟨be, oe + y, none⟩ = some (.int .i64 p2)) (by kernel_rfl) ⟨f1, f2⟩ (fun hHeld0 => ?_)
                generalize wo.drew = wd at *
                refine wpAnyH_take (i := 0) (v := .slice (some ⟨be, oe, none⟩) n me) rfl (by kernel_rfl) (by kernel_rfl) (by kernel_rfl) (fun _ _ _ h => h) (Or.inl ⟨by rfl, by intro wx hx; go_simp⟩) (by assumption) ?_
                try simp only [List.getElem_toArray, List.getElem_cons_zero, Act.put, List.setIfInBounds_toArray, List.set_cons_zero, List.set_cons_succ]
                refine wpAnyH_take (i := 1) (v := .int .i64 x) rfl (by kernel_rfl) (by kernel_rfl) (by kernel_rfl) (fun _ _ _ h => h) (Or.inl ⟨by rfl, by intro wx hx; go_simp⟩) (by assumption) ?_
                try simp only [List.getElem_toArray, List.getElem_cons_succ, List.getElem_cons_zero, Act.put, List.setIfInBounds_toArray, List.set_cons_zero, List.set_cons_succ]
                refine wpAnyH_take (i := 2) (v := .pointer (some ⟨be, oe + x, none⟩)) rfl (by kernel_rfl) (by kernel_rfl) (by kernel_rfl) (fun _ _ _ h => h) (Or.inl ⟨by rfl, by intro wx hx; go_simp⟩) (by assumption) ?_
                try simp only [List.getElem_toArray, List.getElem_cons_succ, List.getElem_cons_zero, Act.put, List.setIfInBounds_toArray, List.set_cons_zero, List.set_cons_succ]
                refine wpAnyH_take (i := 3) (v := .int .i64 p1) rfl (by kernel_rfl) (by kernel_rfl) (by kernel_rfl) (fun _ _ _ h => h) (Or.inl ⟨by rfl, by intro wx hx; obtain ⟨_, _⟩ := hx; go_simp⟩) (by assumption) ?_
                try simp only [List.getElem_toArray, List.getElem_cons_succ, List.getElem_cons_zero, Act.put, List.setIfInBounds_toArray, List.set_cons_zero, List.set_cons_succ]
                refine wpAnyH_take (i := 4) (v := .slice (some ⟨be, oe, none⟩) n me) rfl (by kernel_rfl) (by kernel_rfl) (by kernel_rfl) (fun _ _ _ h => h) (Or.inl ⟨by rfl, by intro wx hx; go_simp⟩) (by assumption) ?_
                try simp only [List.getElem_toArray, List.getElem_cons_succ, List.getElem_cons_zero, Act.put, List.setIfInBounds_toArray, List.set_cons_zero, List.set_cons_succ]
                refine wpAnyH_take (i := 5) (v := .int .i64 y) rfl (by kernel_rfl) (by kernel_rfl) (by kernel_rfl) (fun _ _ _ h => h) (Or.inl ⟨by rfl, by intro wx hx; go_simp⟩) (by assumption) ?_
                try simp only [List.getElem_toArray, List.getElem_cons_succ, List.getElem_cons_zero, Act.put, List.setIfInBounds_toArray, List.set_cons_zero, List.set_cons_succ]
                refine wpAnyH_take (i := 6) (v := .pointer (some ⟨be, oe + y, none⟩)) rfl (by kernel_rfl) (by kernel_rfl) (by kernel_rfl) (fun _ _ _ h => h) (Or.inl ⟨by rfl, by intro wx hx; go_simp⟩) (by assumption) ?_
                try simp only [List.getElem_toArray, List.getElem_cons_succ, List.getElem_cons_zero, Act.put, List.setIfInBounds_toArray, List.set_cons_zero, List.set_cons_succ]
                refine wpAnyH_take (i := 7) (v := .int .i64 p2) rfl (by kernel_rfl) (by kernel_rfl) (by kernel_rfl) (fun _ _ _ h => h) (Or.inl ⟨by rfl, by intro wx hx; obtain ⟨_, _⟩ := hx; go_simp⟩) (by assumption) ?_
                try simp only [List.getElem_toArray, List.getElem_cons_succ, List.getElem_cons_zero, Act.put, List.setIfInBounds_toArray, List.set_cons_zero, List.set_cons_succ]
                refine wpAnyH_take (i := 8) (v := .int .i64 (p1 - p2)) rfl (by kernel_rfl) (by kernel_rfl) (by kernel_rfl) (fun _ _ _ h => h) (Or.inl ⟨by rfl, by intro wx hx; go_simp <;> exact IntWalk.i64_in _ (by omega)⟩) (by assumption) ?_
                try simp only [List.getElem_toArray, List.getElem_cons_succ, List.getElem_cons_zero, Act.put, List.setIfInBounds_toArray, List.set_cons_zero, List.set_cons_succ]
                refine wpAnyH_take (i := 10) (v := .int .i64 d) rfl (by kernel_rfl) (by kernel_rfl) (by kernel_rfl) (fun _ _ _ h => h) (Or.inl ⟨by rfl, by intro wx hx; go_simp⟩) (by assumption) ?_
                try simp only [List.getElem_toArray, List.getElem_cons_succ, List.getElem_cons_zero, Act.put, List.setIfInBounds_toArray, List.set_cons_zero, List.set_cons_succ]
                refine wpAnyH_ready (rs := [9]) (by kernel_rfl) (by simp) ?_
                refine AllReadyH.cons rfl (fun K hK => ?_) AllReadyH.nil
                go_simp
                go_at_call 45
                with_reducible refine (hE.out wd).mono ?_
                rintro e w3 ⟨rfl, rfl⟩
                go_wp2_with fail
                refine hK.out _ _ ⟨f1, f2⟩ (fun _ => ?_)
                clear hK K
                try simp only [List.getElem_toArray, List.getElem_cons_succ, List.getElem_cons_zero, Act.put, List.setIfInBounds_toArray, List.set_cons_zero, List.set_cons_succ]
                by_cases heq : (s : Int) = d
                · have hb : ((s : Int) == d) = true := beq_iff_eq.2 heq
                  have hoy2 := hid (hgo.out heq)
                  replace heq := hid heq
                  clear hgo
                  refine wpAnyH_take (i := 11) (v := .bool false) rfl (by kernel_rfl) (by kernel_rfl) (by kernel_rfl) (fun _ _ _ h => h) (Or.inl ⟨by rfl, by intro wx hx; go_simp <;> exact heq.out⟩) (by assumption) ?_
                  try simp only [List.getElem_toArray, List.getElem_cons_succ, List.getElem_cons_zero, Act.put, List.setIfInBounds_toArray, List.set_cons_zero, List.set_cons_succ]
                  refine wpAnyH_done (by kernel_rfl) ?_ _
                  go_wp2_with fail
                  go_roundw
                  case rel => exact ⟨y + 1, by go_num, by omega, hoy2, ew4⟩
                  case measure => simp [intOf]; omega
                · have hb : ((s : Int) == d) = false := beq_eq_false_iff_ne.2 heq
                  replace heq := hid heq
                  clear hgo
                  have eF : Ext w wd := Ext.trans ew1 ew4
                  refine wpAnyH_take (i := 11) (v := .bool true) rfl (by kernel_rfl) (by kernel_rfl) (by kernel_rfl) (fun _ _ _ h => h) (Or.inl ⟨by rfl, by intro wx hx; go_simp <;> exact heq.out⟩) (by assumption) ?_
                  try simp only [List.getElem_toArray, List.getElem_cons_succ, List.getElem_cons_zero, Act.put, List.setIfInBounds_toArray, List.set_cons_zero, List.set_cons_succ]
                  refine wpAnyH_done (by kernel_rfl) ?_ _
                  go_wp2_with fail
                  refine bodyPost_ret (v := .tuple #[.bool false, .bool true]) (by simp [results, Try.results19, go_sem]) rfl ?_
                  exact ⟨false, rfl, by simp, eF⟩
              · have hyn : y = n := by omega
                have hok2 := hid (show ∀ a b, a < x + 1 → b < n → cell M a b = max (cell M en a - cell M en b) (cell M en b - cell M en a) from fun a b ha hb => by
                  by_cases q : a < x
                  · exact hok.out a b q hb
                  · obtain rfl : a = x := by omega
                    exact hoy.out b (by omega))
                replace hyn := hid hyn
                go_wp2_with fail
                go_roundw
                case rel => exact ⟨x + 1, by go_num, by omega, hok2, ew⟩
                case measure => simp [intOf]; omega
          · have hxn : x = n := by omega
            have hfin := hid (show ∃ p : Nat → Int, ∀ a b, a < n → b < n → cell M a b = max (p a - p b) (p b - p a) from ⟨cell M en, fun a b ha hb => hok.out a b (by omega) hb⟩)
            replace hxn := hid hxn
            have eF : Ext w wo := Ext.trans ew1 ew
            go_wp2_with fail
            refine bodyPost_ret (v := .tuple #[.bool true, .bool true]) (by simp [results, Try.results19, go_sem]) rfl ?_
            exact ⟨true, rfl, fun _ => hfin.out, eF⟩
end Go.Proofs.Ytnlbjbnjjkilhaa
