/- Whether distances are those of a tree, walked: IsTreeLike. -/
import Derived.Test.YtnlbjbnjjkilhaaTjA
import Derived.Test.YtnlbjbnjjkilhaaTrP
import Derived.Test.YtnlbjbnjjkilhaaSrt
import Derived.Test.YtnlbjbnjjkilhaaPackA
namespace Go.Proofs.Ytnlbjbnjjkilhaa
open Go.RowKit

/-- the condition of four points -/
def Four (M : List (List Int)) : Prop := ∀ x y z u, x < M.length → y < M.length → z < M.length → u < M.length → cell M x y + cell M z u ≤ max (cell M x z + cell M y u) (cell M x u + cell M y z)
def TLPost (M : List (List Int)) (w : World) (e : Ending) (w' : World) : Prop :=
  ∃ b, e = .returned (.tuple #[.bool b, .bool (metB M)]) ∧ (metB M = true → Four M → b = true) ∧ Ext w w'
theorem four_sorted {M : List (List Int)} (hM : metB M = true) (h : Four M) {x y z u : Nat} (hx : x < M.length) (hy : y < M.length) (hz : z < M.length) (hu : u < M.length) :
    nth (sortL [cell M x y + cell M z u, cell M x z + cell M y u, cell M x u + cell M y z]) 1 = nth (sortL [cell M x y + cell M z u, cell M x z + cell M y u, cell M x u + cell M y z]) 2 := by
  have hs := (dst_of_met hM).symm
  have h1 := h x y z u hx hy hz hu
  have h2 := h x z y u hx hz hy hu
  have h3 := h x u y z hx hu hy hz
  rw [hs z y hz hy] at h2
  rw [hs u z hu hz, hs u y hu hy] at h3
  refine four_max (by omega) (by omega) (by omega) _ (sortL_perm _) fun i j hij hj => ?_
  have ha := sortL_asc [cell M x y + cell M z u, cell M x z + cell M y u, cell M x u + cell M y z]
  have hl := sortL_len [cell M x y + cell M z u, cell M x z + cell M y u, cell M x u + cell M y z]
  simp only [List.length_cons, List.length_nil] at hl
  have := List.pairwise_iff_getElem.1 ha i j (by omega) (by omega) hij
  simpa [List.getD_eq_getElem?_getD, List.getElem?_eq_getElem (show i < (sortL [cell M x y + cell M z u, cell M x z + cell M y u, cell M x u + cell M y z]).length by omega), List.getElem?_eq_getElem (show j < (sortL [cell M x y + cell M z u, cell M x z + cell M y u, cell M x u + cell M y z]).length by omega)] using this
theorem quo_at (a b : Nat) : Int.tdiv (a : Int) (b : Int) = ((a / b : Nat) : Int) := by rw [Int.ofNat_tdiv]
theorem rem_at (a b : Nat) : Int.tmod (a : Int) (b : Int) = ((a % b : Nat) : Int) := by rw [Int.ofNat_tmod]
set_option maxHeartbeats 3200000 in
set_option maxRecDepth 100000 in
theorem implTL_any {v : Value} {M : List (List Int)} {w0 w : World} [Ext w0 w] (hm : IsMet w0 v M) :
    Calls Try.prog 9 #[v] w (TLPost M w) := by
  have hm' := hm
  have hn6 := hid (fun (hM : metB M = true) => met_len hM)
  have hD99 := hid (fun (hM : metB M = true) u v (hu : u < M.length) (hv : v < M.length) => (dst_of_met hM).pos u v hu hv)
  have hFo := hid (fun (hM : metB M = true) (h : Four M) x y z u (hx : x < M.length) (hy : y < M.length) (hz : z < M.length) (hu : u < M.length) => four_sorted hM h hx hy hz hu)
  obtain ⟨v1, rfl, hR⟩ := hm
  obtain ⟨a1, c1, rfl, l1⟩ := hR.form
  obtain ⟨mb, hmb⟩ : ∃ mb, mb = metB M := ⟨_, rfl⟩
  obtain ⟨PO, hPO⟩ : ∃ P, P = TLPost M w := ⟨_, rfl⟩
  obtain ⟨n, hn⟩ : ∃ n, n = M.length := ⟨_, rfl⟩
  rw [← hPO]
  have hfin := hid (fun (b : Bool) (w' : World) (h : metB M = true → Four M → b = true) (e : Ext w w') => show PO (.returned (.tuple #[.bool b, .bool mb])) w' by rw [hPO, hmb]; exact ⟨b, rfl, h, e⟩)
  rw [← hn] at hn6 hR l1 hm' hD99 hFo ⊢
  replace hn := hid hn
  replace hPO := hid hPO
  go_enter Try.func9, Try.ntmps9
  go_upto_region 1 with fail
  have ea : Ext w (w.alloc (.cells #[.slice a1 n c1] 29)) := inferInstance
  have qa : (w.alloc (.cells #[.slice a1 n c1] 29)).cell? ⟨w.heap.size, 0, none⟩ = some (.slice a1 n c1) := by go_simp
  generalize w.alloc (.cells #[.slice a1 n c1] 29) = wa at *
  have e0a : Ext w0 wa := Ext.trans ‹Ext w0 w› ea
  cases mb with
  | false =>
    have hM := hid hmb.symm
    clear hmb
    go_wp2_with fail
    with_reducible refine (IsMetric_any (w0 := w0) hm').mono ?_
    rw [hM.out]
    rintro e w1 ⟨rfl, e1⟩
    have eF : Ext w w1 := Ext.trans ea e1
    go_wp2_with fail
    exact hfin.out false _ (fun h => by rw [hM.out] at h; cases h) eF
  | true =>
    have hM := hid hmb.symm
    clear hmb
    go_wp2_with fail
    with_reducible refine (IsMetric_any (w0 := w0) hm').mono ?_
    rw [hM.out]
    rintro e w1 ⟨rfl, e1⟩
    have q1 := e1.cell qa
    have e01 : Ext w0 w1 := Ext.trans e0a e1
    have ew1 : Ext w w1 := Ext.trans ea e1
    have hn7 := hn6.out hM.out
    have hRow := hid (fun x (hx : x < n) => met_cells hR hn.out hM.out hx)
    obtain ⟨bM, oM, _, _, _, ha1, _⟩ := hRow.out 0 (by omega)
    subst ha1
    clear e0a ea qa
    obtain ⟨N2, hN2⟩ : ∃ N2, N2 = n * n := ⟨_, rfl⟩
    obtain ⟨N3, hN3⟩ : ∃ N3, N3 = N2 * n := ⟨_, rfl⟩
    obtain ⟨N4, hN4⟩ : ∃ N4, N4 = N3 * n := ⟨_, rfl⟩
    have b2 : N2 ≤ 36 := by rw [hN2]; exact Nat.mul_le_mul hn7.2 hn7.2
    have b3 : N3 ≤ 216 := by rw [hN3]; exact Nat.mul_le_mul b2 hn7.2
    have b4 : N4 ≤ 1296 := by rw [hN4]; exact Nat.mul_le_mul b3 hn7.2
    have m2 : (n : Int) * (n : Int) = (N2 : Int) := by rw [hN2, Int.natCast_mul]
    have m3 : (N2 : Int) * (n : Int) = (N3 : Int) := by rw [hN3, Int.natCast_mul]
    have m4 : (N3 : Int) * (n : Int) = (N4 : Int) := by rw [hN4, Int.natCast_mul]
    replace hN2 := hid hN2
    replace hN3 := hid hN3
    replace hN4 := hid hN4
    go_upto_region 5 with fail
    go_loopw [24] (fun cv wr => ∃ c : Nat, cv = .int .i64 c ∧ c ≤ N4 ∧ Ext w1 wr) (fun cv _ => N4 - (intOf cv).toNat)
    case atStart => exact ⟨0, rfl, by omega, Ext.refl _⟩
    case round =>
      obtain ⟨c, rfl, hc, ew⟩ := hrel
      obtain ⟨wo, rfl⟩ : ∃ y : World, y = wr := ⟨_, rfl⟩
      have e0o : Ext w0 wo := Ext.trans e01 ew
      have qo := ew.cell q1
      by_cases hcl : c < N4
      · obtain ⟨x, hx⟩ : ∃ x, x = c % n := ⟨_, rfl⟩
        obtain ⟨d1, hd1⟩ : ∃ x, x = c / n := ⟨_, rfl⟩
        obtain ⟨y, hy⟩ : ∃ x, x = d1 % n := ⟨_, rfl⟩
        obtain ⟨d2, hd2⟩ : ∃ x, x = d1 / n := ⟨_, rfl⟩
        obtain ⟨z, hz⟩ : ∃ x, x = d2 % n := ⟨_, rfl⟩
        obtain ⟨u, hu⟩ : ∃ x, x = d2 / n := ⟨_, rfl⟩
        have hn0 : 0 < n := by omega
        have hxn : x < n := by rw [hx]; exact Nat.mod_lt _ hn0
        have hyn : y < n := by rw [hy]; exact Nat.mod_lt _ hn0
        have hzn : z < n := by rw [hz]; exact Nat.mod_lt _ hn0
        have hun : u < n := by
          rw [hu, Nat.div_lt_iff_lt_mul hn0, ← hN2.out, hd2, Nat.div_lt_iff_lt_mul hn0, ← hN3.out, hd1, Nat.div_lt_iff_lt_mul hn0, ← hN4.out]
          exact hcl
        have r1 : Int.tmod (c : Int) (n : Int) = (x : Int) := by rw [rem_at, hx]
        have r2 : Int.tdiv (c : Int) (n : Int) = (d1 : Int) := by rw [quo_at, hd1]
        have r3 : Int.tmod (d1 : Int) (n : Int) = (y : Int) := by rw [rem_at, hy]
        have r4 : Int.tdiv (d1 : Int) (n : Int) = (d2 : Int) := by rw [quo_at, hd2]
        have r5 : Int.tmod (d2 : Int) (n : Int) = (z : Int) := by rw [rem_at, hz]
        have r6 : Int.tdiv (d2 : Int) (n : Int) = (u : Int) := by rw [quo_at, hu]
        have hd1c : d1 ≤ 1296 := by rw [hd1]; exact Nat.le_trans (Nat.div_le_self _ _) (by omega)
        have hd2c : d2 ≤ 1296 := by rw [hd2]; exact Nat.le_trans (Nat.div_le_self _ _) hd1c
        replace hx := hid hx
        replace hd1 := hid hd1
        replace hy := hid hy
        replace hd2 := hid hd2
        replace hz := hid hz
        replace hu := hid hu
        have hn0b : ((n : Int) == 0) = false := beq_eq_false_iff_ne.2 (by omega)
        have hn0i : ¬ (n : Int) = 0 := by omega
        have hn0n : ¬ n = 0 := by omega
        go_upto_region 7 with fail
        refine wp_region_held_drew (S := fun u => True) (by kernel_rfl) trivial (fun hHeld0 => ?_)
        have ed : Ext wo wo.drew := inferInstance
        generalize wo.drew = wd at *
        refine wpAnyH_take (i := 0) (v := .int .i64 c) rfl (by kernel_rfl) (by kernel_rfl) (by kernel_rfl) (fun _ _ _ h => h) (Or.inl ⟨by rfl, by intro wx hx; go_simp⟩) (by assumption) ?_
        try simp only [List.getElem_toArray, List.getElem_cons_zero, Act.put, List.setIfInBounds_toArray, List.set_cons_zero, List.set_cons_succ]
        refine wpAnyH_take (i := 1) (v := .int .i64 n) rfl (by kernel_rfl) (by kernel_rfl) (by kernel_rfl) (fun _ _ _ h => h) (Or.inl ⟨by rfl, by intro wx hx; go_simp⟩) (by assumption) ?_
        try simp only [List.getElem_toArray, List.getElem_cons_succ, List.getElem_cons_zero, Act.put, List.setIfInBounds_toArray, List.set_cons_zero, List.set_cons_succ]
        refine wpAnyH_take (i := 2) (v := .int .i64 x) rfl (by kernel_rfl) (by kernel_rfl) (by kernel_rfl) (fun _ _ _ h => h) (Or.inl ⟨by rfl, by intro wx hx; go_simp⟩) (by assumption) ?_
        try simp only [List.getElem_toArray, List.getElem_cons_succ, List.getElem_cons_zero, Act.put, List.setIfInBounds_toArray, List.set_cons_zero, List.set_cons_succ]
        refine wpAnyH_take (i := 3) (v := .int .i64 c) rfl (by kernel_rfl) (by kernel_rfl) (by kernel_rfl) (fun _ _ _ h => h) (Or.inl ⟨by rfl, by intro wx hx; go_simp⟩) (by assumption) ?_
        try simp only [List.getElem_toArray, List.getElem_cons_succ, List.getElem_cons_zero, Act.put, List.setIfInBounds_toArray, List.set_cons_zero, List.set_cons_succ]
        refine wpAnyH_take (i := 4) (v := .int .i64 n) rfl (by kernel_rfl) (by kernel_rfl) (by kernel_rfl) (fun _ _ _ h => h) (Or.inl ⟨by rfl, by intro wx hx; go_simp⟩) (by assumption) ?_
        try simp only [List.getElem_toArray, List.getElem_cons_succ, List.getElem_cons_zero, Act.put, List.setIfInBounds_toArray, List.set_cons_zero, List.set_cons_succ]
        refine wpAnyH_take (i := 5) (v := .int .i64 d1) rfl (by kernel_rfl) (by kernel_rfl) (by kernel_rfl) (fun _ _ _ h => h) (Or.inl ⟨by rfl, by intro wx hx; go_simp <;> exact IntWalk.i64_in _ (by omega)⟩) (by assumption) ?_
        try simp only [List.getElem_toArray, List.getElem_cons_succ, List.getElem_cons_zero, Act.put, List.setIfInBounds_toArray, List.set_cons_zero, List.set_cons_succ]
        refine wpAnyH_take (i := 6) (v := .int .i64 n) rfl (by kernel_rfl) (by kernel_rfl) (by kernel_rfl) (fun _ _ _ h => h) (Or.inl ⟨by rfl, by intro wx hx; go_simp⟩) (by assumption) ?_
        try simp only [List.getElem_toArray, List.getElem_cons_succ, List.getElem_cons_zero, Act.put, List.setIfInBounds_toArray, List.set_cons_zero, List.set_cons_succ]
        refine wpAnyH_take (i := 7) (v := .int .i64 y) rfl (by kernel_rfl) (by kernel_rfl) (by kernel_rfl) (fun _ _ _ h => h) (Or.inl ⟨by rfl, by intro wx hx; go_simp⟩) (by assumption) ?_
        try simp only [List.getElem_toArray, List.getElem_cons_succ, List.getElem_cons_zero, Act.put, List.setIfInBounds_toArray, List.set_cons_zero, List.set_cons_succ]
        refine wpAnyH_take (i := 8) (v := .int .i64 c) rfl (by kernel_rfl) (by kernel_rfl) (by kernel_rfl) (fun _ _ _ h => h) (Or.inl ⟨by rfl, by intro wx hx; go_simp⟩) (by assumption) ?_
        try simp only [List.getElem_toArray, List.getElem_cons_succ, List.getElem_cons_zero, Act.put, List.setIfInBounds_toArray, List.set_cons_zero, List.set_cons_succ]
        refine wpAnyH_take (i := 9) (v := .int .i64 n) rfl (by kernel_rfl) (by kernel_rfl) (by kernel_rfl) (fun _ _ _ h => h) (Or.inl ⟨by rfl, by intro wx hx; go_simp⟩) (by assumption) ?_
        try simp only [List.getElem_toArray, List.getElem_cons_succ, List.getElem_cons_zero, Act.put, List.setIfInBounds_toArray, List.set_cons_zero, List.set_cons_succ]
        refine wpAnyH_take (i := 10) (v := .int .i64 d1) rfl (by kernel_rfl) (by kernel_rfl) (by kernel_rfl) (fun _ _ _ h => h) (Or.inl ⟨by rfl, by intro wx hx; go_simp <;> exact IntWalk.i64_in _ (by omega)⟩) (by assumption) ?_
        try simp only [List.getElem_toArray, List.getElem_cons_succ, List.getElem_cons_zero, Act.put, List.setIfInBounds_toArray, List.set_cons_zero, List.set_cons_succ]
        refine wpAnyH_take (i := 11) (v := .int .i64 n) rfl (by kernel_rfl) (by kernel_rfl) (by kernel_rfl) (fun _ _ _ h => h) (Or.inl ⟨by rfl, by intro wx hx; go_simp⟩) (by assumption) ?_
        try simp only [List.getElem_toArray, List.getElem_cons_succ, List.getElem_cons_zero, Act.put, List.setIfInBounds_toArray, List.set_cons_zero, List.set_cons_succ]
        refine wpAnyH_take (i := 12) (v := .int .i64 d2) rfl (by kernel_rfl) (by kernel_rfl) (by kernel_rfl) (fun _ _ _ h => h) (Or.inl ⟨by rfl, by intro wx hx; go_simp <;> exact IntWalk.i64_in _ (by omega)⟩) (by assumption) ?_
        try simp only [List.getElem_toArray, List.getElem_cons_succ, List.getElem_cons_zero, Act.put, List.setIfInBounds_toArray, List.set_cons_zero, List.set_cons_succ]
        refine wpAnyH_take (i := 13) (v := .int .i64 n) rfl (by kernel_rfl) (by kernel_rfl) (by kernel_rfl) (fun _ _ _ h => h) (Or.inl ⟨by rfl, by intro wx hx; go_simp⟩) (by assumption) ?_
        try simp only [List.getElem_toArray, List.getElem_cons_succ, List.getElem_cons_zero, Act.put, List.setIfInBounds_toArray, List.set_cons_zero, List.set_cons_succ]
        refine wpAnyH_take (i := 14) (v := .int .i64 z) rfl (by kernel_rfl) (by kernel_rfl) (by kernel_rfl) (fun _ _ _ h => h) (Or.inl ⟨by rfl, by intro wx hx; go_simp⟩) (by assumption) ?_
        try simp only [List.getElem_toArray, List.getElem_cons_succ, List.getElem_cons_zero, Act.put, List.setIfInBounds_toArray, List.set_cons_zero, List.set_cons_succ]
        refine wpAnyH_take (i := 15) (v := .int .i64 c) rfl (by kernel_rfl) (by kernel_rfl) (by kernel_rfl) (fun _ _ _ h => h) (Or.inl ⟨by rfl, by intro wx hx; go_simp⟩) (by assumption) ?_
        try simp only [List.getElem_toArray, List.getElem_cons_succ, List.getElem_cons_zero, Act.put, List.setIfInBounds_toArray, List.set_cons_zero, List.set_cons_succ]
        refine wpAnyH_take (i := 16) (v := .int .i64 n) rfl (by kernel_rfl) (by kernel_rfl) (by kernel_rfl) (fun _ _ _ h => h) (Or.inl ⟨by rfl, by intro wx hx; go_simp⟩) (by assumption) ?_
        try simp only [List.getElem_toArray, List.getElem_cons_succ, List.getElem_cons_zero, Act.put, List.setIfInBounds_toArray, List.set_cons_zero, List.set_cons_succ]
        refine wpAnyH_take (i := 17) (v := .int .i64 d1) rfl (by kernel_rfl) (by kernel_rfl) (by kernel_rfl) (fun _ _ _ h => h) (Or.inl ⟨by rfl, by intro wx hx; go_simp <;> exact IntWalk.i64_in _ (by omega)⟩) (by assumption) ?_
        try simp only [List.getElem_toArray, List.getElem_cons_succ, List.getElem_cons_zero, Act.put, List.setIfInBounds_toArray, List.set_cons_zero, List.set_cons_succ]
        refine wpAnyH_take (i := 18) (v := .int .i64 n) rfl (by kernel_rfl) (by kernel_rfl) (by kernel_rfl) (fun _ _ _ h => h) (Or.inl ⟨by rfl, by intro wx hx; go_simp⟩) (by assumption) ?_
        try simp only [List.getElem_toArray, List.getElem_cons_succ, List.getElem_cons_zero, Act.put, List.setIfInBounds_toArray, List.set_cons_zero, List.set_cons_succ]
        refine wpAnyH_take (i := 19) (v := .int .i64 d2) rfl (by kernel_rfl) (by kernel_rfl) (by kernel_rfl) (fun _ _ _ h => h) (Or.inl ⟨by rfl, by intro wx hx; go_simp <;> exact IntWalk.i64_in _ (by omega)⟩) (by assumption) ?_
        try simp only [List.getElem_toArray, List.getElem_cons_succ, List.getElem_cons_zero, Act.put, List.setIfInBounds_toArray, List.set_cons_zero, List.set_cons_succ]
        refine wpAnyH_take (i := 20) (v := .int .i64 n) rfl (by kernel_rfl) (by kernel_rfl) (by kernel_rfl) (fun _ _ _ h => h) (Or.inl ⟨by rfl, by intro wx hx; go_simp⟩) (by assumption) ?_
        try simp only [List.getElem_toArray, List.getElem_cons_succ, List.getElem_cons_zero, Act.put, List.setIfInBounds_toArray, List.set_cons_zero, List.set_cons_succ]
        refine wpAnyH_take (i := 21) (v := .int .i64 u) rfl (by kernel_rfl) (by kernel_rfl) (by kernel_rfl) (fun _ _ _ h => h) (Or.inl ⟨by rfl, by intro wx hx; go_simp <;> exact IntWalk.i64_in _ (by omega)⟩) (by assumption) ?_
        try simp only [List.getElem_toArray, List.getElem_cons_succ, List.getElem_cons_zero, Act.put, List.setIfInBounds_toArray, List.set_cons_zero, List.set_cons_succ]
        refine wpAnyH_take (i := 22) (v := .int .i64 x) rfl (by kernel_rfl) (by kernel_rfl) (by kernel_rfl) (fun _ _ _ h => h) (Or.inl ⟨by rfl, by intro wx hx; go_simp⟩) (by assumption) ?_
        try simp only [List.getElem_toArray, List.getElem_cons_succ, List.getElem_cons_zero, Act.put, List.setIfInBounds_toArray, List.set_cons_zero, List.set_cons_succ]
        refine wpAnyH_take (i := 23) (v := .int .i64 y) rfl (by kernel_rfl) (by kernel_rfl) (by kernel_rfl) (fun _ _ _ h => h) (Or.inl ⟨by rfl, by intro wx hx; go_simp⟩) (by assumption) ?_
        try simp only [List.getElem_toArray, List.getElem_cons_succ, List.getElem_cons_zero, Act.put, List.setIfInBounds_toArray, List.set_cons_zero, List.set_cons_succ]
        refine wpAnyH_take (i := 24) (v := .int .i64 z) rfl (by kernel_rfl) (by kernel_rfl) (by kernel_rfl) (fun _ _ _ h => h) (Or.inl ⟨by rfl, by intro wx hx; go_simp⟩) (by assumption) ?_
        try simp only [List.getElem_toArray, List.getElem_cons_succ, List.getElem_cons_zero, Act.put, List.setIfInBounds_toArray, List.set_cons_zero, List.set_cons_succ]
        refine wpAnyH_take (i := 25) (v := .int .i64 u) rfl (by kernel_rfl) (by kernel_rfl) (by kernel_rfl) (fun _ _ _ h => h) (Or.inl ⟨by rfl, by intro wx hx; go_simp⟩) (by assumption) ?_
        try simp only [List.getElem_toArray, List.getElem_cons_succ, List.getElem_cons_zero, Act.put, List.setIfInBounds_toArray, List.set_cons_zero, List.set_cons_succ]
        refine wpAnyH_done (by kernel_rfl) ?_ _
        obtain ⟨_, _, bx, ox, mx, ha, tx, _, vx⟩ := hRow.out x hxn
        cases ha
        obtain ⟨_, _, by_, oy, my, ha, ty, _, vy⟩ := hRow.out y hyn
        cases ha
        obtain ⟨_, _, bz, oz, mz, ha, tz, _, vz⟩ := hRow.out z hzn
        cases ha
        have e0d : Ext w0 wd := Ext.trans e0o ed
        have qd := ed.cell qo
        have ewd : Ext w1 wd := Ext.trans ew ed
        have g1 := tx wd e0d
        have g2 := ty wd e0d
        have g3 := tz wd e0d
        have k1 := vx y hyn wd e0d
        have k2 := vz u hun wd e0d
        have k3 := vx z hzn wd e0d
        have k4 := vy u hun wd e0d
        have k5 := vx u hun wd e0d
        have k6 := vy z hzn wd e0d
        have b1 := hD99.out hM.out x y hxn hyn
        have b2' := hD99.out hM.out z u hzn hun
        have b3' := hD99.out hM.out x z hxn hzn
        have b4' := hD99.out hM.out y u hyn hun
        have b5 := hD99.out hM.out x u hxn hun
        have b6 := hD99.out hM.out y z hyn hzn
        have hfs := hid (fun h => hFo.out hM.out h x y z u hxn hyn hzn hun)
        clear tx ty tz vx vy vz qo ew e0o r1 r2 r3 r4 r5 r6 hHeld0
        obtain ⟨p1, hp1⟩ : ∃ p, p = cell M x y := ⟨_, rfl⟩
        obtain ⟨p2, hp2⟩ : ∃ p, p = cell M z u := ⟨_, rfl⟩
        obtain ⟨p3, hp3⟩ : ∃ p, p = cell M x z := ⟨_, rfl⟩
        obtain ⟨p4, hp4⟩ : ∃ p, p = cell M y u := ⟨_, rfl⟩
        obtain ⟨p5, hp5⟩ : ∃ p, p = cell M x u := ⟨_, rfl⟩
        obtain ⟨p6, hp6⟩ : ∃ p, p = cell M y z := ⟨_, rfl⟩
        rw [← hp1] at k1 b1
        rw [← hp2] at k2 b2'
        rw [← hp3] at k3 b3'
        rw [← hp4] at k4 b4'
        rw [← hp5] at k5 b5
        rw [← hp6] at k6 b6
        rw [← hp1, ← hp2, ← hp3, ← hp4, ← hp5, ← hp6] at hfs
        clear hp1 hp2 hp3 hp4 hp5 hp6
        go_upto_region 8 with fail
        have e8 : Ext wd wd.drew := inferInstance
        have hSd : wd.drew.cell? ⟨w.heap.size, 0, none⟩ = some (.slice (some ⟨bM, oM, none⟩) n c1) ∧ wd.drew.cell? ⟨bM, oM + x, none⟩ = some (.slice (some ⟨bx, ox, none⟩) n mx) ∧ wd.drew.cell? ⟨bM, oM + y, none⟩ = some (.slice (some ⟨by_, oy, none⟩) n my) ∧ wd.drew.cell? ⟨bM, oM + z, none⟩ = some (.slice (some ⟨bz, oz, none⟩) n mz) ∧ wd.drew.cell? ⟨bx, ox + y, none⟩ = some (.int .i64 p1) ∧ wd.drew.cell? ⟨bz, oz + u, none⟩ = some (.int .i64 p2) ∧ wd.drew.cell? ⟨bx, ox + z, none⟩ = some (.int .i64 p3) ∧ wd.drew.cell? ⟨by_, oy + u, none⟩ = some (.int .i64 p4) ∧ wd.drew.cell? ⟨bx, ox + u, none⟩ = some (.int .i64 p5) ∧ wd.drew.cell? ⟨by_, oy + z, none⟩ = some (.int .i64 p6) := ⟨e8.cell qd, e8.cell g1, e8.cell g2, e8.cell g3, e8.cell k1, e8.cell k2, e8.cell k3, e8.cell k4, e8.cell k5, e8.cell k6⟩
        have ew8 : Ext w1 wd.drew := Ext.trans ewd e8
        clear qd g1 g2 g3 k1 k2 k3 k4 k5 k6
        refine wp_region_E_drew (X := fun i => i == 51 || i == 52) (S := fun q => q.cell? ⟨w.heap.size, 0, none⟩ = some (.slice (some ⟨bM, oM, none⟩) n c1) ∧ q.cell? ⟨bM, oM + x, none⟩ = some (.slice (some ⟨bx, ox, none⟩) n mx) ∧ q.cell? ⟨bM, oM + y, none⟩ = some (.slice (some ⟨by_, oy, none⟩) n my) ∧ q.cell? ⟨bM, oM + z, none⟩ = some (.slice (some ⟨bz, oz, none⟩) n mz) ∧ q.cell? ⟨bx, ox + y, none⟩ = some (.int .i64 p1) ∧ q.cell? ⟨bz, oz + u, none⟩ = some (.int .i64 p2) ∧ q.cell? ⟨bx, ox + z, none⟩ = some (.int .i64 p3) ∧ q.cell? ⟨by_, oy + u, none⟩ = some (.int .i64 p4) ∧ q.cell? ⟨bx, ox + u, none⟩ = some (.int .i64 p5) ∧ q.cell? ⟨by_, oy + z, none⟩ = some (.int .i64 p6)) (by kernel_rfl) hSd (fun hHeld0 => ?_)
        generalize wd.drew = we at *
        refine wpAnyE_takeT (i := 0) (v := .pointer (some ⟨w.heap.size, 0, none⟩)) rfl (by kernel_rfl) (by kernel_rfl) (by kernel_rfl) (fun _ _ _ h => h) (Or.inl ⟨by rfl, by intro wx hx; go_simp⟩) (by assumption) ?_
        try simp only [List.getElem_toArray, List.getElem_cons_zero, Act.put, List.setIfInBounds_toArray, List.set_cons_zero, List.set_cons_succ]
        refine wpAnyE_takeT (i := 1) (v := .slice (some ⟨bM, oM, none⟩) n c1) rfl (by kernel_rfl) (by kernel_rfl) (by kernel_rfl) (fun _ _ _ h => h) (Or.inl ⟨by rfl, by intro wx hx; obtain ⟨_, _, _, _, _, _, _, _, _, _⟩ := hx; go_simp⟩) (by assumption) ?_
        try simp only [List.getElem_toArray, List.getElem_cons_succ, List.getElem_cons_zero, Act.put, List.setIfInBounds_toArray, List.set_cons_zero, List.set_cons_succ]
        refine wpAnyE_takeT (i := 2) (v := .int .i64 x) rfl (by kernel_rfl) (by kernel_rfl) (by kernel_rfl) (fun _ _ _ h => h) (Or.inl ⟨by rfl, by intro wx hx; go_simp⟩) (by assumption) ?_
        try simp only [List.getElem_toArray, List.getElem_cons_succ, List.getElem_cons_zero, Act.put, List.setIfInBounds_toArray, List.set_cons_zero, List.set_cons_succ]
        refine wpAnyE_takeT (i := 3) (v := .pointer (some ⟨bM, oM + x, none⟩)) rfl (by kernel_rfl) (by kernel_rfl) (by kernel_rfl) (fun _ _ _ h => h) (Or.inl ⟨by rfl, by intro wx hx; go_simp⟩) (by assumption) ?_
        try simp only [List.getElem_toArray, List.getElem_cons_succ, List.getElem_cons_zero, Act.put, List.setIfInBounds_toArray, List.set_cons_zero, List.set_cons_succ]
        refine wpAnyE_takeT (i := 4) (v := .slice (some ⟨bx, ox, none⟩) n mx) rfl (by kernel_rfl) (by kernel_rfl) (by kernel_rfl) (fun _ _ _ h => h) (Or.inl ⟨by rfl, by intro wx hx; obtain ⟨_, _, _, _, _, _, _, _, _, _⟩ := hx; go_simp⟩) (by assumption) ?_
        try simp only [List.getElem_toArray, List.getElem_cons_succ, List.getElem_cons_zero, Act.put, List.setIfInBounds_toArray, List.set_cons_zero, List.set_cons_succ]
        refine wpAnyE_takeT (i := 5) (v := .int .i64 y) rfl (by kernel_rfl) (by kernel_rfl) (by kernel_rfl) (fun _ _ _ h => h) (Or.inl ⟨by rfl, by intro wx hx; go_simp⟩) (by assumption) ?_
        try simp only [List.getElem_toArray, List.getElem_cons_succ, List.getElem_cons_zero, Act.put, List.setIfInBounds_toArray, List.set_cons_zero, List.set_cons_succ]
        refine wpAnyE_takeT (i := 6) (v := .pointer (some ⟨bx, ox + y, none⟩)) rfl (by kernel_rfl) (by kernel_rfl) (by kernel_rfl) (fun _ _ _ h => h) (Or.inl ⟨by rfl, by intro wx hx; go_simp⟩) (by assumption) ?_
        try simp only [List.getElem_toArray, List.getElem_cons_succ, List.getElem_cons_zero, Act.put, List.setIfInBounds_toArray, List.set_cons_zero, List.set_cons_succ]
        refine wpAnyE_takeT (i := 7) (v := .int .i64 p1) rfl (by kernel_rfl) (by kernel_rfl) (by kernel_rfl) (fun _ _ _ h => h) (Or.inl ⟨by rfl, by intro wx hx; obtain ⟨_, _, _, _, _, _, _, _, _, _⟩ := hx; go_simp⟩) (by assumption) ?_
        try simp only [List.getElem_toArray, List.getElem_cons_succ, List.getElem_cons_zero, Act.put, List.setIfInBounds_toArray, List.set_cons_zero, List.set_cons_succ]
        refine wpAnyE_takeT (i := 8) (v := .pointer (some ⟨w.heap.size, 0, none⟩)) rfl (by kernel_rfl) (by kernel_rfl) (by kernel_rfl) (fun _ _ _ h => h) (Or.inl ⟨by rfl, by intro wx hx; go_simp⟩) (by assumption) ?_
        try simp only [List.getElem_toArray, List.getElem_cons_succ, List.getElem_cons_zero, Act.put, List.setIfInBounds_toArray, List.set_cons_zero, List.set_cons_succ]
        refine wpAnyE_takeT (i := 9) (v := .slice (some ⟨bM, oM, none⟩) n c1) rfl (by kernel_rfl) (by kernel_rfl) (by kernel_rfl) (fun _ _ _ h => h) (Or.inl ⟨by rfl, by intro wx hx; obtain ⟨_, _, _, _, _, _, _, _, _, _⟩ := hx; go_simp⟩) (by assumption) ?_
        try simp only [List.getElem_toArray, List.getElem_cons_succ, List.getElem_cons_zero, Act.put, List.setIfInBounds_toArray, List.set_cons_zero, List.set_cons_succ]
        refine wpAnyE_takeT (i := 10) (v := .int .i64 z) rfl (by kernel_rfl) (by kernel_rfl) (by kernel_rfl) (fun _ _ _ h => h) (Or.inl ⟨by rfl, by intro wx hx; go_simp⟩) (by assumption) ?_
        try simp only [List.getElem_toArray, List.getElem_cons_succ, List.getElem_cons_zero, Act.put, List.setIfInBounds_toArray, List.set_cons_zero, List.set_cons_succ]
        refine wpAnyE_takeT (i := 11) (v := .pointer (some ⟨bM, oM + z, none⟩)) rfl (by kernel_rfl) (by kernel_rfl) (by kernel_rfl) (fun _ _ _ h => h) (Or.inl ⟨by rfl, by intro wx hx; go_simp⟩) (by assumption) ?_
        try simp only [List.getElem_toArray, List.getElem_cons_succ, List.getElem_cons_zero, Act.put, List.setIfInBounds_toArray, List.set_cons_zero, List.set_cons_succ]
        refine wpAnyE_takeT (i := 12) (v := .slice (some ⟨bz, oz, none⟩) n mz) rfl (by kernel_rfl) (by kernel_rfl) (by kernel_rfl) (fun _ _ _ h => h) (Or.inl ⟨by rfl, by intro wx hx; obtain ⟨_, _, _, _, _, _, _, _, _, _⟩ := hx; go_simp⟩) (by assumption) ?_
        try simp only [List.getElem_toArray, List.getElem_cons_succ, List.getElem_cons_zero, Act.put, List.setIfInBounds_toArray, List.set_cons_zero, List.set_cons_succ]
        refine wpAnyE_takeT (i := 13) (v := .int .i64 u) rfl (by kernel_rfl) (by kernel_rfl) (by kernel_rfl) (fun _ _ _ h => h) (Or.inl ⟨by rfl, by intro wx hx; go_simp⟩) (by assumption) ?_
        try simp only [List.getElem_toArray, List.getElem_cons_succ, List.getElem_cons_zero, Act.put, List.setIfInBounds_toArray, List.set_cons_zero, List.set_cons_succ]
        refine wpAnyE_takeT (i := 14) (v := .pointer (some ⟨bz, oz + u, none⟩)) rfl (by kernel_rfl) (by kernel_rfl) (by kernel_rfl) (fun _ _ _ h => h) (Or.inl ⟨by rfl, by intro wx hx; go_simp⟩) (by assumption) ?_
        try simp only [List.getElem_toArray, List.getElem_cons_succ, List.getElem_cons_zero, Act.put, List.setIfInBounds_toArray, List.set_cons_zero, List.set_cons_succ]
        refine wpAnyE_takeT (i := 15) (v := .int .i64 p2) rfl (by kernel_rfl) (by kernel_rfl) (by kernel_rfl) (fun _ _ _ h => h) (Or.inl ⟨by rfl, by intro wx hx; obtain ⟨_, _, _, _, _, _, _, _, _, _⟩ := hx; go_simp⟩) (by assumption) ?_
        try simp only [List.getElem_toArray, List.getElem_cons_succ, List.getElem_cons_zero, Act.put, List.setIfInBounds_toArray, List.set_cons_zero, List.set_cons_succ]
        refine wpAnyE_takeT (i := 16) (v := .int .i64 (p1 + p2)) rfl (by kernel_rfl) (by kernel_rfl) (by kernel_rfl) (fun _ _ _ h => h) (Or.inl ⟨by rfl, by intro wx hx; go_simp <;> exact IntWalk.i64_in _ (by omega)⟩) (by assumption) ?_
        try simp only [List.getElem_toArray, List.getElem_cons_succ, List.getElem_cons_zero, Act.put, List.setIfInBounds_toArray, List.set_cons_zero, List.set_cons_succ]
        refine wpAnyE_takeT (i := 17) (v := .pointer (some ⟨w.heap.size, 0, none⟩)) rfl (by kernel_rfl) (by kernel_rfl) (by kernel_rfl) (fun _ _ _ h => h) (Or.inl ⟨by rfl, by intro wx hx; go_simp⟩) (by assumption) ?_
        try simp only [List.getElem_toArray, List.getElem_cons_succ, List.getElem_cons_zero, Act.put, List.setIfInBounds_toArray, List.set_cons_zero, List.set_cons_succ]
        refine wpAnyE_takeT (i := 18) (v := .slice (some ⟨bM, oM, none⟩) n c1) rfl (by kernel_rfl) (by kernel_rfl) (by kernel_rfl) (fun _ _ _ h => h) (Or.inl ⟨by rfl, by intro wx hx; obtain ⟨_, _, _, _, _, _, _, _, _, _⟩ := hx; go_simp⟩) (by assumption) ?_
        try simp only [List.getElem_toArray, List.getElem_cons_succ, List.getElem_cons_zero, Act.put, List.setIfInBounds_toArray, List.set_cons_zero, List.set_cons_succ]
        refine wpAnyE_takeT (i := 19) (v := .int .i64 x) rfl (by kernel_rfl) (by kernel_rfl) (by kernel_rfl) (fun _ _ _ h => h) (Or.inl ⟨by rfl, by intro wx hx; go_simp⟩) (by assumption) ?_
        try simp only [List.getElem_toArray, List.getElem_cons_succ, List.getElem_cons_zero, Act.put, List.setIfInBounds_toArray, List.set_cons_zero, List.set_cons_succ]
        refine wpAnyE_takeT (i := 20) (v := .pointer (some ⟨bM, oM + x, none⟩)) rfl (by kernel_rfl) (by kernel_rfl) (by kernel_rfl) (fun _ _ _ h => h) (Or.inl ⟨by rfl, by intro wx hx; go_simp⟩) (by assumption) ?_
        try simp only [List.getElem_toArray, List.getElem_cons_succ, List.getElem_cons_zero, Act.put, List.setIfInBounds_toArray, List.set_cons_zero, List.set_cons_succ]
        refine wpAnyE_takeT (i := 21) (v := .slice (some ⟨bx, ox, none⟩) n mx) rfl (by kernel_rfl) (by kernel_rfl) (by kernel_rfl) (fun _ _ _ h => h) (Or.inl ⟨by rfl, by intro wx hx; obtain ⟨_, _, _, _, _, _, _, _, _, _⟩ := hx; go_simp⟩) (by assumption) ?_
        try simp only [List.getElem_toArray, List.getElem_cons_succ, List.getElem_cons_zero, Act.put, List.setIfInBounds_toArray, List.set_cons_zero, List.set_cons_succ]
        refine wpAnyE_takeT (i := 22) (v := .int .i64 z) rfl (by kernel_rfl) (by kernel_rfl) (by kernel_rfl) (fun _ _ _ h => h) (Or.inl ⟨by rfl, by intro wx hx; go_simp⟩) (by assumption) ?_
        try simp only [List.getElem_toArray, List.getElem_cons_succ, List.getElem_cons_zero, Act.put, List.setIfInBounds_toArray, List.set_cons_zero, List.set_cons_succ]
        refine wpAnyE_takeT (i := 23) (v := .pointer (some ⟨bx, ox + z, none⟩)) rfl (by kernel_rfl) (by kernel_rfl) (by kernel_rfl) (fun _ _ _ h => h) (Or.inl ⟨by rfl, by intro wx hx; go_simp⟩) (by assumption) ?_
        try simp only [List.getElem_toArray, List.getElem_cons_succ, List.getElem_cons_zero, Act.put, List.setIfInBounds_toArray, List.set_cons_zero, List.set_cons_succ]
        refine wpAnyE_takeT (i := 24) (v := .int .i64 p3) rfl (by kernel_rfl) (by kernel_rfl) (by kernel_rfl) (fun _ _ _ h => h) (Or.inl ⟨by rfl, by intro wx hx; obtain ⟨_, _, _, _, _, _, _, _, _, _⟩ := hx; go_simp⟩) (by assumption) ?_
        try simp only [List.getElem_toArray, List.getElem_cons_succ, List.getElem_cons_zero, Act.put, List.setIfInBounds_toArray, List.set_cons_zero, List.set_cons_succ]
        refine wpAnyE_takeT (i := 25) (v := .pointer (some ⟨w.heap.size, 0, none⟩)) rfl (by kernel_rfl) (by kernel_rfl) (by kernel_rfl) (fun _ _ _ h => h) (Or.inl ⟨by rfl, by intro wx hx; go_simp⟩) (by assumption) ?_
        try simp only [List.getElem_toArray, List.getElem_cons_succ, List.getElem_cons_zero, Act.put, List.setIfInBounds_toArray, List.set_cons_zero, List.set_cons_succ]
        refine wpAnyE_takeT (i := 26) (v := .slice (some ⟨bM, oM, none⟩) n c1) rfl (by kernel_rfl) (by kernel_rfl) (by kernel_rfl) (fun _ _ _ h => h) (Or.inl ⟨by rfl, by intro wx hx; obtain ⟨_, _, _, _, _, _, _, _, _, _⟩ := hx; go_simp⟩) (by assumption) ?_
        try simp only [List.getElem_toArray, List.getElem_cons_succ, List.getElem_cons_zero, Act.put, List.setIfInBounds_toArray, List.set_cons_zero, List.set_cons_succ]
        refine wpAnyE_takeT (i := 27) (v := .int .i64 y) rfl (by kernel_rfl) (by kernel_rfl) (by kernel_rfl) (fun _ _ _ h => h) (Or.inl ⟨by rfl, by intro wx hx; go_simp⟩) (by assumption) ?_
        try simp only [List.getElem_toArray, List.getElem_cons_succ, List.getElem_cons_zero, Act.put, List.setIfInBounds_toArray, List.set_cons_zero, List.set_cons_succ]
        refine wpAnyE_takeT (i := 28) (v := .pointer (some ⟨bM, oM + y, none⟩)) rfl (by kernel_rfl) (by kernel_rfl) (by kernel_rfl) (fun _ _ _ h => h) (Or.inl ⟨by rfl, by intro wx hx; go_simp⟩) (by assumption) ?_
        try simp only [List.getElem_toArray, List.getElem_cons_succ, List.getElem_cons_zero, Act.put, List.setIfInBounds_toArray, List.set_cons_zero, List.set_cons_succ]
        refine wpAnyE_takeT (i := 29) (v := .slice (some ⟨by_, oy, none⟩) n my) rfl (by kernel_rfl) (by kernel_rfl) (by kernel_rfl) (fun _ _ _ h => h) (Or.inl ⟨by rfl, by intro wx hx; obtain ⟨_, _, _, _, _, _, _, _, _, _⟩ := hx; go_simp⟩) (by assumption) ?_
        try simp only [List.getElem_toArray, List.getElem_cons_succ, List.getElem_cons_zero, Act.put, List.setIfInBounds_toArray, List.set_cons_zero, List.set_cons_succ]
        refine wpAnyE_takeT (i := 30) (v := .int .i64 u) rfl (by kernel_rfl) (by kernel_rfl) (by kernel_rfl) (fun _ _ _ h => h) (Or.inl ⟨by rfl, by intro wx hx; go_simp⟩) (by assumption) ?_
        try simp only [List.getElem_toArray, List.getElem_cons_succ, List.getElem_cons_zero, Act.put, List.setIfInBounds_toArray, List.set_cons_zero, List.set_cons_succ]
        refine wpAnyE_takeT (i := 31) (v := .pointer (some ⟨by_, oy + u, none⟩)) rfl (by kernel_rfl) (by kernel_rfl) (by kernel_rfl) (fun _ _ _ h => h) (Or.inl ⟨by rfl, by intro wx hx; go_simp⟩) (by assumption) ?_
        try simp only [List.getElem_toArray, List.getElem_cons_succ, List.getElem_cons_zero, Act.put, List.setIfInBounds_toArray, List.set_cons_zero, List.set_cons_succ]
        refine wpAnyE_takeT (i := 32) (v := .int .i64 p4) rfl (by kernel_rfl) (by kernel_rfl) (by kernel_rfl) (fun _ _ _ h => h) (Or.inl ⟨by rfl, by intro wx hx; obtain ⟨_, _, _, _, _, _, _, _, _, _⟩ := hx; go_simp⟩) (by assumption) ?_
        try simp only [List.getElem_toArray, List.getElem_cons_succ, List.getElem_cons_zero, Act.put, List.setIfInBounds_toArray, List.set_cons_zero, List.set_cons_succ]
        refine wpAnyE_takeT (i := 33) (v := .int .i64 (p3 + p4)) rfl (by kernel_rfl) (by kernel_rfl) (by kernel_rfl) (fun _ _ _ h => h) (Or.inl ⟨by rfl, by intro wx hx; go_simp <;> exact IntWalk.i64_in _ (by omega)⟩) (by assumption) ?_
        try simp only [List.getElem_toArray, List.getElem_cons_succ, List.getElem_cons_zero, Act.put, List.setIfInBounds_toArray, List.set_cons_zero, List.set_cons_succ]
        refine wpAnyE_takeT (i := 34) (v := .pointer (some ⟨w.heap.size, 0, none⟩)) rfl (by kernel_rfl) (by kernel_rfl) (by kernel_rfl) (fun _ _ _ h => h) (Or.inl ⟨by rfl, by intro wx hx; go_simp⟩) (by assumption) ?_
        try simp only [List.getElem_toArray, List.getElem_cons_succ, List.getElem_cons_zero, Act.put, List.setIfInBounds_toArray, List.set_cons_zero, List.set_cons_succ]
        refine wpAnyE_takeT (i := 35) (v := .slice (some ⟨bM, oM, none⟩) n c1) rfl (by kernel_rfl) (by kernel_rfl) (by kernel_rfl) (fun _ _ _ h => h) (Or.inl ⟨by rfl, by intro wx hx; obtain ⟨_, _, _, _, _, _, _, _, _, _⟩ := hx; go_simp⟩) (by assumption) ?_
        try simp only [List.getElem_toArray, List.getElem_cons_succ, List.getElem_cons_zero, Act.put, List.setIfInBounds_toArray, List.set_cons_zero, List.set_cons_succ]
        refine wpAnyE_takeT (i := 36) (v := .int .i64 x) rfl (by kernel_rfl) (by kernel_rfl) (by kernel_rfl) (fun _ _ _ h => h) (Or.inl ⟨by rfl, by intro wx hx; go_simp⟩) (by assumption) ?_
        try simp only [List.getElem_toArray, List.getElem_cons_succ, List.getElem_cons_zero, Act.put, List.setIfInBounds_toArray, List.set_cons_zero, List.set_cons_succ]
        refine wpAnyE_takeT (i := 37) (v := .pointer (some ⟨bM, oM + x, none⟩)) rfl (by kernel_rfl) (by kernel_rfl) (by kernel_rfl) (fun _ _ _ h => h) (Or.inl ⟨by rfl, by intro wx hx; go_simp⟩) (by assumption) ?_
        try simp only [List.getElem_toArray, List.getElem_cons_succ, List.getElem_cons_zero, Act.put, List.setIfInBounds_toArray, List.set_cons_zero, List.set_cons_succ]
        refine wpAnyE_takeT (i := 38) (v := .slice (some ⟨bx, ox, none⟩) n mx) rfl (by kernel_rfl) (by kernel_rfl) (by kernel_rfl) (fun _ _ _ h => h) (Or.inl ⟨by rfl, by intro wx hx; obtain ⟨_, _, _, _, _, _, _, _, _, _⟩ := hx; go_simp⟩) (by assumption) ?_
        try simp only [List.getElem_toArray, List.getElem_cons_succ, List.getElem_cons_zero, Act.put, List.setIfInBounds_toArray, List.set_cons_zero, List.set_cons_succ]
        refine wpAnyE_takeT (i := 39) (v := .int .i64 u) rfl (by kernel_rfl) (by kernel_rfl) (by kernel_rfl) (fun _ _ _ h => h) (Or.inl ⟨by rfl, by intro wx hx; go_simp⟩) (by assumption) ?_
        try simp only [List.getElem_toArray, List.getElem_cons_succ, List.getElem_cons_zero, Act.put, List.setIfInBounds_toArray, List.set_cons_zero, List.set_cons_succ]
        refine wpAnyE_takeT (i := 40) (v := .pointer (some ⟨bx, ox + u, none⟩)) rfl (by kernel_rfl) (by kernel_rfl) (by kernel_rfl) (fun _ _ _ h => h) (Or.inl ⟨by rfl, by intro wx hx; go_simp⟩) (by assumption) ?_
        try simp only [List.getElem_toArray, List.getElem_cons_succ, List.getElem_cons_zero, Act.put, List.setIfInBounds_toArray, List.set_cons_zero, List.set_cons_succ]
        refine wpAnyE_takeT (i := 41) (v := .int .i64 p5) rfl (by kernel_rfl) (by kernel_rfl) (by kernel_rfl) (fun _ _ _ h => h) (Or.inl ⟨by rfl, by intro wx hx; obtain ⟨_, _, _, _, _, _, _, _, _, _⟩ := hx; go_simp⟩) (by assumption) ?_
        try simp only [List.getElem_toArray, List.getElem_cons_succ, List.getElem_cons_zero, Act.put, List.setIfInBounds_toArray, List.set_cons_zero, List.set_cons_succ]
        refine wpAnyE_takeT (i := 42) (v := .pointer (some ⟨w.heap.size, 0, none⟩)) rfl (by kernel_rfl) (by kernel_rfl) (by kernel_rfl) (fun _ _ _ h => h) (Or.inl ⟨by rfl, by intro wx hx; go_simp⟩) (by assumption) ?_
        try simp only [List.getElem_toArray, List.getElem_cons_succ, List.getElem_cons_zero, Act.put, List.setIfInBounds_toArray, List.set_cons_zero, List.set_cons_succ]
        refine wpAnyE_takeT (i := 43) (v := .slice (some ⟨bM, oM, none⟩) n c1) rfl (by kernel_rfl) (by kernel_rfl) (by kernel_rfl) (fun _ _ _ h => h) (Or.inl ⟨by rfl, by intro wx hx; obtain ⟨_, _, _, _, _, _, _, _, _, _⟩ := hx; go_simp⟩) (by assumption) ?_
        try simp only [List.getElem_toArray, List.getElem_cons_succ, List.getElem_cons_zero, Act.put, List.setIfInBounds_toArray, List.set_cons_zero, List.set_cons_succ]
        refine wpAnyE_takeT (i := 44) (v := .int .i64 y) rfl (by kernel_rfl) (by kernel_rfl) (by kernel_rfl) (fun _ _ _ h => h) (Or.inl ⟨by rfl, by intro wx hx; go_simp⟩) (by assumption) ?_
        try simp only [List.getElem_toArray, List.getElem_cons_succ, List.getElem_cons_zero, Act.put, List.setIfInBounds_toArray, List.set_cons_zero, List.set_cons_succ]
        refine wpAnyE_takeT (i := 45) (v := .pointer (some ⟨bM, oM + y, none⟩)) rfl (by kernel_rfl) (by kernel_rfl) (by kernel_rfl) (fun _ _ _ h => h) (Or.inl ⟨by rfl, by intro wx hx; go_simp⟩) (by assumption) ?_
        try simp only [List.getElem_toArray, List.getElem_cons_succ, List.getElem_cons_zero, Act.put, List.setIfInBounds_toArray, List.set_cons_zero, List.set_cons_succ]
        refine wpAnyE_takeT (i := 46) (v := .slice (some ⟨by_, oy, none⟩) n my) rfl (by kernel_rfl) (by kernel_rfl) (by kernel_rfl) (fun _ _ _ h => h) (Or.inl ⟨by rfl, by intro wx hx; obtain ⟨_, _, _, _, _, _, _, _, _, _⟩ := hx; go_simp⟩) (by assumption) ?_
        try simp only [List.getElem_toArray, List.getElem_cons_succ, List.getElem_cons_zero, Act.put, List.setIfInBounds_toArray, List.set_cons_zero, List.set_cons_succ]
        refine wpAnyE_takeT (i := 47) (v := .int .i64 z) rfl (by kernel_rfl) (by kernel_rfl) (by kernel_rfl) (fun _ _ _ h => h) (Or.inl ⟨by rfl, by intro wx hx; go_simp⟩) (by assumption) ?_
        try simp only [List.getElem_toArray, List.getElem_cons_succ, List.getElem_cons_zero, Act.put, List.setIfInBounds_toArray, List.set_cons_zero, List.set_cons_succ]
        refine wpAnyE_takeT (i := 48) (v := .pointer (some ⟨by_, oy + z, none⟩)) rfl (by kernel_rfl) (by kernel_rfl) (by kernel_rfl) (fun _ _ _ h => h) (Or.inl ⟨by rfl, by intro wx hx; go_simp⟩) (by assumption) ?_
        try simp only [List.getElem_toArray, List.getElem_cons_succ, List.getElem_cons_zero, Act.put, List.setIfInBounds_toArray, List.set_cons_zero, List.set_cons_succ]
        refine wpAnyE_takeT (i := 49) (v := .int .i64 p6) rfl (by kernel_rfl) (by kernel_rfl) (by kernel_rfl) (fun _ _ _ h => h) (Or.inl ⟨by rfl, by intro wx hx; obtain ⟨_, _, _, _, _, _, _, _, _, _⟩ := hx; go_simp⟩) (by assumption) ?_
        try simp only [List.getElem_toArray, List.getElem_cons_succ, List.getElem_cons_zero, Act.put, List.setIfInBounds_toArray, List.set_cons_zero, List.set_cons_succ]
        refine wpAnyE_takeT (i := 50) (v := .int .i64 (p5 + p6)) rfl (by kernel_rfl) (by kernel_rfl) (by kernel_rfl) (fun _ _ _ h => h) (Or.inl ⟨by rfl, by intro wx hx; go_simp <;> exact IntWalk.i64_in _ (by omega)⟩) (by assumption) ?_
        try simp only [List.getElem_toArray, List.getElem_cons_succ, List.getElem_cons_zero, Act.put, List.setIfInBounds_toArray, List.set_cons_zero, List.set_cons_succ]
        refine wpAnyE_ready (rs := [51]) (by kernel_rfl) (by simp) ?_
        refine AllReadyE.cons rfl (fun K hK => ?_) AllReadyE.nil
        go_simp
        have own1 : Own (we.alloc (.cells #[.int .i64 (p1 + p2), .int .i64 (p3 + p4), .int .i64 (p5 + p6)] 3)) we.heap.size [intRowOf 3 (.slice (some ⟨we.heap.size, 0, none⟩) 3 3) [p1 + p2, p3 + p4, p5 + p6]] :=
          Own.litInts (W := we) (B := we.heap.size) (e := 3) (cs := #[.int .i64 (p1 + p2), .int .i64 (p3 + p4), .int .i64 (p5 + p6)]) (xs := [p1 + p2, p3 + p4, p5 + p6]) (Nat.le_refl _) rfl rfl (by simp) (n := 3) rfl
        have e9 : Ext we (we.alloc (.cells #[.int .i64 (p1 + p2), .int .i64 (p3 + p4), .int .i64 (p5 + p6)] 3)) := inferInstance
        refine hK.out _ _ (.inl rfl) (fun _ => ?_)
        clear hK K
        try simp only [List.getElem_toArray, List.getElem_cons_succ, List.getElem_cons_zero, Act.put, List.setIfInBounds_toArray, List.set_cons_zero, List.set_cons_succ]
        refine wpAnyE_ready (rs := [52]) (by kernel_rfl) (by simp) ?_
        refine AllReadyE.cons rfl (fun K hK => ?_) AllReadyE.nil
        go_simp
        refine hK.out _ _ (.inl rfl) (fun _ => ?_)
        clear hK K
        try simp only [List.getElem_toArray, List.getElem_cons_succ, List.getElem_cons_zero, Act.put, List.setIfInBounds_toArray, List.set_cons_zero, List.set_cons_succ]
        refine wpAnyE_done (by kernel_rfl) ?_ _
        generalize we.alloc (.cells #[.int .i64 (p1 + p2), .int .i64 (p3 + p4), .int .i64 (p5 + p6)] 3) = wf at *
        obtain ⟨g, hg⟩ : ∃ g, g = we.heap.size := ⟨_, rfl⟩
        rw [← hg] at own1 ⊢
        have hgf : g ≤ wf.heap.size := by rw [hg]; exact e9.size
        have hxi : ∀ q ∈ sortL [p1 + p2, p3 + p4, p5 + p6], 0 ≤ q ∧ q ≤ 198 := fun q hq => by
          have := (sortL_perm [p1 + p2, p3 + p4, p5 + p6]).mem_iff.1 hq
          simp only [List.mem_cons, List.not_mem_nil, or_false] at this
          rcases this with rfl | rfl | rfl <;> omega
        have hsl := sortL_len [p1 + p2, p3 + p4, p5 + p6]
        have hSo := hid (sort_any own1 hgf (by simp))
        have hEx := hid (show ∀ u, Below g wf u → Ext w1 u from fun u h => ⟨(Ext.trans ew8 e9).below.trans (h.mono (by rw [hg]; exact ew8.size))⟩)
        obtain ⟨s, hs⟩ : ∃ s, s = sortL [p1 + p2, p3 + p4, p5 + p6] := ⟨_, rfl⟩
        rw [← hs] at hSo hxi hsl hfs
        replace hg := hid hg
        replace hs := hid hs
        have hsl3 : s.length = 3 := hsl
        clear own1 ew8 hHeld0 hSd ewd
        go_wp2_with fail
        with_reducible refine hSo.out.mono ?_
        rintro e wg ⟨rfl, own2, b2⟩
        have eg := hEx.out wg b2
        have hI := own2.reads (by rw [hsl3]; unfold Short; omega) (fun q hq => by have := hxi q hq; unfold I64; omega)
        obtain ⟨b', o', h1, c1'⟩ := hI.at (w' := wg) (k := 1) (by omega)
        cases h1
        obtain ⟨b', o', h1, c2'⟩ := hI.at (w' := wg) (k := 2) (by omega)
        cases h1
        simp only [Nat.zero_add] at c1' c2'
        have hne := hid (fun (h : nth s 1 ≠ nth s 2) => show metB M = true → Four M → false = true from fun _ hf => absurd (hfs.out hf) h)
        generalize nth s 1 = s1 at *
        generalize nth s 2 = s2 at *
        clear hI own2 b2 hSo hfs
        by_cases heq : s1 = s2
        · subst heq
          have eF : ∀ k, Ext w1 (wg.drewN k) := fun k => Ext.trans eg inferInstance
          go_wp2_with (go_quiet (fail))
          go_roundw
          case rel => exact ⟨c + 1, by go_num, by omega, eF _⟩
          case measure => simp [intOf]; omega
        · have hb : (s1 == s2) = false := beq_eq_false_iff_ne.2 heq
          have hff := hid (hne.out heq)
          have eF : ∀ k, Ext w (wg.drewN k) := fun k => Ext.trans (Ext.trans ew1 eg) inferInstance
          go_wp2_with (go_quiet (fail))
          exact hfin.out false _ hff.out (eF _)
      · have eF : Ext w wo := Ext.trans ew1 ew
        go_wp2_with fail
        exact hfin.out true _ (fun _ _ => rfl) eF
end Go.Proofs.Ytnlbjbnjjkilhaa
