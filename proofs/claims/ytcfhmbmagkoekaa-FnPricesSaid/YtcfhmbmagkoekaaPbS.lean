/- The bound of prices: PriceBound of the reference. -/
import Derived.Test.YtcfhmbmagkoekaaPbI
import Derived.Test.YtcfhmbmagkoekaaChS
import Derived.Test.YtcfhmbmagkoekaaGrK
namespace Go.Proofs.Ytcfhmbmagkoekaa
open Go.RowKit

theorem rnt_none {M : List (List Int)} {a X P : List Int} {l : Nat} : ∀ {i : Nat}, i ≤ l + 1 - a.length → rnt M a X P l i = 0
  | 0, _ => rfl
  | i + 1, h => by
    have h1 := rnt_none (M := M) (a := a) (X := X) (P := P) (l := l) (i := i) (by omega)
    unfold rnt at *
    simp only [rentOf]
    rw [if_neg (by unfold alB; simp; omega), h1]
set_option maxHeartbeats 1600000 in
set_option maxRecDepth 100000 in
theorem l7Rent_any {v va vX vP : Value} {M : List (List Int)} {a X P : List Int} {l : Nat} {w0 w : World} [Ext w0 w] (hm : IsMet w0 v M) (ha : IsInts w0 va a) (hXi : IsInts w0 vX X) (hp : IsInts w0 vP P) (hs : srvB M a X = true) (hP : belowB 100000 P = true) (hlen : P.length = X.length) (hll : l < a.length + X.length) :
    Calls Try.prog 62 #[v, va, vX, vP, .int .i64 l] w fun e w' => e = .returned (.int .i64 (rnt M a X P l X.length)) ∧ Ext w w' := by
  have hm' := hm
  have ha' := ha
  have hX' := hXi
  obtain ⟨v1, rfl, hR⟩ := hm
  obtain ⟨a1, c1, rfl, l1⟩ := hR.form
  have hp' := hp
  obtain ⟨dp, mp, rfl, lp⟩ := hp.form
  obtain ⟨da, ma, rfl, la⟩ := ha.form
  obtain ⟨dx, mx, rfl, lx⟩ := hXi.form
  obtain ⟨hM, hal, hab, hXb, hXl⟩ := srv_pts hs
  have hB3 := hid (fun (i : Nat) (hi : i ≤ X.length) => rnt_bd hs hP hlen hll hi)
  have hB4 := hid (fun (i : Nat) (hi : i < X.length) => rnt_step hs hP hlen hll hi)
  have hB5 := hid (fun (k : Nat) (h : k < P.length) => belowB_at hP h)
  have hcb := hid (fun (i : Nat) (hi : i < X.length) => flC_bd hM hab hXb (i := i) (k := l) hi hll)
  have hz0 := hid (rnt_none (M := M) (a := a) (X := X) (P := P) (l := l) (i := l + 1 - a.length) (Nat.le_refl _))
  have hlen2 : P.length ≤ X.length ∧ X.length ≤ P.length := by omega
  replace hM := hid hM
  replace hab := hid hab
  replace hXb := hid hXb
  replace hs := hid hs
  replace hP := hid hP
  replace hlen := hid hlen
  go_enter Try.func62, Try.ntmps62
  go_upto_region 1 with fail
  have e1 : Ext w (w.alloc (.cells #[.slice a1 M.length c1] 29)) := inferInstance
  have x0 : (w.alloc (.cells #[.slice a1 M.length c1] 29)).cell? ⟨w.heap.size, 0, none⟩ = some (.slice a1 M.length c1) := by go_simp
  obtain ⟨bx, hbx⟩ : ∃ q, q = w.heap.size := ⟨_, rfl⟩
  rw [← hbx] at x0 ⊢
  generalize w.alloc (.cells #[.slice a1 M.length c1] 29) = w1 at *
  replace hbx := hid hbx
  obtain ⟨i0, hi0⟩ : ∃ i, i = l + 1 - a.length := ⟨_, rfl⟩
  rw [← hi0] at hz0
  have hi0b : i0 ≤ X.length ∧ l < a.length + i0 ∧ (max 0 ((l : Int) - a.length + 1)) = (i0 : Int) := by omega
  have hmx := hid hi0b.2.2
  replace hi0 := hid hi0
  go_wp2_with fail
  refine (l1Most_any _ _ _).mono ?_
  rw [hmx.out]
  rintro e w2 ⟨rfl, rfl⟩
  obtain ⟨hi1, hi2, _⟩ := hi0b
  go_wp2_with fail
  go_loopw [11, 12] (fun s q wr => ∃ i : Nat, i0 ≤ i ∧ i ≤ X.length ∧ q = .int .i64 i ∧ s = .int .i64 (rnt M a X P l i) ∧ Ext w1 wr) (fun _ q _ => X.length - (intOf q).toNat)
  case atStart => exact ⟨i0, by omega, by omega, rfl, by rw [hz0.out], Ext.refl _⟩
  case round =>
    obtain ⟨i, hi0', hi, rfl, rfl, he⟩ := hrel
    obtain ⟨wo, rfl⟩ : ∃ y : World, y = wr := ⟨_, rfl⟩
    have ew : Ext w wo := Ext.trans e1 he
    have e0 : Ext w0 wo := Ext.trans ‹Ext w0 w› ew
    have hb3 := hB3.out i hi
    by_cases hlt : i < X.length
    · have hPi : i < P.length := by omega
      obtain ⟨bb, ob, hdb, hcb2⟩ := hp'.at (w' := wo) hPi
      cases hdb
      have b5 := hB5.out i hPi
      have hst := hid (hB4.out i hlt)
      have hcv := hcb.out i hlt
      obtain ⟨y, hy⟩ : ∃ y, y = nth P i := ⟨_, rfl⟩
      obtain ⟨S, hS⟩ : ∃ s, s = rnt M a X P l i := ⟨_, rfl⟩
      rw [← hy] at hcb2 b5
      rw [← hS] at hb3 ⊢
      have hst2 := hid (show rnt M a X P l (i + 1) = max S (y - flC M a X i l) by rw [hst.out, ← hS, ← hy])
      replace hy := hid hy
      replace hS := hid hS
      clear hst
      go_upto_region 5 with fail
      have hSx := hid (show ∀ u, Ext wo u → u.cell? ⟨bx, 0, none⟩ = some (.slice a1 M.length c1) ∧ u.cell? ⟨bb, ob + i, none⟩ = some (.int .i64 y) from fun u e => ⟨(Ext.trans he e).cell x0, e.cell hcb2⟩)
      clear hcb2
      refine region_held_from (w0 := wo) (S := fun u => u.cell? ⟨bx, 0, none⟩ = some (.slice a1 M.length c1) ∧ u.cell? ⟨bb, ob + i, none⟩ = some (.int .i64 y)) (by kernel_rfl) hSx.out (fun wz ez hHeld0 => ?_)
      refine wpAnyH_take (i := 0) (v := .int .i64 S) rfl (by kernel_rfl) (by kernel_rfl) (by kernel_rfl) (fun _ _ _ h => h) (Or.inl ⟨by rfl, by intro wx hx; go_simp⟩) (by assumption) ?_
      try simp only [List.getElem_toArray, List.getElem_cons_zero, Act.put, List.setIfInBounds_toArray, List.set_cons_zero, List.set_cons_succ]
      refine wpAnyH_take (i := 1) (v := .slice (some ⟨bb, ob, none⟩) P.length mp) rfl (by kernel_rfl) (by kernel_rfl) (by kernel_rfl) (fun _ _ _ h => h) (Or.inl ⟨by rfl, by intro wx hx; go_simp⟩) (by assumption) ?_
      try simp only [List.getElem_toArray, List.getElem_cons_succ, List.getElem_cons_zero, Act.put, List.setIfInBounds_toArray, List.set_cons_zero, List.set_cons_succ]
      refine wpAnyH_take (i := 2) (v := .int .i64 i) rfl (by kernel_rfl) (by kernel_rfl) (by kernel_rfl) (fun _ _ _ h => h) (Or.inl ⟨by rfl, by intro wx hx; go_simp⟩) (by assumption) ?_
      try simp only [List.getElem_toArray, List.getElem_cons_succ, List.getElem_cons_zero, Act.put, List.setIfInBounds_toArray, List.set_cons_zero, List.set_cons_succ]
      refine wpAnyH_take (i := 3) (v := .pointer (some ⟨bb, ob + i, none⟩)) rfl (by kernel_rfl) (by kernel_rfl) (by kernel_rfl) (fun _ _ _ h => h) (Or.inl ⟨by rfl, by intro wx hx; go_simp⟩) (by assumption) ?_
      try simp only [List.getElem_toArray, List.getElem_cons_succ, List.getElem_cons_zero, Act.put, List.setIfInBounds_toArray, List.set_cons_zero, List.set_cons_succ]
      refine wpAnyH_take (i := 4) (v := .int .i64 y) rfl (by kernel_rfl) (by kernel_rfl) (by kernel_rfl) (fun _ _ _ h => h) (Or.inl ⟨by rfl, by intro wx hx; obtain ⟨_, _⟩ := hx; go_simp⟩) (by assumption) ?_
      try simp only [List.getElem_toArray, List.getElem_cons_succ, List.getElem_cons_zero, Act.put, List.setIfInBounds_toArray, List.set_cons_zero, List.set_cons_succ]
      refine wpAnyH_take (i := 5) (v := .agg #[.slice a1 M.length c1]) rfl (by kernel_rfl) (by kernel_rfl) (by kernel_rfl) (fun _ _ _ h => h) (Or.inl ⟨by rfl, by intro wx hx; obtain ⟨_, _⟩ := hx; go_simp⟩) (by assumption) ?_
      try simp only [List.getElem_toArray, List.getElem_cons_succ, List.getElem_cons_zero, Act.put, List.setIfInBounds_toArray, List.set_cons_zero, List.set_cons_succ]
      refine wpAnyH_take (i := 6) (v := .slice da a.length ma) rfl (by kernel_rfl) (by kernel_rfl) (by kernel_rfl) (fun _ _ _ h => h) (Or.inl ⟨by rfl, by intro wx hx; go_simp⟩) (by assumption) ?_
      try simp only [List.getElem_toArray, List.getElem_cons_succ, List.getElem_cons_zero, Act.put, List.setIfInBounds_toArray, List.set_cons_zero, List.set_cons_succ]
      refine wpAnyH_take (i := 7) (v := .slice dx X.length mx) rfl (by kernel_rfl) (by kernel_rfl) (by kernel_rfl) (fun _ _ _ h => h) (Or.inl ⟨by rfl, by intro wx hx; go_simp⟩) (by assumption) ?_
      try simp only [List.getElem_toArray, List.getElem_cons_succ, List.getElem_cons_zero, Act.put, List.setIfInBounds_toArray, List.set_cons_zero, List.set_cons_succ]
      refine wpAnyH_take (i := 8) (v := .int .i64 l) rfl (by kernel_rfl) (by kernel_rfl) (by kernel_rfl) (fun _ _ _ h => h) (Or.inl ⟨by rfl, by intro wx hx; go_simp⟩) (by assumption) ?_
      try simp only [List.getElem_toArray, List.getElem_cons_succ, List.getElem_cons_zero, Act.put, List.setIfInBounds_toArray, List.set_cons_zero, List.set_cons_succ]
      refine wpAnyH_take (i := 9) (v := .int .i64 i) rfl (by kernel_rfl) (by kernel_rfl) (by kernel_rfl) (fun _ _ _ h => h) (Or.inl ⟨by rfl, by intro wx hx; go_simp⟩) (by assumption) ?_
      try simp only [List.getElem_toArray, List.getElem_cons_succ, List.getElem_cons_zero, Act.put, List.setIfInBounds_toArray, List.set_cons_zero, List.set_cons_succ]
      refine wpAnyH_ready (rs := [10]) (by kernel_rfl) (by simp) ?_
      refine AllReadyH.cons rfl (fun K hK => ?_) AllReadyH.nil
      go_simp
      have e0z : Ext w0 wz := Ext.trans e0 ez
      go_at_call 93
      with_reducible refine (l7Gap_any (w0 := w0) (w := wz) hm' ha' hX' hM.out hab.out hXb.out hlt (by omega) (by omega)).mono ?_
      obtain ⟨g, hg⟩ : ∃ y, y = flC M a X i l := ⟨_, rfl⟩
      rw [← hg] at hcv hst2 ⊢
      replace hg := hid hg
      rintro e w9 ⟨rfl, e9⟩
      have eo9 : Ext wo w9 := Ext.trans ez e9
      have hS9 := hid (hSx.out w9 eo9)
      clear hHeld0
      go_wp2_with fail
      refine hK.out _ _ hS9.out (fun _ => ?_)
      clear hK K
      try simp only [List.getElem_toArray, List.getElem_cons_succ, List.getElem_cons_zero, Act.put, List.setIfInBounds_toArray, List.set_cons_zero, List.set_cons_succ]
      refine wpAnyH_take (i := 11) (v := .int .i64 (y - g)) rfl (by kernel_rfl) (by kernel_rfl) (by kernel_rfl) (fun _ _ _ h => h) (Or.inl ⟨by rfl, by intro wx hx; (go_simp; exact IntWalk.i64_in _ (by omega))⟩) (by assumption) ?_
      try simp only [List.getElem_toArray, List.getElem_cons_succ, List.getElem_cons_zero, Act.put, List.setIfInBounds_toArray, List.set_cons_zero, List.set_cons_succ]
      refine wpAnyH_ready (rs := [12]) (by kernel_rfl) (by simp) ?_
      refine AllReadyH.cons rfl (fun K hK => ?_) AllReadyH.nil
      go_simp
      refine (l1Most_any _ _ _).mono ?_
      rintro e w10 ⟨rfl, rfl⟩
      go_wp2_with fail
      refine hK.out _ _ hS9.out (fun _ => ?_)
      clear hK K
      try simp only [List.getElem_toArray, List.getElem_cons_succ, List.getElem_cons_zero, Act.put, List.setIfInBounds_toArray, List.set_cons_zero, List.set_cons_succ]
      refine wpAnyH_take (i := 13) (v := .int .i64 (max S (y - g))) rfl (by kernel_rfl) (by kernel_rfl) (by kernel_rfl) (fun _ _ _ h => h) (Or.inl ⟨by rfl, by intro wx hx; go_simp⟩) (by assumption) ?_
      try simp only [List.getElem_toArray, List.getElem_cons_succ, List.getElem_cons_zero, Act.put, List.setIfInBounds_toArray, List.set_cons_zero, List.set_cons_succ]
      refine wpAnyH_done (by kernel_rfl) ?_ _
      go_wp2_with fail
      go_roundw
      case rel => exact ⟨i + 1, by omega, by omega, by go_num, by rw [hst2.out], Ext.trans he eo9⟩
      case measure => simp [intOf]; omega
    · have hil : i = X.length := by omega
      subst hil
      go_wp2_with fail
      go_ret
      exact ⟨rfl, ew⟩
set_option maxHeartbeats 800000 in
theorem l7Prices_any {vX vP : Value} {X P : List Int} {w0 w : World} [Ext w0 w] (hXi : IsInts w0 vX X) (hp : IsInts w0 vP P) :
    Calls Try.prog 61 #[vX, vP] w fun e w' => e = .returned (.bool (decide (P.length = X.length) && belowB 100000 P)) ∧ w' = w := by
  have hp' := hp
  obtain ⟨dp, mp, rfl, lp⟩ := hp.form
  obtain ⟨dx, mx, rfl, lx⟩ := hXi.form
  go_enter Try.func61, Try.ntmps61
  go_wp2_with fail
  go_loopw [5] (fun q wr => ∃ i : Nat, i ≤ P.length ∧ q = .int .i64 i ∧ Hid (∀ k, k < i → inB (nth P k) 0 (100000 - 1) = true) ∧ wr = w) (fun q _ => P.length - (intOf q).toNat)
  case atStart => exact ⟨0, by omega, rfl, hid (fun k hk => by omega), rfl⟩
  case round =>
    obtain ⟨i, hi, rfl, hok, rfl⟩ := hrel
    by_cases hlt : i < P.length
    · obtain ⟨bb, ob, hdb, hcb⟩ := hp'.at (w' := wr) hlt
      cases hdb
      obtain ⟨y, hy⟩ : ∃ y, y = nth P i := ⟨_, rfl⟩
      rw [← hy] at hcb
      cases hin : inB y 0 99999 with
      | true =>
        have hok2 := hid (show ∀ k, k < i + 1 → inB (nth P k) 0 (100000 - 1) = true from fun k hk => by
          by_cases e : k = i
          · rw [e, ← hy]; exact hin
          · exact hok.out k (by omega))
        replace hin := hid hin
        replace hy := hid hy
        go_wp2_with fail
        refine (l1In_any _ _ _ _).mono ?_; rw [hin.out]; rintro e w1 ⟨rfl, rfl⟩
        go_wp2_with fail
        go_roundw
        case rel => exact ⟨i + 1, by omega, by go_num, hok2, trivial⟩
        case measure => simp [intOf]; omega
      | false =>
        have hr := hid (show (decide (P.length = X.length) && belowB 100000 P) = false by
          rw [belowB_not hlt (by rw [← hy]; exact hin)]; simp)
        replace hin := hid hin
        replace hy := hid hy
        go_wp2_with fail
        refine (l1In_any _ _ _ _).mono ?_; rw [hin.out]; rintro e w1 ⟨rfl, rfl⟩
        go_wp2_with fail
        go_ret
        exact ⟨ret_bool hr.out.symm, rfl⟩
    · have hr := hid (show ((P.length : Int) == (X.length : Int)) = (decide (P.length = X.length) && belowB 100000 P) by
        rw [belowB_of fun k hk => hok.out k (by omega), Bool.and_true, Bool.eq_iff_iff, beq_iff_eq, decide_eq_true_eq]
        omega)
      go_wp2_with fail
      go_ret
      exact ⟨ret_bool hr.out, rfl⟩
set_option maxHeartbeats 1600000 in
set_option maxRecDepth 100000 in
theorem specPb_any {v va vX vP : Value} {M : List (List Int)} {a X P : List Int} {w0 w : World} [Ext w0 w] (hm : IsMet w0 v M) (ha : IsInts w0 va a) (hXi : IsInts w0 vX X) (hp : IsInts w0 vP P) :
    Calls Try.prog 25 #[v, va, vX, vP] w fun e w' => e = .returned (.tuple #[.int .i64 (pbR M a X P), .bool (pbOk M a X P)]) ∧ Ext w w' := by
  have hm' := hm
  have ha' := ha
  have hX' := hXi
  obtain ⟨v1, rfl, hR⟩ := hm
  obtain ⟨a1, c1, rfl, l1⟩ := hR.form
  have hp' := hp
  obtain ⟨dp, mp, rfl, lp⟩ := hp.form
  obtain ⟨da, ma, rfl, la⟩ := ha.form
  obtain ⟨dx, mx, rfl, lx⟩ := hXi.form
  go_enter Try.func25, Try.ntmps25
  go_upto_region 1 with fail
  have e1 : Ext w (w.alloc (.cells #[.slice a1 M.length c1] 29)) := inferInstance
  have x0 : (w.alloc (.cells #[.slice a1 M.length c1] 29)).cell? ⟨w.heap.size, 0, none⟩ = some (.slice a1 M.length c1) := by go_simp
  obtain ⟨bx, hbx⟩ : ∃ q, q = w.heap.size := ⟨_, rfl⟩
  rw [← hbx] at x0 ⊢
  generalize w.alloc (.cells #[.slice a1 M.length c1] 29) = w1 at *
  replace hbx := hid hbx
  have e01 : Ext w0 w1 := Ext.trans ‹Ext w0 w› e1
  cases hM : metB M with
  | false =>
    have hr := hid (show pbOk M a X P = false by rw [pbOk, srvB, hM]; rfl)
    have hv := hid (show pbR M a X P = 0 by rw [pbR, hr.out]; rfl)
    replace hM := hid hM
    go_wp2_with fail
    with_reducible refine (l6Good_any (w0 := w0) hm').mono ?_
    rw [hM.out]
    rintro e w2 ⟨rfl, e2⟩
    go_wp2_with fail
    go_ret2
    rw [hr.out, hv.out]
    exact ⟨rfl, Ext.trans e1 e2⟩
  | true =>
    replace hM := hid hM
    cases hs : srvB M a X with
    | false =>
      have hr := hid (show pbOk M a X P = false by rw [pbOk, hs]; rfl)
      have hv := hid (show pbR M a X P = 0 by rw [pbR, hr.out]; rfl)
      replace hs := hid hs
      go_wp2_with fail
      with_reducible refine (l6Good_any (w0 := w0) hm').mono ?_
      rw [hM.out]
      rintro e w2 ⟨rfl, e2⟩
      have x2 := e2.cell x0
      have e02 : Ext w0 w2 := Ext.trans e01 e2
      go_wp2_with fail
      with_reducible refine (l6Start_any (w0 := w0) (w := w2) hm' ha' hX').mono ?_
      rw [hs.out]
      rintro e w3 ⟨rfl, e3⟩
      go_wp2_with fail
      go_ret2
      rw [hr.out, hv.out]
      exact ⟨rfl, Ext.trans e1 (Ext.trans e2 e3)⟩
    | true =>
      obtain ⟨_, hal, hab, hXb, hXl⟩ := srv_pts hs
      have hs2 := hid hs
      clear hs hab hXb
      cases hq : (decide (P.length = X.length) && belowB 100000 P) with
      | false =>
        have hr := hid (show pbOk M a X P = false by rw [pbOk, hs2.out, hq]; rfl)
        have hv := hid (show pbR M a X P = 0 by rw [pbR, hr.out]; rfl)
        replace hq := hid hq
        go_wp2_with fail
        with_reducible refine (l6Good_any (w0 := w0) hm').mono ?_
        rw [hM.out]
        rintro e w2 ⟨rfl, e2⟩
        have x2 := e2.cell x0
        have e02 : Ext w0 w2 := Ext.trans e01 e2
        go_wp2_with fail
        with_reducible refine (l6Start_any (w0 := w0) (w := w2) hm' ha' hX').mono ?_
        rw [hs2.out]
        rintro e w3 ⟨rfl, e3⟩
        have e03 : Ext w0 w3 := Ext.trans e02 e3
        go_wp2_with fail
        with_reducible refine (l7Prices_any (w0 := w0) (w := w3) hX' hp').mono ?_
        rw [hq.out]
        rintro e w4 ⟨rfl, rfl⟩
        go_wp2_with fail
        go_ret2
        rw [hr.out, hv.out]
        exact ⟨rfl, Ext.trans e1 (Ext.trans e2 e3)⟩
      | true =>
        have hr := hid (show pbOk M a X P = true by rw [pbOk, hs2.out, hq]; rfl)
        have hv := hid (show pbR M a X P = pbTo M a X P (a.length + X.length) by rw [pbR, hr.out]; rfl)
        have hq2 := hq
        rw [Bool.and_eq_true, decide_eq_true_eq] at hq2
        obtain ⟨hlen, hb⟩ := hq2
        have hB1 := hid (fun (i : Nat) (h : i ≤ P.length) => prs_bd hb h)
        have hB2 := hid (fun (t : Nat) (h : t ≤ a.length + X.length) => rts_bd hs2.out hb hlen h)
        have hB3 := hid (fun (l : Nat) (h : l < a.length + X.length) => rnt_bd hs2.out hb hlen h (Nat.le_refl X.length))
        have hB5 := hid (fun (k : Nat) (h : k < P.length) => belowB_at hb h)
        have hlen2 : P.length ≤ X.length ∧ X.length ≤ P.length := by omega
        replace hb := hid hb
        replace hlen := hid hlen
        replace hq := hid hq
        go_wp2_with fail
        with_reducible refine (l6Good_any (w0 := w0) hm').mono ?_
        rw [hM.out]
        rintro e w2 ⟨rfl, e2⟩
        have x2 := e2.cell x0
        have e02 : Ext w0 w2 := Ext.trans e01 e2
        go_wp2_with fail
        with_reducible refine (l6Start_any (w0 := w0) (w := w2) hm' ha' hX').mono ?_
        rw [hs2.out]
        rintro e w3 ⟨rfl, e3⟩
        have x3 := e3.cell x2
        have e03 : Ext w0 w3 := Ext.trans e02 e3
        have e13 : Ext w w3 := Ext.trans e1 (Ext.trans e2 e3)
        go_wp2_with fail
        with_reducible refine (l7Prices_any (w0 := w0) (w := w3) hX' hp').mono ?_
        rw [hq.out]
        rintro e w4 ⟨rfl, rfl⟩
        go_wp2_with fail
        go_loopw [10, 11] (fun s q wr => ∃ i : Nat, i ≤ P.length ∧ q = .int .i64 i ∧ s = .int .i64 (sgTo (nth P) i) ∧ Ext w4 wr) (fun _ q _ => P.length - (intOf q).toNat)
        case atStart => exact ⟨0, by omega, rfl, rfl, Ext.refl _⟩
        case round =>
          obtain ⟨i, hi, rfl, rfl, he⟩ := hrel
          obtain ⟨wo, rfl⟩ : ∃ y : World, y = wr := ⟨_, rfl⟩
          have e0o : Ext w0 wo := Ext.trans e03 he
          have b1 := hB1.out i (by omega)
          by_cases hlt : i < P.length
          · obtain ⟨bb, ob, hdb, hcb⟩ := hp'.at (w' := wo) hlt
            cases hdb
            have b5 := hB5.out i hlt
            have hst := hid (show sgTo (nth P) (i + 1) = sgTo (nth P) i + nth P i from rfl)
            generalize nth P i = y at hcb b5 hst
            generalize sgTo (nth P) i = S at b1 hst ⊢
            go_wp2_with fail
            go_roundw
            case rel => exact ⟨i + 1, by omega, by go_num, by rw [hst.out], he⟩
            case measure => simp [intOf]; omega
          · have hil : i = X.length := by omega
            subst hil
            clear b1
            have b0 := hB1.out X.length (by omega)
            obtain ⟨S, hS⟩ : ∃ s, s = sgTo (nth P) X.length := ⟨_, rfl⟩
            rw [← hS] at b0 ⊢
            have hpb := hid (fun (t : Nat) => show pbTo M a X P t = S - sgTo (fun l => rnt M a X P l X.length) t by rw [pbTo, ← hS])
            replace hS := hid hS
            go_wp2_with fail
            go_loopw [10, 12] (fun s q wy => ∃ t : Nat, t ≤ a.length + X.length ∧ q = .int .i64 t ∧ s = .int .i64 (S - sgTo (fun l => rnt M a X P l X.length) t) ∧ Ext wo wy) (fun _ q _ => a.length + X.length - (intOf q).toNat)
            case atStart => exact ⟨0, by omega, rfl, by simp [sgTo], Ext.refl _⟩
            case round =>
              obtain ⟨t, ht, rfl, rfl, he2⟩ := hrel
              obtain ⟨wq, rfl⟩ : ∃ y : World, y = wr := ⟨_, rfl⟩
              have b2 := hB2.out t (by omega)
              have e0q : Ext w0 wq := Ext.trans e0o he2
              by_cases hlt2 : t < a.length + X.length
              · have hst2 := hid (show sgTo (fun l => rnt M a X P l X.length) (t + 1) = sgTo (fun l => rnt M a X P l X.length) t + rnt M a X P t X.length from rfl)
                have b3 := hB3.out t hlt2
                have y3 := he2.cell (he.cell x3)
                have hRn := hid (show ∀ u, Ext w0 u → Calls Try.prog 62 #[.agg #[.slice a1 M.length c1], .slice da a.length ma, .slice dx X.length mx, .slice dp P.length mp, .int .i64 t] u fun e w' => e = .returned (.int .i64 (rnt M a X P t X.length)) ∧ Ext u w' from fun u eu => l7Rent_any (w0 := w0) (w := u) hm' ha' hX' hp' hs2.out hb.out hlen.out hlt2)
                generalize sgTo (fun l => rnt M a X P l X.length) t = T at b2 hst2 ⊢
                generalize rnt M a X P t X.length = Rn at b3 hst2 hRn
                go_wp2_with fail
                with_reducible refine (hRn.out _ e0q).mono ?_
                rintro e w5 ⟨rfl, e5⟩
                go_wp2_with fail
                go_roundw
                case rel => exact ⟨t + 1, by omega, by go_num, by rw [hst2.out]; congr 1; omega, Ext.trans he2 e5⟩
                case measure => simp [intOf]; omega
              · have htl : t = a.length + X.length := by omega
                have hfin := hid (show pbR M a X P = S - sgTo (fun l => rnt M a X P l X.length) t by rw [hv.out, hpb.out, htl])
                replace htl := hid htl
                generalize sgTo (fun l => rnt M a X P l X.length) t = T at b2 hfin ⊢
                go_wp2_with fail
                go_ret2
                rw [hr.out, hfin.out]
                exact ⟨rfl, Ext.trans e13 (Ext.trans he he2)⟩
end Go.Proofs.Ytcfhmbmagkoekaa
