/- The gain of a cycle; CycleGain of both sides. -/
import Derived.Test.YtobfehekjapnhaaPairsX
import Derived.Deep.RegionWith
namespace Go.Proofs.Ytobfehekjapnhaa
open Go.RowKit

def ratioB (n d : Int) : Bool := fracB n d && decide (0 ≤ n)
theorem ratioB_in {n d : Int} (h : ratioB n d = true) : 1 ≤ d ∧ d ≤ 100000 ∧ 0 ≤ n ∧ n ≤ 100000000 := by
  simp only [ratioB, Bool.and_eq_true, decide_eq_true_eq] at h
  have := fracB_in h.1
  omega

set_option maxHeartbeats 400000 in
theorem l9Ratio_any {n d : Int} (w : World) :
    Calls Try.prog 60 #[.agg #[.int .i64 n, .int .i64 d]] w fun e w' => e = .returned (.bool (ratioB n d)) ∧ Ext w w' := by
  cases hf : fracB n d with
  | false =>
    have hr := hid (show ratioB n d = false by simp [ratioB, hf])
    replace hf := hid hf
    go_enter Try.func60, Try.ntmps60
    go_wp2_with fail
    refine (l2Good_any _).mono ?_; rw [hf.out]; rintro e w1 ⟨rfl, hb1⟩
    go_wp2_with fail
    go_ret
    exact ⟨ret_bool hr.out.symm, Ext.trans inferInstance hb1⟩
  | true =>
    have hr := hid (show ratioB n d = decide (0 ≤ n) by simp [ratioB, hf])
    replace hf := hid hf
    go_enter Try.func60, Try.ntmps60
    go_wp2_with fail
    refine (l2Good_any _).mono ?_; rw [hf.out]; rintro e w1 ⟨rfl, hb1⟩
    have x0 : w1.cell? ⟨w.heap.size, 0, none⟩ = some (.int .i64 n) := hb1.cell (by go_simp)
    go_wp2_with fail
    go_ret
    exact ⟨ret_bool hr.out.symm, Ext.trans inferInstance hb1⟩

set_option maxHeartbeats 400000 in
theorem isRatio_any {n d : Int} (w : World) :
    Calls Try.prog 63 #[.agg #[.int .i64 n, .int .i64 d]] w fun e w' => e = .returned (.bool (ratioB n d)) ∧ Ext w w' := by
  cases hf : fracB n d with
  | false =>
    have hr := hid (show ratioB n d = false by simp [ratioB, hf])
    replace hf := hid hf
    go_enter Try.func63, Try.ntmps63
    go_wp2_with fail
    refine (IsFrac_any _).mono ?_; rw [hf.out]; rintro e w1 ⟨rfl, hb1⟩
    go_wp2_with fail
    go_ret
    exact ⟨ret_bool hr.out.symm, Ext.trans inferInstance hb1⟩
  | true =>
    have hr := hid (show ratioB n d = decide (0 ≤ n) by simp [ratioB, hf])
    replace hf := hid hf
    go_enter Try.func63, Try.ntmps63
    go_wp2_with fail
    refine (IsFrac_any _).mono ?_; rw [hf.out]; rintro e w1 ⟨rfl, hb1⟩
    have x0 : w1.cell? ⟨w.heap.size, 0, none⟩ = some (.int .i64 n) := hb1.cell (by go_simp)
    go_wp2_with fail
    go_ret
    exact ⟨ret_bool hr.out.symm, Ext.trans inferInstance hb1⟩
/-- the cost and the growth along requests, from a pair on -/
def cyC (g : Gr) (s a0 : Nat) (X : List Int) : Nat → Int
  | 0 => 0
  | k + 1 => cyC g s a0 X k + nth (stepAt g s (pAft g s a0 X k) (nth X k).toNat) 1
def cyG (g : Gr) (s a0 : Nat) (X : List Int) : Nat → Int
  | 0 => 0
  | k + 1 => cyG g s a0 X k + nth (stepAt g s (pAft g s a0 X k) (nth X k).toNat) 2
theorem cy_in {g : Gr} {n s m a0 : Nat} {X : List Int} (hg : g.Ok n) (hs : s < g.M.length) (h : prEnd g s = some m) (ha : a0 < m) (hX : reqsIn g X) : ∀ {k : Nat}, k ≤ X.length → 0 ≤ cyC g s a0 X k ∧ cyC g s a0 X k ≤ 119 * k ∧ 0 ≤ cyG g s a0 X k ∧ cyG g s a0 X k ≤ 1000 * k
  | 0, _ => by simp [cyC, cyG]
  | k + 1, hk => by
    have ih := cy_in hg hs h ha hX (k := k) (by omega)
    have hr := hX k (by omega)
    obtain ⟨t, c, y, e, h1, h2, h3, h4, h5, h6⟩ := stepAt_in hg hs h (pAft_in hg hs h ha hX (k := k) (by omega)) (r := (nth X k).toNat) (by omega)
    rw [cyC, cyG, e]
    show 0 ≤ cyC g s a0 X k + c ∧ cyC g s a0 X k + c ≤ _ ∧ 0 ≤ cyG g s a0 X k + y ∧ cyG g s a0 X k + y ≤ _
    omega

set_option maxHeartbeats 800000 in
set_option maxRecDepth 100000 in
theorem l9Sums_any {pd sd : Option Addr} {pn pm sm : Nat} {bb : Bool} {vX : Value} {g : Gr} {n s m a0 : Nat} {X : List Int} {w0 w : World} [Ext w0 w] (hg : g.Ok n) (hs : s < g.M.length) (hend : prEnd g s = some m)
    (hMs : IsFlats w0 (.slice sd (prSt g s m).length sm) 3 (prSt g s m)) (hX : IsInts w0 vX X) (hreq : reqsIn g X) (ha : a0 < m) (hxl : X.length ≤ 60) :
    Calls Try.prog 67 #[.agg #[.slice pd pn pm, .slice sd (prSt g s m).length sm, .bool bb], .int .i64 a0, vX] w fun e w' => e = .returned (.tuple #[.int .i64 (cyC g s a0 X X.length), .int .i64 (cyG g s a0 X X.length)]) ∧ Ext w w' := by
  obtain ⟨aX, cX, rfl, lX⟩ := hX.form
  have hin := hid (fun k (hk : k ≤ X.length) => pAft_in hg hs hend ha hreq hk)
  have hcy := hid (fun k (hk : k ≤ X.length) => cy_in hg hs hend ha hreq hk)
  have hl := hid (prSt_length g s m)
  replace hg := hid hg
  replace hend := hid hend
  replace hreq := hid hreq
  go_enter Try.func67, Try.ntmps67
  go_upto_region 1 with fail
  have eW : Ext w (w.alloc (.cells #[.slice pd pn pm, .slice sd (prSt g s m).length sm, .bool bb] 76)) := inferInstance
  have x1 : (w.alloc (.cells #[.slice pd pn pm, .slice sd (prSt g s m).length sm, .bool bb] 76)).cell? ⟨w.heap.size, 1, none⟩ = some (.slice sd (prSt g s m).length sm) := by go_simp
  generalize w.alloc (.cells #[.slice pd pn pm, .slice sd (prSt g s m).length sm, .bool bb] 76) = W at *
  go_wp2
  go_loopw [1, 8, 9, 10] (fun p cc cg i wr => ∃ k : Nat, k ≤ X.length ∧ i = .int .i64 k ∧ p = .int .i64 (pAft g s a0 X k) ∧ cc = .int .i64 (cyC g s a0 X k) ∧ cg = .int .i64 (cyG g s a0 X k) ∧ Ext W wr) (fun _ _ _ i _ => X.length - (intOf i).toNat)
  case atStart => exact ⟨0, by omega, rfl, rfl, rfl, rfl, Ext.refl _⟩
  case round =>
    obtain ⟨k, hk, rfl, rfl, rfl, rfl, hex⟩ := hrel
    have er : Ext w wr := Ext.trans eW hex
    have er0 : Ext w0 wr := Ext.trans ‹Ext w0 w› er
    have y1 := hex.cell x1
    by_cases hlt : k < X.length
    · obtain ⟨b3, o3, rfl, hc3⟩ := hX.at (w' := wr) hlt
      have hr := hreq.out k hlt
      have hat := hin.out k hk
      have hcb := hcy.out k hk
      have hnx := hid (show pAft g s a0 X (k + 1) = (nth (stepAt g s (pAft g s a0 X k) (nth X k).toNat) 0).toNat from rfl)
      have hnc := hid (show cyC g s a0 X (k + 1) = cyC g s a0 X k + nth (stepAt g s (pAft g s a0 X k) (nth X k).toNat) 1 from rfl)
      have hng := hid (show cyG g s a0 X (k + 1) = cyG g s a0 X k + nth (stepAt g s (pAft g s a0 X k) (nth X k).toNat) 2 from rfl)
      obtain ⟨r, hr'⟩ := Int.eq_ofNat_of_zero_le hr.1
      have hrS : r < g.S.length := by omega
      rw [hr', Int.toNat_natCast] at hnx hnc hng
      rw [hr'] at hc3
      replace hr' := hid hr'
      clear hr
      obtain ⟨t, c, y, hst, ht0, ht1, hc0, hc1, hy0, hy1⟩ := stepAt_in hg.out hs hend.out hat hrS
      generalize hp : pAft g s a0 X k = p at *
      replace hp := hid hp
      generalize hCk : cyC g s a0 X k = ck at *
      replace hCk := hid hCk
      generalize hGk : cyG g s a0 X k = gk at *
      replace hGk := hid hGk
      obtain ⟨b4, o4, d4, m4, rfl, hc4, hr4⟩ := hMs.at (w' := wr) (k := p) (by rw [hl.out]; exact hat)
      have hrow := hid (prSt_at (g := g) (s := s) hat)
      have hrl : ((prSt g s m).getD p []).length = g.S.length := by rw [hrow.out, rowSt_length]
      rw [hrl] at hc4 hr4
      obtain ⟨b5, o5, rfl, hc5⟩ := hr4.at (w' := wr) (j := r) (by rw [hrl]; exact hrS)
      have hst' : stpRow g (prLst g s p) p r = [t, c, y] := hst
      have hv0 : wr.cell? ⟨b5, o5 + r * 3, none⟩ = some (.int .i64 t) := by
        have := hc5 0 (by omega)
        rw [Nat.add_zero] at this
        rw [this, hrow.out]
        unfold cell
        rw [row_rowSt hrS, hst']
        rfl
      have hv1 : wr.cell? ⟨b5, o5 + r * 3 + 1, none⟩ = some (.int .i64 c) := by
        rw [hc5 1 (by omega), hrow.out]
        unfold cell
        rw [row_rowSt hrS, hst']
        rfl
      have hv2 : wr.cell? ⟨b5, o5 + r * 3 + 2, none⟩ = some (.int .i64 y) := by
        rw [hc5 2 (by omega), hrow.out]
        unfold cell
        rw [row_rowSt hrS, hst']
        rfl
      clear hc5 hst'
      rw [hst] at hnx hnc hng
      have hnx2 := hid (show ((pAft g s a0 X (k + 1) : Nat) : Int) = t by
        rw [hnx.out]
        show ((t.toNat : Nat) : Int) = t
        omega)
      have hnc2 := hid (show cyC g s a0 X (k + 1) = ck + c from hnc.out)
      have hng2 := hid (show cyG g s a0 X (k + 1) = gk + y from hng.out)
      have hpl : p < (prSt g s m).length := by rw [hl.out]; exact hat
      have hplI : ¬ ((prSt g s m).length : Int) ≤ (p : Int) := by omega
      replace hst := hid hst
      clear hnc hng hnx
      go_upto_region 5 with fail
      have ed : Ext wr (wr).drew := inferInstance
      refine wp_region_held_drew (S := fun w' => Ext wr w' ∧ w'.cell? ⟨w.heap.size, 1, none⟩ = some (.slice (some ⟨b4, o4, none⟩) (prSt g s m).length sm) ∧ w'.cell? ⟨b4, o4 + p, none⟩ = some (.slice (some ⟨b5, o5, none⟩) g.S.length m4) ∧ w'.cell? ⟨b3, o3 + k, none⟩ = some (.int .i64 r) ∧ w'.cell? ⟨b5, o5 + r * 3, none⟩ = some (.int .i64 t) ∧ w'.cell? ⟨b5, o5 + r * 3 + 1, none⟩ = some (.int .i64 c) ∧ w'.cell? ⟨b5, o5 + r * 3 + 2, none⟩ = some (.int .i64 y)) (by kernel_rfl) ⟨ed, ed.cell y1, ed.cell hc4, ed.cell hc3, ed.cell hv0, ed.cell hv1, ed.cell hv2⟩ (fun hHeld0 => ?_)
      refine wpAnyH_take (i := 0) (v := .pointer (some ⟨w.heap.size, 1, none⟩)) rfl (by kernel_rfl) (by kernel_rfl) (by kernel_rfl) (fun _ _ _ h => h) (Or.inl ⟨by rfl, by intro wx hx; go_simp⟩) (by assumption) ?_
      try simp only [List.getElem_toArray, List.getElem_cons_zero, Act.put, List.setIfInBounds_toArray, List.set_cons_zero, List.set_cons_succ]
      refine wpAnyH_take (i := 1) (v := .slice (some ⟨b4, o4, none⟩) (prSt g s m).length sm) rfl (by kernel_rfl) (by kernel_rfl) (by kernel_rfl) (fun _ _ _ h => h) (Or.inl ⟨by rfl, by intro wx hx; obtain ⟨_, _, _, _, _, _, _⟩ := hx; go_simp⟩) (by assumption) ?_
      try simp only [List.getElem_toArray, List.getElem_cons_succ, List.getElem_cons_zero, Act.put, List.setIfInBounds_toArray, List.set_cons_zero, List.set_cons_succ]
      refine wpAnyH_take (i := 2) (v := .int .i64 p) rfl (by kernel_rfl) (by kernel_rfl) (by kernel_rfl) (fun _ _ _ h => h) (Or.inl ⟨by rfl, by intro wx hx; go_simp⟩) (by assumption) ?_
      try simp only [List.getElem_toArray, List.getElem_cons_succ, List.getElem_cons_zero, Act.put, List.setIfInBounds_toArray, List.set_cons_zero, List.set_cons_succ]
      refine wpAnyH_take (i := 3) (v := .pointer (some ⟨b4, o4 + p, none⟩)) rfl (by kernel_rfl) (by kernel_rfl) (by kernel_rfl) (fun _ _ _ h => h) (Or.inl ⟨by rfl, by intro wx hx; go_simp⟩) (by assumption) ?_
      try simp only [List.getElem_toArray, List.getElem_cons_succ, List.getElem_cons_zero, Act.put, List.setIfInBounds_toArray, List.set_cons_zero, List.set_cons_succ]
      refine wpAnyH_take (i := 4) (v := .slice (some ⟨b5, o5, none⟩) g.S.length m4) rfl (by kernel_rfl) (by kernel_rfl) (by kernel_rfl) (fun _ _ _ h => h) (Or.inl ⟨by rfl, by intro wx hx; obtain ⟨_, _, _, _, _, _, _⟩ := hx; go_simp⟩) (by assumption) ?_
      try simp only [List.getElem_toArray, List.getElem_cons_succ, List.getElem_cons_zero, Act.put, List.setIfInBounds_toArray, List.set_cons_zero, List.set_cons_succ]
      refine wpAnyH_take (i := 5) (v := .slice (some ⟨b3, o3, none⟩) X.length cX) rfl (by kernel_rfl) (by kernel_rfl) (by kernel_rfl) (fun _ _ _ h => h) (Or.inl ⟨by rfl, by intro wx hx; go_simp⟩) (by assumption) ?_
      try simp only [List.getElem_toArray, List.getElem_cons_succ, List.getElem_cons_zero, Act.put, List.setIfInBounds_toArray, List.set_cons_zero, List.set_cons_succ]
      refine wpAnyH_take (i := 6) (v := .int .i64 k) rfl (by kernel_rfl) (by kernel_rfl) (by kernel_rfl) (fun _ _ _ h => h) (Or.inl ⟨by rfl, by intro wx hx; go_simp⟩) (by assumption) ?_
      try simp only [List.getElem_toArray, List.getElem_cons_succ, List.getElem_cons_zero, Act.put, List.setIfInBounds_toArray, List.set_cons_zero, List.set_cons_succ]
      refine wpAnyH_take (i := 7) (v := .pointer (some ⟨b3, o3 + k, none⟩)) rfl (by kernel_rfl) (by kernel_rfl) (by kernel_rfl) (fun _ _ _ h => h) (Or.inl ⟨by rfl, by intro wx hx; go_simp⟩) (by assumption) ?_
      try simp only [List.getElem_toArray, List.getElem_cons_succ, List.getElem_cons_zero, Act.put, List.setIfInBounds_toArray, List.set_cons_zero, List.set_cons_succ]
      refine wpAnyH_take (i := 8) (v := .int .i64 r) rfl (by kernel_rfl) (by kernel_rfl) (by kernel_rfl) (fun _ _ _ h => h) (Or.inl ⟨by rfl, by intro wx hx; obtain ⟨_, _, _, _, _, _, _⟩ := hx; go_simp⟩) (by assumption) ?_
      try simp only [List.getElem_toArray, List.getElem_cons_succ, List.getElem_cons_zero, Act.put, List.setIfInBounds_toArray, List.set_cons_zero, List.set_cons_succ]
      refine wpAnyH_take (i := 9) (v := .pointer (some ⟨b5, o5 + r * 3, none⟩)) rfl (by kernel_rfl) (by kernel_rfl) (by kernel_rfl) (fun _ _ _ h => h) (Or.inl ⟨by rfl, by intro wx hx; go_simp⟩) (by assumption) ?_
      try simp only [List.getElem_toArray, List.getElem_cons_succ, List.getElem_cons_zero, Act.put, List.setIfInBounds_toArray, List.set_cons_zero, List.set_cons_succ]
      refine wpAnyH_take (i := 10) (v := .agg #[.int .i64 t, .int .i64 c, .int .i64 y]) rfl (by kernel_rfl) (by kernel_rfl) (by kernel_rfl) (fun _ _ _ h => h) (Or.inl ⟨by rfl, by intro wx hx; obtain ⟨_, _, _, _, _, _, _⟩ := hx; go_simp⟩) (by assumption) ?_
      try simp only [List.getElem_toArray, List.getElem_cons_succ, List.getElem_cons_zero, Act.put, List.setIfInBounds_toArray, List.set_cons_zero, List.set_cons_succ]
      have ea : Ext wr ((wr.alloc (.cells #[.int .i64 0, .int .i64 0, .int .i64 0] 114)).drew) := inferInstance
      have eb : Ext wr ((wr.alloc (.cells #[.int .i64 t, .int .i64 c, .int .i64 y] 114)).drew) := inferInstance
      have s0 : (wr.alloc (.cells #[.int .i64 t, .int .i64 c, .int .i64 y] 114)).drew.cell? ⟨wr.heap.size, 0, none⟩ = some (.int .i64 t) := by go_simp
      have s1 : (wr.alloc (.cells #[.int .i64 t, .int .i64 c, .int .i64 y] 114)).drew.cell? ⟨wr.heap.size, 1, none⟩ = some (.int .i64 c) := by go_simp
      have s2 : (wr.alloc (.cells #[.int .i64 t, .int .i64 c, .int .i64 y] 114)).drew.cell? ⟨wr.heap.size, 2, none⟩ = some (.int .i64 y) := by go_simp
      refine wpAnyH_ready (rs := [11]) (by kernel_rfl) (by simp) ?_
      refine AllReadyH.cons rfl (fun K hK => ?_) AllReadyH.nil
      go_simp
      refine hK.out _ _ ⟨ea, ea.cell y1, ea.cell hc4, ea.cell hc3, ea.cell hv0, ea.cell hv1, ea.cell hv2⟩ (fun _ => ?_)
      clear hK K
      try simp only [List.getElem_toArray, List.getElem_cons_succ, List.getElem_cons_zero, Act.put, List.setIfInBounds_toArray, List.set_cons_zero, List.set_cons_succ]
      refine wpAnyH_ready (rs := [12]) (by kernel_rfl) (by simp) ?_
      refine AllReadyH.cons rfl (fun K hK => ?_) AllReadyH.nil
      go_simp
      refine hK.out _ _ ⟨eb, eb.cell y1, eb.cell hc4, eb.cell hc3, eb.cell hv0, eb.cell hv1, eb.cell hv2⟩ (fun _ => ?_)
      clear hK K
      try simp only [List.getElem_toArray, List.getElem_cons_succ, List.getElem_cons_zero, Act.put, List.setIfInBounds_toArray, List.set_cons_zero, List.set_cons_succ]
      refine wpAnyH_done (by kernel_rfl) ?_ _
      generalize (wr.alloc (.cells #[.int .i64 t, .int .i64 c, .int .i64 y] 114)).drew = wz at *
      have hw1 : IntKind.i64.wrap (ck + c) = ck + c := IntWalk.i64_in _ (by omega)
      have hw2 : IntKind.i64.wrap (gk + y) = gk + y := IntWalk.i64_in _ (by omega)
      go_wp2_with fail
      go_roundw
      case rel => exact ⟨k + 1, by omega, by go_num, by rw [hnx2.out], by rw [hnc2.out], by rw [hng2.out], Ext.trans hex eb⟩
      case measure => simp [intOf]; omega
    · have hkl : k = X.length := by omega
      subst hkl
      go_wp2
      go_ret2
      exact ⟨rfl, er⟩

set_option maxHeartbeats 400000 in
theorem gain_any {i t c y n d : Int} (h : 1 ≤ d ∧ d ≤ 100000 ∧ 0 ≤ n ∧ n ≤ 100000000) (hc : 0 ≤ c ∧ c ≤ 10000) (hy : 0 ≤ y ∧ y ≤ 10000) (w : World) :
    Calls Try.prog 97 #[.agg #[.int .i64 i, .int .i64 t, .int .i64 c, .int .i64 y], .agg #[.int .i64 n, .int .i64 d]] w fun e w' => e = .returned (.int .i64 (d * c - n * y)) ∧ Ext w w' := by
  have q1 : 0 ≤ d * c ∧ d * c ≤ 1000000000 := ⟨Int.mul_nonneg (by omega) hc.1, Int.le_trans (Int.mul_le_mul h.2.1 hc.2 hc.1 (by omega)) (by omega)⟩
  have q2 : 0 ≤ n * y ∧ n * y ≤ 1000000000000 := ⟨Int.mul_nonneg h.2.2.1 hy.1, Int.le_trans (Int.mul_le_mul h.2.2.2 hy.2 hy.1 (by omega)) (by omega)⟩
  have w1 : IntKind.i64.wrap (d * c) = d * c := IntWalk.i64_in _ (by omega)
  have w2 : IntKind.i64.wrap (n * y) = n * y := IntWalk.i64_in _ (by omega)
  have w3 : IntKind.i64.wrap (d * c - n * y) = d * c - n * y := IntWalk.i64_in _ (by omega)
  go_enter Try.func97, Try.ntmps97
  go_wp2
  go_ret
  exact ⟨rfl, inferInstance⟩

set_option maxHeartbeats 800000 in
set_option maxRecDepth 100000 in
theorem cycleGain_any {bx : Nat} {vX : Value} {fn d : Int} {g : Gr} {n s m a0 : Nat} {X : List Int} {w0 w : World} [Ext w0 w] (hg : g.Ok n) (hs : s < g.M.length) (hend : prEnd g s = some m)
    (hpx : IsPx w0 bx g s m g.S.length) (hX : IsInts w0 vX X) (hreq : reqsIn g X) (ha : a0 < m) (hxl : X.length ≤ 60) (hrt : ratioB fn d = true) :
    Calls Try.prog 69 #[.pointer (some ⟨bx, 0, none⟩), .agg #[.int .i64 fn, .int .i64 d], .int .i64 a0, vX] w fun e w' => e = .returned (.int .i64 (d * cyC g s a0 X X.length - fn * cyG g s a0 X X.length)) ∧ Ext w w' := by
  obtain ⟨aX, cX, rfl, lX⟩ := hX.form
  have hin := hid (fun k (hk : k ≤ X.length) => pAft_in hg hs hend ha hreq hk)
  have hcy := hid (fun k (hk : k ≤ X.length) => cy_in hg hs hend ha hreq hk)
  have hri := hid (ratioB_in hrt)
  replace hg := hid hg
  replace hend := hid hend
  replace hreq := hid hreq
  replace hrt := hid hrt
  go_enter Try.func69, Try.ntmps69
  go_upto_region 1 with fail
  have eW : Ext w (w.alloc (.cells #[.int .i64 fn, .int .i64 d] 39)) := inferInstance
  have x0 : (w.alloc (.cells #[.int .i64 fn, .int .i64 d] 39)).cell? ⟨w.heap.size, 0, none⟩ = some (.int .i64 fn) := by go_simp
  have x1 : (w.alloc (.cells #[.int .i64 fn, .int .i64 d] 39)).cell? ⟨w.heap.size, 1, none⟩ = some (.int .i64 d) := by go_simp
  generalize w.alloc (.cells #[.int .i64 fn, .int .i64 d] 39) = W at *
  go_wp2
  go_loopw [2, 9, 15] (fun p q i wr => ∃ k : Nat, k ≤ X.length ∧ i = .int .i64 k ∧ p = .int .i64 (pAft g s a0 X k) ∧ q = .int .i64 (d * cyC g s a0 X k - fn * cyG g s a0 X k) ∧ Ext W wr) (fun _ _ i _ => X.length - (intOf i).toNat)
  case atStart => exact ⟨0, by omega, rfl, rfl, by simp [cyC, cyG], Ext.refl _⟩
  case round =>
    obtain ⟨k, hk, rfl, rfl, rfl, hex⟩ := hrel
    have er : Ext w wr := Ext.trans eW hex
    have er0 : Ext w0 wr := Ext.trans ‹Ext w0 w› er
    have y0 := hex.cell x0
    have y1 := hex.cell x1
    by_cases hlt : k < X.length
    · obtain ⟨b3, o3, rfl, hc3⟩ := hX.at (w' := wr) hlt
      have hr := hreq.out k hlt
      have hat := hin.out k hk
      have hcb := hcy.out k hk
      have hnx := hid (show pAft g s a0 X (k + 1) = (nth (stepAt g s (pAft g s a0 X k) (nth X k).toNat) 0).toNat from rfl)
      have hnc := hid (show cyC g s a0 X (k + 1) = cyC g s a0 X k + nth (stepAt g s (pAft g s a0 X k) (nth X k).toNat) 1 from rfl)
      have hng := hid (show cyG g s a0 X (k + 1) = cyG g s a0 X k + nth (stepAt g s (pAft g s a0 X k) (nth X k).toNat) 2 from rfl)
      obtain ⟨r, hr'⟩ := Int.eq_ofNat_of_zero_le hr.1
      have hrS : r < g.S.length := by omega
      rw [hr', Int.toNat_natCast] at hnx hnc hng
      rw [hr'] at hc3
      replace hr' := hid hr'
      clear hr
      obtain ⟨t, c, y, hst, ht0, ht1, hc0, hc1, hy0, hy1⟩ := stepAt_in hg.out hs hend.out hat hrS
      generalize hp : pAft g s a0 X k = p at *
      replace hp := hid hp
      generalize hCk : cyC g s a0 X k = ck at *
      replace hCk := hid hCk
      generalize hGk : cyG g s a0 X k = gk at *
      replace hGk := hid hGk
      have hv0 := hid (show nth (stepAt g s p r) 0 = t by rw [hst]; rfl)
      have hv1 := hid (show nth (stepAt g s p r) 1 = c by rw [hst]; rfl)
      have hv2 := hid (show nth (stepAt g s p r) 2 = y by rw [hst]; rfl)
      have hnx2 := hid (show ((pAft g s a0 X (k + 1) : Nat) : Int) = t by rw [hnx.out, hv0.out]; omega)
      have hnc2 := hid (show cyC g s a0 X (k + 1) = ck + c by rw [hnc.out, hv1.out])
      have hng2 := hid (show cyG g s a0 X (k + 1) = gk + y by rw [hng.out, hv2.out])
      have hsum := hid (show d * cyC g s a0 X (k + 1) - fn * cyG g s a0 X (k + 1) = (d * ck - fn * gk) + (d * c - fn * y) by
        rw [hnc2.out, hng2.out, Int.mul_add, Int.mul_add]; omega)
      have hri' := hri.out
      have q1 : 0 ≤ d * ck ∧ d * ck ≤ 100000 * 10000 := ⟨Int.mul_nonneg (by omega) (by omega), Int.mul_le_mul hri'.2.1 (by omega) (by omega) (by omega)⟩
      have q2 : 0 ≤ fn * gk ∧ fn * gk ≤ 100000000 * 100000 := ⟨Int.mul_nonneg (by omega) (by omega), Int.mul_le_mul hri'.2.2.2 (by omega) (by omega) (by omega)⟩
      have q3 : 0 ≤ d * c ∧ d * c ≤ 100000 * 10000 := ⟨Int.mul_nonneg (by omega) (by omega), Int.mul_le_mul hri'.2.1 (by omega) (by omega) (by omega)⟩
      have q4 : 0 ≤ fn * y ∧ fn * y ≤ 100000000 * 100000 := ⟨Int.mul_nonneg (by omega) (by omega), Int.mul_le_mul hri'.2.2.2 (by omega) (by omega) (by omega)⟩
      have hwr : IntKind.i64.wrap ((d * ck - fn * gk) + (d * c - fn * y)) = (d * ck - fn * gk) + (d * c - fn * y) := IntWalk.i64_in _ (by omega)
      clear q1 q2 q3 q4 hri'
      replace hst := hid hst
      go_wp2_with fail
      refine (edge_any (w0 := w0) hg.out hs hend.out hpx hat hrS).mono ?_
      rw [hv0.out, hv1.out, hv2.out]
      rintro e w1 ⟨rfl, hb⟩
      have eb : Ext w1 (w1.alloc (.cells #[.int .i64 p, .int .i64 t, .int .i64 c, .int .i64 y] 120)) := inferInstance
      have s0 : (w1.alloc (.cells #[.int .i64 p, .int .i64 t, .int .i64 c, .int .i64 y] 120)).cell? ⟨w1.heap.size, 0, none⟩ = some (.int .i64 p) := by go_simp
      have s1 : (w1.alloc (.cells #[.int .i64 p, .int .i64 t, .int .i64 c, .int .i64 y] 120)).cell? ⟨w1.heap.size, 1, none⟩ = some (.int .i64 t) := by go_simp
      have s2 : (w1.alloc (.cells #[.int .i64 p, .int .i64 t, .int .i64 c, .int .i64 y] 120)).cell? ⟨w1.heap.size, 2, none⟩ = some (.int .i64 c) := by go_simp
      have s3 : (w1.alloc (.cells #[.int .i64 p, .int .i64 t, .int .i64 c, .int .i64 y] 120)).cell? ⟨w1.heap.size, 3, none⟩ = some (.int .i64 y) := by go_simp
      have z0 := eb.cell (hb.cell y0)
      have z1 := eb.cell (hb.cell y1)
      have hb2 : Ext wr (w1.alloc (.cells #[.int .i64 p, .int .i64 t, .int .i64 c, .int .i64 y] 120)) := Ext.trans hb eb
      go_upto_region 6 with fail
      generalize w1.alloc (.cells #[.int .i64 p, .int .i64 t, .int .i64 c, .int .i64 y] 120) = wz at *
      go_wp2_with fail
      refine (gain_any hri.out ⟨hc0, by omega⟩ ⟨hy0, by omega⟩ _).mono ?_
      rintro e w2 ⟨rfl, hb3⟩
      have t1 := hb3.cell s1
      go_wp2_with fail
      go_roundw
      case rel => exact ⟨k + 1, by omega, by go_num, by rw [hnx2.out], by rw [hsum.out], Ext.trans hex (Ext.trans hb2 hb3)⟩
      case measure => simp [intOf]; omega
    · have hkl : k = X.length := by omega
      subst hkl
      go_wp2
      go_ret
      exact ⟨rfl, er⟩

def cgP (M S N : List (List Int)) (s : Int) (X : List Int) : Nat := pAft (grOf M S N s.toNat (offN M S s)) s.toNat 0 X X.length
def cgB (M S N : List (List Int)) (s n d : Int) (X C : List Int) : Bool := prB M S N s && (ratioB n d && (seqB S.length X && (seqB S.length C && (inB C.length 1 6 && decide (pAft (grOf M S N s.toNat (offN M S s)) s.toNat (cgP M S N s X) C C.length = cgP M S N s X)))))
def cgR (M S N : List (List Int)) (s n d : Int) (X C : List Int) : Int := if cgB M S N s n d X C = true then d * cyC (grOf M S N s.toNat (offN M S s)) s.toNat (cgP M S N s X) C C.length - n * cyG (grOf M S N s.toNat (offN M S s)) s.toNat (cgP M S N s X) C C.length else 0
theorem cgB_a {M S N : List (List Int)} {s n d : Int} {X C : List Int} (h : prB M S N s = false) : cgB M S N s n d X C = false := by simp [cgB, h]
theorem cgB_b {M S N : List (List Int)} {s n d : Int} {X C : List Int} (h : ratioB n d = false) : cgB M S N s n d X C = false := by simp [cgB, h]
theorem cgB_c {M S N : List (List Int)} {s n d : Int} {X C : List Int} (h : seqB S.length X = false) : cgB M S N s n d X C = false := by simp [cgB, h]
theorem cgB_d {M S N : List (List Int)} {s n d : Int} {X C : List Int} (h : seqB S.length C = false) : cgB M S N s n d X C = false := by simp [cgB, h]
theorem cgB_e {M S N : List (List Int)} {s n d : Int} {X C : List Int} (h : inB C.length 1 6 = false) : cgB M S N s n d X C = false := by simp [cgB, h]
theorem cgB_f {M S N : List (List Int)} {s n d : Int} {X C : List Int} (h : pAft (grOf M S N s.toNat (offN M S s)) s.toNat (cgP M S N s X) C C.length ≠ cgP M S N s X) : cgB M S N s n d X C = false := by simp [cgB, h]
theorem cgB_yes {M S N : List (List Int)} {s n d : Int} {X C : List Int} (h0 : prB M S N s = true) (h1 : ratioB n d = true) (h2 : seqB S.length X = true) (h3 : seqB S.length C = true) (h4 : inB C.length 1 6 = true) (h5 : pAft (grOf M S N s.toNat (offN M S s)) s.toNat (cgP M S N s X) C C.length = cgP M S N s X) : cgB M S N s n d X C = true := by simp [cgB, h0, h1, h2, h3, h4, h5]
theorem cgR_no {M S N : List (List Int)} {s n d : Int} {X C : List Int} (h : cgB M S N s n d X C = false) : cgR M S N s n d X C = 0 := by simp [cgR, h]
theorem cgR_yes {M S N : List (List Int)} {s n d : Int} {X C : List Int} (h : cgB M S N s n d X C = true) : cgR M S N s n d X C = d * cyC (grOf M S N s.toNat (offN M S s)) s.toNat (cgP M S N s X) C C.length - n * cyG (grOf M S N s.toNat (offN M S s)) s.toNat (cgP M S N s X) C C.length := by simp [cgR, h]
theorem takes_seq {M S N : List (List Int)} {s : Int} {X : List Int} (h : algOk M S N s [] = true) : startB M S s X = seqB S.length X := by
  have h2 := (algOk_parts h).1
  simp only [startB, Bool.and_eq_true] at h2 ⊢
  rw [h2.1.1, h2.1.2]
  simp

set_option maxHeartbeats 1600000 in
set_option maxRecDepth 100000 in
theorem specCG_any {v vN vX vC : Value} {M S N : List (List Int)} {X C : List Int} {s n d : Int} {w0 w : World} [Ext w0 w] (hp : IsProb w0 v M S) (hN : IsRows w0 vN N) (_hs : I64 s) (hX : IsInts w0 vX X) (hC : IsInts w0 vC C) :
    Calls Try.prog 40 #[v, vN, .int .i64 s, .agg #[.int .i64 n, .int .i64 d], vX, vC] w fun e w' => e = .returned (.tuple #[.int .i64 (cgR M S N s n d X C), .bool (cgB M S N s n d X C)]) ∧ Ext w w' := by
  have hp' := hp
  obtain ⟨v1, v2, rfl, hM, hS⟩ := hp
  have hM' := hM
  have hS' := hS
  obtain ⟨a1, c1, rfl, l1⟩ := hM.form
  obtain ⟨a2, c2, rfl, l2⟩ := hS.form
  have hN' := hN
  obtain ⟨aN, cN, rfl, lN⟩ := hN.form
  have hX' := hX
  obtain ⟨aX, cX, rfl, lX⟩ := hX.form
  have hC' := hC
  obtain ⟨aC, cC, rfl, lC⟩ := hC.form
  obtain ⟨W, hW⟩ : ∃ W, W = (w.alloc (.cells #[.slice a1 M.length c1, .slice a2 S.length c2] 29)).alloc (.cells #[.int .i64 n, .int .i64 d] 39) := ⟨_, rfl⟩
  have eW : Ext w W := by rw [hW]; infer_instance
  have k0 : W.cell? ⟨w.heap.size, 0, none⟩ = some (.slice a1 M.length c1) := by rw [hW]; go_simp
  have k1 : W.cell? ⟨w.heap.size, 1, none⟩ = some (.slice a2 S.length c2) := by rw [hW]; go_simp
  have j0 : W.cell? ⟨w.heap.size + 1, 0, none⟩ = some (.int .i64 n) := by rw [hW]; go_simp
  have j1 : W.cell? ⟨w.heap.size + 1, 1, none⟩ = some (.int .i64 d) := by rw [hW]; go_simp
  have eW0 : Ext w0 W := Ext.trans ‹Ext w0 w› eW
  go_enter Try.func40, Try.ntmps40
  go_upto_region 1 with fail
  rw [← hW]
  clear hW
  go_wp2_with fail
  refine (l9Get_any (w0 := w0) hp' hN').mono ?_
  rintro e w2 ⟨hpost, hb2⟩
  have e2 : Ext W w2 := hb2
  rcases hpost with ⟨hno, d1, n1, m1, d2, n2, m2, bb, rfl⟩ | ⟨nn, m, hal, hoff, hend, pd, pm, sd, sm, rfl, hL, hMs⟩
  · have hr := hid (cgB_a (n := n) (d := d) (X := X) (C := C) hno)
    have hz := hid (cgR_no hr.out)
    clear hno
    go_wp2_with fail
    go_ret2
    rw [hz.out, hr.out]
    exact ⟨rfl, by first | exact Ext.trans eW e2 | exact Ext.trans eW (Ext.trans e2 inferInstance)⟩
  · have hgk := hid (gr_ok (algOk_parts hal).1 (algOk_parts hal).2 hoff)
    have hgd : grOf M S N s.toNat nn = ⟨M, S, N, offStp M S s.toNat nn, offGrw M S s.toNat nn⟩ := rfl
    rw [← hgd] at hgk
    clear hgd
    have hsI := startB_state (algOk_parts hal).1
    have hsM : s.toNat < (grOf M S N s.toNat nn).M.length := by show s.toNat < M.length; omega
    have hpos := prEnd_pos hend
    have hprb := hid (prB_some hal hoff hend)
    have hgS : (grOf M S N s.toNat nn).S = S := rfl
    have hgo : grOf M S N s.toNat (offN M S s) = grOf M S N s.toNat nn := by rw [offN_some hoff]
    have htk := hid (fun (Z : List Int) => takes_seq (X := Z) hal)
    clear hsI
    obtain ⟨wg, hwg⟩ : ∃ wg, wg = w2.alloc (.cells #[.slice pd (prLst (grOf M S N s.toNat nn) s.toNat m).length pm, .slice sd (prSt (grOf M S N s.toNat nn) s.toNat m).length sm, .bool false] 76) := ⟨_, rfl⟩
    have eg2 : Ext w2 wg := by rw [hwg]; infer_instance
    have b0 : wg.cell? ⟨w2.heap.size, 0, none⟩ = some (.slice pd (prLst (grOf M S N s.toNat nn) s.toNat m).length pm) := by rw [hwg]; go_simp
    have b1 : wg.cell? ⟨w2.heap.size, 1, none⟩ = some (.slice sd (prSt (grOf M S N s.toNat nn) s.toNat m).length sm) := by rw [hwg]; go_simp
    have b2 : wg.cell? ⟨w2.heap.size, 2, none⟩ = some (.bool false) := by rw [hwg]; go_simp
    have eg : Ext W wg := Ext.trans e2 eg2
    have hMg := hMs.ext (w' := wg)
    have g0 := eg.cell k0
    have g1 := eg.cell k1
    have i0 := eg.cell j0
    have i1 := eg.cell j1
    have e0g : Ext w0 wg := Ext.trans eW0 eg
    have ewg : Ext w wg := Ext.trans eW eg
    replace hoff := hid hoff
    replace hend := hid hend
    replace hal := hid hal
    replace hgo := hid hgo
    replace hgS := hid hgS
    go_upto_region 2 with fail
    rw [← hwg]
    clear hwg
    cases hq1 : ratioB n d with
    | false =>
      have hr := hid (cgB_b (M := M) (S := S) (N := N) (s := s) (X := X) (C := C) hq1)
      have hz := hid (cgR_no hr.out)
      replace hq1 := hid hq1
      go_wp2_with fail
      refine (l9Ratio_any _).mono ?_; rw [hq1.out]; rintro e w3 ⟨rfl, hb3⟩
      have e3 : Ext wg w3 := hb3
      go_wp2_with fail
      go_ret2
      rw [hz.out, hr.out]
      exact ⟨rfl, by first | exact Ext.trans ewg e3⟩
    | true =>
      have hQ1 := hid hq1
      replace hq1 := hid hq1
      cases hq2 : inB C.length 1 6 with
      | false =>
        have hr := hid (cgB_e (M := M) (S := S) (N := N) (s := s) (n := n) (d := d) (X := X) hq2)
        have hz := hid (cgR_no hr.out)
        replace hq2 := hid hq2
        go_wp2_with fail
        refine (l9Ratio_any _).mono ?_; rw [hq1.out]; rintro e w3 ⟨rfl, hb3⟩
        have e3 : Ext wg w3 := hb3
        go_wp2_with fail
        refine (l1In_extw _ _ _ _).mono ?_; rw [hq2.out]; rintro e w4 ⟨rfl, hb4⟩
        have e4 : Ext wg w4 := Ext.trans e3 hb4
        have p4 := e4.cell g0
        have p5 := e4.cell g1
        have e04 : Ext w0 w4 := Ext.trans e0g e4
        go_wp2_with fail
        go_ret2
        rw [hz.out, hr.out]
        exact ⟨rfl, by first | exact Ext.trans ewg e4⟩
      | true =>
        have hQ2 := hid hq2
        replace hq2 := hid hq2
        cases hq3 : startB M S s X with
        | false =>
          have hr := hid (cgB_c (M := M) (N := N) (s := s) (n := n) (d := d) (C := C) (X := X) (by rw [← htk.out]; exact hq3))
          have hz := hid (cgR_no hr.out)
          replace hq3 := hid hq3
          go_wp2_with fail
          refine (l9Ratio_any _).mono ?_; rw [hq1.out]; rintro e w3 ⟨rfl, hb3⟩
          have e3 : Ext wg w3 := hb3
          go_wp2_with fail
          refine (l1In_extw _ _ _ _).mono ?_; rw [hq2.out]; rintro e w4 ⟨rfl, hb4⟩
          have e4 : Ext wg w4 := Ext.trans e3 hb4
          have p4 := e4.cell g0
          have p5 := e4.cell g1
          have e04 : Ext w0 w4 := Ext.trans e0g e4
          go_wp2_with fail
          refine (l8Takes_any (w0 := w0) hp' hX').mono ?_; rw [hq3.out]; rintro e w5 ⟨rfl, hb5⟩
          have e5 : Ext wg w5 := Ext.trans e4 hb5
          have p6 := e5.cell g0
          have p7 := e5.cell g1
          have e05 : Ext w0 w5 := Ext.trans e0g e5
          go_wp2_with fail
          go_ret2
          rw [hz.out, hr.out]
          exact ⟨rfl, by first | exact Ext.trans ewg e5⟩
        | true =>
          have hQ3 := hid hq3
          replace hq3 := hid hq3
          cases hq4 : startB M S s C with
          | false =>
            have hr := hid (cgB_d (M := M) (N := N) (s := s) (n := n) (d := d) (X := X) (C := C) (by rw [← htk.out]; exact hq4))
            have hz := hid (cgR_no hr.out)
            replace hq4 := hid hq4
            go_wp2_with fail
            refine (l9Ratio_any _).mono ?_; rw [hq1.out]; rintro e w3 ⟨rfl, hb3⟩
            have e3 : Ext wg w3 := hb3
            go_wp2_with fail
            refine (l1In_extw _ _ _ _).mono ?_; rw [hq2.out]; rintro e w4 ⟨rfl, hb4⟩
            have e4 : Ext wg w4 := Ext.trans e3 hb4
            have p4 := e4.cell g0
            have p5 := e4.cell g1
            have e04 : Ext w0 w4 := Ext.trans e0g e4
            go_wp2_with fail
            refine (l8Takes_any (w0 := w0) hp' hX').mono ?_; rw [hq3.out]; rintro e w5 ⟨rfl, hb5⟩
            have e5 : Ext wg w5 := Ext.trans e4 hb5
            have p6 := e5.cell g0
            have p7 := e5.cell g1
            have e05 : Ext w0 w5 := Ext.trans e0g e5
            go_wp2_with fail
            refine (l8Takes_any (w0 := w0) hp' hC').mono ?_; rw [hq4.out]; rintro e w6 ⟨rfl, hb6⟩
            have e6 : Ext wg w6 := Ext.trans e5 hb6
            go_wp2_with fail
            go_ret2
            rw [hz.out, hr.out]
            exact ⟨rfl, by first | exact Ext.trans ewg e6⟩
          | true =>
            have hQ4 := hid hq4
            replace hq4 := hid hq4
            go_wp2_with fail
            refine (l9Ratio_any _).mono ?_; rw [hq1.out]; rintro e w3 ⟨rfl, hb3⟩
            have e3 : Ext wg w3 := hb3
            go_wp2_with fail
            refine (l1In_extw _ _ _ _).mono ?_; rw [hq2.out]; rintro e w4 ⟨rfl, hb4⟩
            have e4 : Ext wg w4 := Ext.trans e3 hb4
            have p4 := e4.cell g0
            have p5 := e4.cell g1
            have e04 : Ext w0 w4 := Ext.trans e0g e4
            go_wp2_with fail
            refine (l8Takes_any (w0 := w0) hp' hX').mono ?_; rw [hq3.out]; rintro e w5 ⟨rfl, hb5⟩
            have e5 : Ext wg w5 := Ext.trans e4 hb5
            have p6 := e5.cell g0
            have p7 := e5.cell g1
            have e05 : Ext w0 w5 := Ext.trans e0g e5
            go_wp2_with fail
            refine (l8Takes_any (w0 := w0) hp' hC').mono ?_; rw [hq4.out]; rintro e w6 ⟨rfl, hb6⟩
            have e6 : Ext wg w6 := Ext.trans e5 hb6
            have hX2 := hid (show seqB S.length X = true by rw [← htk.out]; exact hQ3.out)
            have hC2 := hid (show seqB S.length C = true by rw [← htk.out]; exact hQ4.out)
            have hI2 := hQ2
            have hrqX := hid (seq_reqs (g := grOf M S N s.toNat nn) hgS.out hX2.out)
            have hrqC := hid (seq_reqs (g := grOf M S N s.toNat nn) hgS.out hC2.out)
            have hcl := hid (inB_true.1 hI2.out)
            have hpg := hid (show cgP M S N s X = pAft (grOf M S N s.toNat nn) s.toNat 0 X X.length by rw [cgP, hgo.out])
            have hpm := hid (pAft_in hgk.out hsM hend.out hpos hrqX.out (Nat.le_refl X.length))
            have hyes := hid (fun h5 => cgB_yes (n := n) (d := d) (X := X) (C := C) hprb.out hQ1.out hX2.out hC2.out hI2.out h5)
            have hnot := hid (fun h5 => cgB_f (M := M) (S := S) (N := N) (s := s) (n := n) (d := d) (X := X) (C := C) h5)
            have hval := hid (fun hb => cgR_yes (M := M) (S := S) (N := N) (s := s) (n := n) (d := d) (X := X) (C := C) hb)
            rw [hgo.out, hpg.out] at hyes hnot hval
            have hri := hid (ratioB_in hQ1.out)
            have hcy := hid (cy_in hgk.out hsM hend.out hpm.out hrqC.out (Nat.le_refl C.length))
            have e06 : Ext w0 w6 := Ext.trans e0g e6
            clear hpg
            have h60 := e6.cell b0
            have h61 := e6.cell b1
            have h62 := e6.cell b2
            have y0 := e6.cell i0
            have y1 := e6.cell i1
            generalize grOf M S N s.toNat nn = g at *
            go_wp2_with fail
            refine (l9After_any (w0 := wg) hgk.out hsM hend.out hMg (hX'.ext (w' := wg)) hrqX.out hpos).mono ?_
            rintro e w7 ⟨rfl, hb7⟩
            have e7 : Ext wg w7 := Ext.trans e6 hb7
            generalize hp0 : pAft g s.toNat 0 X X.length = p0 at *
            replace hp0 := hid hp0
            have h70 := hb7.cell h60
            have h71 := hb7.cell h61
            have h72 := hb7.cell h62
            go_wp2_with fail
            refine (l9After_any (w0 := wg) hgk.out hsM hend.out hMg (hC'.ext (w' := wg)) hrqC.out hpm.out).mono ?_
            rintro e w8 ⟨rfl, hb8⟩
            have e8 : Ext wg w8 := Ext.trans e7 hb8
            generalize hp1 : pAft g s.toNat p0 C C.length = p1 at *
            replace hp1 := hid hp1
            by_cases hsame : p1 = p0
            · have hok := hid (hyes.out hsame)
              have hv := hid (hval.out hok.out)
              have hne : ((p1 : Int) != (p0 : Int)) = false := by rw [hsame]; simp
              replace hsame := hid hsame
              have h80 := hb8.cell h70
              have h81 := hb8.cell h71
              have h82 := hb8.cell h72
              go_wp2_with fail
              refine (l9Sums_any (w0 := wg) hgk.out hsM hend.out hMg (hC'.ext (w' := wg)) hrqC.out hpm.out (by have := hcl.out; omega)).mono ?_
              rintro e w9 ⟨rfl, hb9⟩
              have e9 : Ext wg w9 := Ext.trans e8 hb9
              have z0 := e9.cell i0
              have z1 := e9.cell i1
              generalize cyC g s.toNat p0 C C.length = cc at *
              generalize cyG g s.toNat p0 C C.length = gg at *
              have hri' := hri.out
              have hcy' := hcy.out
              have hcl' := hcl.out
              have q1 : 0 ≤ d * cc ∧ d * cc ≤ 100000 * 10000 := ⟨Int.mul_nonneg (by omega) (by omega), Int.mul_le_mul hri'.2.1 (by omega) (by omega) (by omega)⟩
              have q2 : 0 ≤ n * gg ∧ n * gg ≤ 100000000 * 100000 := ⟨Int.mul_nonneg (by omega) (by omega), Int.mul_le_mul hri'.2.2.2 (by omega) (by omega) (by omega)⟩
              have wr1 : IntKind.i64.wrap (d * cc) = d * cc := IntWalk.i64_in _ (by omega)
              have wr2 : IntKind.i64.wrap (n * gg) = n * gg := IntWalk.i64_in _ (by omega)
              have wr3 : IntKind.i64.wrap (d * cc - n * gg) = d * cc - n * gg := IntWalk.i64_in _ (by omega)
              go_wp2_with fail
              go_ret2
              rw [hv.out, hok.out]
              exact ⟨rfl, Ext.trans ewg e9⟩
            · have hr := hid (hnot.out hsame)
              have hz := hid (cgR_no hr.out)
              have hne : ((p1 : Int) != (p0 : Int)) = true := by simp; omega
              replace hsame := hid hsame
              go_wp2_with fail
              go_ret2
              rw [hz.out, hr.out]
              exact ⟨rfl, by first | exact Ext.trans ewg e8⟩

set_option maxHeartbeats 1600000 in
set_option maxRecDepth 100000 in
theorem implCG_any {v vN vX vC : Value} {M S N : List (List Int)} {X C : List Int} {s n d : Int} {w0 w : World} [Ext w0 w] (hp : IsProb w0 v M S) (hN : IsRows w0 vN N) (_hs : I64 s) (hX : IsInts w0 vX X) (hC : IsInts w0 vC C) :
    Calls Try.prog 41 #[v, vN, .int .i64 s, .agg #[.int .i64 n, .int .i64 d], vX, vC] w fun e w' => e = .returned (.tuple #[.int .i64 (cgR M S N s n d X C), .bool (cgB M S N s n d X C)]) ∧ Ext w w' := by
  have hp' := hp
  obtain ⟨v1, v2, rfl, hM, hS⟩ := hp
  have hM' := hM
  have hS' := hS
  obtain ⟨a1, c1, rfl, l1⟩ := hM.form
  obtain ⟨a2, c2, rfl, l2⟩ := hS.form
  have hN' := hN
  obtain ⟨aN, cN, rfl, lN⟩ := hN.form
  have hX' := hX
  obtain ⟨aX, cX, rfl, lX⟩ := hX.form
  have hC' := hC
  obtain ⟨aC, cC, rfl, lC⟩ := hC.form
  obtain ⟨W, hW⟩ : ∃ W, W = (w.alloc (.cells #[.slice a1 M.length c1, .slice a2 S.length c2] 29)).alloc (.cells #[.int .i64 n, .int .i64 d] 39) := ⟨_, rfl⟩
  have eW : Ext w W := by rw [hW]; infer_instance
  have k0 : W.cell? ⟨w.heap.size, 0, none⟩ = some (.slice a1 M.length c1) := by rw [hW]; go_simp
  have k1 : W.cell? ⟨w.heap.size, 1, none⟩ = some (.slice a2 S.length c2) := by rw [hW]; go_simp
  have j0 : W.cell? ⟨w.heap.size + 1, 0, none⟩ = some (.int .i64 n) := by rw [hW]; go_simp
  have j1 : W.cell? ⟨w.heap.size + 1, 1, none⟩ = some (.int .i64 d) := by rw [hW]; go_simp
  have eW0 : Ext w0 W := Ext.trans ‹Ext w0 w› eW
  go_enter Try.func41, Try.ntmps41
  go_upto_region 1 with fail
  rw [← hW]
  clear hW
  go_wp2_with fail
  refine (pairsOf_any (w0 := w0) hp' hN').mono ?_
  rintro e w2 ⟨hpost, hb2⟩
  have e2 : Ext W w2 := hb2
  rcases hpost with ⟨hno, rfl⟩ | ⟨nn, m, hal, hoff, hend, bx, pd, ed, pm, em, rfl, hown⟩
  · have hr := hid (cgB_a (n := n) (d := d) (X := X) (C := C) hno)
    have hz := hid (cgR_no hr.out)
    clear hno
    go_wp2_with fail
    go_ret2
    rw [hz.out, hr.out]
    exact ⟨rfl, by first | exact Ext.trans eW e2 | exact Ext.trans eW (Ext.trans e2 inferInstance)⟩
  · have hgk := hid (gr_ok (algOk_parts hal).1 (algOk_parts hal).2 hoff)
    have hgd : grOf M S N s.toNat nn = ⟨M, S, N, offStp M S s.toNat nn, offGrw M S s.toNat nn⟩ := rfl
    rw [← hgd] at hgk
    clear hgd
    have hsI := startB_state (algOk_parts hal).1
    have hsM : s.toNat < (grOf M S N s.toNat nn).M.length := by show s.toNat < M.length; omega
    have hpos := prEnd_pos hend
    have hprb := hid (prB_some hal hoff hend)
    have hgS : (grOf M S N s.toNat nn).S = S := rfl
    have hgo : grOf M S N s.toNat (offN M S s) = grOf M S N s.toNat nn := by rw [offN_some hoff]
    have htk := hid (fun (Z : List Int) => takes_seq (X := Z) hal)
    clear hsI
    obtain ⟨wg, hwg⟩ : ∃ wg, wg = w2 := ⟨_, rfl⟩
    have eg : Ext W wg := by rw [hwg]; exact e2
    have hpx : IsPx wg bx (grOf M S N s.toNat nn) s.toNat m (grOf M S N s.toNat nn).S.length := by rw [hwg]; exact isPx_of_own hgk.out hsM hend hown
    clear hown
    have g0 := eg.cell k0
    have g1 := eg.cell k1
    have i0 := eg.cell j0
    have i1 := eg.cell j1
    have e0g : Ext w0 wg := Ext.trans eW0 eg
    have ewg : Ext w wg := Ext.trans eW eg
    replace hoff := hid hoff
    replace hend := hid hend
    replace hal := hid hal
    replace hgo := hid hgo
    replace hgS := hid hgS
    go_upto_region 2 with fail
    rw [← hwg]
    clear hwg
    cases hq1 : ratioB n d with
    | false =>
      have hr := hid (cgB_b (M := M) (S := S) (N := N) (s := s) (X := X) (C := C) hq1)
      have hz := hid (cgR_no hr.out)
      replace hq1 := hid hq1
      go_wp2_with fail
      refine (isRatio_any _).mono ?_; rw [hq1.out]; rintro e w3 ⟨rfl, hb3⟩
      have e3 : Ext wg w3 := hb3
      have p4 := e3.cell g0
      have p5 := e3.cell g1
      have e03 : Ext w0 w3 := Ext.trans e0g e3
      go_wp2_with fail
      go_ret2
      rw [hz.out, hr.out]
      exact ⟨rfl, by first | exact Ext.trans ewg e3⟩
    | true =>
      have hQ1 := hid hq1
      replace hq1 := hid hq1
      cases hq2 : seqB S.length X with
      | false =>
        have hr := hid (cgB_c (M := M) (N := N) (s := s) (n := n) (d := d) (C := C) hq2)
        have hz := hid (cgR_no hr.out)
        replace hq2 := hid hq2
        go_wp2_with fail
        refine (isRatio_any _).mono ?_; rw [hq1.out]; rintro e w3 ⟨rfl, hb3⟩
        have e3 : Ext wg w3 := hb3
        have p4 := e3.cell g0
        have p5 := e3.cell g1
        have e03 : Ext w0 w3 := Ext.trans e0g e3
        go_wp2_with fail
        refine (isSequence_any (w0 := w0) hM' hS' hX').mono ?_; rw [hq2.out]; rintro e w4 ⟨rfl, hb4⟩
        have e4 : Ext wg w4 := Ext.trans e3 hb4
        have p6 := e4.cell g0
        have p7 := e4.cell g1
        have e04 : Ext w0 w4 := Ext.trans e0g e4
        go_wp2_with fail
        go_ret2
        rw [hz.out, hr.out]
        exact ⟨rfl, by first | exact Ext.trans ewg e4⟩
      | true =>
        have hQ2 := hid hq2
        replace hq2 := hid hq2
        cases hq3 : seqB S.length C with
        | false =>
          have hr := hid (cgB_d (M := M) (N := N) (s := s) (n := n) (d := d) (X := X) hq3)
          have hz := hid (cgR_no hr.out)
          replace hq3 := hid hq3
          go_wp2_with fail
          refine (isRatio_any _).mono ?_; rw [hq1.out]; rintro e w3 ⟨rfl, hb3⟩
          have e3 : Ext wg w3 := hb3
          have p4 := e3.cell g0
          have p5 := e3.cell g1
          have e03 : Ext w0 w3 := Ext.trans e0g e3
          go_wp2_with fail
          refine (isSequence_any (w0 := w0) hM' hS' hX').mono ?_; rw [hq2.out]; rintro e w4 ⟨rfl, hb4⟩
          have e4 : Ext wg w4 := Ext.trans e3 hb4
          have p6 := e4.cell g0
          have p7 := e4.cell g1
          have e04 : Ext w0 w4 := Ext.trans e0g e4
          go_wp2_with fail
          refine (isSequence_any (w0 := w0) hM' hS' hC').mono ?_; rw [hq3.out]; rintro e w5 ⟨rfl, hb5⟩
          have e5 : Ext wg w5 := Ext.trans e4 hb5
          go_wp2_with fail
          go_ret2
          rw [hz.out, hr.out]
          exact ⟨rfl, by first | exact Ext.trans ewg e5⟩
        | true =>
          have hQ3 := hid hq3
          replace hq3 := hid hq3
          cases hq4 : inB C.length 1 6 with
          | false =>
            have hr := hid (cgB_e (M := M) (S := S) (N := N) (s := s) (n := n) (d := d) (X := X) hq4)
            have hz := hid (cgR_no hr.out)
            replace hq4 := hid hq4
            go_wp2_with fail
            refine (isRatio_any _).mono ?_; rw [hq1.out]; rintro e w3 ⟨rfl, hb3⟩
            have e3 : Ext wg w3 := hb3
            have p4 := e3.cell g0
            have p5 := e3.cell g1
            have e03 : Ext w0 w3 := Ext.trans e0g e3
            go_wp2_with fail
            refine (isSequence_any (w0 := w0) hM' hS' hX').mono ?_; rw [hq2.out]; rintro e w4 ⟨rfl, hb4⟩
            have e4 : Ext wg w4 := Ext.trans e3 hb4
            have p6 := e4.cell g0
            have p7 := e4.cell g1
            have e04 : Ext w0 w4 := Ext.trans e0g e4
            go_wp2_with fail
            refine (isSequence_any (w0 := w0) hM' hS' hC').mono ?_; rw [hq3.out]; rintro e w5 ⟨rfl, hb5⟩
            have e5 : Ext wg w5 := Ext.trans e4 hb5
            go_wp2_with fail
            refine (within_ext _ _ _ _).mono ?_; rw [hq4.out]; rintro e w6 ⟨rfl, hb6⟩
            have e6 : Ext wg w6 := Ext.trans e5 hb6
            go_wp2_with fail
            go_ret2
            rw [hz.out, hr.out]
            exact ⟨rfl, by first | exact Ext.trans ewg e6⟩
          | true =>
            have hQ4 := hid hq4
            replace hq4 := hid hq4
            go_wp2_with fail
            refine (isRatio_any _).mono ?_; rw [hq1.out]; rintro e w3 ⟨rfl, hb3⟩
            have e3 : Ext wg w3 := hb3
            have p4 := e3.cell g0
            have p5 := e3.cell g1
            have e03 : Ext w0 w3 := Ext.trans e0g e3
            go_wp2_with fail
            refine (isSequence_any (w0 := w0) hM' hS' hX').mono ?_; rw [hq2.out]; rintro e w4 ⟨rfl, hb4⟩
            have e4 : Ext wg w4 := Ext.trans e3 hb4
            have p6 := e4.cell g0
            have p7 := e4.cell g1
            have e04 : Ext w0 w4 := Ext.trans e0g e4
            go_wp2_with fail
            refine (isSequence_any (w0 := w0) hM' hS' hC').mono ?_; rw [hq3.out]; rintro e w5 ⟨rfl, hb5⟩
            have e5 : Ext wg w5 := Ext.trans e4 hb5
            go_wp2_with fail
            refine (within_ext _ _ _ _).mono ?_; rw [hq4.out]; rintro e w6 ⟨rfl, hb6⟩
            have e6 : Ext wg w6 := Ext.trans e5 hb6
            have hX2 := hQ2
            have hC2 := hQ3
            have hI2 := hQ4
            have hrqX := hid (seq_reqs (g := grOf M S N s.toNat nn) hgS.out hX2.out)
            have hrqC := hid (seq_reqs (g := grOf M S N s.toNat nn) hgS.out hC2.out)
            have hcl := hid (inB_true.1 hI2.out)
            have hpg := hid (show cgP M S N s X = pAft (grOf M S N s.toNat nn) s.toNat 0 X X.length by rw [cgP, hgo.out])
            have hpm := hid (pAft_in hgk.out hsM hend.out hpos hrqX.out (Nat.le_refl X.length))
            have hyes := hid (fun h5 => cgB_yes (n := n) (d := d) (X := X) (C := C) hprb.out hQ1.out hX2.out hC2.out hI2.out h5)
            have hnot := hid (fun h5 => cgB_f (M := M) (S := S) (N := N) (s := s) (n := n) (d := d) (X := X) (C := C) h5)
            have hval := hid (fun hb => cgR_yes (M := M) (S := S) (N := N) (s := s) (n := n) (d := d) (X := X) (C := C) hb)
            rw [hgo.out, hpg.out] at hyes hnot hval
            have hri := hid (ratioB_in hQ1.out)
            have hcy := hid (cy_in hgk.out hsM hend.out hpm.out hrqC.out (Nat.le_refl C.length))
            have e06 : Ext w0 w6 := Ext.trans e0g e6
            clear hpg
            have y0 := e6.cell i0
            have y1 := e6.cell i1
            generalize grOf M S N s.toNat nn = g at *
            go_wp2_with fail
            refine (after_any (w0 := wg) hgk.out hsM hend.out hpx (hX'.ext (w' := wg)) hrqX.out hpos).mono ?_
            rintro e w7 ⟨rfl, hb7⟩
            have e7 : Ext wg w7 := Ext.trans e6 hb7
            generalize hp0 : pAft g s.toNat 0 X X.length = p0 at *
            replace hp0 := hid hp0
            go_wp2_with fail
            refine (after_any (w0 := wg) hgk.out hsM hend.out hpx (hC'.ext (w' := wg)) hrqC.out hpm.out).mono ?_
            rintro e w8 ⟨rfl, hb8⟩
            have e8 : Ext wg w8 := Ext.trans e7 hb8
            generalize hp1 : pAft g s.toNat p0 C C.length = p1 at *
            replace hp1 := hid hp1
            by_cases hsame : p1 = p0
            · have hok := hid (hyes.out hsame)
              have hv := hid (hval.out hok.out)
              have hne : ((p1 : Int) != (p0 : Int)) = false := by rw [hsame]; simp
              replace hsame := hid hsame
              have z0 := e8.cell i0
              have z1 := e8.cell i1
              go_wp2_with fail
              refine (cycleGain_any (w0 := wg) hgk.out hsM hend.out hpx (hC'.ext (w' := wg)) hrqC.out hpm.out (by have := hcl.out; omega) hQ1.out).mono ?_
              rintro e w9 ⟨rfl, hb9⟩
              have e9 : Ext wg w9 := Ext.trans e8 hb9
              go_wp2_with fail
              go_ret2
              rw [hv.out, hok.out]
              exact ⟨rfl, Ext.trans ewg e9⟩
            · have hr := hid (hnot.out hsame)
              have hz := hid (cgR_no hr.out)
              have hne : ((p1 : Int) != (p0 : Int)) = true := by simp; omega
              replace hsame := hid hsame
              go_wp2_with fail
              go_ret2
              rw [hz.out, hr.out]
              exact ⟨rfl, by first | exact Ext.trans ewg e8⟩

end Go.Proofs.Ytobfehekjapnhaa
