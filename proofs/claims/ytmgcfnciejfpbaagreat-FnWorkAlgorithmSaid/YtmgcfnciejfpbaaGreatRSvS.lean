/- The choice of the work function algorithm, the reference's; its first work list. -/
import Derived.Test.YtmgcfnciejfpbaaGreatRNxtS
namespace Go.Proofs.YtmgcfnciejfpbaaGreat
open Go.RowKit

theorem ext_below {B : Nat} {a b c : World} (h : Below B a b) (hB : B ≤ b.heap.size) [e : Ext b c] : Below B a c := h.trans (e.below.mono hB)
theorem lexC_pre {a b : List Int} : ∀ {i : Nat}, i ≤ a.length → i ≤ b.length → (∀ j, j < i → nth a j = nth b j) → lexC a b = lexC (a.drop i) (b.drop i) := by
  intro i
  induction i with
  | zero => intro _ _ _; rfl
  | succ i ih =>
    intro ha hb h
    rw [ih (by omega) (by omega) (fun j hj => h j (by omega)), lexC_step (by omega) (by omega), h i (by omega)]
    simp [cmpI]
theorem lexC_at {a b : List Int} {i : Nat} (ha : i < a.length) (hb : i < b.length) (h : ∀ j, j < i → nth a j = nth b j) (hne : nth a i ≠ nth b i) : decide (lexC a b < 0) = decide (nth a i < nth b i) := by
  have e : lexC a b = cmpI (nth a i) (nth b i) := by
    rw [lexC_pre (by omega) (by omega) h, lexC_step ha hb, if_pos]
    unfold cmpI
    split
    · decide
    · rw [if_pos (by omega)]; decide
  rw [e, cmpI]
  by_cases h1 : nth a i < nth b i
  · simp [h1]
  · rw [if_neg h1, if_pos (by omega)]; simp; omega
set_option maxHeartbeats 800000 in
set_option maxRecDepth 100000 in
theorem l7Before_any {va vb : Value} {a b : List Int} {w0 w : World} [Ext w0 w] (ha : IsInts w0 va a) (hb : IsInts w0 vb b) (hl : a.length = b.length) :
    Calls Tryz.prog 139 #[va, vb] w fun e w' => e = .returned (.bool (decide (lexC a b < 0))) ∧ Ext w w' := by
  obtain ⟨da, ma, rfl, la⟩ := ha.form
  obtain ⟨db, mb, rfl, lb⟩ := hb.form
  replace hl := hid hl
  go_enter Tryz.func139, Tryz.ntmps139
  go_wp2
  go_loopw [5] (fun i wr => ∃ k : Nat, k ≤ a.length ∧ i = .int .i64 k ∧ Hid (∀ j, j < k → nth a j = nth b j) ∧ Ext w wr) (fun i _ => a.length - (intOf i).toNat)
  case atStart => exact ⟨0, by omega, rfl, fun j hj => by omega, Ext.refl _⟩
  case round =>
    obtain ⟨k, hk, rfl, hno, hx⟩ := hrel
    by_cases hlt : k < a.length
    · have hltb : k < b.length := by rw [← hl.out]; exact hlt
      have e0 : Ext w0 wr := Ext.trans ‹Ext w0 w› hx
      obtain ⟨b1, o1, rfl, hc1⟩ := ha.at (w' := wr) hlt
      obtain ⟨b2, o2, rfl, hc2⟩ := hb.at (w' := wr) hltb
      by_cases he : nth a k = nth b k
      · have hn : (nth a k != nth b k) = false := by simp [he]
        have hno2 := hid (show ∀ j, j < k + 1 → nth a j = nth b j from fun j hj => by
          by_cases e : j = k
          · rw [e]; exact he
          · exact hno.out j (by omega))
        replace he := hid he
        go_wp2_with (go_quiet (fail))
        go_roundw
        case rel => exact ⟨k + 1, by omega, by go_num, hno2.out, Ext.trans hx inferInstance⟩
        case measure => simp [intOf]; omega
      · have hn : (nth a k != nth b k) = true := by simpa using he
        have hr := hid (lexC_at hlt hltb hno.out he)
        replace he := hid he
        go_wp2_with (go_quiet (fail))
        go_ret
        exact ⟨ret_bool hr.out.symm, Ext.trans hx inferInstance⟩
    · have hr := hid (show decide (lexC a b < 0) = false by
        have e : a = b := eq_of_nth hl.out fun j hj => hno.out j (by omega)
        rw [e, lexC_self]
        rfl)
      go_wp2
      go_ret
      exact ⟨ret_bool hr.out.symm, hx⟩
theorem sv_yes {M P : List (List Int)} {nx a : List Int} {r : Int} {s : Nat} (h : svN M P nx a r s < (svT M P nx a r s).2.2 ∨ (svN M P nx a r s = (svT M P nx a r s).2.2 ∧ lexC (svX a r s) (svT M P nx a r s).1 < 0)) : (svT M P nx a r (s + 1)).1 = svX a r s ∧ (svT M P nx a r (s + 1)).2.1 = cell M (nth a s).toNat r.toNat ∧ svL M P nx a r (s + 1) = svN M P nx a r s := by
  rw [svL, svT_yes h]
  exact ⟨rfl, rfl, if_neg (by omega)⟩
theorem sv_no {M P : List (List Int)} {nx a : List Int} {r : Int} {s : Nat} (h : ¬ (svN M P nx a r s < (svT M P nx a r s).2.2 ∨ (svN M P nx a r s = (svT M P nx a r s).2.2 ∧ lexC (svX a r s) (svT M P nx a r s).1 < 0))) : (svT M P nx a r (s + 1)).1 = (svT M P nx a r s).1 ∧ (svT M P nx a r (s + 1)).2.1 = (svT M P nx a r s).2.1 ∧ svL M P nx a r (s + 1) = (svT M P nx a r s).2.2 := by
  rw [svL, svT_no h]
  exact ⟨rfl, rfl, if_neg (by omega)⟩
theorem svL_pos {M P : List (List Int)} {nx a : List Int} {r : Int} {s : Nat} (h : s ≠ 0) : svL M P nx a r s = (svT M P nx a r s).2.2 := if_neg h
theorem svT_len {M : List (List Int)} {n k : Nat} {r L : Int} {nx a : List Int} (hd : Dst M n) (hg : GoodW M (confs n k 0) nx L) (hL : L ≤ 2000000) (ha : a ∈ confs n k 0) (hr : 0 ≤ r ∧ r < (n : Int)) {s : Nat} (hs : s ≤ k) (h1 : 1 ≤ s) : (svT M (confs n k 0) nx a r s).1.length = a.length ∧ 0 ≤ (svT M (confs n k 0) nx a r s).2.2 := by
  obtain ⟨t, ht, h2⟩ := svT_at (M := M) (P := confs n k 0) (nx := nx) (a := a) (r := r) (s := s) (fun t ht => by have := (svN_in hd hg ha (s := t) (by omega) hr).2; omega) h1
  rw [h2]
  exact ⟨by rw [svX, sortL_len, List.length_set], (svN_in hd hg ha (s := t) (by omega) hr).1⟩
set_option maxHeartbeats 3200000 in
set_option maxRecDepth 100000 in
theorem l7ServeO_any {v vx va : Value} {M : List (List Int)} {nx a : List Int} {k : Nat} {r L : Int} {w0 w : World} [Ext w0 w] (hm : IsMet w0 v M) (hM : metB M = true) (hn : IsInts w0 vx nx) (ha : IsInts w0 va a) (h1k : 1 ≤ k) (hk : k ≤ 3) (hac : a ∈ confs M.length k 0) (hg : GoodW M (confs M.length k 0) nx L) (hL : L ≤ 2000000) (hr : 0 ≤ r ∧ r < (M.length : Int)) :
    Calls Tryz.prog 96 #[v, vx, va, .int .i64 r] w fun e w' => ∃ u, e = .returned (.tuple #[u, .int .i64 (svK M (confs M.length k 0) nx a r)]) ∧ Own w' w.heap.size [intRowOf 3 u (svC M (confs M.length k 0) nx a r)] ∧ Ext w w' := by
  obtain ⟨rn, rfl⟩ : ∃ rn : Nat, r = (rn : Int) := ⟨r.toNat, by omega⟩
  obtain ⟨v1, rfl, hR⟩ := hm
  obtain ⟨a1, c1, rfl, l1⟩ := hR.form
  obtain ⟨dw, mw, rfl, lw⟩ := hn.form
  have ha' := ha
  obtain ⟨da, ma, rfl, la⟩ := ha.form
  have hMl := met_len hM
  have hMr := hid (fun (x : Nat) (hx : x < M.length) => met_row hM hx)
  have hdst := hid (dst_of_met hM)
  replace hM := hid hM
  have hrn : rn < M.length := by omega
  have hri := hid (show I64 (rn : Int) by unfold I64; omega)
  have hrp := hid hr
  clear hr
  obtain ⟨hak, _, hap0⟩ := confs_iff.1 hac
  have hap : Pts M.length a := fun x hx => by have := hap0 x hx; omega
  clear hap0
  have hSw := hid (show ∀ s, s < k → sortL (a.set s rn) ∈ confs M.length k 0 from fun s hs => (set_conf hac hs hrp.out).1)
  have hTl := hid (fun (s : Nat) (hs : s ≤ k) (h1 : 1 ≤ s) => svT_len hdst.out hg hL hac hrp.out hs h1)
  have hNi := hid (fun (s : Nat) (hs : s < k) => svN_in hdst.out hg hac hs hrp.out)
  have hwb := hid (show ∀ j, j < (confs M.length k 0).length → 0 ≤ nth nx j ∧ nth nx j ≤ 2000000 from fun j hj => by have := hg.2 j hj; omega)
  have hlw := hid hg.1.1
  replace hg := hid hg
  replace hac := hid hac
  have h216 := confs_216 hMl.2 hk
  have hak3 : a.length ≤ 3 := by omega
  replace hak := hid hak
  cases hh : hasB a rn with
  | true =>
    have hC := hid (show svC M (confs M.length k 0) nx a rn = a by rw [svC, hh]; rfl)
    have hK := hid (show svK M (confs M.length k 0) nx a rn = 0 by rw [svK, hh]; rfl)
    replace hh := hid hh
    go_enter Tryz.func96, Tryz.ntmps96
    go_wp2_with fail
    with_reducible refine (l1Has_any (w0 := w0) ha').mono ?_
    rw [hh.out]
    rintro e w1 ⟨rfl, rfl⟩
    go_wp2_with fail
    with_reducible refine (l1Own_any (w0 := w0) ha').mono ?_
    rintro e w2 ⟨d, m, rfl, own, e2⟩
    go_wp2_with fail
    go_ret2
    exact ⟨.slice d a.length m, ret_tuple2 rfl (by rw [hK.out]; rfl), by rw [hC.out]; exact own.mono (by simp), Ext.trans inferInstance e2⟩
  | false =>
    have hC := hid (show svC M (confs M.length k 0) nx a rn = (svT M (confs M.length k 0) nx a rn a.length).1 by rw [svC, hh]; rfl)
    have hK := hid (show svK M (confs M.length k 0) nx a rn = (svT M (confs M.length k 0) nx a rn a.length).2.1 by rw [svK, hh]; rfl)
    replace hh := hid hh
    go_enter Tryz.func96, Tryz.ntmps96
    go_wp2_with fail
    with_reducible refine (l1Has_any (w0 := w0) ha').mono ?_
    rw [hh.out]
    rintro e w1 ⟨rfl, rfl⟩
    go_wp2_with fail
    refine (l6Configs_any (n := M.length) (k := a.length) hMl.2 hak3 _).mono ?_
    rintro e wP ⟨vP, rfl, hP, eP⟩
    rw [hak.out] at hP
    have x0 : wP.cell? ⟨w.heap.size, 0, none⟩ = some (.slice a1 M.length c1) := eP.cell (by go_simp)
    have ePw : Ext w wP := Ext.trans inferInstance eP
    have e0P : Ext w0 wP := Ext.trans ‹Ext w0 w› ePw
    clear eP
    obtain ⟨bx, hbx⟩ : ∃ q, q = w.heap.size := ⟨_, rfl⟩
    rw [← hbx] at x0 ⊢
    obtain ⟨B, hB⟩ : ∃ b, b = wP.heap.size := ⟨_, rfl⟩
    have hBw := hid (show w.heap.size ≤ B by rw [hB]; exact ePw.size)
    have hEx := hid (show ∀ u, Below B wP u → Ext wP u from fun u h => ⟨by rw [← hB]; exact h⟩)
    have hBl := hid (show ∀ u, Ext wP u → B ≤ u.heap.size from fun u e => by rw [hB]; exact e.size)
    have b0 : Below B wP (wP.alloc (.cells #[] 3)) := by rw [hB]; exact (Below.refl _ _).alloc (Nat.le_refl _) _
    have own0 : Own (wP.alloc (.cells #[] 3)) B [intRowOf 3 (.slice (some ⟨wP.heap.size, 0, none⟩) ([] : List Int).length 0) []] := by
      rw [hB]
      exact Own.litInts (Nat.le_refl _) rfl rfl (by simp) rfl
    replace hB := hid hB
    replace hbx := hid hbx
    obtain ⟨P, hPd⟩ : ∃ p, p = confs M.length k 0 := ⟨_, rfl⟩
    rw [← hPd] at hP hSw hTl hNi hwb hlw h216 hC hK
    replace hPd := hid hPd
    obtain ⟨aP, cP, rfl, lP⟩ := hP.form
    go_wp2_with fail
    go_loopw [11, 12, 13, 14] (fun bv lv cv i wr => ∃ s : Nat, s ≤ a.length ∧ i = .int .i64 s ∧ lv = .int .i64 (svL M P nx a rn s) ∧ cv = .int .i64 (svT M P nx a rn s).2.1 ∧ Own wr B [intRowOf 3 bv (svT M P nx a rn s).1] ∧ Below B wP wr) (fun _ _ _ i _ => a.length - (intOf i).toNat)
    case atStart => exact ⟨0, by omega, rfl, rfl, rfl, own0, b0⟩
    case round =>
      clear own0 b0
      obtain ⟨s, hs, rfl, rfl, rfl, hown, hb⟩ := hrel
      obtain ⟨wo, rfl⟩ : ∃ y : World, y = wr := ⟨_, rfl⟩
      have hx : Ext wP wo := hEx.out _ hb
      have hBo := hBl.out _ hx
      by_cases hlt : s < a.length
      · have hsk : s < k := by rw [← hak.out]; exact hlt
        have e0o : Ext w0 wo := Ext.trans e0P hx
        have hmem := hid (hSw.out s hsk)
        have htl := (atR_lt hmem.out).1
        obtain ⟨ba, oa, x, hd1, hxx, hxM, hca⟩ := ha.pt (w' := wo) hap (k := s) hlt
        cases hd1
        obtain ⟨bM, oM, dR, mR, hdM, hcM, hiR, _⟩ := hR.at (w' := wo) (k := x) hxM
        cases hdM
        have hRl : rn < (row M x).length := by rw [hMr.out x hxM]; exact hrn
        obtain ⟨bR, oR, hdR, hcR⟩ := hiR.at (w' := wo) (k := rn) hRl
        cases hdR
        have hswl := hid (show (sortL (a.set s rn)).length = a.length by rw [sortL_len, List.length_set])
        have hswi := hid (show ∀ y ∈ sortL (a.set s rn), I64 y from pts_i64 (n := M.length) ((hap.set hrp.out).perm (sortL_perm _)) (by omega))
        obtain ⟨t, ht⟩ : ∃ t, t = atR P (sortL (a.set s rn)) := ⟨_, rfl⟩
        rw [← ht] at htl
        have htw : t < nx.length := by rw [hlw.out]; exact htl
        obtain ⟨bw, ow, hdw, hcw⟩ := hn.at (w' := wo) htw
        cases hdw
        have x0q := hx.cell x0
        have hsum := hid (show svN M P nx a rn s = nth nx t + nth (row M x) rn by
          unfold svN svX
          rw [← ht, hxx]
          rfl)
        have hdcv := hid (show cell M (nth a s).toNat ((rn : Int)).toNat = nth (row M x) rn by rw [hxx]; rfl)
        have hq1 := hwb.out t htl
        have hq2 : 0 ≤ nth (row M x) rn ∧ nth (row M x) rn ≤ 99 := hdst.out.pos x rn hxM hrn
        have hy := hid (fun h => sv_yes (M := M) (P := P) (nx := nx) (a := a) (r := rn) (s := s) h)
        have hz := hid (fun h => sv_no (M := M) (P := P) (nx := nx) (a := a) (r := rn) (s := s) h)
        have hcas := hid (show (s = 0 ∧ svL M P nx a rn s = -1 ∧ (svT M P nx a rn s).2.2 = 1073741824) ∨ (svL M P nx a rn s = (svT M P nx a rn s).2.2 ∧ (svT M P nx a rn s).1.length = a.length ∧ 0 ≤ (svT M P nx a rn s).2.2) from by
          by_cases h0 : s = 0
          · subst h0; exact .inl ⟨rfl, rfl, rfl⟩
          · exact .inr ⟨svL_pos h0, hTl.out s (by omega) (by omega)⟩)
        have hbi := hid (show (svT M P nx a rn s).1.length ≤ 3 ∧ ∀ y ∈ (svT M P nx a rn s).1, I64 y from by
          by_cases h0 : s = 0
          · subst h0; exact ⟨Nat.zero_le _, fun y hy => by cases hy⟩
          · obtain ⟨q, hq, h2⟩ := svT_at (M := M) (P := P) (nx := nx) (a := a) (r := rn) (s := s) (fun q hq => by have := (hNi.out q (by omega)).2; omega) (by omega)
            rw [h2]
            exact ⟨by show (svX a rn q).length ≤ 3; rw [svX, sortL_len, List.length_set]; exact hak3, pts_i64 (n := M.length) ((hap.set hrp.out).perm (sortL_perm _)) (by omega)⟩)
        rw [hsum.out, hdcv.out] at hy
        rw [hsum.out] at hz
        have hat := hid ht.symm
        replace ht := hid ht
        replace hxx := hid hxx
        obtain ⟨T, hT⟩ : ∃ T, T = svT M P nx a rn s := ⟨_, rfl⟩
        rw [← hT] at hown hy hz hcas hbi ⊢
        replace hT := hid hT
        obtain ⟨bl, cst, bs⟩ := T
        simp only at hown hy hz hcas hbi ⊢
        obtain ⟨l, hl⟩ : ∃ l, l = svL M P nx a rn s := ⟨_, rfl⟩
        rw [← hl] at hcas ⊢
        replace hl := hid hl
        obtain ⟨wt, hwt⟩ : ∃ y, y = nth nx t := ⟨_, rfl⟩
        rw [← hwt] at hcw hy hz hq1
        replace hwt := hid hwt
        obtain ⟨dc, hdc⟩ : ∃ y, y = nth (row M x) rn := ⟨_, rfl⟩
        rw [← hdc] at hcR hy hz hq2
        replace hdc := hid hdc
        obtain ⟨Rx, hRx⟩ : ∃ y, y = row M x := ⟨_, rfl⟩
        rw [← hRx] at hcM hiR hRl
        replace hRx := hid hRx
        have hbv : IsInts wo _ bl := hown.reads (by unfold Short; have := hbi.out.1; omega) hbi.out.2
        obtain ⟨db, nb, mb, rfl, hnb⟩ := own_formN hown
        have hs1 : IntKind.i64.wrap (wt + dc) = wt + dc := IntWalk.i64_in _ (by omega)
        go_wp2_with fail
        with_reducible refine (l7Swap_any (w0 := w0) ha' hlt hri.out (by omega)).mono ?_
        rintro e w5 ⟨u5, rfl, own5, e5⟩
        have e5P : Ext wP w5 := Ext.trans hx e5
        have hU : IsInts w5 u5 (sortL (a.set s rn)) := own5.reads (by unfold Short; rw [hswl.out]; omega) hswi.out
        replace own5 := own5.mono hBo
        have hB5 : B ≤ w5.heap.size := Nat.le_trans hBo e5.size
        have hb5 := hbv.ext (w' := w5)
        have hSx := hid (show ∀ u, Ext w5 u → u.cell? ⟨bw, ow + t, none⟩ = some (.int .i64 wt) ∧ u.cell? ⟨bx, 0, none⟩ = some (.slice (some ⟨bM, oM, none⟩) M.length c1) ∧ u.cell? ⟨ba, oa + s, none⟩ = some (.int .i64 (x : Int)) ∧ u.cell? ⟨bM, oM + x, none⟩ = some (.slice (some ⟨bR, oR, none⟩) Rx.length mR) ∧ u.cell? ⟨bR, oR + rn, none⟩ = some (.int .i64 dc) from fun u e => ⟨(Ext.trans e5 e).cell hcw, (Ext.trans e5 e).cell x0q, (Ext.trans e5 e).cell hca, (Ext.trans e5 e).cell hcM, (Ext.trans e5 e).cell hcR⟩)
        clear hcw x0q hca hcM hcR
        have hXd := hid (show svX a rn s = sortL (a.set s rn) from rfl)
        rw [hXd.out] at hy hz
        obtain ⟨X, hX⟩ : ∃ X, X = sortL (a.set s rn) := ⟨_, rfl⟩
        rw [← hX] at hy hz hU hmem hat hswl own5
        replace hX := hid hX
        by_cases hl0 : l < 0
        · have hl0' : decide (l < 0) = true := decide_eq_true hl0
          have hyes := hid (hy.out (.inl (by rcases hcas.out with ⟨_, _, h⟩ | ⟨h, _, h2⟩ <;> omega)))
          clear hcas hy hz
          go_wp2_with fail
          refine region_held_from (w0 := w5) (S := fun u => u.cell? ⟨bw, ow + t, none⟩ = some (.int .i64 wt) ∧ u.cell? ⟨bx, 0, none⟩ = some (.slice (some ⟨bM, oM, none⟩) M.length c1) ∧ u.cell? ⟨ba, oa + s, none⟩ = some (.int .i64 (x : Int)) ∧ u.cell? ⟨bM, oM + x, none⟩ = some (.slice (some ⟨bR, oR, none⟩) Rx.length mR) ∧ u.cell? ⟨bR, oR + rn, none⟩ = some (.int .i64 dc)) (by kernel_rfl) hSx.out (fun wd ed hHeld0 => ?_)
          refine wpAnyH_take (i := 0) (v := .slice (some ⟨bw, ow, none⟩) nx.length mw) rfl (by kernel_rfl) (by kernel_rfl) (by kernel_rfl) (fun _ _ _ h => h) (Or.inl ⟨by rfl, by intro wx hx; go_simp⟩) (by assumption) ?_
          try simp only [List.getElem_toArray, List.getElem_cons_zero, Act.put, List.setIfInBounds_toArray, List.set_cons_zero, List.set_cons_succ]
          refine wpAnyH_take (i := 1) (v := .slice aP P.length cP) rfl (by kernel_rfl) (by kernel_rfl) (by kernel_rfl) (fun _ _ _ h => h) (Or.inl ⟨by rfl, by intro wx hx; go_simp⟩) (by assumption) ?_
          try simp only [List.getElem_toArray, List.getElem_cons_succ, List.getElem_cons_zero, Act.put, List.setIfInBounds_toArray, List.set_cons_zero, List.set_cons_succ]
          refine wpAnyH_take (i := 2) (v := u5) rfl (by kernel_rfl) (by kernel_rfl) (by kernel_rfl) (fun _ _ _ h => h) (Or.inl ⟨by rfl, by intro wx hx; go_simp⟩) (by assumption) ?_
          try simp only [List.getElem_toArray, List.getElem_cons_succ, List.getElem_cons_zero, Act.put, List.setIfInBounds_toArray, List.set_cons_zero, List.set_cons_succ]
          refine wpAnyH_take (i := 6) (v := .pointer (some ⟨bx, 0, none⟩)) rfl (by kernel_rfl) (by kernel_rfl) (by kernel_rfl) (fun _ _ _ h => h) (Or.inl ⟨by rfl, by intro wx hx; go_simp⟩) (by assumption) ?_
          try simp only [List.getElem_toArray, List.getElem_cons_succ, List.getElem_cons_zero, Act.put, List.setIfInBounds_toArray, List.set_cons_zero, List.set_cons_succ]
          refine wpAnyH_take (i := 7) (v := .slice (some ⟨bM, oM, none⟩) M.length c1) rfl (by kernel_rfl) (by kernel_rfl) (by kernel_rfl) (fun _ _ _ h => h) (Or.inl ⟨by rfl, by intro wx hx; obtain ⟨_, _, _, _, _⟩ := hx; go_simp⟩) (by assumption) ?_
          try simp only [List.getElem_toArray, List.getElem_cons_succ, List.getElem_cons_zero, Act.put, List.setIfInBounds_toArray, List.set_cons_zero, List.set_cons_succ]
          refine wpAnyH_take (i := 8) (v := .slice (some ⟨ba, oa, none⟩) a.length ma) rfl (by kernel_rfl) (by kernel_rfl) (by kernel_rfl) (fun _ _ _ h => h) (Or.inl ⟨by rfl, by intro wx hx; go_simp⟩) (by assumption) ?_
          try simp only [List.getElem_toArray, List.getElem_cons_succ, List.getElem_cons_zero, Act.put, List.setIfInBounds_toArray, List.set_cons_zero, List.set_cons_succ]
          refine wpAnyH_take (i := 9) (v := .int .i64 s) rfl (by kernel_rfl) (by kernel_rfl) (by kernel_rfl) (fun _ _ _ h => h) (Or.inl ⟨by rfl, by intro wx hx; go_simp⟩) (by assumption) ?_
          try simp only [List.getElem_toArray, List.getElem_cons_succ, List.getElem_cons_zero, Act.put, List.setIfInBounds_toArray, List.set_cons_zero, List.set_cons_succ]
          refine wpAnyH_take (i := 10) (v := .pointer (some ⟨ba, oa + s, none⟩)) rfl (by kernel_rfl) (by kernel_rfl) (by kernel_rfl) (fun _ _ _ h => h) (Or.inl ⟨by rfl, by intro wx hx; go_simp⟩) (by assumption) ?_
          try simp only [List.getElem_toArray, List.getElem_cons_succ, List.getElem_cons_zero, Act.put, List.setIfInBounds_toArray, List.set_cons_zero, List.set_cons_succ]
          refine wpAnyH_take (i := 11) (v := .int .i64 x) rfl (by kernel_rfl) (by kernel_rfl) (by kernel_rfl) (fun _ _ _ h => h) (Or.inl ⟨by rfl, by intro wx hx; obtain ⟨_, _, _, _, _⟩ := hx; go_simp⟩) (by assumption) ?_
          try simp only [List.getElem_toArray, List.getElem_cons_succ, List.getElem_cons_zero, Act.put, List.setIfInBounds_toArray, List.set_cons_zero, List.set_cons_succ]
          refine wpAnyH_take (i := 12) (v := .pointer (some ⟨bM, oM + x, none⟩)) rfl (by kernel_rfl) (by kernel_rfl) (by kernel_rfl) (fun _ _ _ h => h) (Or.inl ⟨by rfl, by intro wx hx; go_simp⟩) (by assumption) ?_
          try simp only [List.getElem_toArray, List.getElem_cons_succ, List.getElem_cons_zero, Act.put, List.setIfInBounds_toArray, List.set_cons_zero, List.set_cons_succ]
          refine wpAnyH_take (i := 13) (v := .slice (some ⟨bR, oR, none⟩) Rx.length mR) rfl (by kernel_rfl) (by kernel_rfl) (by kernel_rfl) (fun _ _ _ h => h) (Or.inl ⟨by rfl, by intro wx hx; obtain ⟨_, _, _, _, _⟩ := hx; go_simp⟩) (by assumption) ?_
          try simp only [List.getElem_toArray, List.getElem_cons_succ, List.getElem_cons_zero, Act.put, List.setIfInBounds_toArray, List.set_cons_zero, List.set_cons_succ]
          refine wpAnyH_take (i := 14) (v := .int .i64 rn) rfl (by kernel_rfl) (by kernel_rfl) (by kernel_rfl) (fun _ _ _ h => h) (Or.inl ⟨by rfl, by intro wx hx; go_simp⟩) (by assumption) ?_
          try simp only [List.getElem_toArray, List.getElem_cons_succ, List.getElem_cons_zero, Act.put, List.setIfInBounds_toArray, List.set_cons_zero, List.set_cons_succ]
          refine wpAnyH_take (i := 15) (v := .pointer (some ⟨bR, oR + rn, none⟩)) rfl (by kernel_rfl) (by kernel_rfl) (by kernel_rfl) (fun _ _ _ h => h) (Or.inl ⟨by rfl, by intro wx hx; go_simp⟩) (by assumption) ?_
          try simp only [List.getElem_toArray, List.getElem_cons_succ, List.getElem_cons_zero, Act.put, List.setIfInBounds_toArray, List.set_cons_zero, List.set_cons_succ]
          refine wpAnyH_take (i := 16) (v := .int .i64 dc) rfl (by kernel_rfl) (by kernel_rfl) (by kernel_rfl) (fun _ _ _ h => h) (Or.inl ⟨by rfl, by intro wx hx; obtain ⟨_, _, _, _, _⟩ := hx; go_simp⟩) (by assumption) ?_
          try simp only [List.getElem_toArray, List.getElem_cons_succ, List.getElem_cons_zero, Act.put, List.setIfInBounds_toArray, List.set_cons_zero, List.set_cons_succ]
          refine wpAnyH_ready (rs := [3]) (by kernel_rfl) (by simp) ?_
          refine AllReadyH.cons rfl (fun K hK => ?_) AllReadyH.nil
          go_simp
          go_at_call 81
          refine (l7Index_any (w0 := wd) (w := wd) (hP.ext (e := Ext.trans e5P ed)) (hU.ext (e := ed)) hmem.out).mono ?_
          rw [hat.out]
          rintro e w6 ⟨rfl, e6⟩
          have e65 : Ext w5 w6 := Ext.trans ed e6
          have own6 := own5.ext (w' := w6)
          have ob6 := (hown.ext (w' := w5)).ext (w' := w6)
          have b6 : Below B wP w6 := (hb.trans (e5.below.mono hBo)).trans (e65.below.mono hB5)
          have hB6 : B ≤ w6.heap.size := Nat.le_trans hB5 e65.size
          have hS6 := hSx.out w6 e65
          go_wp2_with fail
          refine hK.out _ _ hS6 (fun _ => ?_)
          clear hK K
          try simp only [List.getElem_toArray, List.getElem_cons_succ, List.getElem_cons_zero, Act.put, List.setIfInBounds_toArray, List.set_cons_zero, List.set_cons_succ]
          refine wpAnyH_take (i := 4) (v := .pointer (some ⟨bw, ow + t, none⟩)) rfl (by kernel_rfl) (by kernel_rfl) (by kernel_rfl) (fun _ _ _ h => h) (Or.inl ⟨by rfl, by intro wx hx; go_simp⟩) (by assumption) ?_
          try simp only [List.getElem_toArray, List.getElem_cons_succ, List.getElem_cons_zero, Act.put, List.setIfInBounds_toArray, List.set_cons_zero, List.set_cons_succ]
          refine wpAnyH_take (i := 5) (v := .int .i64 wt) rfl (by kernel_rfl) (by kernel_rfl) (by kernel_rfl) (fun _ _ _ h => h) (Or.inl ⟨by rfl, by intro wx hx; obtain ⟨_, _, _, _, _⟩ := hx; go_simp⟩) (by assumption) ?_
          try simp only [List.getElem_toArray, List.getElem_cons_succ, List.getElem_cons_zero, Act.put, List.setIfInBounds_toArray, List.set_cons_zero, List.set_cons_succ]
          refine wpAnyH_take (i := 17) (v := .int .i64 (wt + dc)) rfl (by kernel_rfl) (by kernel_rfl) (by kernel_rfl) (fun _ _ _ h => h) (Or.inl ⟨by rfl, by intro wx hx; go_simp⟩) (by assumption) ?_
          try simp only [List.getElem_toArray, List.getElem_cons_succ, List.getElem_cons_zero, Act.put, List.setIfInBounds_toArray, List.set_cons_zero, List.set_cons_succ]
          refine wpAnyH_take (i := 18) (v := .int .i64 (wt + dc)) rfl (by kernel_rfl) (by kernel_rfl) (by kernel_rfl) (fun _ _ _ h => h) (Or.inl ⟨by rfl, by intro wx hx; go_simp⟩) (by assumption) ?_
          try simp only [List.getElem_toArray, List.getElem_cons_succ, List.getElem_cons_zero, Act.put, List.setIfInBounds_toArray, List.set_cons_zero, List.set_cons_succ]
          refine wpAnyH_done (by kernel_rfl) ?_ _
          obtain ⟨k1, k2, k3, k4, k5⟩ := hS6
          go_wp2_with (go_quiet (fail))
          go_roundw
          case rel => exact ⟨s + 1, by omega, by go_num, by rw [hyes.out.2.2], by rw [hyes.out.2.1], by rw [hyes.out.1]; exact own6.ext, ext_below b6 hB6⟩
          case measure => simp [intOf]; omega
        · have hl0' : decide (l < 0) = false := decide_eq_false hl0
          have hlb := hid (show l = bs ∧ bl.length = a.length by rcases hcas.out with ⟨_, h, _⟩ | ⟨h, h2, _⟩; omega; exact ⟨h, h2⟩)
          by_cases hl1 : wt + dc < l
          · have hl1' : decide (wt + dc < l) = true := decide_eq_true hl1
            have hyes := hid (hy.out (.inl (by rw [← hlb.out.1]; exact hl1)))
            clear hcas hy hz
            go_wp2_with fail
            refine region_held_from (w0 := w5) (S := fun u => u.cell? ⟨bw, ow + t, none⟩ = some (.int .i64 wt) ∧ u.cell? ⟨bx, 0, none⟩ = some (.slice (some ⟨bM, oM, none⟩) M.length c1) ∧ u.cell? ⟨ba, oa + s, none⟩ = some (.int .i64 (x : Int)) ∧ u.cell? ⟨bM, oM + x, none⟩ = some (.slice (some ⟨bR, oR, none⟩) Rx.length mR) ∧ u.cell? ⟨bR, oR + rn, none⟩ = some (.int .i64 dc)) (by kernel_rfl) hSx.out (fun wd ed hHeld0 => ?_)
            refine wpAnyH_take (i := 0) (v := .slice (some ⟨bw, ow, none⟩) nx.length mw) rfl (by kernel_rfl) (by kernel_rfl) (by kernel_rfl) (fun _ _ _ h => h) (Or.inl ⟨by rfl, by intro wx hx; go_simp⟩) (by assumption) ?_
            try simp only [List.getElem_toArray, List.getElem_cons_zero, Act.put, List.setIfInBounds_toArray, List.set_cons_zero, List.set_cons_succ]
            refine wpAnyH_take (i := 1) (v := .slice aP P.length cP) rfl (by kernel_rfl) (by kernel_rfl) (by kernel_rfl) (fun _ _ _ h => h) (Or.inl ⟨by rfl, by intro wx hx; go_simp⟩) (by assumption) ?_
            try simp only [List.getElem_toArray, List.getElem_cons_succ, List.getElem_cons_zero, Act.put, List.setIfInBounds_toArray, List.set_cons_zero, List.set_cons_succ]
            refine wpAnyH_take (i := 2) (v := u5) rfl (by kernel_rfl) (by kernel_rfl) (by kernel_rfl) (fun _ _ _ h => h) (Or.inl ⟨by rfl, by intro wx hx; go_simp⟩) (by assumption) ?_
            try simp only [List.getElem_toArray, List.getElem_cons_succ, List.getElem_cons_zero, Act.put, List.setIfInBounds_toArray, List.set_cons_zero, List.set_cons_succ]
            refine wpAnyH_take (i := 6) (v := .pointer (some ⟨bx, 0, none⟩)) rfl (by kernel_rfl) (by kernel_rfl) (by kernel_rfl) (fun _ _ _ h => h) (Or.inl ⟨by rfl, by intro wx hx; go_simp⟩) (by assumption) ?_
            try simp only [List.getElem_toArray, List.getElem_cons_succ, List.getElem_cons_zero, Act.put, List.setIfInBounds_toArray, List.set_cons_zero, List.set_cons_succ]
            refine wpAnyH_take (i := 7) (v := .slice (some ⟨bM, oM, none⟩) M.length c1) rfl (by kernel_rfl) (by kernel_rfl) (by kernel_rfl) (fun _ _ _ h => h) (Or.inl ⟨by rfl, by intro wx hx; obtain ⟨_, _, _, _, _⟩ := hx; go_simp⟩) (by assumption) ?_
            try simp only [List.getElem_toArray, List.getElem_cons_succ, List.getElem_cons_zero, Act.put, List.setIfInBounds_toArray, List.set_cons_zero, List.set_cons_succ]
            refine wpAnyH_take (i := 8) (v := .slice (some ⟨ba, oa, none⟩) a.length ma) rfl (by kernel_rfl) (by kernel_rfl) (by kernel_rfl) (fun _ _ _ h => h) (Or.inl ⟨by rfl, by intro wx hx; go_simp⟩) (by assumption) ?_
            try simp only [List.getElem_toArray, List.getElem_cons_succ, List.getElem_cons_zero, Act.put, List.setIfInBounds_toArray, List.set_cons_zero, List.set_cons_succ]
            refine wpAnyH_take (i := 9) (v := .int .i64 s) rfl (by kernel_rfl) (by kernel_rfl) (by kernel_rfl) (fun _ _ _ h => h) (Or.inl ⟨by rfl, by intro wx hx; go_simp⟩) (by assumption) ?_
            try simp only [List.getElem_toArray, List.getElem_cons_succ, List.getElem_cons_zero, Act.put, List.setIfInBounds_toArray, List.set_cons_zero, List.set_cons_succ]
            refine wpAnyH_take (i := 10) (v := .pointer (some ⟨ba, oa + s, none⟩)) rfl (by kernel_rfl) (by kernel_rfl) (by kernel_rfl) (fun _ _ _ h => h) (Or.inl ⟨by rfl, by intro wx hx; go_simp⟩) (by assumption) ?_
            try simp only [List.getElem_toArray, List.getElem_cons_succ, List.getElem_cons_zero, Act.put, List.setIfInBounds_toArray, List.set_cons_zero, List.set_cons_succ]
            refine wpAnyH_take (i := 11) (v := .int .i64 x) rfl (by kernel_rfl) (by kernel_rfl) (by kernel_rfl) (fun _ _ _ h => h) (Or.inl ⟨by rfl, by intro wx hx; obtain ⟨_, _, _, _, _⟩ := hx; go_simp⟩) (by assumption) ?_
            try simp only [List.getElem_toArray, List.getElem_cons_succ, List.getElem_cons_zero, Act.put, List.setIfInBounds_toArray, List.set_cons_zero, List.set_cons_succ]
            refine wpAnyH_take (i := 12) (v := .pointer (some ⟨bM, oM + x, none⟩)) rfl (by kernel_rfl) (by kernel_rfl) (by kernel_rfl) (fun _ _ _ h => h) (Or.inl ⟨by rfl, by intro wx hx; go_simp⟩) (by assumption) ?_
            try simp only [List.getElem_toArray, List.getElem_cons_succ, List.getElem_cons_zero, Act.put, List.setIfInBounds_toArray, List.set_cons_zero, List.set_cons_succ]
            refine wpAnyH_take (i := 13) (v := .slice (some ⟨bR, oR, none⟩) Rx.length mR) rfl (by kernel_rfl) (by kernel_rfl) (by kernel_rfl) (fun _ _ _ h => h) (Or.inl ⟨by rfl, by intro wx hx; obtain ⟨_, _, _, _, _⟩ := hx; go_simp⟩) (by assumption) ?_
            try simp only [List.getElem_toArray, List.getElem_cons_succ, List.getElem_cons_zero, Act.put, List.setIfInBounds_toArray, List.set_cons_zero, List.set_cons_succ]
            refine wpAnyH_take (i := 14) (v := .int .i64 rn) rfl (by kernel_rfl) (by kernel_rfl) (by kernel_rfl) (fun _ _ _ h => h) (Or.inl ⟨by rfl, by intro wx hx; go_simp⟩) (by assumption) ?_
            try simp only [List.getElem_toArray, List.getElem_cons_succ, List.getElem_cons_zero, Act.put, List.setIfInBounds_toArray, List.set_cons_zero, List.set_cons_succ]
            refine wpAnyH_take (i := 15) (v := .pointer (some ⟨bR, oR + rn, none⟩)) rfl (by kernel_rfl) (by kernel_rfl) (by kernel_rfl) (fun _ _ _ h => h) (Or.inl ⟨by rfl, by intro wx hx; go_simp⟩) (by assumption) ?_
            try simp only [List.getElem_toArray, List.getElem_cons_succ, List.getElem_cons_zero, Act.put, List.setIfInBounds_toArray, List.set_cons_zero, List.set_cons_succ]
            refine wpAnyH_take (i := 16) (v := .int .i64 dc) rfl (by kernel_rfl) (by kernel_rfl) (by kernel_rfl) (fun _ _ _ h => h) (Or.inl ⟨by rfl, by intro wx hx; obtain ⟨_, _, _, _, _⟩ := hx; go_simp⟩) (by assumption) ?_
            try simp only [List.getElem_toArray, List.getElem_cons_succ, List.getElem_cons_zero, Act.put, List.setIfInBounds_toArray, List.set_cons_zero, List.set_cons_succ]
            refine wpAnyH_ready (rs := [3]) (by kernel_rfl) (by simp) ?_
            refine AllReadyH.cons rfl (fun K hK => ?_) AllReadyH.nil
            go_simp
            go_at_call 81
            refine (l7Index_any (w0 := wd) (w := wd) (hP.ext (e := Ext.trans e5P ed)) (hU.ext (e := ed)) hmem.out).mono ?_
            rw [hat.out]
            rintro e w6 ⟨rfl, e6⟩
            have e65 : Ext w5 w6 := Ext.trans ed e6
            have own6 := own5.ext (w' := w6)
            have ob6 := (hown.ext (w' := w5)).ext (w' := w6)
            have b6 : Below B wP w6 := (hb.trans (e5.below.mono hBo)).trans (e65.below.mono hB5)
            have hB6 : B ≤ w6.heap.size := Nat.le_trans hB5 e65.size
            have hS6 := hSx.out w6 e65
            go_wp2_with fail
            refine hK.out _ _ hS6 (fun _ => ?_)
            clear hK K
            try simp only [List.getElem_toArray, List.getElem_cons_succ, List.getElem_cons_zero, Act.put, List.setIfInBounds_toArray, List.set_cons_zero, List.set_cons_succ]
            refine wpAnyH_take (i := 4) (v := .pointer (some ⟨bw, ow + t, none⟩)) rfl (by kernel_rfl) (by kernel_rfl) (by kernel_rfl) (fun _ _ _ h => h) (Or.inl ⟨by rfl, by intro wx hx; go_simp⟩) (by assumption) ?_
            try simp only [List.getElem_toArray, List.getElem_cons_succ, List.getElem_cons_zero, Act.put, List.setIfInBounds_toArray, List.set_cons_zero, List.set_cons_succ]
            refine wpAnyH_take (i := 5) (v := .int .i64 wt) rfl (by kernel_rfl) (by kernel_rfl) (by kernel_rfl) (fun _ _ _ h => h) (Or.inl ⟨by rfl, by intro wx hx; obtain ⟨_, _, _, _, _⟩ := hx; go_simp⟩) (by assumption) ?_
            try simp only [List.getElem_toArray, List.getElem_cons_succ, List.getElem_cons_zero, Act.put, List.setIfInBounds_toArray, List.set_cons_zero, List.set_cons_succ]
            refine wpAnyH_take (i := 17) (v := .int .i64 (wt + dc)) rfl (by kernel_rfl) (by kernel_rfl) (by kernel_rfl) (fun _ _ _ h => h) (Or.inl ⟨by rfl, by intro wx hx; go_simp⟩) (by assumption) ?_
            try simp only [List.getElem_toArray, List.getElem_cons_succ, List.getElem_cons_zero, Act.put, List.setIfInBounds_toArray, List.set_cons_zero, List.set_cons_succ]
            refine wpAnyH_take (i := 18) (v := .int .i64 (wt + dc)) rfl (by kernel_rfl) (by kernel_rfl) (by kernel_rfl) (fun _ _ _ h => h) (Or.inl ⟨by rfl, by intro wx hx; go_simp⟩) (by assumption) ?_
            try simp only [List.getElem_toArray, List.getElem_cons_succ, List.getElem_cons_zero, Act.put, List.setIfInBounds_toArray, List.set_cons_zero, List.set_cons_succ]
            refine wpAnyH_done (by kernel_rfl) ?_ _
            obtain ⟨k1, k2, k3, k4, k5⟩ := hS6
            go_wp2_with (go_quiet (fail))
            go_roundw
            case rel => exact ⟨s + 1, by omega, by go_num, by rw [hyes.out.2.2], by rw [hyes.out.2.1], by rw [hyes.out.1]; exact own6.ext, ext_below b6 hB6⟩
            case measure => simp [intOf]; omega
          · have hl1' : decide (wt + dc < l) = false := decide_eq_false hl1
            have hXb : Hid (X.length = bl.length) := hid (by rw [hswl.out, hlb.out.2])
            by_cases hl2 : wt + dc = l
            · have hl2' : (wt + dc == l) = true := by simpa using hl2
              cases hlx : decide (lexC X bl < 0) with
              | true =>
                have hyes := hid (hy.out (.inr ⟨by rw [← hlb.out.1]; exact hl2, of_decide_eq_true hlx⟩))
                clear hcas hy hz
                replace hl2 := hid hl2
                replace hlx := hid hlx
                go_wp2_with fail
                refine region_held_from (w0 := w5) (S := fun u => u.cell? ⟨bw, ow + t, none⟩ = some (.int .i64 wt) ∧ u.cell? ⟨bx, 0, none⟩ = some (.slice (some ⟨bM, oM, none⟩) M.length c1) ∧ u.cell? ⟨ba, oa + s, none⟩ = some (.int .i64 (x : Int)) ∧ u.cell? ⟨bM, oM + x, none⟩ = some (.slice (some ⟨bR, oR, none⟩) Rx.length mR) ∧ u.cell? ⟨bR, oR + rn, none⟩ = some (.int .i64 dc)) (by kernel_rfl) hSx.out (fun wd ed hHeld0 => ?_)
                refine wpAnyH_take (i := 0) (v := .slice (some ⟨bw, ow, none⟩) nx.length mw) rfl (by kernel_rfl) (by kernel_rfl) (by kernel_rfl) (fun _ _ _ h => h) (Or.inl ⟨by rfl, by intro wx hx; go_simp⟩) (by assumption) ?_
                try simp only [List.getElem_toArray, List.getElem_cons_zero, Act.put, List.setIfInBounds_toArray, List.set_cons_zero, List.set_cons_succ]
                refine wpAnyH_take (i := 1) (v := .slice aP P.length cP) rfl (by kernel_rfl) (by kernel_rfl) (by kernel_rfl) (fun _ _ _ h => h) (Or.inl ⟨by rfl, by intro wx hx; go_simp⟩) (by assumption) ?_
                try simp only [List.getElem_toArray, List.getElem_cons_succ, List.getElem_cons_zero, Act.put, List.setIfInBounds_toArray, List.set_cons_zero, List.set_cons_succ]
                refine wpAnyH_take (i := 2) (v := u5) rfl (by kernel_rfl) (by kernel_rfl) (by kernel_rfl) (fun _ _ _ h => h) (Or.inl ⟨by rfl, by intro wx hx; go_simp⟩) (by assumption) ?_
                try simp only [List.getElem_toArray, List.getElem_cons_succ, List.getElem_cons_zero, Act.put, List.setIfInBounds_toArray, List.set_cons_zero, List.set_cons_succ]
                refine wpAnyH_take (i := 6) (v := .pointer (some ⟨bx, 0, none⟩)) rfl (by kernel_rfl) (by kernel_rfl) (by kernel_rfl) (fun _ _ _ h => h) (Or.inl ⟨by rfl, by intro wx hx; go_simp⟩) (by assumption) ?_
                try simp only [List.getElem_toArray, List.getElem_cons_succ, List.getElem_cons_zero, Act.put, List.setIfInBounds_toArray, List.set_cons_zero, List.set_cons_succ]
                refine wpAnyH_take (i := 7) (v := .slice (some ⟨bM, oM, none⟩) M.length c1) rfl (by kernel_rfl) (by kernel_rfl) (by kernel_rfl) (fun _ _ _ h => h) (Or.inl ⟨by rfl, by intro wx hx; obtain ⟨_, _, _, _, _⟩ := hx; go_simp⟩) (by assumption) ?_
                try simp only [List.getElem_toArray, List.getElem_cons_succ, List.getElem_cons_zero, Act.put, List.setIfInBounds_toArray, List.set_cons_zero, List.set_cons_succ]
                refine wpAnyH_take (i := 8) (v := .slice (some ⟨ba, oa, none⟩) a.length ma) rfl (by kernel_rfl) (by kernel_rfl) (by kernel_rfl) (fun _ _ _ h => h) (Or.inl ⟨by rfl, by intro wx hx; go_simp⟩) (by assumption) ?_
                try simp only [List.getElem_toArray, List.getElem_cons_succ, List.getElem_cons_zero, Act.put, List.setIfInBounds_toArray, List.set_cons_zero, List.set_cons_succ]
                refine wpAnyH_take (i := 9) (v := .int .i64 s) rfl (by kernel_rfl) (by kernel_rfl) (by kernel_rfl) (fun _ _ _ h => h) (Or.inl ⟨by rfl, by intro wx hx; go_simp⟩) (by assumption) ?_
                try simp only [List.getElem_toArray, List.getElem_cons_succ, List.getElem_cons_zero, Act.put, List.setIfInBounds_toArray, List.set_cons_zero, List.set_cons_succ]
                refine wpAnyH_take (i := 10) (v := .pointer (some ⟨ba, oa + s, none⟩)) rfl (by kernel_rfl) (by kernel_rfl) (by kernel_rfl) (fun _ _ _ h => h) (Or.inl ⟨by rfl, by intro wx hx; go_simp⟩) (by assumption) ?_
                try simp only [List.getElem_toArray, List.getElem_cons_succ, List.getElem_cons_zero, Act.put, List.setIfInBounds_toArray, List.set_cons_zero, List.set_cons_succ]
                refine wpAnyH_take (i := 11) (v := .int .i64 x) rfl (by kernel_rfl) (by kernel_rfl) (by kernel_rfl) (fun _ _ _ h => h) (Or.inl ⟨by rfl, by intro wx hx; obtain ⟨_, _, _, _, _⟩ := hx; go_simp⟩) (by assumption) ?_
                try simp only [List.getElem_toArray, List.getElem_cons_succ, List.getElem_cons_zero, Act.put, List.setIfInBounds_toArray, List.set_cons_zero, List.set_cons_succ]
                refine wpAnyH_take (i := 12) (v := .pointer (some ⟨bM, oM + x, none⟩)) rfl (by kernel_rfl) (by kernel_rfl) (by kernel_rfl) (fun _ _ _ h => h) (Or.inl ⟨by rfl, by intro wx hx; go_simp⟩) (by assumption) ?_
                try simp only [List.getElem_toArray, List.getElem_cons_succ, List.getElem_cons_zero, Act.put, List.setIfInBounds_toArray, List.set_cons_zero, List.set_cons_succ]
                refine wpAnyH_take (i := 13) (v := .slice (some ⟨bR, oR, none⟩) Rx.length mR) rfl (by kernel_rfl) (by kernel_rfl) (by kernel_rfl) (fun _ _ _ h => h) (Or.inl ⟨by rfl, by intro wx hx; obtain ⟨_, _, _, _, _⟩ := hx; go_simp⟩) (by assumption) ?_
                try simp only [List.getElem_toArray, List.getElem_cons_succ, List.getElem_cons_zero, Act.put, List.setIfInBounds_toArray, List.set_cons_zero, List.set_cons_succ]
                refine wpAnyH_take (i := 14) (v := .int .i64 rn) rfl (by kernel_rfl) (by kernel_rfl) (by kernel_rfl) (fun _ _ _ h => h) (Or.inl ⟨by rfl, by intro wx hx; go_simp⟩) (by assumption) ?_
                try simp only [List.getElem_toArray, List.getElem_cons_succ, List.getElem_cons_zero, Act.put, List.setIfInBounds_toArray, List.set_cons_zero, List.set_cons_succ]
                refine wpAnyH_take (i := 15) (v := .pointer (some ⟨bR, oR + rn, none⟩)) rfl (by kernel_rfl) (by kernel_rfl) (by kernel_rfl) (fun _ _ _ h => h) (Or.inl ⟨by rfl, by intro wx hx; go_simp⟩) (by assumption) ?_
                try simp only [List.getElem_toArray, List.getElem_cons_succ, List.getElem_cons_zero, Act.put, List.setIfInBounds_toArray, List.set_cons_zero, List.set_cons_succ]
                refine wpAnyH_take (i := 16) (v := .int .i64 dc) rfl (by kernel_rfl) (by kernel_rfl) (by kernel_rfl) (fun _ _ _ h => h) (Or.inl ⟨by rfl, by intro wx hx; obtain ⟨_, _, _, _, _⟩ := hx; go_simp⟩) (by assumption) ?_
                try simp only [List.getElem_toArray, List.getElem_cons_succ, List.getElem_cons_zero, Act.put, List.setIfInBounds_toArray, List.set_cons_zero, List.set_cons_succ]
                refine wpAnyH_ready (rs := [3]) (by kernel_rfl) (by simp) ?_
                refine AllReadyH.cons rfl (fun K hK => ?_) AllReadyH.nil
                go_simp
                go_at_call 81
                refine (l7Index_any (w0 := wd) (w := wd) (hP.ext (e := Ext.trans e5P ed)) (hU.ext (e := ed)) hmem.out).mono ?_
                rw [hat.out]
                rintro e w6 ⟨rfl, e6⟩
                have e65 : Ext w5 w6 := Ext.trans ed e6
                have own6 := own5.ext (w' := w6)
                have ob6 := (hown.ext (w' := w5)).ext (w' := w6)
                have b6 : Below B wP w6 := (hb.trans (e5.below.mono hBo)).trans (e65.below.mono hB5)
                have hB6 : B ≤ w6.heap.size := Nat.le_trans hB5 e65.size
                have hS6 := hSx.out w6 e65
                go_wp2_with fail
                refine hK.out _ _ hS6 (fun _ => ?_)
                clear hK K
                try simp only [List.getElem_toArray, List.getElem_cons_succ, List.getElem_cons_zero, Act.put, List.setIfInBounds_toArray, List.set_cons_zero, List.set_cons_succ]
                refine wpAnyH_take (i := 4) (v := .pointer (some ⟨bw, ow + t, none⟩)) rfl (by kernel_rfl) (by kernel_rfl) (by kernel_rfl) (fun _ _ _ h => h) (Or.inl ⟨by rfl, by intro wx hx; go_simp⟩) (by assumption) ?_
                try simp only [List.getElem_toArray, List.getElem_cons_succ, List.getElem_cons_zero, Act.put, List.setIfInBounds_toArray, List.set_cons_zero, List.set_cons_succ]
                refine wpAnyH_take (i := 5) (v := .int .i64 wt) rfl (by kernel_rfl) (by kernel_rfl) (by kernel_rfl) (fun _ _ _ h => h) (Or.inl ⟨by rfl, by intro wx hx; obtain ⟨_, _, _, _, _⟩ := hx; go_simp⟩) (by assumption) ?_
                try simp only [List.getElem_toArray, List.getElem_cons_succ, List.getElem_cons_zero, Act.put, List.setIfInBounds_toArray, List.set_cons_zero, List.set_cons_succ]
                refine wpAnyH_take (i := 17) (v := .int .i64 (wt + dc)) rfl (by kernel_rfl) (by kernel_rfl) (by kernel_rfl) (fun _ _ _ h => h) (Or.inl ⟨by rfl, by intro wx hx; go_simp⟩) (by assumption) ?_
                try simp only [List.getElem_toArray, List.getElem_cons_succ, List.getElem_cons_zero, Act.put, List.setIfInBounds_toArray, List.set_cons_zero, List.set_cons_succ]
                refine wpAnyH_take (i := 18) (v := .int .i64 (wt + dc)) rfl (by kernel_rfl) (by kernel_rfl) (by kernel_rfl) (fun _ _ _ h => h) (Or.inl ⟨by rfl, by intro wx hx; go_simp⟩) (by assumption) ?_
                try simp only [List.getElem_toArray, List.getElem_cons_succ, List.getElem_cons_zero, Act.put, List.setIfInBounds_toArray, List.set_cons_zero, List.set_cons_succ]
                refine wpAnyH_done (by kernel_rfl) ?_ _
                obtain ⟨k1, k2, k3, k4, k5⟩ := hS6
                go_wp2_with fail
                with_reducible refine (l7Before_any (w0 := w5) hU hb5 hXb.out).mono ?_
                rw [hlx.out]
                rintro e w7 ⟨rfl, e7⟩
                have k1' := e7.cell k1
                have k2' := e7.cell k2
                have k3' := e7.cell k3
                have k4' := e7.cell k4
                have k5' := e7.cell k5
                have e75 : Ext w5 w7 := Ext.trans e65 e7
                go_wp2_with (go_quiet (fail))
                go_roundw
                case rel => exact ⟨s + 1, by omega, by go_num, by rw [hyes.out.2.2], by rw [hyes.out.2.1], by rw [hyes.out.1]; exact (own6.ext (w' := w7)).ext, ext_below (ext_below (c := w7) b6 hB6) (Nat.le_trans hB6 e7.size)⟩
                case measure => simp [intOf]; omega
              | false =>
                have hno := hid (hz.out (by rintro (h | ⟨_, h⟩); rw [← hlb.out.1] at h; omega; exact of_decide_eq_false hlx h))
                have hlb1 := hid hlb.out.1
                clear hcas hy hz hlb
                replace hl2 := hid hl2
                replace hlx := hid hlx
                go_wp2_with fail
                refine region_held_from (w0 := w5) (S := fun u => u.cell? ⟨bw, ow + t, none⟩ = some (.int .i64 wt) ∧ u.cell? ⟨bx, 0, none⟩ = some (.slice (some ⟨bM, oM, none⟩) M.length c1) ∧ u.cell? ⟨ba, oa + s, none⟩ = some (.int .i64 (x : Int)) ∧ u.cell? ⟨bM, oM + x, none⟩ = some (.slice (some ⟨bR, oR, none⟩) Rx.length mR) ∧ u.cell? ⟨bR, oR + rn, none⟩ = some (.int .i64 dc)) (by kernel_rfl) hSx.out (fun wd ed hHeld0 => ?_)
                refine wpAnyH_take (i := 0) (v := .slice (some ⟨bw, ow, none⟩) nx.length mw) rfl (by kernel_rfl) (by kernel_rfl) (by kernel_rfl) (fun _ _ _ h => h) (Or.inl ⟨by rfl, by intro wx hx; go_simp⟩) (by assumption) ?_
                try simp only [List.getElem_toArray, List.getElem_cons_zero, Act.put, List.setIfInBounds_toArray, List.set_cons_zero, List.set_cons_succ]
                refine wpAnyH_take (i := 1) (v := .slice aP P.length cP) rfl (by kernel_rfl) (by kernel_rfl) (by kernel_rfl) (fun _ _ _ h => h) (Or.inl ⟨by rfl, by intro wx hx; go_simp⟩) (by assumption) ?_
                try simp only [List.getElem_toArray, List.getElem_cons_succ, List.getElem_cons_zero, Act.put, List.setIfInBounds_toArray, List.set_cons_zero, List.set_cons_succ]
                refine wpAnyH_take (i := 2) (v := u5) rfl (by kernel_rfl) (by kernel_rfl) (by kernel_rfl) (fun _ _ _ h => h) (Or.inl ⟨by rfl, by intro wx hx; go_simp⟩) (by assumption) ?_
                try simp only [List.getElem_toArray, List.getElem_cons_succ, List.getElem_cons_zero, Act.put, List.setIfInBounds_toArray, List.set_cons_zero, List.set_cons_succ]
                refine wpAnyH_take (i := 6) (v := .pointer (some ⟨bx, 0, none⟩)) rfl (by kernel_rfl) (by kernel_rfl) (by kernel_rfl) (fun _ _ _ h => h) (Or.inl ⟨by rfl, by intro wx hx; go_simp⟩) (by assumption) ?_
                try simp only [List.getElem_toArray, List.getElem_cons_succ, List.getElem_cons_zero, Act.put, List.setIfInBounds_toArray, List.set_cons_zero, List.set_cons_succ]
                refine wpAnyH_take (i := 7) (v := .slice (some ⟨bM, oM, none⟩) M.length c1) rfl (by kernel_rfl) (by kernel_rfl) (by kernel_rfl) (fun _ _ _ h => h) (Or.inl ⟨by rfl, by intro wx hx; obtain ⟨_, _, _, _, _⟩ := hx; go_simp⟩) (by assumption) ?_
                try simp only [List.getElem_toArray, List.getElem_cons_succ, List.getElem_cons_zero, Act.put, List.setIfInBounds_toArray, List.set_cons_zero, List.set_cons_succ]
                refine wpAnyH_take (i := 8) (v := .slice (some ⟨ba, oa, none⟩) a.length ma) rfl (by kernel_rfl) (by kernel_rfl) (by kernel_rfl) (fun _ _ _ h => h) (Or.inl ⟨by rfl, by intro wx hx; go_simp⟩) (by assumption) ?_
                try simp only [List.getElem_toArray, List.getElem_cons_succ, List.getElem_cons_zero, Act.put, List.setIfInBounds_toArray, List.set_cons_zero, List.set_cons_succ]
                refine wpAnyH_take (i := 9) (v := .int .i64 s) rfl (by kernel_rfl) (by kernel_rfl) (by kernel_rfl) (fun _ _ _ h => h) (Or.inl ⟨by rfl, by intro wx hx; go_simp⟩) (by assumption) ?_
                try simp only [List.getElem_toArray, List.getElem_cons_succ, List.getElem_cons_zero, Act.put, List.setIfInBounds_toArray, List.set_cons_zero, List.set_cons_succ]
                refine wpAnyH_take (i := 10) (v := .pointer (some ⟨ba, oa + s, none⟩)) rfl (by kernel_rfl) (by kernel_rfl) (by kernel_rfl) (fun _ _ _ h => h) (Or.inl ⟨by rfl, by intro wx hx; go_simp⟩) (by assumption) ?_
                try simp only [List.getElem_toArray, List.getElem_cons_succ, List.getElem_cons_zero, Act.put, List.setIfInBounds_toArray, List.set_cons_zero, List.set_cons_succ]
                refine wpAnyH_take (i := 11) (v := .int .i64 x) rfl (by kernel_rfl) (by kernel_rfl) (by kernel_rfl) (fun _ _ _ h => h) (Or.inl ⟨by rfl, by intro wx hx; obtain ⟨_, _, _, _, _⟩ := hx; go_simp⟩) (by assumption) ?_
                try simp only [List.getElem_toArray, List.getElem_cons_succ, List.getElem_cons_zero, Act.put, List.setIfInBounds_toArray, List.set_cons_zero, List.set_cons_succ]
                refine wpAnyH_take (i := 12) (v := .pointer (some ⟨bM, oM + x, none⟩)) rfl (by kernel_rfl) (by kernel_rfl) (by kernel_rfl) (fun _ _ _ h => h) (Or.inl ⟨by rfl, by intro wx hx; go_simp⟩) (by assumption) ?_
                try simp only [List.getElem_toArray, List.getElem_cons_succ, List.getElem_cons_zero, Act.put, List.setIfInBounds_toArray, List.set_cons_zero, List.set_cons_succ]
                refine wpAnyH_take (i := 13) (v := .slice (some ⟨bR, oR, none⟩) Rx.length mR) rfl (by kernel_rfl) (by kernel_rfl) (by kernel_rfl) (fun _ _ _ h => h) (Or.inl ⟨by rfl, by intro wx hx; obtain ⟨_, _, _, _, _⟩ := hx; go_simp⟩) (by assumption) ?_
                try simp only [List.getElem_toArray, List.getElem_cons_succ, List.getElem_cons_zero, Act.put, List.setIfInBounds_toArray, List.set_cons_zero, List.set_cons_succ]
                refine wpAnyH_take (i := 14) (v := .int .i64 rn) rfl (by kernel_rfl) (by kernel_rfl) (by kernel_rfl) (fun _ _ _ h => h) (Or.inl ⟨by rfl, by intro wx hx; go_simp⟩) (by assumption) ?_
                try simp only [List.getElem_toArray, List.getElem_cons_succ, List.getElem_cons_zero, Act.put, List.setIfInBounds_toArray, List.set_cons_zero, List.set_cons_succ]
                refine wpAnyH_take (i := 15) (v := .pointer (some ⟨bR, oR + rn, none⟩)) rfl (by kernel_rfl) (by kernel_rfl) (by kernel_rfl) (fun _ _ _ h => h) (Or.inl ⟨by rfl, by intro wx hx; go_simp⟩) (by assumption) ?_
                try simp only [List.getElem_toArray, List.getElem_cons_succ, List.getElem_cons_zero, Act.put, List.setIfInBounds_toArray, List.set_cons_zero, List.set_cons_succ]
                refine wpAnyH_take (i := 16) (v := .int .i64 dc) rfl (by kernel_rfl) (by kernel_rfl) (by kernel_rfl) (fun _ _ _ h => h) (Or.inl ⟨by rfl, by intro wx hx; obtain ⟨_, _, _, _, _⟩ := hx; go_simp⟩) (by assumption) ?_
                try simp only [List.getElem_toArray, List.getElem_cons_succ, List.getElem_cons_zero, Act.put, List.setIfInBounds_toArray, List.set_cons_zero, List.set_cons_succ]
                refine wpAnyH_ready (rs := [3]) (by kernel_rfl) (by simp) ?_
                refine AllReadyH.cons rfl (fun K hK => ?_) AllReadyH.nil
                go_simp
                go_at_call 81
                refine (l7Index_any (w0 := wd) (w := wd) (hP.ext (e := Ext.trans e5P ed)) (hU.ext (e := ed)) hmem.out).mono ?_
                rw [hat.out]
                rintro e w6 ⟨rfl, e6⟩
                have e65 : Ext w5 w6 := Ext.trans ed e6
                have own6 := own5.ext (w' := w6)
                have ob6 := (hown.ext (w' := w5)).ext (w' := w6)
                have b6 : Below B wP w6 := (hb.trans (e5.below.mono hBo)).trans (e65.below.mono hB5)
                have hB6 : B ≤ w6.heap.size := Nat.le_trans hB5 e65.size
                have hS6 := hSx.out w6 e65
                go_wp2_with fail
                refine hK.out _ _ hS6 (fun _ => ?_)
                clear hK K
                try simp only [List.getElem_toArray, List.getElem_cons_succ, List.getElem_cons_zero, Act.put, List.setIfInBounds_toArray, List.set_cons_zero, List.set_cons_succ]
                refine wpAnyH_take (i := 4) (v := .pointer (some ⟨bw, ow + t, none⟩)) rfl (by kernel_rfl) (by kernel_rfl) (by kernel_rfl) (fun _ _ _ h => h) (Or.inl ⟨by rfl, by intro wx hx; go_simp⟩) (by assumption) ?_
                try simp only [List.getElem_toArray, List.getElem_cons_succ, List.getElem_cons_zero, Act.put, List.setIfInBounds_toArray, List.set_cons_zero, List.set_cons_succ]
                refine wpAnyH_take (i := 5) (v := .int .i64 wt) rfl (by kernel_rfl) (by kernel_rfl) (by kernel_rfl) (fun _ _ _ h => h) (Or.inl ⟨by rfl, by intro wx hx; obtain ⟨_, _, _, _, _⟩ := hx; go_simp⟩) (by assumption) ?_
                try simp only [List.getElem_toArray, List.getElem_cons_succ, List.getElem_cons_zero, Act.put, List.setIfInBounds_toArray, List.set_cons_zero, List.set_cons_succ]
                refine wpAnyH_take (i := 17) (v := .int .i64 (wt + dc)) rfl (by kernel_rfl) (by kernel_rfl) (by kernel_rfl) (fun _ _ _ h => h) (Or.inl ⟨by rfl, by intro wx hx; go_simp⟩) (by assumption) ?_
                try simp only [List.getElem_toArray, List.getElem_cons_succ, List.getElem_cons_zero, Act.put, List.setIfInBounds_toArray, List.set_cons_zero, List.set_cons_succ]
                refine wpAnyH_take (i := 18) (v := .int .i64 (wt + dc)) rfl (by kernel_rfl) (by kernel_rfl) (by kernel_rfl) (fun _ _ _ h => h) (Or.inl ⟨by rfl, by intro wx hx; go_simp⟩) (by assumption) ?_
                try simp only [List.getElem_toArray, List.getElem_cons_succ, List.getElem_cons_zero, Act.put, List.setIfInBounds_toArray, List.set_cons_zero, List.set_cons_succ]
                refine wpAnyH_done (by kernel_rfl) ?_ _
                obtain ⟨k1, k2, k3, k4, k5⟩ := hS6
                go_wp2_with fail
                with_reducible refine (l7Before_any (w0 := w5) hU hb5 hXb.out).mono ?_
                rw [hlx.out]
                rintro e w7 ⟨rfl, e7⟩
                have e75 : Ext w5 w7 := Ext.trans e65 e7
                go_wp2_with fail
                go_roundw
                case rel => exact ⟨s + 1, by omega, by go_num, by rw [hno.out.2.2, hlb1.out], by rw [hno.out.2.1], by rw [hno.out.1]; exact ob6.ext (w' := w7), ext_below (c := w7) b6 hB6⟩
                case measure => simp [intOf]; omega
            · have hl2' : (wt + dc == l) = false := by simpa using hl2
              have hno := hid (hz.out (by rintro (h | ⟨h, _⟩); rw [← hlb.out.1] at h; omega; rw [← hlb.out.1] at h; exact hl2 h))
              have hlb1 := hid hlb.out.1
              clear hcas hy hz hlb
              replace hl2 := hid hl2
              go_wp2_with fail
              refine region_held_from (w0 := w5) (S := fun u => u.cell? ⟨bw, ow + t, none⟩ = some (.int .i64 wt) ∧ u.cell? ⟨bx, 0, none⟩ = some (.slice (some ⟨bM, oM, none⟩) M.length c1) ∧ u.cell? ⟨ba, oa + s, none⟩ = some (.int .i64 (x : Int)) ∧ u.cell? ⟨bM, oM + x, none⟩ = some (.slice (some ⟨bR, oR, none⟩) Rx.length mR) ∧ u.cell? ⟨bR, oR + rn, none⟩ = some (.int .i64 dc)) (by kernel_rfl) hSx.out (fun wd ed hHeld0 => ?_)
              refine wpAnyH_take (i := 0) (v := .slice (some ⟨bw, ow, none⟩) nx.length mw) rfl (by kernel_rfl) (by kernel_rfl) (by kernel_rfl) (fun _ _ _ h => h) (Or.inl ⟨by rfl, by intro wx hx; go_simp⟩) (by assumption) ?_
              try simp only [List.getElem_toArray, List.getElem_cons_zero, Act.put, List.setIfInBounds_toArray, List.set_cons_zero, List.set_cons_succ]
              refine wpAnyH_take (i := 1) (v := .slice aP P.length cP) rfl (by kernel_rfl) (by kernel_rfl) (by kernel_rfl) (fun _ _ _ h => h) (Or.inl ⟨by rfl, by intro wx hx; go_simp⟩) (by assumption) ?_
              try simp only [List.getElem_toArray, List.getElem_cons_succ, List.getElem_cons_zero, Act.put, List.setIfInBounds_toArray, List.set_cons_zero, List.set_cons_succ]
              refine wpAnyH_take (i := 2) (v := u5) rfl (by kernel_rfl) (by kernel_rfl) (by kernel_rfl) (fun _ _ _ h => h) (Or.inl ⟨by rfl, by intro wx hx; go_simp⟩) (by assumption) ?_
              try simp only [List.getElem_toArray, List.getElem_cons_succ, List.getElem_cons_zero, Act.put, List.setIfInBounds_toArray, List.set_cons_zero, List.set_cons_succ]
              refine wpAnyH_take (i := 6) (v := .pointer (some ⟨bx, 0, none⟩)) rfl (by kernel_rfl) (by kernel_rfl) (by kernel_rfl) (fun _ _ _ h => h) (Or.inl ⟨by rfl, by intro wx hx; go_simp⟩) (by assumption) ?_
              try simp only [List.getElem_toArray, List.getElem_cons_succ, List.getElem_cons_zero, Act.put, List.setIfInBounds_toArray, List.set_cons_zero, List.set_cons_succ]
              refine wpAnyH_take (i := 7) (v := .slice (some ⟨bM, oM, none⟩) M.length c1) rfl (by kernel_rfl) (by kernel_rfl) (by kernel_rfl) (fun _ _ _ h => h) (Or.inl ⟨by rfl, by intro wx hx; obtain ⟨_, _, _, _, _⟩ := hx; go_simp⟩) (by assumption) ?_
              try simp only [List.getElem_toArray, List.getElem_cons_succ, List.getElem_cons_zero, Act.put, List.setIfInBounds_toArray, List.set_cons_zero, List.set_cons_succ]
              refine wpAnyH_take (i := 8) (v := .slice (some ⟨ba, oa, none⟩) a.length ma) rfl (by kernel_rfl) (by kernel_rfl) (by kernel_rfl) (fun _ _ _ h => h) (Or.inl ⟨by rfl, by intro wx hx; go_simp⟩) (by assumption) ?_
              try simp only [List.getElem_toArray, List.getElem_cons_succ, List.getElem_cons_zero, Act.put, List.setIfInBounds_toArray, List.set_cons_zero, List.set_cons_succ]
              refine wpAnyH_take (i := 9) (v := .int .i64 s) rfl (by kernel_rfl) (by kernel_rfl) (by kernel_rfl) (fun _ _ _ h => h) (Or.inl ⟨by rfl, by intro wx hx; go_simp⟩) (by assumption) ?_
              try simp only [List.getElem_toArray, List.getElem_cons_succ, List.getElem_cons_zero, Act.put, List.setIfInBounds_toArray, List.set_cons_zero, List.set_cons_succ]
              refine wpAnyH_take (i := 10) (v := .pointer (some ⟨ba, oa + s, none⟩)) rfl (by kernel_rfl) (by kernel_rfl) (by kernel_rfl) (fun _ _ _ h => h) (Or.inl ⟨by rfl, by intro wx hx; go_simp⟩) (by assumption) ?_
              try simp only [List.getElem_toArray, List.getElem_cons_succ, List.getElem_cons_zero, Act.put, List.setIfInBounds_toArray, List.set_cons_zero, List.set_cons_succ]
              refine wpAnyH_take (i := 11) (v := .int .i64 x) rfl (by kernel_rfl) (by kernel_rfl) (by kernel_rfl) (fun _ _ _ h => h) (Or.inl ⟨by rfl, by intro wx hx; obtain ⟨_, _, _, _, _⟩ := hx; go_simp⟩) (by assumption) ?_
              try simp only [List.getElem_toArray, List.getElem_cons_succ, List.getElem_cons_zero, Act.put, List.setIfInBounds_toArray, List.set_cons_zero, List.set_cons_succ]
              refine wpAnyH_take (i := 12) (v := .pointer (some ⟨bM, oM + x, none⟩)) rfl (by kernel_rfl) (by kernel_rfl) (by kernel_rfl) (fun _ _ _ h => h) (Or.inl ⟨by rfl, by intro wx hx; go_simp⟩) (by assumption) ?_
              try simp only [List.getElem_toArray, List.getElem_cons_succ, List.getElem_cons_zero, Act.put, List.setIfInBounds_toArray, List.set_cons_zero, List.set_cons_succ]
              refine wpAnyH_take (i := 13) (v := .slice (some ⟨bR, oR, none⟩) Rx.length mR) rfl (by kernel_rfl) (by kernel_rfl) (by kernel_rfl) (fun _ _ _ h => h) (Or.inl ⟨by rfl, by intro wx hx; obtain ⟨_, _, _, _, _⟩ := hx; go_simp⟩) (by assumption) ?_
              try simp only [List.getElem_toArray, List.getElem_cons_succ, List.getElem_cons_zero, Act.put, List.setIfInBounds_toArray, List.set_cons_zero, List.set_cons_succ]
              refine wpAnyH_take (i := 14) (v := .int .i64 rn) rfl (by kernel_rfl) (by kernel_rfl) (by kernel_rfl) (fun _ _ _ h => h) (Or.inl ⟨by rfl, by intro wx hx; go_simp⟩) (by assumption) ?_
              try simp only [List.getElem_toArray, List.getElem_cons_succ, List.getElem_cons_zero, Act.put, List.setIfInBounds_toArray, List.set_cons_zero, List.set_cons_succ]
              refine wpAnyH_take (i := 15) (v := .pointer (some ⟨bR, oR + rn, none⟩)) rfl (by kernel_rfl) (by kernel_rfl) (by kernel_rfl) (fun _ _ _ h => h) (Or.inl ⟨by rfl, by intro wx hx; go_simp⟩) (by assumption) ?_
              try simp only [List.getElem_toArray, List.getElem_cons_succ, List.getElem_cons_zero, Act.put, List.setIfInBounds_toArray, List.set_cons_zero, List.set_cons_succ]
              refine wpAnyH_take (i := 16) (v := .int .i64 dc) rfl (by kernel_rfl) (by kernel_rfl) (by kernel_rfl) (fun _ _ _ h => h) (Or.inl ⟨by rfl, by intro wx hx; obtain ⟨_, _, _, _, _⟩ := hx; go_simp⟩) (by assumption) ?_
              try simp only [List.getElem_toArray, List.getElem_cons_succ, List.getElem_cons_zero, Act.put, List.setIfInBounds_toArray, List.set_cons_zero, List.set_cons_succ]
              refine wpAnyH_ready (rs := [3]) (by kernel_rfl) (by simp) ?_
              refine AllReadyH.cons rfl (fun K hK => ?_) AllReadyH.nil
              go_simp
              go_at_call 81
              refine (l7Index_any (w0 := wd) (w := wd) (hP.ext (e := Ext.trans e5P ed)) (hU.ext (e := ed)) hmem.out).mono ?_
              rw [hat.out]
              rintro e w6 ⟨rfl, e6⟩
              have e65 : Ext w5 w6 := Ext.trans ed e6
              have own6 := own5.ext (w' := w6)
              have ob6 := (hown.ext (w' := w5)).ext (w' := w6)
              have b6 : Below B wP w6 := (hb.trans (e5.below.mono hBo)).trans (e65.below.mono hB5)
              have hB6 : B ≤ w6.heap.size := Nat.le_trans hB5 e65.size
              have hS6 := hSx.out w6 e65
              go_wp2_with fail
              refine hK.out _ _ hS6 (fun _ => ?_)
              clear hK K
              try simp only [List.getElem_toArray, List.getElem_cons_succ, List.getElem_cons_zero, Act.put, List.setIfInBounds_toArray, List.set_cons_zero, List.set_cons_succ]
              refine wpAnyH_take (i := 4) (v := .pointer (some ⟨bw, ow + t, none⟩)) rfl (by kernel_rfl) (by kernel_rfl) (by kernel_rfl) (fun _ _ _ h => h) (Or.inl ⟨by rfl, by intro wx hx; go_simp⟩) (by assumption) ?_
              try simp only [List.getElem_toArray, List.getElem_cons_succ, List.getElem_cons_zero, Act.put, List.setIfInBounds_toArray, List.set_cons_zero, List.set_cons_succ]
              refine wpAnyH_take (i := 5) (v := .int .i64 wt) rfl (by kernel_rfl) (by kernel_rfl) (by kernel_rfl) (fun _ _ _ h => h) (Or.inl ⟨by rfl, by intro wx hx; obtain ⟨_, _, _, _, _⟩ := hx; go_simp⟩) (by assumption) ?_
              try simp only [List.getElem_toArray, List.getElem_cons_succ, List.getElem_cons_zero, Act.put, List.setIfInBounds_toArray, List.set_cons_zero, List.set_cons_succ]
              refine wpAnyH_take (i := 17) (v := .int .i64 (wt + dc)) rfl (by kernel_rfl) (by kernel_rfl) (by kernel_rfl) (fun _ _ _ h => h) (Or.inl ⟨by rfl, by intro wx hx; go_simp⟩) (by assumption) ?_
              try simp only [List.getElem_toArray, List.getElem_cons_succ, List.getElem_cons_zero, Act.put, List.setIfInBounds_toArray, List.set_cons_zero, List.set_cons_succ]
              refine wpAnyH_take (i := 18) (v := .int .i64 (wt + dc)) rfl (by kernel_rfl) (by kernel_rfl) (by kernel_rfl) (fun _ _ _ h => h) (Or.inl ⟨by rfl, by intro wx hx; go_simp⟩) (by assumption) ?_
              try simp only [List.getElem_toArray, List.getElem_cons_succ, List.getElem_cons_zero, Act.put, List.setIfInBounds_toArray, List.set_cons_zero, List.set_cons_succ]
              refine wpAnyH_done (by kernel_rfl) ?_ _
              obtain ⟨k1, k2, k3, k4, k5⟩ := hS6
              go_wp2_with fail
              go_roundw
              case rel => exact ⟨s + 1, by omega, by go_num, by rw [hno.out.2.2, hlb1.out], by rw [hno.out.2.1], by rw [hno.out.1]; exact ob6, b6⟩
              case measure => simp [intOf]; omega
      · have hsl : s = a.length := by omega
        have hfin := hid (show (svT M P nx a rn s).1 = svC M (confs M.length k 0) nx a rn ∧ (svT M P nx a rn s).2.1 = svK M (confs M.length k 0) nx a rn by
          rw [hsl, ← hPd.out, hC.out, hK.out]; exact ⟨rfl, rfl⟩)
        rw [hfin.out.1] at hown
        rw [hfin.out.2]
        replace hsl := hid hsl
        go_wp2_with fail
        go_ret2
        exact ⟨_, rfl, hown.mono hBw.out, Ext.trans ePw (hEx.out _ hb)⟩
theorem l7Serve_any {v vx va : Value} {M : List (List Int)} {nx a : List Int} {k : Nat} {r L : Int} {w0 w : World} [Ext w0 w] (hm : IsMet w0 v M) (hM : metB M = true) (hn : IsInts w0 vx nx) (ha : IsInts w0 va a) (h1k : 1 ≤ k) (hk : k ≤ 3) (hac : a ∈ confs M.length k 0) (hg : GoodW M (confs M.length k 0) nx L) (hL : L ≤ 2000000) (hr : 0 ≤ r ∧ r < (M.length : Int)) :
    Calls Tryz.prog 96 #[v, vx, va, .int .i64 r] w fun e w' => ∃ u, e = .returned (.tuple #[u, .int .i64 (svK M (confs M.length k 0) nx a r)]) ∧ IsInts w' u (svC M (confs M.length k 0) nx a r) ∧ Ext w w' :=
  (l7ServeO_any hm hM hn ha h1k hk hac hg hL hr).mono fun e w' ⟨u, h1, h2, h3⟩ => by
    have hc := confs_iff.1 (sv_conf (dst_of_met hM) h1k hg hL hac hr).1
    have hMl := met_len hM
    exact ⟨u, h1, h2.reads (by unfold Short; omega) (fun x hx => by have := hc.2.2 x hx; unfold I64; omega), h3⟩
end Go.Proofs.YtmgcfnciejfpbaaGreat
