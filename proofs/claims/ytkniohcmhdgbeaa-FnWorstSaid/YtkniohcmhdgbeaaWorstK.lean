/- WorstSequence of the program. Written by worstk.py. -/
import Derived.Test.YtkniohcmhdgbeaaWorstJ
namespace Go.Proofs.Ytkniohcmhdgbeaa
open Go.RowKit

/-- the greatest loss among the first k sequences, as the program keeps it -/
def mostI (d : Nat → Int) (k : Nat) : Int := if k = 0 then -1073741824 else (worstTo d k).2
theorem mostI_step {d : Nat → Int} (hd : ∀ k, 0 ≤ d k) (m len k : Nat) :
    (mostI d k < d k → mostI d (k + 1) = d k ∧ wsL d m len (k + 1) = seqOf m len k) ∧ (¬ mostI d k < d k → mostI d (k + 1) = mostI d k ∧ wsL d m len (k + 1) = wsL d m len k) := by
  have e : mostI d (k + 1) = (worstTo d (k + 1)).2 := by simp [mostI]
  have h0 := hd k
  cases k with
  | zero =>
    have e1 : (worstTo d 0).2 < d 0 := by show -1 < d 0; omega
    refine ⟨fun _ => ⟨by rw [e, worstTo, if_pos e1], by rw [wsL, if_pos e1]⟩, fun h => absurd (show mostI d 0 < d 0 by show -1073741824 < d 0; omega) h⟩
  | succ k =>
    have e2 : mostI d (k + 1) = (worstTo d (k + 1)).2 := by simp [mostI]
    rw [e2]
    exact ⟨fun h => ⟨by rw [e, worstTo, if_pos h], by rw [wsL, if_pos h]⟩, fun h => ⟨by rw [e, worstTo, if_neg h], by rw [wsL, if_neg h]⟩⟩

/-- what holds behind k sequences -/
def WInv (d : Nat → Int) (m len : Nat) (wq : World) (k : Nat) (W : World) : Prop :=
  Below wq.heap.size wq W ∧ wq.heap.size + 3 ≤ W.heap.size ∧ W.cell? ⟨wq.heap.size + 1, 0, none⟩ = some (.int .i64 (mostI d k)) ∧ W.frozen? ⟨wq.heap.size + 1, 0, none⟩ = false ∧
    ∃ bd bm, W.cell? ⟨wq.heap.size, 0, none⟩ = some (.slice bd (wsL d m len k).length bm) ∧ W.frozen? ⟨wq.heap.size, 0, none⟩ = false ∧ Own W (wq.heap.size + 3) [intRowOf 3 (.slice bd (wsL d m len k).length bm) (wsL d m len k)]
theorem WInv.set {d : Nat → Int} {m len : Nat} {wq : World} {k : Nat} {W : World} (h : WInv d m len wq k W) (j : Nat) (u : Value) : WInv d m len wq k (W.setCell ⟨wq.heap.size + 2, j, none⟩ u) := by
  obtain ⟨h1, h2, h3, h4, bd, bm, h5, h6, h7⟩ := h
  have b0 : (W.setCell ⟨wq.heap.size + 2, j, none⟩ u).heap[wq.heap.size]? = W.heap[wq.heap.size]? := Below.heap_setCell _ _ _ _ (by show _ ≠ wq.heap.size + 2; omega)
  have b1 : (W.setCell ⟨wq.heap.size + 2, j, none⟩ u).heap[wq.heap.size + 1]? = W.heap[wq.heap.size + 1]? := Below.heap_setCell _ _ _ _ (by show _ ≠ wq.heap.size + 2; omega)
  refine ⟨h1.setCell (by show _ ≤ wq.heap.size + 2; omega) _, by simp [World.setCell]; omega, (World.cell?_of_block (w := W) b1).trans h3, (World.frozen?_of_block (w := W) b1).trans h4, bd, bm, (World.cell?_of_block (w := W) b0).trans h5, (World.frozen?_of_block (w := W) b0).trans h6, h7.setBelow (by show wq.heap.size + 2 < _; omega) _⟩
theorem WInv.step {d : Nat → Int} {m len : Nat} {wq : World} {k : Nat} {W w' : World} (hd : ∀ k, 0 ≤ d k) (h : WInv d m len wq k W) (hp : worst1Post (mostI d k) (d k) wq.heap.size (wq.heap.size + 1) (seqOf m len k) W w') :
    WInv d m len wq (k + 1) w' ∧ w'.heap[wq.heap.size + 2]? = W.heap[wq.heap.size + 2]? := by
  obtain ⟨h1, h2, h3, h4, bd, bm, h5, h6, h7⟩ := h
  obtain ⟨W1, hE, hc⟩ := hp
  have hst := mostI_step hd m len k
  have hs := hE.size
  have g1 := h1.trans (hE.below.mono (by omega))
  rcases hc with ⟨hlt, q, n, rfl, hown⟩ | ⟨hlt, rfl⟩
  · obtain ⟨s1, s2⟩ := hst.1 hlt
    have c1 := hE.cell h3
    have f1 := hE.frozen h3 h4
    have c0 := hE.cell h5
    have f0 := hE.frozen h5 h6
    have nb : wq.heap.size + 1 ≠ wq.heap.size := by omega
    have nb' : wq.heap.size ≠ wq.heap.size + 1 := by omega
    obtain ⟨Wa, hWa⟩ : ∃ Wa, Wa = W1.setCell ⟨wq.heap.size, 0, none⟩ (.slice q (seqOf m len k).length n) := ⟨_, rfl⟩
    have a1 : Wa.heap[wq.heap.size + 1]? = W1.heap[wq.heap.size + 1]? := by rw [hWa]; exact Below.heap_setCell _ _ _ _ nb
    have a2 : Wa.heap[wq.heap.size + 2]? = W1.heap[wq.heap.size + 2]? := by rw [hWa]; exact Below.heap_setCell _ _ _ _ (by show _ ≠ wq.heap.size; omega)
    have a3 : Wa.cell? ⟨wq.heap.size, 0, none⟩ = some (.slice q (seqOf m len k).length n) := by rw [hWa]; exact World.cell?_setCell_same' _ _ _ (by rw [c0]; rfl)
    have a4 : Wa.frozen? ⟨wq.heap.size, 0, none⟩ = false := by rw [hWa, World.frozen?_setCell]; exact f0
    have a5 : Wa.heap.size = W1.heap.size := by rw [hWa]; simp [World.setCell]
    have a6 : Below wq.heap.size wq Wa := by rw [hWa]; exact g1.setCell (Nat.le_refl _) _
    have a7 : Own Wa (wq.heap.size + 3) [intRowOf 3 (.slice q (seqOf m len k).length n) (seqOf m len k)] := by rw [hWa]; exact (hown.mono h2).setBelow (by show wq.heap.size < _; omega) _
    rw [← hWa]
    have b1 : Wa.cell? ⟨wq.heap.size + 1, 0, none⟩ = some (.int .i64 (mostI d k)) := (World.cell?_of_block (w := W1) a1).trans c1
    have b2 : Wa.frozen? ⟨wq.heap.size + 1, 0, none⟩ = false := (World.frozen?_of_block (w := W1) a1).trans f1
    have b3 : (Wa.setCell ⟨wq.heap.size + 1, 0, none⟩ (.int .i64 (d k))).heap[wq.heap.size]? = Wa.heap[wq.heap.size]? := Below.heap_setCell _ _ _ _ nb'
    have b4 : (Wa.setCell ⟨wq.heap.size + 1, 0, none⟩ (.int .i64 (d k))).heap[wq.heap.size + 2]? = Wa.heap[wq.heap.size + 2]? := Below.heap_setCell _ _ _ _ (by show _ ≠ wq.heap.size + 1; omega)
    unfold WInv
    rw [s1, s2]
    refine ⟨⟨a6.setCell (by show _ ≤ wq.heap.size + 1; omega) _, by simp [World.setCell]; omega, World.cell?_setCell_same' _ _ _ (by rw [b1]; rfl), by rw [World.frozen?_setCell]; exact b2, q, n, (World.cell?_of_block (w := Wa) b3).trans a3, (World.frozen?_of_block (w := Wa) b3).trans a4, a7.setBelow (by show wq.heap.size + 1 < _; omega) _⟩, ?_⟩
    rw [b4, a2]
    exact hE.below.block _ (by omega)
  · obtain ⟨s1, s2⟩ := hst.2 hlt
    unfold WInv
    rw [s1, s2]
    exact ⟨⟨g1, by omega, hE.cell h3, hE.frozen h3 h4, bd, bm, hE.cell h5, hE.frozen h5 h6, h7.ext⟩, hE.below.block _ (by omega)⟩

theorem worst1_call (xa : Array Value) (W : World) : (callFunc 40 xa).run Try.prog W = .ok (.enter 40 xa) W := by kernel_rfl
theorem worst1_all {v1 v2 v4 : Value} {M S N : List (List Int)} {s : Int} {len pb nb sb : Nat} {d : Nat → Int} {w0 wq : World} [Ext w0 wq]
    (hM : IsRows w0 v1 M) (hS : IsRows w0 v2 S) (hN : IsRows w0 v4 N) (hst : startB M S s [] = true) (ha : algB M S N = true) (hl : len ≤ 5) (hd : d = lossK M S N s len)
    (hp0 : wq.cell? ⟨pb, 0, none⟩ = some v1) (hp1 : wq.cell? ⟨pb, 1, none⟩ = some v2) (hn0 : wq.cell? ⟨nb, 0, none⟩ = some v4) (hs0 : wq.cell? ⟨sb, 0, none⟩ = some (.int .i64 s)) :
    ∀ k W, k < S.length ^ len → WInv d S.length len wq k W → IsInts W (.slice (some ⟨wq.heap.size + 2, 0, none⟩) len len) (seqOf S.length len k) →
      Calls Try.prog 40 (#[.slice (some ⟨wq.heap.size + 2, 0, none⟩) len len] ++ #[.pointer (some ⟨pb, 0, none⟩), .pointer (some ⟨nb, 0, none⟩), .pointer (some ⟨sb, 0, none⟩), .pointer (some ⟨wq.heap.size + 1, 0, none⟩), .pointer (some ⟨wq.heap.size, 0, none⟩)]) W
        fun e w' => e = .returned (.tuple #[]) ∧ WInv d S.length len wq (k + 1) w' ∧ w'.heap[wq.heap.size + 2]? = W.heap[wq.heap.size + 2]? := by
  intro k W _ hI hx
  have hI' := hI
  obtain ⟨h1, h2, h3, h4, bd, bm, h5, h6, h7⟩ := hI
  have eW : Ext wq W := ⟨h1⟩
  have e0 : Ext w0 W := Ext.trans ‹Ext w0 wq› eW
  have hst2 := start_seq hst (k := k) hl
  have hdge : ∀ k, 0 ≤ d k := fun k => by rw [hd]; exact loss_ge (startB_prob hst) ha (startB_state hst).1 (startB_state hst).2 hl k
  have hsl := seqOf_length S.length len k
  have hdk : d k = sumA M S N s (seqOf S.length len k) (seqOf S.length len k).length - optL M S (row M s.toNat) (seqOf S.length len k) := by rw [hd, hsl]; rfl
  have hdb : -100000 ≤ d k ∧ d k ≤ 100000 := by
    have b1 := sumA_le hst2 ha (Nat.le_refl _)
    have hw := start_workL hst2
    have hn := probB_len (startB_prob hst)
    obtain ⟨⟨c, hc, e⟩, _⟩ := leastL_min (w := workL M S (row M s.toNat) (seqOf S.length len k)) (by intro e; rw [e] at hw; have h1 := hw.1; simp at h1; omega)
    obtain ⟨q, hq, rfl⟩ := mem_iff_nth.1 hc
    rw [hw.1] at hq
    have b2 := hw.2 q hq
    have e' : optL M S (row M s.toNat) (seqOf S.length len k) = nth (workL M S (row M s.toNat) (seqOf S.length len k)) q := e
    rw [hsl] at b1 hdk
    omega
  refine Calls.mono (worst1_any (w0 := w0) (X := seqOf S.length len k) (mst := mostI d k) (dk := d k) (mb := wq.heap.size + 1) (bb := wq.heap.size) hM hS hN hx hst2 ha hdk hdb (eW.cell hp0) (eW.cell hp1) (eW.cell hn0) (eW.cell hs0) h3 h4 h5 h6 (by omega)) ?_
  rintro e w' ⟨rfl, hpost⟩
  exact ⟨rfl, hI'.step hdge hpost⟩

set_option maxHeartbeats 3200000 in
set_option maxRecDepth 100000 in
theorem implWS_any {v vN : Value} {M S N : List (List Int)} {s q : Int} {w0 w : World} [Ext w0 w] (hp : IsProb w0 v M S) (hN : IsRows w0 vN N) (_hs : I64 s) (_hq : I64 q) :
    Calls Try.prog 8 #[v, vN, .int .i64 s, .int .i64 q] w fun e w' => ∃ d0 m0, e = .returned (.tuple #[.slice d0 (wsR M S N s q).length m0, .int .i64 (wsD M S N s q), .bool (wsB M S N s q)]) ∧ Own w' w.heap.size ([intRowOf 3 (.slice d0 (wsR M S N s q).length m0) (wsR M S N s q)]) ∧ Ext w w' := by
  have hp' := hp
  obtain ⟨v1, v2, rfl, hM, hS⟩ := hp
  have hM' := hM
  have hS' := hS
  obtain ⟨a1, c1, rfl, l1⟩ := hM.form
  obtain ⟨a2, c2, rfl, l2⟩ := hS.form
  have hN' := hN
  obtain ⟨aN, cN, rfl, lN⟩ := hN.form
  cases hB0 : startB M S s [] with
  | false =>
    have hr := hid (wsB_start (N := N) (len := q) hB0)
    have hz := hid (wsR_false hr.out)
    have hy := hid (wsD_false hr.out)
    replace hB0 := hid hB0
    go_enter Try.func8, Try.ntmps8
    go_wp2_with fail
    refine (isStarted_any (w0 := w0) hp' (IsInts.nil w0)).mono ?_; rw [hB0.out]; rintro e w1 ⟨rfl, hb1⟩
    have x0 : w1.cell? ⟨w.heap.size, 0, none⟩ = some (.slice a1 M.length c1) := hb1.cell (by go_simp)
    have x1 : w1.cell? ⟨w.heap.size, 1, none⟩ = some (.slice a2 S.length c2) := hb1.cell (by go_simp)
    have x2 : w1.cell? ⟨w.heap.size + 1, 0, none⟩ = some (.slice aN N.length cN) := hb1.cell (by go_simp)
    have x3 : w1.cell? ⟨w.heap.size + 2, 0, none⟩ = some (.int .i64 s) := hb1.cell (by go_simp)
    have e1 : Ext w w1 := Ext.trans inferInstance hb1
    have e0 : Ext w0 w1 := Ext.trans ‹Ext w0 w› e1
    clear hb1
    go_wp2_with fail
    refine bodyPost_ret (v := .tuple #[.slice none 0 0, .int .i64 0, .bool false]) (by simp [results, Try.results8, go_sem]) rfl ?_
    rw [hz.out, hy.out, hr.out]
    exact ⟨_, _, rfl, own_nils_i _ _, Ext.trans e1 inferInstance⟩
  | true =>
    have hC0 := hid hB0
    replace hB0 := hid hB0
    cases hB1 : algB M S N with
    | false =>
      have hr := hid (wsB_alg (s := s) (len := q) hB1)
      have hz := hid (wsR_false hr.out)
      have hy := hid (wsD_false hr.out)
      replace hB1 := hid hB1
      go_enter Try.func8, Try.ntmps8
      go_wp2_with fail
      refine (isStarted_any (w0 := w0) hp' (IsInts.nil w0)).mono ?_; rw [hB0.out]; rintro e w1 ⟨rfl, hb1⟩
      have x0 : w1.cell? ⟨w.heap.size, 0, none⟩ = some (.slice a1 M.length c1) := hb1.cell (by go_simp)
      have x1 : w1.cell? ⟨w.heap.size, 1, none⟩ = some (.slice a2 S.length c2) := hb1.cell (by go_simp)
      have x2 : w1.cell? ⟨w.heap.size + 1, 0, none⟩ = some (.slice aN N.length cN) := hb1.cell (by go_simp)
      have x3 : w1.cell? ⟨w.heap.size + 2, 0, none⟩ = some (.int .i64 s) := hb1.cell (by go_simp)
      have e1 : Ext w w1 := Ext.trans inferInstance hb1
      have e0 : Ext w0 w1 := Ext.trans ‹Ext w0 w› e1
      clear hb1
      go_wp2_with fail
      refine (isAlgorithm_any (w0 := w0) hM' hS' hN' (startB_prob hC0.out)).mono ?_; rw [hB1.out]; rintro e w2 ⟨rfl, hb2⟩
      replace x0 := hb2.cell x0
      replace x1 := hb2.cell x1
      replace x2 := hb2.cell x2
      replace x3 := hb2.cell x3
      replace e1 : Ext w w2 := Ext.trans e1 hb2
      replace e0 : Ext w0 w2 := Ext.trans ‹Ext w0 w› e1
      clear hb2
      go_wp2_with fail
      refine bodyPost_ret (v := .tuple #[.slice none 0 0, .int .i64 0, .bool false]) (by simp [results, Try.results8, go_sem]) rfl ?_
      rw [hz.out, hy.out, hr.out]
      exact ⟨_, _, rfl, own_nils_i _ _, Ext.trans e1 inferInstance⟩
    | true =>
      have hC1 := hid hB1
      replace hB1 := hid hB1
      cases hB2 : inB q 0 5 with
      | false =>
        have hr := hid (wsB_len (M := M) (S := S) (N := N) (s := s) hB2)
        have hz := hid (wsR_false hr.out)
        have hy := hid (wsD_false hr.out)
        replace hB2 := hid hB2
        go_enter Try.func8, Try.ntmps8
        go_wp2_with fail
        refine (isStarted_any (w0 := w0) hp' (IsInts.nil w0)).mono ?_; rw [hB0.out]; rintro e w1 ⟨rfl, hb1⟩
        have x0 : w1.cell? ⟨w.heap.size, 0, none⟩ = some (.slice a1 M.length c1) := hb1.cell (by go_simp)
        have x1 : w1.cell? ⟨w.heap.size, 1, none⟩ = some (.slice a2 S.length c2) := hb1.cell (by go_simp)
        have x2 : w1.cell? ⟨w.heap.size + 1, 0, none⟩ = some (.slice aN N.length cN) := hb1.cell (by go_simp)
        have x3 : w1.cell? ⟨w.heap.size + 2, 0, none⟩ = some (.int .i64 s) := hb1.cell (by go_simp)
        have e1 : Ext w w1 := Ext.trans inferInstance hb1
        have e0 : Ext w0 w1 := Ext.trans ‹Ext w0 w› e1
        clear hb1
        go_wp2_with fail
        refine (isAlgorithm_any (w0 := w0) hM' hS' hN' (startB_prob hC0.out)).mono ?_; rw [hB1.out]; rintro e w2 ⟨rfl, hb2⟩
        replace x0 := hb2.cell x0
        replace x1 := hb2.cell x1
        replace x2 := hb2.cell x2
        replace x3 := hb2.cell x3
        replace e1 : Ext w w2 := Ext.trans e1 hb2
        replace e0 : Ext w0 w2 := Ext.trans ‹Ext w0 w› e1
        clear hb2
        go_wp2_with fail
        refine (within_any _ _ _ _).mono ?_; rw [hB2.out]; rintro e w3 ⟨rfl, rfl⟩
        go_wp2_with fail
        refine bodyPost_ret (v := .tuple #[.slice none 0 0, .int .i64 0, .bool false]) (by simp [results, Try.results8, go_sem]) rfl ?_
        rw [hz.out, hy.out, hr.out]
        exact ⟨_, _, rfl, own_nils_i _ _, Ext.trans e1 inferInstance⟩
      | true =>
        have hC2 := hid hB2
        replace hB2 := hid hB2
        have hok := hid (wsB_true hC0.out hC1.out hC2.out)
        have hvR := hid (wsR_true hok.out)
        have hvD := hid (wsD_true hok.out)
        have hq := inB_true.1 hC2.out
        obtain ⟨len, hl'⟩ := Int.eq_ofNat_of_zero_le hq.1
        subst hl'
        rw [Int.toNat_natCast] at hvR hvD
        have hlen5 : len ≤ 5 := by omega
        clear hq
        have hn := hid (probB_len (startB_prob hC0.out))
        have hsS := hid (startB_state hC0.out)
        have hdge := hid (fun k => loss_ge (startB_prob hC0.out) hC1.out hsS.out.1 hsS.out.2 hlen5 (N := N) k)
        obtain ⟨d, hd⟩ : ∃ d, d = lossK M S N s len := ⟨_, rfl⟩
        rw [← hd] at hvR hvD hdge
        replace hd := hid hd
        go_enter Try.func8, Try.ntmps8
        go_wp2_with fail
        refine (isStarted_any (w0 := w0) hp' (IsInts.nil w0)).mono ?_; rw [hB0.out]; rintro e w1 ⟨rfl, hb1⟩
        have x0 : w1.cell? ⟨w.heap.size, 0, none⟩ = some (.slice a1 M.length c1) := hb1.cell (by go_simp)
        have x1 : w1.cell? ⟨w.heap.size, 1, none⟩ = some (.slice a2 S.length c2) := hb1.cell (by go_simp)
        have x2 : w1.cell? ⟨w.heap.size + 1, 0, none⟩ = some (.slice aN N.length cN) := hb1.cell (by go_simp)
        have x3 : w1.cell? ⟨w.heap.size + 2, 0, none⟩ = some (.int .i64 s) := hb1.cell (by go_simp)
        have e1 : Ext w w1 := Ext.trans inferInstance hb1
        have e0 : Ext w0 w1 := Ext.trans ‹Ext w0 w› e1
        clear hb1
        go_wp2_with fail
        refine (isAlgorithm_any (w0 := w0) hM' hS' hN' (startB_prob hC0.out)).mono ?_; rw [hB1.out]; rintro e w2 ⟨rfl, hb2⟩
        replace x0 := hb2.cell x0
        replace x1 := hb2.cell x1
        replace x2 := hb2.cell x2
        replace x3 := hb2.cell x3
        replace e1 : Ext w w2 := Ext.trans e1 hb2
        replace e0 : Ext w0 w2 := Ext.trans ‹Ext w0 w› e1
        clear hb2
        go_wp2_with fail
        refine (within_any _ _ _ _).mono ?_; rw [hB2.out]; rintro e w3 ⟨rfl, rfl⟩
        go_upto_region 5 with fail
        have hI0 : WInv d S.length len w2 0 (((w2.alloc (.cells #[.slice none 0 0] 29)).alloc (.cells #[.int .i64 (-1073741824)] 3)).alloc (.cells (Array.replicate len (.int .i64 0)) 3)) := by
          refine ⟨(((Below.refl _ _).alloc (Nat.le_refl _) _).alloc (by simp) _).alloc (by simp; omega) _, by simp, by go_simp; rfl, by go_simp, none, 0, by go_simp; rfl, by go_simp, own_nils_i _ _⟩
        have hsz : ((w2.alloc (.cells #[.slice none 0 0] 29)).alloc (.cells #[.int .i64 (-1073741824)] 3)).heap.size = w2.heap.size + 2 := by simp
        have ec : Ext w2 ((w2.alloc (.cells #[.slice none 0 0] 29)).alloc (.cells #[.int .i64 (-1073741824)] 3)) := inferInstance
        generalize (w2.alloc (.cells #[.slice none 0 0] 29)).alloc (.cells #[.int .i64 (-1073741824)] 3) = wc at *
        have hset := hid (fun k W j u (h : WInv d S.length len w2 k W) => h.set j u)
        have hall := hid (worst1_all (w0 := w0) (wq := w2) (pb := w.heap.size) (nb := w.heap.size + 1) (sb := w.heap.size + 2) hM' hS' hN' hC0.out hC1.out hlen5 hd.out x0 x1 x2 x3)
        rw [← hsz] at hset hall
        have y1 := ec.cell x1
        replace hI0 := hid hI0
        replace hsz := hid hsz
        go_wp2_with fail
        refine (sequences_any (m := S.length) (len := len) (by have := hn.out; omega) (by have := hn.out; omega) hlen5 (WInv d S.length len w2) worst1_call hI0.out hset.out hall.out).mono ?_
        rintro e wf ⟨rfl, hfin⟩
        obtain ⟨h1, h2, h3, h4, bd, bm, h5, h6, h7⟩ := hfin
        have hall1 : S.length ^ len ≠ 0 := Nat.pos_iff_ne_zero.1 (Nat.pow_pos (by have := hn.out; omega))
        rw [show mostI d (S.length ^ len) = (worstTo d (S.length ^ len)).2 from if_neg hall1, ← hvD.out] at h3
        rw [← hvR.out] at h5 h7
        have ef : Ext w wf := Ext.trans e1 ⟨h1⟩
        clear hall1
        go_wp2_with (go_quiet (fail))
        refine bodyPost_ret (v := .tuple #[.slice bd (wsR M S N s len).length bm, .int .i64 (wsD M S N s len), .bool true]) (by simp [results, Try.results8, go_sem]) rfl ?_
        rw [hok.out]
        exact ⟨_, _, rfl, (h7.mono (by have := e1.size; omega)).ext, Ext.trans ef inferInstance⟩

end Go.Proofs.Ytkniohcmhdgbeaa
