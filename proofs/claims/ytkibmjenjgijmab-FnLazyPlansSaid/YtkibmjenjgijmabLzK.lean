/- PlanCaches, PlanFaults, LazyPlan: the program's. -/
import Derived.Test.YtkibmjenjgijmabLzJ
namespace Go.Proofs.Ytkibmjenjgijmab
open Go.RowKit

/-- what the program's lazy plan chooses -/
def lzch (X P : List Int) (t : Nat) (N : List Int) : Int := nth (N.filter fun y => !hasB (rnC X P (t + 1)) y) 0
theorem pb_lz {k : Int} {X P : List Int} {n : Nat} (hk : 1 ≤ k) (hP : rnB k X P n = true) (hX0 : ∀ s, s < n → 0 ≤ nth X s) : ∀ {t : Nat}, t ≤ n → pbC k (lzch X P) X t = lzC k X P t
  | 0, _ => rfl
  | t + 1, ht => by
    have ih := pb_lz hk hP hX0 (t := t) (by omega)
    have hok := lz_all hk hP hX0 (t := t) (by omega)
    have hst := lz_step hk hP (t := t) (by omega) hX0 hok
    have hC : lzC k X P (t + 1) = nextC (lzC k X P t) (nth X t) (lzP k X P t) := rfl
    rw [pbC, ih, hC, pbN]
    by_cases h1 : nth X t ∈ lzC k X P t
    · have ho : lzP k X P t = -1 := by unfold lzP lzO; rw [if_neg (fun hh => hh.1 h1)]
      rw [if_pos h1, ho, nextC, if_pos h1, if_neg (by omega)]
    · by_cases h2 : ((lzC k X P t).length : Int) = k
      · have ho : lzP k X P t = lzch X P t (lzC k X P t) := by unfold lzP lzO; rw [if_pos ⟨h1, h2⟩]; rfl
        have h0 : 0 ≤ lzP k X P t := by
          rcases hst.2.2.2 with e | hm
          · exfalso
            have h3 := (okS_iff.1 hst.2.1).2
            rw [e, nextC, if_neg h1, if_neg (by omega), putL_new h1] at h3
            omega
          · obtain ⟨s, hs, e⟩ := hok.mem _ hm
            have := hX0 s (by omega)
            omega
        rw [if_neg h1, if_pos h2, nextC, if_neg h1, if_pos h0, ho]
      · have ho : lzP k X P t = -1 := by unfold lzP lzO; rw [if_neg (fun hh => h2 hh.2)]
        rw [if_neg h1, if_neg h2, ho, nextC, if_neg h1, if_neg (by omega)]
theorem pb_lzP {k : Int} {X P : List Int} {n : Nat} (hk : 1 ≤ k) (hP : rnB k X P n = true) (hX0 : ∀ s, s < n → 0 ≤ nth X s) {t : Nat} (ht : t ≤ n) : pbP k (lzch X P) X t = lzP k X P t := by
  rw [pbP, pb_lz hk hP hX0 ht]
  rfl

set_option maxHeartbeats 400000 in
theorem goneBy1_any {a : Int} {T : List Int} {d : Option Addr} {m B : Nat} {w0 w : World} [Ext w0 w] (hT : IsInts w0 (.slice d T.length m) T) (hn : w.cell? ⟨B, 0, none⟩ = some (.slice d T.length m)) :
    Calls Try.prog 68 #[.int .i64 a, .pointer (some ⟨B, 0, none⟩)] w fun e w' => e = .returned (.bool (hasB T a)) ∧ w = w' := by
  go_enter Try.func68, Try.ntmps68
  go_wp2_with fail
  with_reducible refine (sContains_any (w0 := w0) hT).mono ?_
  rintro e w3 ⟨rfl, rfl⟩
  go_wp2_with fail
  go_ret
  exact ⟨rfl, rfl⟩
theorem goneBy1_call (xa : Array Value) (W : World) : (callFunc 68 xa).run Try.prog W = .ok (.enter 68 xa) W := by kernel_rfl

set_option maxHeartbeats 800000 in
set_option maxRecDepth 100000 in
theorem goneBy_any {v u : Value} {N T : List Int} {w0 w : World} [Ext w0 w] (hN : IsInts w0 v N) (hT : IsInts w0 u T) (hs : SAsc N) (hl : N.length ≤ 100000) :
    Calls Try.prog 38 #[v, u] w fun e w' => ∃ d m, e = .returned (.slice d (N.filter fun y => !hasB T y).length m) ∧ IsInts w' (.slice d (N.filter fun y => !hasB T y).length m) (N.filter fun y => !hasB T y) ∧ Ext w w' := by
  have hN' := hN
  obtain ⟨dn, mn, rfl, ln⟩ := hN.form
  have hT' := hT
  obtain ⟨dt, mt, rfl, lt⟩ := hT.form
  have hdif := hid (show difL (N.filter fun y => !hasB T y) = N.filter fun y => !hasB T y from sasc_dif (hs.sublist List.filter_sublist))
  have hGl := List.length_filter_le (fun y => !hasB T y) N
  have hGi := hid (show ∀ y ∈ N.filter (fun y => !hasB T y), I64 y from fun y hy => hN'.all.2 y (List.mem_filter.1 hy).1)
  have hNi := hid (show ∀ y ∈ N, I64 y from fun y hy => hN'.all.2 y hy)
  replace hs := hid hs
  have x0 : (w.alloc (.cells #[.slice dt T.length mt] 22)).cell? ⟨w.heap.size, 0, none⟩ = some (.slice dt T.length mt) := by go_simp
  have e1 : Ext w (w.alloc (.cells #[.slice dt T.length mt] 22)) := inferInstance
  go_enter Try.func38, Try.ntmps38
  go_upto_region 1 with fail
  generalize w.alloc (.cells #[.slice dt T.length mt] 22) = w1 at *
  have e01 : Ext w0 w1 := Ext.trans ‹Ext w0 w› e1
  go_wp2_with fail
  with_reducible refine (cloneInts_any (w0 := w0) (w := w1) hN').mono ?_
  rintro e w2 ⟨d2, m2, rfl, own2, e2⟩
  have hB2 := e2.size
  have hdel : ∀ (W : World), Below w1.heap.size w2 W → Own W w1.heap.size [] → ∀ q, q < N.length → Calls Try.prog 68 (#[.int .i64 (nth N q)] ++ #[.pointer (some ⟨w.heap.size, 0, none⟩)]) W fun e w' => e = .returned (.bool ((fun y => hasB T y) (nth N q))) ∧ W = w' := fun W hW _ q _ => by
    have e3 : Ext w1 W := ⟨e2.below.trans hW⟩
    have e03 : Ext w0 W := Ext.trans e01 e3
    exact goneBy1_any (w0 := w0) hT' (e3.cell x0)
  have hDF := deleteFunc_any own2 hB2 (by omega) hNi.out _ _ (fun y => hasB T y) goneBy1_call hdel
  clear hdel own2
  go_wp2_with fail
  refine hDF.mono ?_
  rintro e w3 ⟨u3, rfl, own3, b3⟩
  clear hDF
  obtain ⟨G, hG⟩ : ∃ G, G = N.filter (fun y => !hasB T y) := ⟨_, rfl⟩
  rw [← hG] at own3 hdif hGl hGi
  obtain ⟨d3, m3, h3⟩ := own3.form
  have h3' : u3 = .slice d3 G.length m3 := h3
  subst h3'
  have hiG : IsInts w3 (.slice d3 G.length m3) G := own3.reads (by unfold Short; omega) hGi.out
  have e13 : Ext w w3 := Ext.trans e1 ⟨e2.below.trans b3⟩
  clear own3 h3
  replace hG := hid hG
  go_wp2_with fail
  with_reducible refine (rising_any (w0 := w3) (w := w3) hiG).mono ?_
  rw [hdif.out]
  rintro e w4 ⟨d4, m4, rfl, hr4, e4⟩
  go_wp2_with fail
  go_ret
  rw [← hG.out]
  exact ⟨d4, m4, rfl, hr4, Ext.trans e13 e4⟩

set_option maxHeartbeats 800000 in
set_option maxRecDepth 100000 in
theorem lazyPlan1_any {u : Value} {N : List Int} {M : List (List Int)} {t B : Nat} {d : Option Addr} {m : Nat} {w0 w : World} [Ext w0 w] (hc : w.cell? ⟨B, 0, none⟩ = some (.slice d M.length m)) (hM : IsRows w0 (.slice d M.length m) M) (hN : IsInts w u N) (hs : SAsc N) (hl : N.length ≤ 100000)
    (ht : t < M.length) (_ht2 : t ≤ 1000) (hg : 0 < (N.filter fun y => !hasB (row M t) y).length) :
    Calls Try.prog 37 #[.int .i64 t, u, .pointer (some ⟨B, 0, none⟩)] w fun e w' => e = .returned (.int .i64 (nth (N.filter fun y => !hasB (row M t) y) 0)) ∧ Ext w w' := by
  have hN' := hN
  obtain ⟨dn, mn, rfl, ln⟩ := hN.form
  obtain ⟨bc, oc, dT, mT, hdc, hcc, hiT, hlT⟩ := hM.at (w' := w) (k := t) ht
  cases hdc
  have hiT2 := hiT.ext (w' := w)
  replace hs := hid hs
  go_enter Try.func37, Try.ntmps37
  go_wp2_with fail
  with_reducible refine (goneBy_any (w0 := w) (w := w) hN' hiT2 hs.out hl).mono ?_
  rintro e w2 ⟨d2, m2, rfl, h2, e2⟩
  obtain ⟨b3, o3, h3, hc3⟩ := h2.at (w' := w2) (k := 0) hg
  cases h3
  obtain ⟨z, hz⟩ : ∃ z, z = nth (N.filter fun y => !hasB (row M t) y) 0 := ⟨_, rfl⟩
  rw [← hz, Nat.add_zero] at hc3
  replace hz := hid hz
  go_wp2_with fail
  go_ret
  rw [← hz.out]
  exact ⟨rfl, e2⟩
theorem lazyPlan1_call (xa : Array Value) (W : World) : (callFunc 37 xa).run Try.prog W = .ok (.enter 37 xa) W := by kernel_rfl

theorem pl_len {n : Int} {X P : List Int} (h : plB n X P = true) : P.length = X.length := by
  simp only [plB, Bool.and_eq_true, decide_eq_true_eq] at h
  exact h.1
theorem rows_nil (w : World) (d : Option Addr) (c : Nat) : IsRows w (.slice d 0 c) [] := ⟨d, c, rfl, Nat.zero_le _, fun j hj => by simp at hj⟩

set_option maxHeartbeats 800000 in
set_option maxRecDepth 100000 in
theorem implPC_any {vX vP : Value} {k n : Int} {X P : List Int} {w0 w : World} [Ext w0 w] (hX : IsInts w0 vX X) (hP : IsInts w0 vP P) (_hk : I64 k) (hn : -100 ≤ n ∧ n ≤ 100) :
    Calls Try.prog 19 #[.int .i64 k, .int .i64 n, vX, vP] w fun e w' => ∃ u, e = .returned (.tuple #[u, .bool (pcB k n X P)]) ∧ IsRows w' u (pcC k n X P) ∧ Ext w w' := by
  cases hq : pagB k n X && plB n X P with
  | false =>
    have hr := hid (show pcB k n X P = false by rw [pcB, ← Bool.and_assoc, hq]; rfl)
    have hv := hid (show pcC k n X P = [] by rw [pcC, hr.out]; rfl)
    replace hq := hid hq
    go_enter Try.func19, Try.ntmps19
    go_wp2_with fail
    with_reducible refine (isPlanList_any (w0 := w0) hX hP hn).mono ?_
    rw [hq.out]
    rintro e w2 ⟨rfl, e2⟩
    go_wp2_with fail
    go_ret2
    rw [hr.out, hv.out]
    exact ⟨_, rfl, rows_nil _ _ _, e2⟩
  | true =>
    have hr := hid (show pcB k n X P = rnB k X P X.length by rw [pcB, ← Bool.and_assoc, hq, Bool.true_and])
    have hv := hid (show pcC k n X P = if rnB k X P X.length then rnL X P X.length else [] by rw [pcC, hr.out])
    have hq' := Bool.and_eq_true_iff.1 hq
    obtain ⟨hk2, hn2, hl, hpg⟩ := pagB_in hq'.1
    have hpl := pl_len hq'.2
    have hX0 : ∀ s, s < X.length → 0 ≤ nth X s := fun s hs => by have := hpg s hs; omega
    replace hX0 := hid hX0
    replace hq := hid hq
    replace hpl := hid hpl
    clear hpg hq'
    go_enter Try.func19, Try.ntmps19
    go_wp2_with fail
    with_reducible refine (isPlanList_any (w0 := w0) hX hP hn).mono ?_
    rw [hq.out]
    rintro e w2 ⟨rfl, e2⟩
    have e02 : Ext w0 w2 := Ext.trans ‹Ext w0 w› e2
    go_wp2_with fail
    with_reducible refine (played_any (w0 := w0) (w := w2) hX hP hk2 hl hpl.out hX0.out).mono ?_
    rintro e w4 ⟨u, rfl, hu, e4⟩
    rw [← hv.out] at hu
    obtain ⟨f, hf⟩ : ∃ f, f = (if rnB k X P X.length then rnF X P X.length else 0) := ⟨_, rfl⟩
    obtain ⟨b, hb⟩ : ∃ b, b = rnB k X P X.length := ⟨_, rfl⟩
    rw [← hf, ← hb]
    replace hf := hid hf
    have hr2 := hid (show pcB k n X P = b by rw [hr.out, hb])
    replace hb := hid hb
    go_wp2_with fail
    go_ret2
    rw [hr2.out]
    exact ⟨_, rfl, hu, Ext.trans e2 e4⟩

set_option maxHeartbeats 800000 in
set_option maxRecDepth 100000 in
theorem implPF_any {vX vP : Value} {k n : Int} {X P : List Int} {w0 w : World} [Ext w0 w] (hX : IsInts w0 vX X) (hP : IsInts w0 vP P) (_hk : I64 k) (hn : -100 ≤ n ∧ n ≤ 100) :
    Calls Try.prog 23 #[.int .i64 k, .int .i64 n, vX, vP] w fun e w' => e = .returned (.tuple #[.int .i64 (pcF k n X P), .bool (pcB k n X P)]) ∧ Ext w w' := by
  cases hq : pagB k n X && plB n X P with
  | false =>
    have hr := hid (show pcB k n X P = false by rw [pcB, ← Bool.and_assoc, hq]; rfl)
    have hv := hid (show pcF k n X P = 0 by rw [pcF, hr.out]; rfl)
    replace hq := hid hq
    go_enter Try.func23, Try.ntmps23
    go_wp2_with fail
    with_reducible refine (isPlanList_any (w0 := w0) hX hP hn).mono ?_
    rw [hq.out]
    rintro e w2 ⟨rfl, e2⟩
    go_wp2_with fail
    go_ret2
    rw [hr.out, hv.out]
    exact ⟨rfl, e2⟩
  | true =>
    have hr := hid (show pcB k n X P = rnB k X P X.length by rw [pcB, ← Bool.and_assoc, hq, Bool.true_and])
    have hv := hid (show pcF k n X P = if rnB k X P X.length then rnF X P X.length else 0 by rw [pcF, hr.out])
    have hq' := Bool.and_eq_true_iff.1 hq
    obtain ⟨hk2, hn2, hl, hpg⟩ := pagB_in hq'.1
    have hpl := pl_len hq'.2
    have hX0 : ∀ s, s < X.length → 0 ≤ nth X s := fun s hs => by have := hpg s hs; omega
    replace hX0 := hid hX0
    replace hq := hid hq
    replace hpl := hid hpl
    clear hpg hq'
    go_enter Try.func23, Try.ntmps23
    go_wp2_with fail
    with_reducible refine (isPlanList_any (w0 := w0) hX hP hn).mono ?_
    rw [hq.out]
    rintro e w2 ⟨rfl, e2⟩
    have e02 : Ext w0 w2 := Ext.trans ‹Ext w0 w› e2
    go_wp2_with fail
    with_reducible refine (played_any (w0 := w0) (w := w2) hX hP hk2 hl hpl.out hX0.out).mono ?_
    rintro e w4 ⟨u, rfl, hu, e4⟩
    rw [← hv.out, ← hr.out]
    clear hu
    obtain ⟨f, hf⟩ : ∃ f, f = pcF k n X P := ⟨_, rfl⟩
    obtain ⟨b, hb⟩ : ∃ b, b = pcB k n X P := ⟨_, rfl⟩
    rw [← hf, ← hb]
    replace hf := hid hf
    replace hb := hid hb
    go_wp2_with fail
    go_ret2
    rw [← hf.out, ← hb.out]
    exact ⟨rfl, Ext.trans e2 e4⟩

set_option maxHeartbeats 800000 in
set_option maxRecDepth 100000 in
theorem implLP_any {vX vP : Value} {k n : Int} {X P : List Int} {w0 w : World} [Ext w0 w] (hX : IsInts w0 vX X) (hP : IsInts w0 vP P) (hk : I64 k) (hn : -100 ≤ n ∧ n ≤ 100) :
    Calls Try.prog 17 #[.int .i64 k, .int .i64 n, vX, vP] w fun e w' => ∃ u, e = .returned (.tuple #[u, .bool (pcB k n X P)]) ∧ IsInts w' u (lzR k n X P) ∧ Ext w w' := by
  cases hq : pcB k n X P with
  | false =>
    have hv := hid (show lzR k n X P = [] by rw [lzR, hq]; rfl)
    replace hq := hid hq
    go_enter Try.func17, Try.ntmps17
    go_wp2_with fail
    with_reducible refine (implPC_any (w0 := w0) hX hP hk hn).mono ?_
    rw [hq.out]
    rintro e w2 ⟨u, rfl, hu, e2⟩
    obtain ⟨d2, m2, rfl, l2⟩ := hu.form
    clear hu
    go_wp2_with fail
    go_ret2
    rw [hv.out]
    exact ⟨_, rfl, ints_nil _ _ _, Ext.trans e2 inferInstance⟩
  | true =>
    have hv := hid (show lzR k n X P = lzL k X P X.length by rw [lzR, hq]; rfl)
    have hC := hid (show pcC k n X P = rnL X P X.length by rw [pcC, hq]; rfl)
    have hq' := hq
    simp only [pcB, Bool.and_eq_true] at hq'
    obtain ⟨h1, h2, h3⟩ := hq'
    obtain ⟨hk2, hn2, hl, hpg⟩ := pagB_in h1
    have hX0 : ∀ s, s < X.length → 0 ≤ nth X s := fun s hs => by have := hpg s hs; omega
    have hall := fun t (ht : t ≤ X.length) => lz_all hk2.1 h3 hX0 ht
    have hpb := fun t (ht : t ≤ X.length) => pb_lz hk2.1 h3 hX0 ht
    have hpP := fun t (ht : t ≤ X.length) => pb_lzP hk2.1 h3 hX0 ht
    have hlist : pbL k (lzch X P) X X.length = lzL k X P X.length := by
      unfold pbL lzL
      exact List.map_congr_left fun t ht => hpP t (by have := List.mem_range.1 ht; omega)
    have hX' := hX
    have hi64 : ∀ t, t < X.length → I64 (pbP k (lzch X P) X t) := fun t ht => by
      rw [hpP t (by omega)]
      rcases (lz_step hk2.1 h3 ht hX0 (hall t (by omega))).2.2.2 with e | hm
      · rw [e]; unfold I64; omega
      · obtain ⟨s, hs, e⟩ := (hall t (by omega)).mem _ hm
        rw [← e]; exact hX'.i64 (by omega)
    have hgs : ∀ t, t < X.length → nth X t ∉ pbC k (lzch X P) X t → ((pbC k (lzch X P) X t).length : Int) = k → 0 < ((pbC k (lzch X P) X t).filter fun y => !hasB (row (rnL X P X.length) t) y).length := fun t ht hr hfull => by
      rw [rnL_at ht]
      rw [hpb t (by omega)] at hr hfull ⊢
      have hle := rnC_le (by omega) h3 (t := t + 1) (by omega)
      exact gone_some (hall t (by omega)).asc (rnC_sasc X P (t + 1)) hr (nextC_has _ _ _ (okS_iff.1 (rnB_at h3 ht)).1) (by omega)
    replace hall := hid hall
    replace hpb := hid hpb
    replace hpP := hid hpP
    replace hlist := hid hlist
    replace hi64 := hid hi64
    replace hgs := hid hgs
    replace hX0 := hid hX0
    replace hq := hid hq
    replace h1 := hid h1
    replace h2 := hid h2
    replace h3 := hid h3
    clear hpg
    go_enter Try.func17, Try.ntmps17
    go_wp2_with fail
    with_reducible refine (implPC_any (w0 := w0) hX hP hk hn).mono ?_
    rw [hq.out, hC.out]
    rintro e w2 ⟨u, rfl, hu, e2⟩
    have hu' := hu
    obtain ⟨d2, m2, rfl, l2⟩ := hu.form
    have hMl := hid (rnL_len X P X.length)
    have x0 : (w2.alloc (.cells #[.slice d2 (rnL X P X.length).length m2] 37)).cell? ⟨w2.heap.size, 0, none⟩ = some (.slice d2 (rnL X P X.length).length m2) := by go_simp
    go_upto_region 4 with fail
    have e3 : Ext w2 (w2.alloc (.cells #[.slice d2 (rnL X P X.length).length m2] 37)) := inferInstance
    generalize w2.alloc (.cells #[.slice d2 (rnL X P X.length).length m2] 37) = w3 at *
    have e03 : Ext w0 w3 := Ext.trans ‹Ext w0 w› (Ext.trans e2 e3)
    have hpl := planBy_any (w0 := w0) (w := w3) hX' hl hk 37 #[.pointer (some ⟨w2.heap.size, 0, none⟩)] (lzch X P) lazyPlan1_call
      (fun W hW t ht hr hfull u hu => by
        have e2W : Ext w2 W := Ext.trans e3 hW
        have := lazyPlan1_any (w0 := w2) (w := W) (t := t) (hW.cell x0) hu' hu (pbC_sasc _ _ _ _) (by have := pbC_len k (lzch X P) X t; omega) (by rw [hMl.out]; exact ht) (by omega) (hgs.out t ht hr hfull)
        rw [rnL_at ht] at this
        exact this) hi64.out
    clear hu
    go_wp2_with fail
    refine hpl.mono ?_
    rintro e w4 ⟨d4, m4, rfl, h4, e4⟩
    rw [hlist.out] at h4
    go_wp2_with fail
    go_ret2
    rw [hv.out]
    exact ⟨_, rfl, h4, Ext.trans e2 (Ext.trans e3 e4)⟩
end Go.Proofs.Ytkibmjenjgijmab
