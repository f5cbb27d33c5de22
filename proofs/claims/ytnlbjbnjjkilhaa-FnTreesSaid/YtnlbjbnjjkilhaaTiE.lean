/- The program's spanning tree and its cost, walked. -/
import Derived.Test.YtnlbjbnjjkilhaaTiD
import Derived.Test.YtnlbjbnjjkilhaaTsD
namespace Go.Proofs.Ytnlbjbnjjkilhaa
open Go.RowKit

set_option maxHeartbeats 3200000 in
set_option maxRecDepth 100000 in
theorem implST_any {v : Value} {M : List (List Int)} {w0 w : World} [Ext w0 w] (hm : IsMet w0 v M) :
    Calls Try.prog 10 #[v] w (STPost M w) := by
  have hm' := hm
  have hTr := hid (fun (hM : metB M = true) (u : World) (eu : Ext w0 u) => @spanningTree_any v M w0 u eu hm' hM)
  have hrd := hid (fun (hM : metB M = true) (T : List (Nat × Nat)) (hK : Kr (edL (cell M) M.length) T) => show (∀ e, e ∈ T → e.1 < M.length ∧ e.2 < M.length) ∧ T.length ≤ 6 from by
    have h1 := (met_srt hM).lt
    have h2 := kr_len (met_srt hM) hK (met_len hM).1
    have h3 := met_len hM
    exact ⟨fun e he => h1 e (hK.sub e he), by omega⟩)
  have hn6 := hid (fun (hM : metB M = true) => (met_len hM).2)
  have hrow := hid (fun (hM : metB M = true) x (hx : x < M.length) => tr_row hM hx)
  have hD99 := hid (fun (hM : metB M = true) u v (hu : u < M.length) (hv : v < M.length) => (dst_of_met hM).pos u v hu hv)
  obtain ⟨v1, rfl, hR⟩ := hm
  obtain ⟨a1, c1, rfl, l1⟩ := hR.form
  obtain ⟨mb, hmb⟩ : ∃ mb, mb = metB M := ⟨_, rfl⟩
  obtain ⟨OK, hOK⟩ : ∃ P, P = StOk M := ⟨_, rfl⟩
  obtain ⟨n, hn⟩ : ∃ n, n = M.length := ⟨_, rfl⟩
  unfold STPost
  rw [← hmb, ← hOK]
  rw [← hn] at hrd hn6 hR l1 hm' hTr hrow hD99 ⊢
  replace hOK := hid hOK
  replace hn := hid hn
  go_enter Try.func10, Try.ntmps10
  go_upto_region 1 with fail
  have ea : Ext w (w.alloc (.cells #[.slice a1 n c1] 29)) := inferInstance
  have qa : (w.alloc (.cells #[.slice a1 n c1] 29)).cell? ⟨w.heap.size, 0, none⟩ = some (.slice a1 n c1) := by go_simp
  generalize w.alloc (.cells #[.slice a1 n c1] 29) = wa at *
  have e0a : Ext w0 wa := Ext.trans ‹Ext w0 w› ea
  cases mb with
  | false =>
    have hM := hid hmb.symm
    clear hmb
    have hno := hid (show OK [] 0 by rw [hOK.out]; unfold StOk; rw [hM.out]; exact ⟨rfl, rfl⟩)
    go_wp2_with fail
    with_reducible refine (IsMetric_any (w0 := w0) hm').mono ?_
    rw [hM.out]
    rintro e w1 ⟨rfl, e1⟩
    have eF : Ext w w1 := Ext.trans ea e1
    go_wp2_with fail
    refine bodyPost_ret (v := .tuple #[.slice none 0 0, .int .i64 0, .bool false]) (by simp [results, Try.results10, go_sem]) rfl ?_
    exact ⟨_, 0, [], 0, rfl, hno.out, IsFlat.zero _ _ 0 2, eF⟩
  | true =>
    have hM := hid hmb.symm
    clear hmb
    go_wp2_with fail
    with_reducible refine (IsMetric_any (w0 := w0) hm').mono ?_
    rw [hM.out]
    rintro e w1 ⟨rfl, e1⟩
    have q1 := e1.cell qa
    have e01 : Ext w0 w1 := Ext.trans e0a e1
    go_wp2_with fail
    with_reducible refine (hTr.out hM.out w1 e01).mono ?_
    rintro e w2 ⟨d, m, T, rfl, hK, own2, e2⟩
    have hyes := hid (show OK T (smT (cell M) T) by rw [hOK.out]; unfold StOk; rw [if_pos hM.out]; exact ⟨by rw [← hn.out]; exact hK, rfl⟩)
    obtain ⟨hTn, hT6⟩ := hrd.out hM.out T hK
    have hn7 := hn6.out hM.out
    have hFl : IsFlat w2 (.slice d T.length m) 2 (edR T) := edges_read own2 (n := n) (by omega) (by omega) hTn
    have e02 : Ext w0 w2 := Ext.trans e01 e2
    have ew2 : Ext w w2 := Ext.trans (Ext.trans ea e1) e2
    have q2 := e2.cell q1
    obtain ⟨D, hD⟩ : ∃ D, D = cell M := ⟨_, rfl⟩
    have hrow' := hid (hrow.out hM.out)
    have hD' := hid (hD99.out hM.out)
    rw [← hD] at hyes hD'
    replace hD := hid hD
    clear hK own2 ea e1 qa q1 e01 e2 hrow hD99 hTr hrd hn6
    replace hTn := hid hTn
    go_upto_region 6 with fail
    go_loopw [6, 16] (fun sv iv wr => ∃ (i : Nat) (s : Int), sv = .int .i64 s ∧ iv = .int .i64 i ∧ i ≤ T.length ∧ (0 ≤ s ∧ s ≤ 99 * (i : Int)) ∧ Hid (s = smT D (T.take i)) ∧ Ext w2 wr) (fun _ iv _ => T.length - (intOf iv).toNat)
    case atStart => exact ⟨0, 0, rfl, rfl, by omega, by omega, hid rfl, Ext.refl _⟩
    case round =>
      obtain ⟨i, s, rfl, rfl, hi, hs, hsm, ew⟩ := hrel
      obtain ⟨wo, rfl⟩ : ∃ y : World, y = wr := ⟨_, rfl⟩
      by_cases hil : i < T.length
      · obtain ⟨e, he⟩ : ∃ e, T[i]? = some e := ⟨_, List.getElem?_eq_getElem hil⟩
        have hen := hTn.out e (List.mem_of_getElem? he)
        obtain ⟨bE, oE, hdT, c0, c1'⟩ := edge_at hFl (w' := wo) (e := ew) he
        have hts := hid (take_snoc he)
        obtain ⟨e1, e2⟩ := e
        simp only at c0 c1' hen
        obtain ⟨hen1, hen2⟩ := hen
        have hsn := hid (smT_snoc D (T.take i) (e1, e2))
        have hdb := hD'.out e1 e2 hen1 hen2
        have hDv := hid (show D e1 e2 = nth (row M e1) e2 by rw [hD.out]; rfl)
        rw [hDv.out] at hdb
        have q3 := ew.cell q2
        have e03 : Ext w0 wo := Ext.trans e02 ew
        subst hdT
        clear he
        go_upto_region 8 with fail
        have xE0 : (wo.alloc (.cells #[.int .i64 (e1 : Int), .int .i64 (e2 : Int)] 46)).cell? ⟨wo.heap.size, 0, none⟩ = some (.int .i64 (e1 : Int)) := by go_simp
        have xE1 : (wo.alloc (.cells #[.int .i64 (e1 : Int), .int .i64 (e2 : Int)] 46)).cell? ⟨wo.heap.size, 1, none⟩ = some (.int .i64 (e2 : Int)) := by go_simp
        have eE : Ext wo (wo.alloc (.cells #[.int .i64 (e1 : Int), .int .i64 (e2 : Int)] 46)) := inferInstance
        have q4 := eE.cell q3
        generalize wo.alloc (.cells #[.int .i64 (e1 : Int), .int .i64 (e2 : Int)] 46) = w5 at *
        generalize wo.heap.size = gE at *
        obtain ⟨bM, oM, dr, mr, ha1, hcr, hir, _⟩ := hR.at (w' := w5) (e := Ext.trans e03 eE) (k := e1) (by rw [← hn.out]; exact hen1)
        subst ha1
        rw [hrow'.out e1 hen1] at hcr hir
        obtain ⟨bd, od, hda, hcy⟩ := hir.at (w' := w5) (e := Ext.trans e03 eE) (k := e2) (by rw [hrow'.out e1 hen1]; exact hen2)
        subst hda
        generalize nth (row M e1) e2 = dv at *
        have e5 : Ext w2 w5 := Ext.trans ew eE
        clear hir c0 c1' q3 e03
        go_upto_region 9 with (go_quiet (fail))
        have e6 : Ext w2 (w5.drewN nq) := Ext.trans e5 inferInstance
        generalize w5.drewN nq = w6 at *
        go_wp2_with fail
        go_roundw
        case rel => exact ⟨i + 1, s + dv, rfl, by go_num, by omega, by omega, hid (by rw [hts.out, hsn.out, ← hsm.out, hDv.out]), e6⟩
        case measure => simp [intOf]; omega
      · have hiT : i = T.length := by omega
        have hss := hid (show s = smT D T by rw [hsm.out, hiT, List.take_length])
        have eF : Ext w wo := Ext.trans ew2 ew
        have hFo := hFl.ext (e := ew)
        replace hiT := hid hiT
        go_wp2_with fail
        refine bodyPost_ret (v := .tuple #[.slice d T.length m, .int .i64 s, .bool true]) (by simp [results, Try.results10, go_sem]) rfl ?_
        exact ⟨d, m, T, s, rfl, by rw [hss.out]; exact hyes.out, hFo, eF⟩
end Go.Proofs.Ytnlbjbnjjkilhaa
