/- ParseCache of the program walked. -/
import Derived.Test.YtaphnkgjcmneoaaGreatDoorCjp
import Derived.Test.YtaphnkgjcmneoaaGreatDoorPackA
import Derived.Test.YtaphnkgjcmneoaaGreatDoorCix
import Derived.Test.YtaphnkgjcmneoaaGreatDoorCis
namespace Go.Proofs.YtaphnkgjcmneoaaGreatDoor
open Go.RowKit

set_option maxHeartbeats 6400000 in
set_option maxRecDepth 100000 in
theorem implPca_any {n : Int} {L : List UInt8} {w : World} (hl : L.length ≤ 100000) (ht : Tens w) (he : Errs w) (hmo : Most w) :
    Calls Tryz.prog 10 #[.int .i64 n, .string (bsOf L)] w (PcPost n L w) := by
  have hsp := fun (u : World) => splitAt_any (w := u) hl
  have hWl : (spW 32 L).length ≤ 100001 := by
    have := spF_len 32 L []
    unfold spW
    omega
  have hWw : ∀ y ∈ spW 32 L, y.length ≤ 100000 := fun y hy => by
    have := spF_wlen 32 L [] y hy
    simp only [List.length_nil] at this
    omega
  obtain ⟨hw, T, hWT⟩ := spW_cons L
  have hok := pcOk_at (n := n) hWT
  have hyes := fun hk => pcV_yes (n := n) hWT hk
  have hno := fun (h : pcOk n L = false) (w' : World) (e : Ext w w') => pc_fail (w := w) h e none none 0 0
  rw [hWT] at hsp hWl hWw
  simp only [List.length_cons] at hWl hsp
  have hwl : hw.length ≤ 100000 := hWw hw (.head _)
  have hTw : ∀ y ∈ T, y.length ≤ 100000 := fun y hy => hWw y (.tail _ hy)
  have hl1 := cut_len hw 47
  have hH : hdP hw = (polOf (Lib.cut hw [47]).1, rd0 (Lib.cut (Lib.cut hw [47]).2.1 [64]).1, rd0 (Lib.cut (Lib.cut hw [47]).2.1 [64]).2.1) := rfl
  have hC1 := fun (u : World) (hu : Most u) => cut_any (L := hw) (b := 47) (sep := { data := #[47] }) rfl (w := u) hwl hu
  unfold cutV at hC1
  obtain ⟨LA, hLA⟩ : ∃ X, X = (Lib.cut hw [47]).1 := ⟨_, rfl⟩
  obtain ⟨LR, hLR⟩ : ∃ X, X = (Lib.cut hw [47]).2.1 := ⟨_, rfl⟩
  obtain ⟨t0, ht0⟩ : ∃ X, X = (Lib.cut hw [47]).2.2 := ⟨_, rfl⟩
  rw [← hLA, ← hLR] at hl1 hH
  rw [← hLA, ← hLR, ← ht0] at hC1
  have hl2 := cut_len LR 64
  have hC2 := fun (u : World) (hu : Most u) => cut_any (L := LR) (b := 64) (sep := { data := #[64] }) rfl (w := u) (by omega) hu
  unfold cutV at hC2
  obtain ⟨LZ, hLZ⟩ : ∃ X, X = (Lib.cut LR [64]).1 := ⟨_, rfl⟩
  obtain ⟨LH, hLH⟩ : ∃ X, X = (Lib.cut LR [64]).2.1 := ⟨_, rfl⟩
  obtain ⟨t1, ht1⟩ : ∃ X, X = (Lib.cut LR [64]).2.2 := ⟨_, rfl⟩
  rw [← hLZ, ← hLH] at hl2 hH
  rw [← hLZ, ← hLH, ← ht1] at hC2
  obtain ⟨q, hq⟩ : ∃ X, X = polOf LA := ⟨_, rfl⟩
  obtain ⟨z, hz⟩ : ∃ X, X = rd0 LZ := ⟨_, rfl⟩
  obtain ⟨h, hh⟩ : ∃ X, X = rd0 LH := ⟨_, rfl⟩
  obtain ⟨o1, h1⟩ : ∃ X, X = (rdO LZ).isSome := ⟨_, rfl⟩
  obtain ⟨o2, h2⟩ : ∃ X, X = (rdO LH).isSome := ⟨_, rfl⟩
  have hPo := fun (u : World) (hu : Most u) => PolicyOf_any (L := LA) (w := u) hu
  have hR1 := fun (u : World) (a : Tens u) (b : Errs u) => readDec_any (L := LZ) (w := u) (by omega) a b
  have hR2 := fun (u : World) (a : Tens u) (b : Errs u) => readDec_any (L := LH) (w := u) (by omega) a b
  rw [show optV (rdO LZ) = .tuple #[.int .i64 z, .bool o1] by rw [hz, h1]; rfl] at hR1
  rw [show optV (rdO LH) = .tuple #[.int .i64 h, .bool o2] by rw [hh, h2]; rfl] at hR2
  rw [← hq] at hPo
  rw [← hq, ← hz, ← hh] at hH
  rw [hH] at hok hyes
  simp only at hok hyes
  obtain ⟨Sw, hSw⟩ : ∃ S, S = bsOf hw := ⟨_, rfl⟩
  obtain ⟨SL, hSL⟩ : ∃ S, S = bsOf L := ⟨_, rfl⟩
  obtain ⟨SA, hSA⟩ : ∃ S, S = bsOf LA := ⟨_, rfl⟩
  obtain ⟨SR, hSR⟩ : ∃ S, S = bsOf LR := ⟨_, rfl⟩
  obtain ⟨SZ, hSZ⟩ : ∃ S, S = bsOf LZ := ⟨_, rfl⟩
  obtain ⟨SH, hSH⟩ : ∃ S, S = bsOf LH := ⟨_, rfl⟩
  rw [← hSL] at hsp ⊢
  rw [← hSw, ← hSA, ← hSR] at hC1
  rw [← hSA] at hPo
  rw [← hSR, ← hSZ, ← hSH] at hC2
  rw [← hSZ] at hR1
  rw [← hSH] at hR2
  have hzi : I64 z := by rw [hz]; exact rd0_i64 _
  have hhi : I64 h := by rw [hh]; exact rd0_i64 _
  replace hSL := hid hSL
  replace hSw := hid hSw
  clear ht0 ht1 hSA hSR hSZ hSH h1 h2 hz hh hq hLZ hLH hLA hLR hl1 hl2 hWw hwl hH
  replace hC1 := hid hC1
  replace hC2 := hid hC2
  replace hPo := hid hPo
  replace hR1 := hid hR1
  replace hR2 := hid hR2
  replace hsp := hid hsp
  replace hok := hid hok
  replace hyes := hid hyes
  replace hno := hid hno
  replace hTw := hid hTw
  replace hWT := hid hWT
  replace ht := hid ht
  replace he := hid he
  replace hmo := hid hmo
  obtain ⟨po, hpo⟩ : ∃ b, b = decide (1 ≤ q) := ⟨_, rfl⟩
  rw [← hpo] at hPo
  replace hpo := hid hpo
  obtain ⟨W, hW⟩ : ∃ W, W = w.alloc (.cells #[.int .i64 0, .int .i64 0, .slice none 0 0, .slice none 0 0, .int .i64 0] 26) := ⟨_, rfl⟩
  have eW : Ext w W := by rw [hW]; infer_instance
  have hRB : BX W w.heap.size (.int .i64 0) (.int .i64 0) (.slice none 0 0) (.slice none 0 0) (.int .i64 0) := by rw [hW]; exact BX.alloc _ _ _ _ _ _ _
  have hWs := hid (show W.heap.size = w.heap.size + 1 by rw [hW]; go_simp)
  go_enter Tryz.func10, Tryz.ntmps10
  go_upto_region 1 with fail
  rw [← hW]
  replace hW := hid hW
  go_wp2_with fail
  refine (hsp.out W).mono ?_
  rintro e w1 ⟨vW, rfl, own, e1⟩
  obtain ⟨dW, mW, hvW⟩ := own.form
  simp only at hvW
  subst hvW
  obtain ⟨g, rfl⟩ := own.at (j := 0) (by omega)
  have hcw := hid (show ∀ (u : World), Ext w1 u → (∀ (i : Nat) (y : List UInt8), T[i]? = some y → u.cell? ⟨g, 1 + i, none⟩ = some (.string (bsOf y))) by
    intro u eu i y hy
    have hi : i < T.length := (List.getElem?_eq_some_iff.1 hy).1
    rw [own.cellAt (w' := u) (j := 1 + i) (by omega), strV_at (by simp; omega)]
    have : (hw :: T)[1 + i]'(by simp; omega) = y := by
      rw [show (hw :: T)[1 + i]'(by simp; omega) = T[i] by simp [Nat.add_comm]]
      exact (List.getElem?_eq_some_iff.1 hy).2
    rw [this])
  have hc0 : w1.cell? ⟨g, 0, none⟩ = some (.string Sw) := by
    rw [own.cellAt (w' := w1) (j := 0) (by omega), strV_at (by simp), hSw.out]
    rfl
  have x1 : Ext w w1 := Ext.trans eW e1
  have hcap : T.length + 1 ≤ mW := by
    rcases own.head.2 with ⟨h1, _⟩ | ⟨_, _, _, h1, _, _, h2, _⟩
    · cases h1
    · cases h1; exact h2
  replace own := hid own
  go_wp2_with fail
  with_reducible refine (hC1.out w1 (hmo.out.ext (w' := w1))).mono ?_
  rintro e w2 ⟨rfl, e2⟩
  have x2 : Ext w w2 := Ext.trans x1 e2
  go_wp2_with fail
  with_reducible refine (hC2.out w2 (hmo.out.ext (w' := w2))).mono ?_
  rintro e w3 ⟨rfl, e3⟩
  have x3 : Ext w w3 := Ext.trans x2 e3
  obtain ⟨V, hV⟩ : ∃ V, V = w3.alloc (.cells #[.int .i64 0, .int .i64 0, .slice none 0 0, .slice none 0 0, .int .i64 0] 26) := ⟨_, rfl⟩
  obtain ⟨c, hc⟩ : ∃ c, c = w3.heap.size := ⟨_, rfl⟩
  have eV : Ext w3 V := by rw [hV]; infer_instance
  have hVs : V.heap.size = c + 1 := by rw [hV, hc]; go_simp
  have hBX : BX V c (.int .i64 0) (.int .i64 0) (.slice none 0 0) (.slice none 0 0) (.int .i64 0) := by rw [hV, hc]; exact BX.alloc _ _ _ _ _ _ _
  have hwc : w.heap.size < c := by
    have := (Ext.trans e1 (Ext.trans e2 e3) : Ext W w3).below.size
    rw [hWs.out, ← hc] at this
    omega
  have hCw := hid (fun (u : World) (e : Ext w3 u) => hcw.out u (Ext.trans (Ext.trans e2 e3) e))
  have hRw := hid (fun (u : World) (e : Ext w3 u) => hRB.ext (Ext.trans (Ext.trans e1 (Ext.trans e2 e3)) e))
  have hSet := hid (show ∀ (u : World) (j : Nat) (v : Value), Ext w3 u → Ext w3 (u.setCell ⟨c, j, none⟩ v) from fun u j v e => @Ext.set _ _ e ⟨c, j, none⟩ (by rw [hc]; exact Nat.le_refl _) v)
  have xV : Ext w V := Ext.trans x3 eV
  go_upto_region 5 with fail
  rw [← hV, ← hc]
  replace hV := hid hV
  replace hc := hid hc
  clear hc0 e1 e2
  go_wp2_with fail
  with_reducible refine (hPo.out V (hmo.out.ext (w := w) (w' := V))).mono ?_
  rintro e w4 ⟨rfl, e4⟩
  have y4 : Ext w3 w4 := Ext.trans eV e4
  have hB4 := hBX.ext e4
  have s4 := e4.below.size
  obtain ⟨U, hU⟩ : ∃ U, U = w4.setCell ⟨c, 0, none⟩ (.int .i64 q) := ⟨_, rfl⟩
  have hB5 : BX U c (.int .i64 q) (.int .i64 0) (.slice none 0 0) (.slice none 0 0) (.int .i64 0) := by rw [hU]; exact hB4.set0 _
  have y5 : Ext w3 U := by rw [hU]; exact hSet.out _ _ _ y4
  have xU : Ext w U := Ext.trans x3 y5
  have s5 : U.heap.size = w4.heap.size := by rw [hU]; go_simp
  obtain ⟨b0, b1, b2, b3, b4, k0, k1, k2, k3, k4⟩ := hB4
  go_upto_region 6 with fail
  rw [← hU]
  replace hU := hid hU
  clear b0 b1 b2 b3 b4 k0 k1 k2 k3 k4 hBX e4 eV
  go_wp2_with fail
  with_reducible refine (hR1.out U (ht.out.ext (w' := U)) (he.out.ext (w' := U))).mono ?_
  rintro e w6 ⟨rfl, e6⟩
  have y6 : Ext w3 w6 := Ext.trans y5 e6
  have hB6 := hB5.ext e6
  have s6 := e6.below.size
  obtain ⟨U2, hU2⟩ : ∃ U, U = w6.setCell ⟨c, 1, none⟩ (.int .i64 z) := ⟨_, rfl⟩
  have hB7 : BX U2 c (.int .i64 q) (.int .i64 z) (.slice none 0 0) (.slice none 0 0) (.int .i64 0) := by rw [hU2]; exact hB6.set1 _
  have y7 : Ext w3 U2 := by rw [hU2]; exact hSet.out _ _ _ y6
  have xU2 : Ext w U2 := Ext.trans x3 y7
  have s7 : U2.heap.size = w6.heap.size := by rw [hU2]; go_simp
  obtain ⟨b0, b1, b2, b3, b4, k0, k1, k2, k3, k4⟩ := hB6
  go_upto_region 7 with fail
  rw [← hU2]
  replace hU2 := hid hU2
  clear b0 b1 b2 b3 b4 k0 k1 k2 k3 k4 hB5 e6
  go_wp2_with fail
  with_reducible refine (hR2.out U2 (ht.out.ext (w' := U2)) (he.out.ext (w' := U2))).mono ?_
  rintro e w8 ⟨rfl, e8⟩
  have y8 : Ext w3 w8 := Ext.trans y7 e8
  have hB8 := hB7.ext e8
  have s8 := e8.below.size
  obtain ⟨U3, hU3⟩ : ∃ U, U = w8.setCell ⟨c, 4, none⟩ (.int .i64 h) := ⟨_, rfl⟩
  have hB9 : BX U3 c (.int .i64 q) (.int .i64 z) (.slice none 0 0) (.slice none 0 0) (.int .i64 h) := by rw [hU3]; exact hB8.set4 _
  have y9 : Ext w3 U3 := by rw [hU3]; exact hSet.out _ _ _ y8
  have s9 : U3.heap.size = w8.heap.size := by rw [hU3]; go_simp
  obtain ⟨b0, b1, b2, b3, b4, k0, k1, k2, k3, k4⟩ := hB8
  go_upto_region 8 with fail
  rw [← hU3]
  replace hU3 := hid hU3
  clear b0 b1 b2 b3 b4 k0 k1 k2 k3 k4 hB7 e8 hC1 hC2 hPo hR1 hR2 hcw hRB
  have x9 : Ext w U3 := Ext.trans x3 y9
  obtain ⟨B, hB⟩ : ∃ B, B = c + 1 := ⟨_, rfl⟩
  have hBs : B ≤ U3.heap.size := by omega
  clear s4 s5 s6 s7 s8 s9
  go_cut [59, 60, 61] (fun sv lv iv wx => (∃ dS cS, sv = .slice dS T.length cS ∧ lv = .int .i64 T.length ∧ iv = .int .i64 (0 : Nat) ∧ Hid (T ≠ [] → dS = some ⟨g, 1, none⟩)) ∧ wx = U3)
  case first =>
    by_cases hm1 : mW = 1
    · have hT0 : T.length = 0 := by omega
      have hT1 : T = [] := List.eq_nil_of_length_eq_zero hT0
      subst hm1
      subst hT1
      go_wp2_with fail
      go_meet
      exact ⟨⟨_, _, rfl, rfl, rfl, hid (fun e => absurd rfl e)⟩, rfl⟩
    · go_wp2_with fail
      go_meet
      exact ⟨⟨_, _, rfl, rfl, rfl, hid (fun _ => rfl)⟩, rfl⟩
  case rest => as_aux_lemma =>
    obtain ⟨⟨dS, cS, rfl, rfl, rfl, hdS⟩, hwx⟩ := hcut
    subst hwx
    clear hcap xV xU xU2
    have hcB : c < B := by omega
    have hcB := hid hcB
    replace hB := hid hB
    have hM0 : wdsM q (T.take 0) = [] := by unfold wdsM; split <;> rfl
    have own0 : Own wc B [intRowOf 3 (.slice none 0 0) (wdsP (T.take 0)), intRowOf 3 (.slice none 0 0) (wdsM q (T.take 0))] := by
      rw [hM0]
      exact ((Own.nil wc B).cons_nil 3 1).cons_nil 3 1
    go_upto_region 9 with fail
    go_loopw [61] (fun iv wr => ∃ (i : Nat) (vP vM : Value), i ≤ T.length ∧ iv = .int .i64 i ∧ Hid (wdsOk (T.take i) = true) ∧ BX wr c (.int .i64 q) (.int .i64 z) vP vM (.int .i64 h) ∧ Own wr B [intRowOf 3 vP (wdsP (T.take i)), intRowOf 3 vM (wdsM q (T.take i))] ∧ Ext w3 wr ∧ B ≤ wr.heap.size) (fun iv _ => T.length - (intOf iv).toNat)
    case atStart => exact ⟨0, _, _, by omega, rfl, hid rfl, hB9, own0, y9, hBs⟩
    case round =>
      clear own0 hM0 hB9 y9 hBs x9
      obtain ⟨i, vP, vM, hi, rfl, hOk, hBx, own, hew, hBw⟩ := hrel
      obtain ⟨wo, rfl⟩ : ∃ y : World, y = wr := ⟨_, rfl⟩
      have xo : Ext w wo := Ext.trans x3 hew
      by_cases hlt : i < T.length
      · obtain ⟨y, hy⟩ : ∃ y, T[i]? = some y := ⟨_, List.getElem?_eq_getElem hlt⟩
        have hyl := hTw.out y (List.mem_of_getElem? hy)
        have hdS' := hdS.out (by intro e; rw [e] at hlt; simp at hlt)
        subst hdS'
        have cy := hCw.out wo hew i y hy
        have hC := fun (u : World) (hu : Most u) => cut_any (L := y) (b := 58) (sep := { data := #[58] }) rfl (w := u) hyl hu
        unfold cutV at hC
        have hl3 := cut_len y 58
        have hOs := wdsOk_snoc hy
        have hPs := wdsP_snoc hy
        have hMs := fun hp => wdsM_snoc (p := q) hp hy
        have hOn := wdsOk_no hy
        obtain ⟨LI, hLI⟩ : ∃ X, X = (Lib.cut y [58]).1 := ⟨_, rfl⟩
        obtain ⟨LM, hLM⟩ : ∃ X, X = (Lib.cut y [58]).2.1 := ⟨_, rfl⟩
        obtain ⟨tb, htb⟩ : ∃ X, X = (Lib.cut y [58]).2.2 := ⟨_, rfl⟩
        rw [← hLI, ← hLM] at hl3
        rw [← hLI, ← hLM, ← htb] at hC
        rw [← hLI] at hOs hPs hOn
        rw [← hLM] at hMs
        have hR3 := fun (u : World) (a : Tens u) (b : Errs u) => readDec_any (L := LI) (w := u) (by omega) a b
        have hR4 := fun (u : World) (a : Tens u) (b : Errs u) => readDec_any (L := LM) (w := u) (by omega) a b
        obtain ⟨o4, h4⟩ : ∃ X, X = (rdO LM).isSome := ⟨_, rfl⟩
        obtain ⟨m, hm⟩ : ∃ X, X = rd0 LM := ⟨_, rfl⟩
        rw [show optV (rdO LM) = .tuple #[.int .i64 m, .bool o4] by rw [hm, h4]; rfl] at hR4
        rw [← hm] at hMs
        obtain ⟨Sy, hSy⟩ : ∃ S, S = bsOf y := ⟨_, rfl⟩
        obtain ⟨SI, hSI⟩ : ∃ S, S = bsOf LI := ⟨_, rfl⟩
        obtain ⟨SM, hSM⟩ : ∃ S, S = bsOf LM := ⟨_, rfl⟩
        rw [← hSy] at hC cy
        rw [← hSI] at hC hR3
        rw [← hSM] at hC hR4
        clear hSM hSI hSy h4 hm htb hLM hLI hl3 hyl hy
        replace hC := hid hC
        replace hMs := hid hMs
        cases hrd : rdO LI with
        | none =>
          have hbad : pcOk n L = false := by rw [hok.out, hOn hrd]; rfl
          have hno' := hid (hno.out hbad)
          rw [hrd] at hR3
          replace hrd := hid hrd
          have hR5 : ∀ (u : World) (_ : Tens u) (_ : Errs u), Calls Tryz.prog 39 #[.string SI] u fun e w' => e = .returned (.tuple #[.int .i64 0, .bool false]) ∧ Ext u w' := hR3
          replace hR5 := hid hR5
          clear hR3 hOs hPs hOn hbad
          go_wp2_with fail
          with_reducible refine (hC.out wo (hmo.out.ext (w := w) (w' := wo))).mono ?_
          rintro e w5 ⟨rfl, e5⟩
          have xw5 : Ext w w5 := Ext.trans xo e5
          go_wp2_with fail
          with_reducible refine (hR5.out w5 (ht.out.ext (w := w) (w' := w5)) (he.out.ext (w := w) (w' := w5))).mono ?_
          rintro e w6 ⟨rfl, e6⟩
          have xw6 : Ext w w6 := Ext.trans xw5 e6
          have hRx := hRw.out w6 (Ext.trans hew (Ext.trans e5 e6))
          have hZ := ((((hRx.set0 (.int .i64 0)).set1 (.int .i64 0)).set2 (.slice none 0 0)).set3 (.slice none 0 0)).set4 (.int .i64 0)
          obtain ⟨r0, r1, r2, r3, r4, m0, m1, m2, m3, m4⟩ := hRx
          go_wp2_with fail
          have hE : Ext w (((((w6.setCell ⟨w.heap.size, 0, none⟩ (.int .i64 0)).setCell ⟨w.heap.size, 1, none⟩ (.int .i64 0)).setCell ⟨w.heap.size, 2, none⟩ (.slice none 0 0)).setCell ⟨w.heap.size, 3, none⟩ (.slice none 0 0)).setCell ⟨w.heap.size, 4, none⟩ (.int .i64 0)) := by
            refine @Ext.set _ _ (@Ext.set _ _ (@Ext.set _ _ (@Ext.set _ _ (@Ext.set _ _ xw6 ⟨w.heap.size, 0, none⟩ (Nat.le_refl _) _) ⟨w.heap.size, 1, none⟩ (Nat.le_refl _) _) ⟨w.heap.size, 2, none⟩ (Nat.le_refl _) _) ⟨w.heap.size, 3, none⟩ (Nat.le_refl _) _) ⟨w.heap.size, 4, none⟩ (Nat.le_refl _) _
          generalize ((((w6.setCell ⟨w.heap.size, 0, none⟩ (.int .i64 0)).setCell ⟨w.heap.size, 1, none⟩ (.int .i64 0)).setCell ⟨w.heap.size, 2, none⟩ (.slice none 0 0)).setCell ⟨w.heap.size, 3, none⟩ (.slice none 0 0)).setCell ⟨w.heap.size, 4, none⟩ (.int .i64 0) = Z at hZ hE ⊢
          clear r0 r1 r2 r3 r4 m0 m1 m2 m3 m4
          refine bodyPost_ret (res_bx rfl rfl hZ) rfl ?_
          exact hno'.out _ hE
        | some x =>
          have hOk2 := hid (show wdsOk (T.take (i + 1)) = true by rw [hOs, hOk.out, hrd]; rfl)
          rw [show rd0 LI = x by unfold rd0; rw [hrd]; rfl] at hPs
          rw [hrd] at hR3
          replace hrd := hid hrd
          have hR5 : ∀ (u : World) (_ : Tens u) (_ : Errs u), Calls Tryz.prog 39 #[.string SI] u fun e w' => e = .returned (.tuple #[.int .i64 x, .bool true]) ∧ Ext u w' := hR3
          replace hR5 := hid hR5
          replace hPs := hid hPs
          clear hR3 hOs hOn hOk hno hok hyes
          have hnl : (wdsP (T.take i)).length ≤ 100001 := by rw [wdsP_len, List.length_take]; omega
          have hml : (wdsM q (T.take i)).length ≤ 100001 := by have := wdsM_len q (T.take i); rw [List.length_take] at this; omega
          obtain ⟨dP, n0, cP, hvP, hn0⟩ := own_formN own
          obtain ⟨dM, n1, cM, hvM, hn1⟩ := own_formN own.tail
          subst hvP
          subst hvM
          have hn0l : n0 ≤ 100001 := by rw [hn0.out]; exact hnl
          have hn1l : n1 ≤ 100001 := by rw [hn1.out]; exact hml
          clear hnl hml
          go_wp2_with fail
          with_reducible refine (hC.out wo (hmo.out.ext (w := w) (w' := wo))).mono ?_
          rintro e w5 ⟨rfl, e5⟩
          have xw5 : Ext w w5 := Ext.trans xo e5
          go_wp2_with fail
          with_reducible refine (hR5.out w5 (ht.out.ext (w := w) (w' := w5)) (he.out.ext (w := w) (w' := w5))).mono ?_
          rintro e w6 ⟨rfl, e6⟩
          have xw6 : Ext w w6 := Ext.trans xw5 e6
          have e56 : Ext wo w6 := Ext.trans e5 e6
          have e36 : Ext w3 w6 := Ext.trans hew e56
          have hB6 : B ≤ w6.heap.size := Nat.le_trans hBw e56.below.size
          have own6 : Own w6 B (⟨3, 1, .slice dP n0 cP, n0, (wdsP (T.take i)).map (Value.int .i64)⟩ :: [intRowOf 3 (.slice dM n1 cM) (wdsM q (T.take i))]) := by
            have h := own.ext (w' := w6)
            unfold intRowOf at h ⊢
            rw [← hn0.out] at h
            exact h
          have hBx6 := hBx.ext e56
          have hBx6' := hBx6
          obtain ⟨b0, b1, b2, b3, b4, k0, k1, k2, k3, k4⟩ := hBx6'
          clear own hBx hC hR5 e5 e6
          have hpers := hid (show ∀ (u : World), Below B w6 u → Ext w3 u from fun u hb => ⟨e36.below.trans (hb.mono (by rw [← hc.out, hB.out]; omega))⟩)
          clear e56
          go_wp2_with (at_builtin; refine wpList_append1 rfl _ _ _ rfl elemInt rfl own6 hB6 rfl rfl (by omega) (by omega) ?_; intro v7 w7 ho7 hb7; obtain ⟨d7, m7, hv7⟩ := ho7.form; (obtain rfl : v7 = .slice d7 (n0 + 1) m7 := hv7); have hBx7 := hBx6.below hb7 hcB.out; obtain ⟨b0, b1, b2, b3, b4, k0, k1, k2, k3, k4⟩ := hBx7)
          have hBx7 := (hBx6.below hb7 hcB.out).set2 (.slice d7 (n0 + 1) m7)
          have own7 := (own_grow1 ho7 hn0.out).setBelow (p := ⟨c, 2, none⟩) hcB.out (.slice d7 (n0 + 1) m7)
          have e37 := hSet.out _ 2 (.slice d7 (n0 + 1) m7) (hpers.out _ hb7)
          have hB7 : B ≤ w7.heap.size := Nat.le_trans hB6 hb7.size
          have hs7 : (w7.setCell ⟨c, 2, none⟩ (.slice d7 (n0 + 1) m7)).heap.size = w7.heap.size := by go_simp
          rw [← hs7] at hB7
          rw [← hPs.out] at own7
          generalize w7.setCell ⟨c, 2, none⟩ (.slice d7 (n0 + 1) m7) = w8 at *
          clear b0 b1 b2 b3 b4 k0 k1 k2 k3 k4 hBx6 own6 hpers e36 xw6 xw5 hB6 hb7 ho7 hs7
          have hBx7' := hBx7
          obtain ⟨b0, b1, b2, b3, b4, k0, k1, k2, k3, k4⟩ := hBx7'
          cases hk : mkd q with
          | false =>
            have hM7 : wdsM q (T.take (i + 1)) = wdsM q (T.take i) := by rw [wdsM_no hk, wdsM_no hk]
            rw [← hM7] at own7
            replace hM7 := hid hM7
            refine (isMarked_any q w8).mono ?_
            rw [hk]
            rintro e w9 ⟨rfl, rfl⟩
            go_wp2_with fail
            go_roundw
            case rel => exact ⟨i + 1, _, _, by omega, by go_num, hOk2, hBx7, own7, e37, hB7⟩
            case measure => simp [intOf]; omega
          | true =>
            have hM7 := hid (hMs.out hk)
            have x8 : Ext w w8 := Ext.trans x3 e37
            replace hR4 := hid hR4
            refine (isMarked_any q w8).mono ?_
            rw [hk]
            rintro e w9 ⟨rfl, rfl⟩
            go_wp2_with fail
            with_reducible refine (hR4.out w8 (ht.out.ext (w := w) (w' := w8)) (he.out.ext (w := w) (w' := w8))).mono ?_
            rintro e w10 ⟨rfl, e10⟩
            have e30 : Ext w3 w10 := Ext.trans e37 e10
            have hB10 : B ≤ w10.heap.size := Nat.le_trans hB7 e10.below.size
            have own10 : Own w10 B (⟨3, 1, .slice dM n1 cM, n1, (wdsM q (T.take i)).map (Value.int .i64)⟩ :: [intRowOf 3 (.slice d7 (n0 + 1) m7) (wdsP (T.take (i + 1)))]) := by
              have h := (own7.ext (w' := w10)).perm (List.Perm.swap _ _ _)
              rw [show intRowOf 3 (.slice dM n1 cM) (wdsM q (T.take i)) = ⟨3, 1, .slice dM n1 cM, n1, (wdsM q (T.take i)).map (Value.int .i64)⟩ by unfold intRowOf; rw [hn1.out]] at h
              exact h
            have hBx10 := hBx7.ext e10
            have hpers := hid (show ∀ (u : World), Below B w10 u → Ext w3 u from fun u hb => ⟨e30.below.trans (hb.mono (by rw [← hc.out, hB.out]; omega))⟩)
            clear b0 b1 b2 b3 b4 k0 k1 k2 k3 k4 own7 hBx7 e10
            have hBx10' := hBx10
            obtain ⟨b0, b1, b2, b3, b4, k0, k1, k2, k3, k4⟩ := hBx10'
            go_wp2_with (at_builtin; refine wpList_append1 rfl _ _ _ rfl elemInt rfl own10 hB10 rfl rfl (by omega) (by omega) ?_; intro v11 w11 ho11 hb11; obtain ⟨d11, m11, hv11⟩ := ho11.form; (obtain rfl : v11 = .slice d11 (n1 + 1) m11 := hv11); have hBx11 := hBx10.below hb11 hcB.out; obtain ⟨b0, b1, b2, b3, b4, k0, k1, k2, k3, k4⟩ := hBx11)
            have hBx11 := (hBx10.below hb11 hcB.out).set3 (.slice d11 (n1 + 1) m11)
            have own11 := (((own_grow1 ho11 hn1.out).perm (List.Perm.swap _ _ _))).setBelow (p := ⟨c, 3, none⟩) hcB.out (.slice d11 (n1 + 1) m11)
            have e31 := hSet.out _ 3 (.slice d11 (n1 + 1) m11) (hpers.out _ hb11)
            have hB11 : B ≤ w11.heap.size := Nat.le_trans hB10 hb11.size
            have hs11 : (w11.setCell ⟨c, 3, none⟩ (.slice d11 (n1 + 1) m11)).heap.size = w11.heap.size := by go_simp
            rw [← hs11] at hB11
            rw [← hM7.out] at own11
            generalize w11.setCell ⟨c, 3, none⟩ (.slice d11 (n1 + 1) m11) = w12 at *
            clear b0 b1 b2 b3 b4 k0 k1 k2 k3 k4
            go_roundw
            case rel => exact ⟨i + 1, _, _, by omega, by go_num, hOk2, hBx11, own11, e31, hB11⟩
            case measure => simp [intOf]; omega
      · have hiT : i = T.length := by omega
        subst hiT
        rw [List.take_length] at own hOk
        have hnl : (wdsP T).length ≤ 100001 := by rw [wdsP_len]; omega
        have hml : (wdsM q T).length ≤ 100001 := by have := wdsM_len q T; omega
        obtain ⟨dP, cP, hvP⟩ := own.form
        obtain ⟨dM, cM, hvM⟩ := own.tail.form
        have hIP := own.reads (by unfold Short; omega) (wdsP_i64 T)
        have hIM := own.tail.reads (by unfold Short; omega) (wdsM_i64 q T)
        rw [hOk.out] at hok
        replace hok := hid (hok.out)
        obtain ⟨P, hP⟩ : ∃ P, P = wdsP T := ⟨_, rfl⟩
        obtain ⟨M, hM⟩ : ∃ M, M = wdsM q T := ⟨_, rfl⟩
        simp only at hvP hvM
        rw [← hP, ← hM] at hok hyes
        rw [← hP] at hvP hIP hnl own
        rw [← hM] at hvM hIM hml own
        subst hvP
        subst hvM
        replace hP := hid hP
        replace hM := hid hM
        have hI := hid (fun (u : World) (e : Ext wo u) => @isCache_any n q z h P M dP dM cP cM wo u e hIP hIM)
        have hBx' := hBx
        obtain ⟨b0, b1, b2, b3, b4, k0, k1, k2, k3, k4⟩ := hBx'
        have hRx := hRw.out wo hew
        cases hcb : caB n q z P M h with
        | false =>
          have hbad : pcOk n L = false := by rw [hok.out, hcb]; rfl
          have hno' := hid (hno.out hbad)
          have hI2 := hI.out wo (Ext.refl _)
          rw [hcb] at hI2
          replace hI2 := hid hI2
          clear hbad hI hIP hIM
          go_wp2_with fail
          with_reducible refine hI2.out.mono ?_
          rintro e w5 ⟨rfl, e5⟩
          have hRx := hRw.out w5 (Ext.trans hew e5)
          have xw5 : Ext w w5 := Ext.trans xo e5
          have hZ := ((((hRx.set0 (.int .i64 0)).set1 (.int .i64 0)).set2 (.slice none 0 0)).set3 (.slice none 0 0)).set4 (.int .i64 0)
          obtain ⟨r0, r1, r2, r3, r4, m0, m1, m2, m3, m4⟩ := hRx
          go_wp2_with fail
          have hE : Ext w (((((w5.setCell ⟨w.heap.size, 0, none⟩ (.int .i64 0)).setCell ⟨w.heap.size, 1, none⟩ (.int .i64 0)).setCell ⟨w.heap.size, 2, none⟩ (.slice none 0 0)).setCell ⟨w.heap.size, 3, none⟩ (.slice none 0 0)).setCell ⟨w.heap.size, 4, none⟩ (.int .i64 0)) := by
            refine @Ext.set _ _ (@Ext.set _ _ (@Ext.set _ _ (@Ext.set _ _ (@Ext.set _ _ xw5 ⟨w.heap.size, 0, none⟩ (Nat.le_refl _) _) ⟨w.heap.size, 1, none⟩ (Nat.le_refl _) _) ⟨w.heap.size, 2, none⟩ (Nat.le_refl _) _) ⟨w.heap.size, 3, none⟩ (Nat.le_refl _) _) ⟨w.heap.size, 4, none⟩ (Nat.le_refl _) _
          generalize ((((w5.setCell ⟨w.heap.size, 0, none⟩ (.int .i64 0)).setCell ⟨w.heap.size, 1, none⟩ (.int .i64 0)).setCell ⟨w.heap.size, 2, none⟩ (.slice none 0 0)).setCell ⟨w.heap.size, 3, none⟩ (.slice none 0 0)).setCell ⟨w.heap.size, 4, none⟩ (.int .i64 0) = Z at hZ hE ⊢
          clear r0 r1 r2 r3 r4 m0 m1 m2 m3 m4
          refine bodyPost_ret (res_bx rfl rfl hZ) rfl ?_
          exact hno'.out _ hE
        | true =>
          have hI2 := hI.out wo (Ext.refl _)
          rw [hcb] at hI2
          replace hI2 := hid hI2
          have hT := fun (u : World) (e : Ext wo u) (a : Tens u) (b : Most u) => @caText_any n q z h P M dP dM cP cM wo u e hIP hIM hcb a b
          obtain ⟨SC, hSC⟩ : ∃ S, S = bsOf (caL q z P M h) := ⟨_, rfl⟩
          rw [← hSC] at hT
          replace hT := hid hT
          go_wp2_with fail
          with_reducible refine hI2.out.mono ?_
          rintro e w5 ⟨rfl, e5⟩
          have xw5 : Ext w w5 := Ext.trans xo e5
          have hB5 := hBx.ext e5
          clear b0 b1 b2 b3 b4 k0 k1 k2 k3 k4
          obtain ⟨b0, b1, b2, b3, b4, k0, k1, k2, k3, k4⟩ := hB5
          by_cases hx : caL q z P M h = L
          · have hgood : pcOk n L = true := by rw [hok.out, hcb, decide_eq_true hx]; rfl
            have hV := hyes.out hgood
            have hSS : SC = SL := by rw [hSC, hx, hSL.out]
            subst hSS
            replace hSC := hid hSC
            replace hV := hid hV
            replace hgood := hid hgood
            replace hx := hid hx
            go_wp2_with fail
            with_reducible refine (hT.out w5 e5 (ht.out.ext (w := w) (w' := w5)) (hmo.out.ext (w := w) (w' := w5))).mono ?_
            rintro e w6 ⟨rfl, e6⟩
            have xw6 : Ext w w6 := Ext.trans xw5 e6
            have e56 : Ext wo w6 := Ext.trans e5 e6
            have hRx := hRw.out w6 (Ext.trans hew e56)
            have hB6 := (hBx.ext e56)
            have hwB : w.heap.size < B := by have := hcB.out; omega
            have ownZ := (((((own.ext (w' := w6)).setBelow (p := ⟨w.heap.size, 0, none⟩) hwB (.int .i64 q)).setBelow (p := ⟨w.heap.size, 1, none⟩) hwB (.int .i64 z)).setBelow (p := ⟨w.heap.size, 2, none⟩) hwB (.slice dP P.length cP)).setBelow (p := ⟨w.heap.size, 3, none⟩) hwB (.slice dM M.length cM)).setBelow (p := ⟨w.heap.size, 4, none⟩) hwB (.int .i64 h)
            have hZ := ((((hRx.set0 (.int .i64 q)).set1 (.int .i64 z)).set2 (.slice dP P.length cP)).set3 (.slice dM M.length cM)).set4 (.int .i64 h)
            clear b0 b1 b2 b3 b4 k0 k1 k2 k3 k4
            obtain ⟨b0, b1, b2, b3, b4, k0, k1, k2, k3, k4⟩ := hB6
            obtain ⟨r0, r1, r2, r3, r4, m0, m1, m2, m3, m4⟩ := hRx
            go_wp2_with fail
            have hE : Ext w (((((w6.setCell ⟨w.heap.size, 0, none⟩ (.int .i64 q)).setCell ⟨w.heap.size, 1, none⟩ (.int .i64 z)).setCell ⟨w.heap.size, 2, none⟩ (.slice dP P.length cP)).setCell ⟨w.heap.size, 3, none⟩ (.slice dM M.length cM)).setCell ⟨w.heap.size, 4, none⟩ (.int .i64 h)) := by
              refine @Ext.set _ _ (@Ext.set _ _ (@Ext.set _ _ (@Ext.set _ _ (@Ext.set _ _ xw6 ⟨w.heap.size, 0, none⟩ (Nat.le_refl _) _) ⟨w.heap.size, 1, none⟩ (Nat.le_refl _) _) ⟨w.heap.size, 2, none⟩ (Nat.le_refl _) _) ⟨w.heap.size, 3, none⟩ (Nat.le_refl _) _) ⟨w.heap.size, 4, none⟩ (Nat.le_refl _) _
            generalize ((((w6.setCell ⟨w.heap.size, 0, none⟩ (.int .i64 q)).setCell ⟨w.heap.size, 1, none⟩ (.int .i64 z)).setCell ⟨w.heap.size, 2, none⟩ (.slice dP P.length cP)).setCell ⟨w.heap.size, 3, none⟩ (.slice dM M.length cM)).setCell ⟨w.heap.size, 4, none⟩ (.int .i64 h) = Z at hZ hE ownZ ⊢
            clear r0 r1 r2 r3 r4 m0 m1 m2 m3 m4
            refine bodyPost_ret (res_bx rfl rfl hZ) rfl ?_
            have hIPz := ownZ.reads (by unfold Short; omega) (by rw [hP.out]; exact wdsP_i64 T)
            have hIMz := ownZ.tail.reads (by unfold Short; omega) (by rw [hM.out]; exact wdsM_i64 q T)
            refine ⟨dP, cP, dM, cM, P, M, ?_, ?_, ?_, hIPz, hIMz, hE⟩
            · rw [hV.out]
            · rw [hV.out]
            · rw [hV.out, hgood.out]
              rfl
          · have hbad : pcOk n L = false := by rw [hok.out, hcb, decide_eq_false hx]; rfl
            have hno' := hid (hno.out hbad)
            have hne : (SC.toList == SL.toList) = false := by rw [hSC, hSL.out]; exact bs_beq hx
            replace hSC := hid hSC
            replace hx := hid hx
            clear hbad
            go_wp2_with fail
            with_reducible refine (hT.out w5 e5 (ht.out.ext (w := w) (w' := w5)) (hmo.out.ext (w := w) (w' := w5))).mono ?_
            rintro e w6 ⟨rfl, e6⟩
            have xw6 : Ext w w6 := Ext.trans xw5 e6
            have hRx := hRw.out w6 (Ext.trans hew (Ext.trans e5 e6))
            have hZ := ((((hRx.set0 (.int .i64 0)).set1 (.int .i64 0)).set2 (.slice none 0 0)).set3 (.slice none 0 0)).set4 (.int .i64 0)
            obtain ⟨r0, r1, r2, r3, r4, m0, m1, m2, m3, m4⟩ := hRx
            go_wp2_with fail
            have hE : Ext w (((((w6.setCell ⟨w.heap.size, 0, none⟩ (.int .i64 0)).setCell ⟨w.heap.size, 1, none⟩ (.int .i64 0)).setCell ⟨w.heap.size, 2, none⟩ (.slice none 0 0)).setCell ⟨w.heap.size, 3, none⟩ (.slice none 0 0)).setCell ⟨w.heap.size, 4, none⟩ (.int .i64 0)) := by
              refine @Ext.set _ _ (@Ext.set _ _ (@Ext.set _ _ (@Ext.set _ _ (@Ext.set _ _ xw6 ⟨w.heap.size, 0, none⟩ (Nat.le_refl _) _) ⟨w.heap.size, 1, none⟩ (Nat.le_refl _) _) ⟨w.heap.size, 2, none⟩ (Nat.le_refl _) _) ⟨w.heap.size, 3, none⟩ (Nat.le_refl _) _) ⟨w.heap.size, 4, none⟩ (Nat.le_refl _) _
            generalize ((((w6.setCell ⟨w.heap.size, 0, none⟩ (.int .i64 0)).setCell ⟨w.heap.size, 1, none⟩ (.int .i64 0)).setCell ⟨w.heap.size, 2, none⟩ (.slice none 0 0)).setCell ⟨w.heap.size, 3, none⟩ (.slice none 0 0)).setCell ⟨w.heap.size, 4, none⟩ (.int .i64 0) = Z at hZ hE ⊢
            clear r0 r1 r2 r3 r4 m0 m1 m2 m3 m4
            refine bodyPost_ret (res_bx rfl rfl hZ) rfl ?_
            exact hno'.out _ hE
end Go.Proofs.YtaphnkgjcmneoaaGreatDoor
