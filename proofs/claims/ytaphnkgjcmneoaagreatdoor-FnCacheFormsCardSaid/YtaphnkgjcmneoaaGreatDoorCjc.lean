/- ParseCache of the reference walked. -/
import Derived.Test.YtaphnkgjcmneoaaGreatDoorCjd
import Derived.Test.YtaphnkgjcmneoaaGreatDoorCig
import Derived.Test.YtaphnkgjcmneoaaGreatDoorCiw
namespace Go.Proofs.YtaphnkgjcmneoaaGreatDoor
open Go.RowKit

theorem perm_cba {α : Type} (a b c : α) : [c, b, a].Perm [a, b, c] := List.reverse_perm [a, b, c]
theorem perm_cab {α : Type} (a b c : α) : [c, a, b].Perm [a, b, c] := List.perm_append_comm (l₁ := [c]) (l₂ := [a, b])
set_option maxHeartbeats 6400000 in
set_option maxRecDepth 100000 in
theorem specPca_any {n : Int} {L : List UInt8} {w : World} (hl : L.length ≤ 100000) :
    Calls Tryz.prog 14 #[.int .i64 n, .string (bsOf L)] w (PcPost n L w) := by
  have hsp := fun (u : World) => l1Split_any (w := u) hl
  have hWl : (spW 32 L).length ≤ 100001 := by
    have := spF_len 32 L []
    unfold spW
    omega
  have hWw : ∀ y ∈ spW 32 L, y.length ≤ 100000 := fun y hy => by
    have := spF_wlen 32 L [] y hy
    simp only [List.length_nil] at this
    omega
  obtain ⟨hw, T, hWT⟩ := spW_cons L
  have hok := psOk_at (n := n) hWT
  have hyes := fun hk => psV_yes (n := n) hWT hk
  have hno := fun (h : psOk n L = false) (w' : World) (e : Ext w w') => pc_fail (n := n) (L := L) (w := w) (by rw [pc_ps]; exact h) e none none 0 0
  rw [hWT] at hsp hWl hWw
  simp only [List.length_cons] at hWl hsp
  have hwl : hw.length ≤ 100000 := hWw hw (.head _)
  have hTw : ∀ y ∈ T, y.length ≤ 100000 := fun y hy => hWw y (.tail _ hy)
  have hHd := fun (u : World) => l4Head_any (L := hw) (w := u) hwl
  unfold HdPost at hHd
  obtain ⟨q, hq⟩ : ∃ q, q = (hdS hw).1 := ⟨_, rfl⟩
  obtain ⟨z, hz⟩ : ∃ z, z = (hdS hw).2.1 := ⟨_, rfl⟩
  obtain ⟨h, hh⟩ : ∃ h, h = (hdS hw).2.2 := ⟨_, rfl⟩
  obtain ⟨hk, hhk⟩ : ∃ b, b = hdSok hw := ⟨_, rfl⟩
  rw [← hq, ← hz, ← hh] at hok hyes
  rw [← hhk] at hok
  obtain ⟨Sw, hSw⟩ : ∃ S, S = bsOf hw := ⟨_, rfl⟩
  obtain ⟨SL, hSL⟩ : ∃ S, S = bsOf L := ⟨_, rfl⟩
  rw [← hSL] at hsp ⊢
  replace hHd : ∀ (u : World), Calls Tryz.prog 47 #[.string Sw] u fun e w' => ∃ dP dM, e = .returned (.tuple #[.agg #[.int .i64 q, .int .i64 z, .slice (some dP) 0 0, .slice (some dM) 0 0, .int .i64 h], .bool hk]) ∧ Own w' u.heap.size [intRowOf 3 (.slice (some dP) 0 0) [], intRowOf 3 (.slice (some dM) 0 0) []] ∧ Ext u w' := by
    rw [hSw, hq, hz, hh, hhk]
    exact hHd
  replace hSL := hid hSL
  replace hSw := hid hSw
  clear hWw hwl hq hz hh hhk
  replace hHd := hid hHd
  replace hsp := hid hsp
  replace hok := hid hok
  replace hyes := hid hyes
  replace hno := hid hno
  replace hTw := hid hTw
  replace hWT := hid hWT
  obtain ⟨W, hW⟩ : ∃ W, W = w.alloc (.cells #[.int .i64 0, .int .i64 0, .slice none 0 0, .slice none 0 0, .int .i64 0] 26) := ⟨_, rfl⟩
  have eW : Ext w W := by rw [hW]; infer_instance
  have hRB : BX W w.heap.size (.int .i64 0) (.int .i64 0) (.slice none 0 0) (.slice none 0 0) (.int .i64 0) := by rw [hW]; exact BX.alloc _ _ _ _ _ _ _
  have hWs := hid (show W.heap.size = w.heap.size + 1 by rw [hW]; go_simp)
  go_enter Tryz.func14, Tryz.ntmps14
  go_upto_region 1 with fail
  rw [← hW]
  replace hW := hid hW
  go_wp2_with fail
  refine (hsp.out W).mono ?_
  rintro e w1 ⟨vW, rfl, own, e1⟩
  obtain ⟨dW, mW, hvW⟩ := own.form
  simp only at hvW
  subst hvW
  obtain ⟨g, rfl⟩ := own.at (j := 0) (by omega)
  have hcw := hid (show ∀ (u : World), Ext w1 u → (∀ (i : Nat) (y : List UInt8), T[i]? = some y → u.cell? ⟨g, i + 1, none⟩ = some (.string (bsOf y))) by
    intro u eu i y hy
    have hi : i < T.length := (List.getElem?_eq_some_iff.1 hy).1
    rw [own.cellAt (w' := u) (j := i + 1) (by omega), strV_at (by simp; omega)]
    have : (hw :: T)[i + 1]'(by simp; omega) = y := (List.getElem?_eq_some_iff.1 hy).2
    rw [this])
  have hc0 : w1.cell? ⟨g, 0, none⟩ = some (.string Sw) := by
    rw [own.cellAt (w' := w1) (j := 0) (by omega), strV_at (by simp), hSw.out]
    rfl
  have x1 : Ext w w1 := Ext.trans eW e1
  replace own := hid own
  have hwB : w.heap.size < w1.heap.size := by have := e1.below.size; rw [hWs.out] at this; omega
  have hRw := hid (fun (u : World) (e : Ext w1 u) => hRB.ext (Ext.trans e1 e))
  go_wp2_with fail
  refine (hHd.out w1).mono ?_
  rintro e w2 ⟨dP, dM, rfl, own2, e2⟩
  have own3 := bx_new own2 e2.below.size (.int .i64 q) (.int .i64 z) (.slice (some dP) 0 0) (.slice (some dM) 0 0) (.int .i64 h)
  obtain ⟨V, hV⟩ : ∃ V, V = w2.alloc (.cells #[.int .i64 q, .int .i64 z, .slice (some dP) 0 0, .slice (some dM) 0 0, .int .i64 h] 26) := ⟨_, rfl⟩
  have eV : Ext w1 V := by rw [hV]; exact @Ext.trans _ w2 _ e2 inferInstance
  obtain ⟨c, hc⟩ : ∃ c, c = w2.heap.size := ⟨_, rfl⟩
  have hcB : w1.heap.size ≤ c := by rw [hc]; exact e2.below.size
  rw [← hV, ← hc] at own3
  go_upto_region 3 with fail
  rw [← hV, ← hc]
  replace hV := hid hV
  replace hc := hid hc
  have xV : Ext w V := Ext.trans x1 eV
  cases hhk : hk with
  | false =>
    have hbad : psOk n L = false := by rw [hok.out, hhk]; rfl
    have hno' := hid (hno.out hbad)
    have hRx := hRw.out V eV
    subst hhk
    clear hbad hok hyes
    have hZ := ((((hRx.set0 (.int .i64 0)).set1 (.int .i64 0)).set2 (.slice none 0 0)).set3 (.slice none 0 0)).set4 (.int .i64 0)
    obtain ⟨r0, r1, r2, r3, r4, m0, m1, m2, m3, m4⟩ := hRx
    go_wp2_with fail
    have hE : Ext w (((((V.setCell ⟨w.heap.size, 0, none⟩ (.int .i64 0)).setCell ⟨w.heap.size, 1, none⟩ (.int .i64 0)).setCell ⟨w.heap.size, 2, none⟩ (.slice none 0 0)).setCell ⟨w.heap.size, 3, none⟩ (.slice none 0 0)).setCell ⟨w.heap.size, 4, none⟩ (.int .i64 0)) := by
      refine @Ext.set _ _ (@Ext.set _ _ (@Ext.set _ _ (@Ext.set _ _ (@Ext.set _ _ xV ⟨w.heap.size, 0, none⟩ (Nat.le_refl _) _) ⟨w.heap.size, 1, none⟩ (Nat.le_refl _) _) ⟨w.heap.size, 2, none⟩ (Nat.le_refl _) _) ⟨w.heap.size, 3, none⟩ (Nat.le_refl _) _) ⟨w.heap.size, 4, none⟩ (Nat.le_refl _) _
    generalize ((((V.setCell ⟨w.heap.size, 0, none⟩ (.int .i64 0)).setCell ⟨w.heap.size, 1, none⟩ (.int .i64 0)).setCell ⟨w.heap.size, 2, none⟩ (.slice none 0 0)).setCell ⟨w.heap.size, 3, none⟩ (.slice none 0 0)).setCell ⟨w.heap.size, 4, none⟩ (.int .i64 0) = Z at hZ hE ⊢
    clear r0 r1 r2 r3 r4 m0 m1 m2 m3 m4
    refine bodyPost_ret (res_bx rfl rfl hZ) rfl ?_
    exact hno'.out _ hE
  | true =>
    subst hhk
    by_cases h7 : T.length + 1 ≤ 7
    · rw [decide_eq_true h7] at hok
      have hM0 : wdsSM q (T.take 0) = [] := by unfold wdsSM; split <;> rfl
      have own0 : Own V w1.heap.size [intRowOf 3 (.slice (some dP) 0 0) (wdsS (T.take 0)), intRowOf 3 (.slice (some dM) 0 0) (wdsSM q (T.take 0)), bxRow c (.int .i64 q) (.int .i64 z) (.slice (some dP) 0 0) (.slice (some dM) 0 0) (.int .i64 h)] := by
        rw [hM0]
        exact own3.perm ((List.Perm.swap _ _ _).trans (List.Perm.cons _ (List.Perm.swap _ _ _))).symm
      have h7' : T.length + 1 ≤ 7 := h7
      have hVs : w1.heap.size ≤ V.heap.size := eV.below.size
      obtain ⟨B, hB⟩ : ∃ B, B = w1.heap.size := ⟨_, rfl⟩
      rw [← hB] at own0 hcB hwB hVs
      replace hB := hid hB
      have hSet := hid (show ∀ (u : World) (j : Nat) (v : Value), Ext w1 u → Ext w1 (u.setCell ⟨c, j, none⟩ v) from fun u j v e => @Ext.set _ _ e ⟨c, j, none⟩ (by rw [← hB.out]; exact hcB) v)
      have hpers := hid (show ∀ (u v : World), Ext w1 u → Below B u v → Ext w1 v from fun u v eu hb => ⟨eu.below.trans (hb.mono (by rw [hB.out]; exact Nat.le_refl _))⟩)
      clear own2 own3 hM0 hc0 xV e2
      go_upto_region 6 with fail
      go_loopw [9] (fun iv wr => ∃ (i : Nat) (vP vM : Value), i ≤ T.length ∧ iv = .int .i64 (i + 1 : Nat) ∧ Hid ((T.take i).all (wdSok q) = true) ∧ Own wr B [intRowOf 3 vP (wdsS (T.take i)), intRowOf 3 vM (wdsSM q (T.take i)), bxRow c (.int .i64 q) (.int .i64 z) vP vM (.int .i64 h)] ∧ Ext w1 wr ∧ B ≤ wr.heap.size) (fun iv _ => T.length + 1 - (intOf iv).toNat)
      case atStart => exact ⟨0, _, _, by omega, rfl, hid rfl, own0, eV, hVs⟩
      case round =>
        clear own0 eV hVs
        obtain ⟨i, vP, vM, hi, rfl, hOk, own, hew, hBw⟩ := hrel
        obtain ⟨wo, rfl⟩ : ∃ y : World, y = wr := ⟨_, rfl⟩
        have xo : Ext w wo := Ext.trans x1 hew
        by_cases hlt : i < T.length
        · have hlt' : i + 1 < T.length + 1 := by omega
          obtain ⟨y, hy⟩ : ∃ y, T[i]? = some y := ⟨_, List.getElem?_eq_getElem hlt⟩
          have hyl := hTw.out y (List.mem_of_getElem? hy)
          have cy := hcw.out wo hew i y hy
          have hC := fun (u : World) => l4Cut_any (L := y) 58 (w := u) hyl
          unfold cutV at hC
          rw [show (((58 : UInt8).toNat : Nat) : Int) = 58 from rfl] at hC
          have hl3 := cut_len y 58
          have hOs := wdSall_snoc (p := q) hy
          have hPs := wdsS_snoc hy
          have hMs := fun hp => wdsSM_snoc (p := q) hp hy
          have hOn := wdSok_no (p := q) hy
          have hWd : wdSok q y = ((rsO (Lib.cut y [58]).1).isSome && ((Lib.cut y [58]).2.2 == mkd q && (if (Lib.cut y [58]).2.2 then (rsO (Lib.cut y [58]).2.1).isSome else true))) := rfl
          obtain ⟨LI, hLI⟩ : ∃ X, X = (Lib.cut y [58]).1 := ⟨_, rfl⟩
          obtain ⟨LM, hLM⟩ : ∃ X, X = (Lib.cut y [58]).2.1 := ⟨_, rfl⟩
          obtain ⟨tb, htb⟩ : ∃ X, X = (Lib.cut y [58]).2.2 := ⟨_, rfl⟩
          rw [← hLI, ← hLM] at hl3
          rw [← hLI, ← hLM, ← htb] at hC hWd
          rw [← hLI] at hPs
          rw [← hLM] at hMs
          have hR3 := fun (u : World) => l1Read_any (L := LI) (w := u) (by omega)
          have hR4 := fun (u : World) => l1Read_any (L := LM) (w := u) (by omega)
          obtain ⟨Sy, hSy⟩ : ∃ S, S = bsOf y := ⟨_, rfl⟩
          obtain ⟨SI, hSI⟩ : ∃ S, S = bsOf LI := ⟨_, rfl⟩
          obtain ⟨SM, hSM⟩ : ∃ S, S = bsOf LM := ⟨_, rfl⟩
          rw [← hSy] at hC cy
          rw [← hSI] at hC hR3
          rw [← hSM] at hC hR4
          clear hSM hSI hSy htb hLM hLI hl3 hyl hy
          replace hC := hid hC
          replace hMs := hid hMs
          cases hrd : rsO LI with
          | none =>
            have hbad : psOk n L = false := by rw [hok.out, hOn (by rw [hWd, hrd]; rfl)]; rfl
            have hno' := hid (hno.out hbad)
            rw [hrd] at hR3
            replace hrd := hid hrd
            have hR5 : ∀ (u : World), Calls Tryz.prog 49 #[.string SI] u fun e w' => e = .returned (.tuple #[.int .i64 0, .bool false]) ∧ Ext u w' := hR3
            replace hR5 := hid hR5
            clear hR3 hOs hPs hOn hbad hWd
            go_wp2_with fail
            with_reducible refine (hC.out wo).mono ?_
            rintro e w5 ⟨rfl, e5⟩
            go_wp2_with fail
            with_reducible refine (hR5.out w5).mono ?_
            rintro e w6 ⟨rfl, e6⟩
            have xw6 : Ext w w6 := Ext.trans xo (Ext.trans e5 e6)
            have hRx := hRw.out w6 (Ext.trans hew (Ext.trans e5 e6))
            have hZ := ((((hRx.set0 (.int .i64 0)).set1 (.int .i64 0)).set2 (.slice none 0 0)).set3 (.slice none 0 0)).set4 (.int .i64 0)
            obtain ⟨r0, r1, r2, r3, r4, m0, m1, m2, m3, m4⟩ := hRx
            go_wp2_with fail
            have hE : Ext w (((((w6.setCell ⟨w.heap.size, 0, none⟩ (.int .i64 0)).setCell ⟨w.heap.size, 1, none⟩ (.int .i64 0)).setCell ⟨w.heap.size, 2, none⟩ (.slice none 0 0)).setCell ⟨w.heap.size, 3, none⟩ (.slice none 0 0)).setCell ⟨w.heap.size, 4, none⟩ (.int .i64 0)) := by
              refine @Ext.set _ _ (@Ext.set _ _ (@Ext.set _ _ (@Ext.set _ _ (@Ext.set _ _ xw6 ⟨w.heap.size, 0, none⟩ (Nat.le_refl _) _) ⟨w.heap.size, 1, none⟩ (Nat.le_refl _) _) ⟨w.heap.size, 2, none⟩ (Nat.le_refl _) _) ⟨w.heap.size, 3, none⟩ (Nat.le_refl _) _) ⟨w.heap.size, 4, none⟩ (Nat.le_refl _) _
            generalize ((((w6.setCell ⟨w.heap.size, 0, none⟩ (.int .i64 0)).setCell ⟨w.heap.size, 1, none⟩ (.int .i64 0)).setCell ⟨w.heap.size, 2, none⟩ (.slice none 0 0)).setCell ⟨w.heap.size, 3, none⟩ (.slice none 0 0)).setCell ⟨w.heap.size, 4, none⟩ (.int .i64 0) = Z at hZ hE ⊢
            clear r0 r1 r2 r3 r4 m0 m1 m2 m3 m4
            refine bodyPost_ret (res_bx rfl rfl hZ) rfl ?_
            exact hno'.out _ hE
          | some x =>
            rw [show rs0 LI = x by unfold rs0; rw [hrd]; rfl] at hPs
            rw [hrd] at hR3 hWd
            replace hrd := hid hrd
            have hR5 : ∀ (u : World), Calls Tryz.prog 49 #[.string SI] u fun e w' => e = .returned (.tuple #[.int .i64 x, .bool true]) ∧ Ext u w' := hR3
            replace hR5 := hid hR5
            replace hPs := hid hPs
            clear hR3
            have hnl : (wdsS (T.take i)).length ≤ 100001 := by rw [wdsS_len, List.length_take]; omega
            have hml : (wdsSM q (T.take i)).length ≤ 100001 := by have := wdsSM_len q (T.take i); rw [List.length_take] at this; omega
            obtain ⟨dP, n0, cP, hvP, hn0⟩ := own_formN own
            obtain ⟨dM, n1, cM, hvM, hn1⟩ := own_formN own.tail
            subst hvP
            subst hvM
            have hn0l : n0 ≤ 100001 := by rw [hn0.out]; exact hnl
            have hn1l : n1 ≤ 100001 := by rw [hn1.out]; exact hml
            clear hnl hml
            have hBx := bx_own (own.perm ((List.Perm.swap _ _ _).trans (List.Perm.cons _ (List.Perm.swap _ _ _))))
            go_wp2_with fail
            with_reducible refine (hC.out wo).mono ?_
            rintro e w5 ⟨rfl, e5⟩
            go_wp2_with fail
            with_reducible refine (hR5.out w5).mono ?_
            rintro e w6 ⟨rfl, e6⟩
            have e56 : Ext wo w6 := Ext.trans e5 e6
            have e16 : Ext w1 w6 := Ext.trans hew e56
            have xw6 : Ext w w6 := Ext.trans xo e56
            have hB6 : B ≤ w6.heap.size := Nat.le_trans hBw e56.below.size
            have hBx6 := hBx.ext e56
            have hBx6' := hBx6
            obtain ⟨b0, b1, b2, b3, b4, k0, k1, k2, k3, k4⟩ := hBx6'
            have own6 : Own w6 B (⟨3, 1, .slice dP n0 cP, n0, (wdsS (T.take i)).map (Value.int .i64)⟩ :: [intRowOf 3 (.slice dM n1 cM) (wdsSM q (T.take i)), bxRow c (.int .i64 q) (.int .i64 z) (.slice dP n0 cP) (.slice dM n1 cM) (.int .i64 h)]) := by
              have h := own.ext (w' := w6)
              rw [show intRowOf 3 (.slice dP n0 cP) (wdsS (T.take i)) = ⟨3, 1, .slice dP n0 cP, n0, (wdsS (T.take i)).map (Value.int .i64)⟩ by unfold intRowOf; rw [hn0.out]] at h
              exact h
            clear own hBx hC hR5 e5 e6 e56
            go_wp2_with fail
            refine (l4Marked_any q w6).mono ?_
            rintro e w7 ⟨rfl, rfl⟩
            cases tb with
            | false =>
              cases hkq : mkd q with
              | true =>
                have hbad : psOk n L = false := by rw [hok.out, hOn (by rw [hWd, hkq]; rfl)]; rfl
                have hno' := hid (hno.out hbad)
                have hRx := hRw.out w6 e16
                clear hOs hOn hbad hWd
                have hZ := ((((hRx.set0 (.int .i64 0)).set1 (.int .i64 0)).set2 (.slice none 0 0)).set3 (.slice none 0 0)).set4 (.int .i64 0)
                obtain ⟨r0, r1, r2, r3, r4, m0, m1, m2, m3, m4⟩ := hRx
                go_wp2_with fail
                have hE : Ext w (((((w6.setCell ⟨w.heap.size, 0, none⟩ (.int .i64 0)).setCell ⟨w.heap.size, 1, none⟩ (.int .i64 0)).setCell ⟨w.heap.size, 2, none⟩ (.slice none 0 0)).setCell ⟨w.heap.size, 3, none⟩ (.slice none 0 0)).setCell ⟨w.heap.size, 4, none⟩ (.int .i64 0)) := by
                  refine @Ext.set _ _ (@Ext.set _ _ (@Ext.set _ _ (@Ext.set _ _ (@Ext.set _ _ xw6 ⟨w.heap.size, 0, none⟩ (Nat.le_refl _) _) ⟨w.heap.size, 1, none⟩ (Nat.le_refl _) _) ⟨w.heap.size, 2, none⟩ (Nat.le_refl _) _) ⟨w.heap.size, 3, none⟩ (Nat.le_refl _) _) ⟨w.heap.size, 4, none⟩ (Nat.le_refl _) _
                generalize ((((w6.setCell ⟨w.heap.size, 0, none⟩ (.int .i64 0)).setCell ⟨w.heap.size, 1, none⟩ (.int .i64 0)).setCell ⟨w.heap.size, 2, none⟩ (.slice none 0 0)).setCell ⟨w.heap.size, 3, none⟩ (.slice none 0 0)).setCell ⟨w.heap.size, 4, none⟩ (.int .i64 0) = Z at hZ hE ⊢
                clear r0 r1 r2 r3 r4 m0 m1 m2 m3 m4
                refine bodyPost_ret (res_bx rfl rfl hZ) rfl ?_
                exact hno'.out _ hE
              | false =>
                have hOk2 := hid (show (T.take (i + 1)).all (wdSok q) = true by rw [hOs, hOk.out, hWd, hkq]; rfl)
                have hM7 : wdsSM q (T.take (i + 1)) = wdsSM q (T.take i) := by rw [wdsSM_no hkq, wdsSM_no hkq]
                replace hM7 := hid hM7
                clear hOs hOn hWd hBx6 hok hyes hno
                go_wp2_with (at_builtin; refine wpList_append1 rfl _ _ _ rfl elemInt rfl own6 hB6 rfl rfl (by omega) (by omega) ?_; intro v7 w7 ho7 hb7; obtain ⟨d7, m7, hv7⟩ := ho7.form; (obtain rfl : v7 = .slice d7 (n0 + 1) m7 := hv7); have hBx7 := bx_own (ho7.perm ((List.Perm.swap _ _ _).trans (List.Perm.cons _ (List.Perm.swap _ _ _)))); obtain ⟨b0, b1, b2, b3, b4, k0, k1, k2, k3, k4⟩ := hBx7)
                have own7 := (bx_set2 ((own_grow1 ho7 hn0.out).perm ((List.Perm.swap _ _ _).trans (List.Perm.cons _ (List.Perm.swap _ _ _)))) (.slice d7 (n0 + 1) m7)).perm ((List.Perm.swap _ _ _).trans (List.Perm.cons _ (List.Perm.swap _ _ _))).symm
                have e17 := hSet.out _ 2 (.slice d7 (n0 + 1) m7) (hpers.out _ _ e16 hb7)
                have hB7 : B ≤ w7.heap.size := Nat.le_trans hB6 hb7.size
                have hs7 : (w7.setCell ⟨c, 2, none⟩ (.slice d7 (n0 + 1) m7)).heap.size = w7.heap.size := by go_simp
                rw [← hs7] at hB7
                rw [← hPs.out, ← hM7.out] at own7
                generalize w7.setCell ⟨c, 2, none⟩ (.slice d7 (n0 + 1) m7) = w8 at *
                clear b0 b1 b2 b3 b4 k0 k1 k2 k3 k4
                go_roundw
                case rel => exact ⟨i + 1, _, _, by omega, by go_num, hOk2, own7, e17, hB7⟩
                case measure => simp [intOf]; omega
            | true =>
              cases hkq : mkd q with
              | false =>
                have hbad : psOk n L = false := by rw [hok.out, hOn (by rw [hWd, hkq]; rfl)]; rfl
                have hno' := hid (hno.out hbad)
                have hRx := hRw.out w6 e16
                clear hOs hOn hbad hWd
                have hZ := ((((hRx.set0 (.int .i64 0)).set1 (.int .i64 0)).set2 (.slice none 0 0)).set3 (.slice none 0 0)).set4 (.int .i64 0)
                obtain ⟨r0, r1, r2, r3, r4, m0, m1, m2, m3, m4⟩ := hRx
                go_wp2_with fail
                have hE : Ext w (((((w6.setCell ⟨w.heap.size, 0, none⟩ (.int .i64 0)).setCell ⟨w.heap.size, 1, none⟩ (.int .i64 0)).setCell ⟨w.heap.size, 2, none⟩ (.slice none 0 0)).setCell ⟨w.heap.size, 3, none⟩ (.slice none 0 0)).setCell ⟨w.heap.size, 4, none⟩ (.int .i64 0)) := by
                  refine @Ext.set _ _ (@Ext.set _ _ (@Ext.set _ _ (@Ext.set _ _ (@Ext.set _ _ xw6 ⟨w.heap.size, 0, none⟩ (Nat.le_refl _) _) ⟨w.heap.size, 1, none⟩ (Nat.le_refl _) _) ⟨w.heap.size, 2, none⟩ (Nat.le_refl _) _) ⟨w.heap.size, 3, none⟩ (Nat.le_refl _) _) ⟨w.heap.size, 4, none⟩ (Nat.le_refl _) _
                generalize ((((w6.setCell ⟨w.heap.size, 0, none⟩ (.int .i64 0)).setCell ⟨w.heap.size, 1, none⟩ (.int .i64 0)).setCell ⟨w.heap.size, 2, none⟩ (.slice none 0 0)).setCell ⟨w.heap.size, 3, none⟩ (.slice none 0 0)).setCell ⟨w.heap.size, 4, none⟩ (.int .i64 0) = Z at hZ hE ⊢
                clear r0 r1 r2 r3 r4 m0 m1 m2 m3 m4
                refine bodyPost_ret (res_bx rfl rfl hZ) rfl ?_
                exact hno'.out _ hE
              | true =>
                have hMs' := hMs.out hkq
                clear hBx6 hyes
                cases hrm : rsO LM with
                | none =>
                  have hbad : psOk n L = false := by rw [hok.out, hOn (by rw [hWd, hkq, hrm]; rfl)]; rfl
                  have hno' := hid (hno.out hbad)
                  rw [hrm] at hR4
                  replace hrm := hid hrm
                  have hR6 : ∀ (u : World), Calls Tryz.prog 49 #[.string SM] u fun e w' => e = .returned (.tuple #[.int .i64 0, .bool false]) ∧ Ext u w' := hR4
                  replace hR6 := hid hR6
                  clear hR4 hOs hOn hbad hWd hMs'
                  go_wp2_with (at_builtin; refine wpList_append1 rfl _ _ _ rfl elemInt rfl own6 hB6 rfl rfl (by omega) (by omega) ?_; intro v7 w7 ho7 hb7; obtain ⟨d7, m7, hv7⟩ := ho7.form; (obtain rfl : v7 = .slice d7 (n0 + 1) m7 := hv7); have hBx7 := bx_own (ho7.perm ((List.Perm.swap _ _ _).trans (List.Perm.cons _ (List.Perm.swap _ _ _)))); obtain ⟨b0, b1, b2, b3, b4, k0, k1, k2, k3, k4⟩ := hBx7)
                  have e17 := hSet.out _ 2 (.slice d7 (n0 + 1) m7) (hpers.out _ _ e16 hb7)
                  clear ho7
                  generalize w7.setCell ⟨c, 2, none⟩ (.slice d7 (n0 + 1) m7) = w8 at *
                  clear b0 b1 b2 b3 b4 k0 k1 k2 k3 k4
                  with_reducible refine (hR6.out w8).mono ?_
                  rintro e w9 ⟨rfl, e9⟩
                  have e19 : Ext w1 w9 := Ext.trans e17 e9
                  have xw9 : Ext w w9 := Ext.trans x1 e19
                  have hRx := hRw.out w9 e19
                  have hZ := ((((hRx.set0 (.int .i64 0)).set1 (.int .i64 0)).set2 (.slice none 0 0)).set3 (.slice none 0 0)).set4 (.int .i64 0)
                  obtain ⟨r0, r1, r2, r3, r4, m0, m1, m2, m3, m4⟩ := hRx
                  go_wp2_with fail
                  have hE : Ext w (((((w9.setCell ⟨w.heap.size, 0, none⟩ (.int .i64 0)).setCell ⟨w.heap.size, 1, none⟩ (.int .i64 0)).setCell ⟨w.heap.size, 2, none⟩ (.slice none 0 0)).setCell ⟨w.heap.size, 3, none⟩ (.slice none 0 0)).setCell ⟨w.heap.size, 4, none⟩ (.int .i64 0)) := by
                    refine @Ext.set _ _ (@Ext.set _ _ (@Ext.set _ _ (@Ext.set _ _ (@Ext.set _ _ xw9 ⟨w.heap.size, 0, none⟩ (Nat.le_refl _) _) ⟨w.heap.size, 1, none⟩ (Nat.le_refl _) _) ⟨w.heap.size, 2, none⟩ (Nat.le_refl _) _) ⟨w.heap.size, 3, none⟩ (Nat.le_refl _) _) ⟨w.heap.size, 4, none⟩ (Nat.le_refl _) _
                  generalize ((((w9.setCell ⟨w.heap.size, 0, none⟩ (.int .i64 0)).setCell ⟨w.heap.size, 1, none⟩ (.int .i64 0)).setCell ⟨w.heap.size, 2, none⟩ (.slice none 0 0)).setCell ⟨w.heap.size, 3, none⟩ (.slice none 0 0)).setCell ⟨w.heap.size, 4, none⟩ (.int .i64 0) = Z at hZ hE ⊢
                  clear r0 r1 r2 r3 r4 m0 m1 m2 m3 m4
                  refine bodyPost_ret (res_bx rfl rfl hZ) rfl ?_
                  exact hno'.out _ hE
                | some m =>
                  have hOk2 := hid (show (T.take (i + 1)).all (wdSok q) = true by rw [hOs, hOk.out, hWd, hkq, hrm]; rfl)
                  rw [show rs0 LM = m by unfold rs0; rw [hrm]; rfl] at hMs'
                  rw [hrm] at hR4
                  replace hrm := hid hrm
                  have hR6 : ∀ (u : World), Calls Tryz.prog 49 #[.string SM] u fun e w' => e = .returned (.tuple #[.int .i64 m, .bool true]) ∧ Ext u w' := hR4
                  replace hR6 := hid hR6
                  replace hMs' := hid hMs'
                  clear hR4 hOs hOn hWd hok hno
                  go_wp2_with (at_builtin; refine wpList_append1 rfl _ _ _ rfl elemInt rfl own6 hB6 rfl rfl (by omega) (by omega) ?_; intro v7 w7 ho7 hb7; obtain ⟨d7, m7, hv7⟩ := ho7.form; (obtain rfl : v7 = .slice d7 (n0 + 1) m7 := hv7); have hBx7 := bx_own (ho7.perm ((List.Perm.swap _ _ _).trans (List.Perm.cons _ (List.Perm.swap _ _ _)))); obtain ⟨b0, b1, b2, b3, b4, k0, k1, k2, k3, k4⟩ := hBx7)
                  have own7 := bx_set2 ((own_grow1 ho7 hn0.out).perm ((List.Perm.swap _ _ _).trans (List.Perm.cons _ (List.Perm.swap _ _ _)))) (.slice d7 (n0 + 1) m7)
                  have e17 := hSet.out _ 2 (.slice d7 (n0 + 1) m7) (hpers.out _ _ e16 hb7)
                  have hB7 : B ≤ w7.heap.size := Nat.le_trans hB6 hb7.size
                  have hs7 : (w7.setCell ⟨c, 2, none⟩ (.slice d7 (n0 + 1) m7)).heap.size = w7.heap.size := by go_simp
                  rw [← hs7] at hB7
                  rw [← hPs.out] at own7
                  clear ho7 hs7 hb7
                  generalize w7.setCell ⟨c, 2, none⟩ (.slice d7 (n0 + 1) m7) = w8 at *
                  clear b0 b1 b2 b3 b4 k0 k1 k2 k3 k4 own6 hB6 e16 xw6
                  with_reducible refine (hR6.out w8).mono ?_
                  rintro e w10 ⟨rfl, e10⟩
                  have e20 : Ext w1 w10 := Ext.trans e17 e10
                  have hB10 : B ≤ w10.heap.size := Nat.le_trans hB7 e10.below.size
                  have own9 := own7.ext (w' := w10)
                  have hBx10 := bx_own own9
                  have own10 : Own w10 B (⟨3, 1, .slice dM n1 cM, n1, (wdsSM q (T.take i)).map (Value.int .i64)⟩ :: [bxRow c (.int .i64 q) (.int .i64 z) (.slice d7 (n0 + 1) m7) (.slice dM n1 cM) (.int .i64 h), intRowOf 3 (.slice d7 (n0 + 1) m7) (wdsS (T.take (i + 1)))]) := by
                    have h := own9.perm (perm_cab _ _ _)
                    rw [show intRowOf 3 (.slice dM n1 cM) (wdsSM q (T.take i)) = ⟨3, 1, .slice dM n1 cM, n1, (wdsSM q (T.take i)).map (Value.int .i64)⟩ by unfold intRowOf; rw [hn1.out]] at h
                    exact h
                  clear own7 own9 e10
                  obtain ⟨b0, b1, b2, b3, b4, k0, k1, k2, k3, k4⟩ := hBx10
                  go_wp2_with (at_builtin; refine wpList_append1 rfl _ _ _ rfl elemInt rfl own10 hB10 rfl rfl (by omega) (by omega) ?_; intro v11 w11 ho11 hb11; obtain ⟨d11, m11, hv11⟩ := ho11.form; (obtain rfl : v11 = .slice d11 (n1 + 1) m11 := hv11); have hBx11 := bx_own (ho11.perm (List.Perm.swap _ _ _)); obtain ⟨b0, b1, b2, b3, b4, k0, k1, k2, k3, k4⟩ := hBx11)
                  have own11 := (bx_set3 ((own_grow1 ho11 hn1.out).perm (List.Perm.swap _ _ _)) (.slice d11 (n1 + 1) m11)).perm (perm_cba _ _ _)
                  have e21 := hSet.out _ 3 (.slice d11 (n1 + 1) m11) (hpers.out _ _ e20 hb11)
                  have hB11 : B ≤ w11.heap.size := Nat.le_trans hB10 hb11.size
                  have hs11 : (w11.setCell ⟨c, 3, none⟩ (.slice d11 (n1 + 1) m11)).heap.size = w11.heap.size := by go_simp
                  rw [← hs11] at hB11
                  rw [← hMs'.out] at own11
                  generalize w11.setCell ⟨c, 3, none⟩ (.slice d11 (n1 + 1) m11) = w12 at *
                  clear b0 b1 b2 b3 b4 k0 k1 k2 k3 k4
                  go_roundw
                  case rel => exact ⟨i + 1, _, _, by omega, by go_num, hOk2, own11, e21, hB11⟩
                  case measure => simp [intOf]; omega
        · have hiT : i = T.length := by omega
          subst hiT
          rw [List.take_length] at own hOk
          have hnl : (wdsS T).length ≤ 100000 := by rw [wdsS_len]; omega
          have hml : (wdsSM q T).length ≤ 100001 := by have := wdsSM_len q T; omega
          obtain ⟨dP, cP, hvP⟩ := own.form
          obtain ⟨dM, cM, hvM⟩ := own.tail.form
          have hIP := own.reads (by unfold Short; omega) (wdsS_i64 T)
          have hIM := own.tail.reads (by unfold Short; omega) (wdsSM_i64 q T)
          rw [hOk.out] at hok
          replace hok := hid (hok.out)
          obtain ⟨P, hP⟩ : ∃ P, P = wdsS T := ⟨_, rfl⟩
          obtain ⟨M, hM⟩ : ∃ M, M = wdsSM q T := ⟨_, rfl⟩
          simp only at hvP hvM
          rw [← hP, ← hM] at hok hyes
          rw [← hP] at hvP hIP hnl own
          rw [← hM] at hvM hIM hml own
          subst hvP
          subst hvM
          replace hP := hid hP
          replace hM := hid hM
          have hBx := bx_own (own.perm (perm_cab _ _ _))
          have hI := hid (fun (u : World) (e : Ext wo u) => @l4Good_any n q z h P M dP dM cP cM wo u e hIP hIM hnl)
          have hBx' := hBx
          obtain ⟨b0, b1, b2, b3, b4, k0, k1, k2, k3, k4⟩ := hBx'
          cases hcb : caB n q z P M h with
          | false =>
            have hbad : psOk n L = false := by rw [hok.out, hcb]; rfl
            have hno' := hid (hno.out hbad)
            have hI2 := hI.out wo (Ext.refl _)
            rw [hcb] at hI2
            replace hI2 := hid hI2
            clear hbad hI hIP hIM
            go_wp2_with fail
            with_reducible refine hI2.out.mono ?_
            rintro e w5 ⟨rfl, e5⟩
            have hRx := hRw.out w5 (Ext.trans hew e5)
            have xw5 : Ext w w5 := Ext.trans xo e5
            have hZ := ((((hRx.set0 (.int .i64 0)).set1 (.int .i64 0)).set2 (.slice none 0 0)).set3 (.slice none 0 0)).set4 (.int .i64 0)
            obtain ⟨r0, r1, r2, r3, r4, m0, m1, m2, m3, m4⟩ := hRx
            go_wp2_with fail
            have hE : Ext w (((((w5.setCell ⟨w.heap.size, 0, none⟩ (.int .i64 0)).setCell ⟨w.heap.size, 1, none⟩ (.int .i64 0)).setCell ⟨w.heap.size, 2, none⟩ (.slice none 0 0)).setCell ⟨w.heap.size, 3, none⟩ (.slice none 0 0)).setCell ⟨w.heap.size, 4, none⟩ (.int .i64 0)) := by
              refine @Ext.set _ _ (@Ext.set _ _ (@Ext.set _ _ (@Ext.set _ _ (@Ext.set _ _ xw5 ⟨w.heap.size, 0, none⟩ (Nat.le_refl _) _) ⟨w.heap.size, 1, none⟩ (Nat.le_refl _) _) ⟨w.heap.size, 2, none⟩ (Nat.le_refl _) _) ⟨w.heap.size, 3, none⟩ (Nat.le_refl _) _) ⟨w.heap.size, 4, none⟩ (Nat.le_refl _) _
            generalize ((((w5.setCell ⟨w.heap.size, 0, none⟩ (.int .i64 0)).setCell ⟨w.heap.size, 1, none⟩ (.int .i64 0)).setCell ⟨w.heap.size, 2, none⟩ (.slice none 0 0)).setCell ⟨w.heap.size, 3, none⟩ (.slice none 0 0)).setCell ⟨w.heap.size, 4, none⟩ (.int .i64 0) = Z at hZ hE ⊢
            clear r0 r1 r2 r3 r4 m0 m1 m2 m3 m4
            refine bodyPost_ret (res_bx rfl rfl hZ) rfl ?_
            exact hno'.out _ hE
          | true =>
            have hI2 := hI.out wo (Ext.refl _)
            rw [hcb] at hI2
            replace hI2 := hid hI2
            have hT := fun (u : World) (e : Ext wo u) => @l4Text_any n q z h P M dP dM cP cM wo u e hIP hIM hcb
            obtain ⟨SC, hSC⟩ : ∃ S, S = bsOf (caL q z P M h) := ⟨_, rfl⟩
            rw [← hSC] at hT
            replace hT := hid hT
            go_wp2_with fail
            with_reducible refine hI2.out.mono ?_
            rintro e w5 ⟨rfl, e5⟩
            have xw5 : Ext w w5 := Ext.trans xo e5
            have hB5 := hBx.ext e5
            clear b0 b1 b2 b3 b4 k0 k1 k2 k3 k4
            obtain ⟨b0, b1, b2, b3, b4, k0, k1, k2, k3, k4⟩ := hB5
            by_cases hx : caL q z P M h = L
            · have hgood : psOk n L = true := by rw [hok.out, hcb, decide_eq_true hx]; rfl
              have hV := hyes.out hgood
              have hSS : SC = SL := by rw [hSC, hx, hSL.out]
              subst hSS
              replace hSC := hid hSC
              replace hV := hid hV
              rw [← pc_ps] at hgood
              replace hgood := hid hgood
              replace hx := hid hx
              go_wp2_with fail
              with_reducible refine (hT.out w5 e5).mono ?_
              rintro e w6 ⟨rfl, e6⟩
              have xw6 : Ext w w6 := Ext.trans xw5 e6
              have e56 : Ext wo w6 := Ext.trans e5 e6
              have hRx := hRw.out w6 (Ext.trans hew e56)
              have hB6 := (hBx.ext e56)
              have ownZ := (((((own.ext (w' := w6)).setBelow (p := ⟨w.heap.size, 0, none⟩) hwB (.int .i64 q)).setBelow (p := ⟨w.heap.size, 1, none⟩) hwB (.int .i64 z)).setBelow (p := ⟨w.heap.size, 2, none⟩) hwB (.slice dP P.length cP)).setBelow (p := ⟨w.heap.size, 3, none⟩) hwB (.slice dM M.length cM)).setBelow (p := ⟨w.heap.size, 4, none⟩) hwB (.int .i64 h)
              have hZ := ((((hRx.set0 (.int .i64 q)).set1 (.int .i64 z)).set2 (.slice dP P.length cP)).set3 (.slice dM M.length cM)).set4 (.int .i64 h)
              clear b0 b1 b2 b3 b4 k0 k1 k2 k3 k4
              obtain ⟨b0, b1, b2, b3, b4, k0, k1, k2, k3, k4⟩ := hB6
              obtain ⟨r0, r1, r2, r3, r4, m0, m1, m2, m3, m4⟩ := hRx
              go_wp2_with fail
              have hE : Ext w (((((w6.setCell ⟨w.heap.size, 0, none⟩ (.int .i64 q)).setCell ⟨w.heap.size, 1, none⟩ (.int .i64 z)).setCell ⟨w.heap.size, 2, none⟩ (.slice dP P.length cP)).setCell ⟨w.heap.size, 3, none⟩ (.slice dM M.length cM)).setCell ⟨w.heap.size, 4, none⟩ (.int .i64 h)) := by
                refine @Ext.set _ _ (@Ext.set _ _ (@Ext.set _ _ (@Ext.set _ _ (@Ext.set _ _ xw6 ⟨w.heap.size, 0, none⟩ (Nat.le_refl _) _) ⟨w.heap.size, 1, none⟩ (Nat.le_refl _) _) ⟨w.heap.size, 2, none⟩ (Nat.le_refl _) _) ⟨w.heap.size, 3, none⟩ (Nat.le_refl _) _) ⟨w.heap.size, 4, none⟩ (Nat.le_refl _) _
              generalize ((((w6.setCell ⟨w.heap.size, 0, none⟩ (.int .i64 q)).setCell ⟨w.heap.size, 1, none⟩ (.int .i64 z)).setCell ⟨w.heap.size, 2, none⟩ (.slice dP P.length cP)).setCell ⟨w.heap.size, 3, none⟩ (.slice dM M.length cM)).setCell ⟨w.heap.size, 4, none⟩ (.int .i64 h) = Z at hZ hE ownZ ⊢
              clear r0 r1 r2 r3 r4 m0 m1 m2 m3 m4
              refine bodyPost_ret (res_bx rfl rfl hZ) rfl ?_
              have hIPz := ownZ.reads (by unfold Short; omega) (by rw [hP.out]; exact wdsS_i64 T)
              have hIMz := ownZ.tail.reads (by unfold Short; omega) (by rw [hM.out]; exact wdsSM_i64 q T)
              refine ⟨dP, cP, dM, cM, P, M, ?_, ?_, ?_, hIPz, hIMz, hE⟩
              · rw [hV.out]
              · rw [hV.out]
              · rw [hV.out, hgood.out]
                rfl
            · have hbad : psOk n L = false := by rw [hok.out, hcb, decide_eq_false hx]; rfl
              have hno' := hid (hno.out hbad)
              have hne : (SC.toList == SL.toList) = false := by rw [hSC, hSL.out]; exact bs_beq hx
              replace hSC := hid hSC
              replace hx := hid hx
              clear hbad
              go_wp2_with fail
              with_reducible refine (hT.out w5 e5).mono ?_
              rintro e w6 ⟨rfl, e6⟩
              have xw6 : Ext w w6 := Ext.trans xw5 e6
              have hRx := hRw.out w6 (Ext.trans hew (Ext.trans e5 e6))
              have hZ := ((((hRx.set0 (.int .i64 0)).set1 (.int .i64 0)).set2 (.slice none 0 0)).set3 (.slice none 0 0)).set4 (.int .i64 0)
              obtain ⟨r0, r1, r2, r3, r4, m0, m1, m2, m3, m4⟩ := hRx
              go_wp2_with fail
              have hE : Ext w (((((w6.setCell ⟨w.heap.size, 0, none⟩ (.int .i64 0)).setCell ⟨w.heap.size, 1, none⟩ (.int .i64 0)).setCell ⟨w.heap.size, 2, none⟩ (.slice none 0 0)).setCell ⟨w.heap.size, 3, none⟩ (.slice none 0 0)).setCell ⟨w.heap.size, 4, none⟩ (.int .i64 0)) := by
                refine @Ext.set _ _ (@Ext.set _ _ (@Ext.set _ _ (@Ext.set _ _ (@Ext.set _ _ xw6 ⟨w.heap.size, 0, none⟩ (Nat.le_refl _) _) ⟨w.heap.size, 1, none⟩ (Nat.le_refl _) _) ⟨w.heap.size, 2, none⟩ (Nat.le_refl _) _) ⟨w.heap.size, 3, none⟩ (Nat.le_refl _) _) ⟨w.heap.size, 4, none⟩ (Nat.le_refl _) _
              generalize ((((w6.setCell ⟨w.heap.size, 0, none⟩ (.int .i64 0)).setCell ⟨w.heap.size, 1, none⟩ (.int .i64 0)).setCell ⟨w.heap.size, 2, none⟩ (.slice none 0 0)).setCell ⟨w.heap.size, 3, none⟩ (.slice none 0 0)).setCell ⟨w.heap.size, 4, none⟩ (.int .i64 0) = Z at hZ hE ⊢
              clear r0 r1 r2 r3 r4 m0 m1 m2 m3 m4
              refine bodyPost_ret (res_bx rfl rfl hZ) rfl ?_
              exact hno'.out _ hE
    · have hbad : psOk n L = false := by rw [hok.out, decide_eq_false h7]; rfl
      have hno' := hid (hno.out hbad)
      have hRx := hRw.out V eV
      have h7' : 7 < T.length + 1 := by omega
      clear hbad hok hyes
      have hZ := ((((hRx.set0 (.int .i64 0)).set1 (.int .i64 0)).set2 (.slice none 0 0)).set3 (.slice none 0 0)).set4 (.int .i64 0)
      obtain ⟨r0, r1, r2, r3, r4, m0, m1, m2, m3, m4⟩ := hRx
      go_wp2_with fail
      have hE : Ext w (((((V.setCell ⟨w.heap.size, 0, none⟩ (.int .i64 0)).setCell ⟨w.heap.size, 1, none⟩ (.int .i64 0)).setCell ⟨w.heap.size, 2, none⟩ (.slice none 0 0)).setCell ⟨w.heap.size, 3, none⟩ (.slice none 0 0)).setCell ⟨w.heap.size, 4, none⟩ (.int .i64 0)) := by
        refine @Ext.set _ _ (@Ext.set _ _ (@Ext.set _ _ (@Ext.set _ _ (@Ext.set _ _ xV ⟨w.heap.size, 0, none⟩ (Nat.le_refl _) _) ⟨w.heap.size, 1, none⟩ (Nat.le_refl _) _) ⟨w.heap.size, 2, none⟩ (Nat.le_refl _) _) ⟨w.heap.size, 3, none⟩ (Nat.le_refl _) _) ⟨w.heap.size, 4, none⟩ (Nat.le_refl _) _
      generalize ((((V.setCell ⟨w.heap.size, 0, none⟩ (.int .i64 0)).setCell ⟨w.heap.size, 1, none⟩ (.int .i64 0)).setCell ⟨w.heap.size, 2, none⟩ (.slice none 0 0)).setCell ⟨w.heap.size, 3, none⟩ (.slice none 0 0)).setCell ⟨w.heap.size, 4, none⟩ (.int .i64 0) = Z at hZ hE ⊢
      clear r0 r1 r2 r3 r4 m0 m1 m2 m3 m4
      refine bodyPost_ret (res_bx rfl rfl hZ) rfl ?_
      exact hno'.out _ hE
end Go.Proofs.YtaphnkgjcmneoaaGreatDoor
