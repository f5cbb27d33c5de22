/- The text of a cache walked: the program's. -/
import Derived.Test.YtaphnkgjcmneoaaGreatDoorCiw
import Derived.Test.YtaphnkgjcmneoaaGreatDoorCin
import Derived.Test.YtaphnkgjcmneoaaGreatDoorPackB
namespace Go.Proofs.YtaphnkgjcmneoaaGreatDoor
open Go.RowKit

set_option maxHeartbeats 3200000 in
set_option maxRecDepth 100000 in
theorem caText_any {n p z h : Int} {P M : List Int} {dP dM : Option Addr} {cP cM : Nat} {w0 w : World} [Ext w0 w] (hP : IsInts w0 (.slice dP P.length cP) P) (hM : IsInts w0 (.slice dM M.length cM) M) (hc : caB n p z P M h = true) (ht : Tens w) (hmo : Most w) :
    Calls Tryz.prog 26 #[.agg #[.int .i64 p, .int .i64 z, .slice dP P.length cP, .slice dM M.length cM, .int .i64 h]] w fun e w' => e = .returned (.string (bsOf (caL p z P M h))) ∧ Ext w w' := by
  obtain ⟨_, g2, g3, g4, g5, g6, g7, g8, g9, g10⟩ := ca_parts hc
  have hP' := hP
  have hM' := hM
  have hPb : ∀ x ∈ P, -1000 ≤ x ∧ x ≤ 1000 := fun x hx => by have := g5 x hx; omega
  have hMb : ∀ x ∈ M, -1000 ≤ x ∧ x ≤ 1000 := fun x hx => by have := g6 x hx; omega
  have hlen := hid (fun (t : Nat) (ht : t ≤ P.length) => caT_len (p := p) (z := z) (P := P) (M := M) (h := h) g3 (by omega) hPb hMb ht)
  have hT0 := hid (caT_zero p z P M h)
  have hTs := hid (fun (t : Nat) (ht : t < P.length) => caT_succ (p := p) (z := z) (M := M) (h := h) ht)
  have hTe := hid (caT_end (p := p) (z := z) (P := P) (M := M) (h := h))
  have hPl : P.length ≤ 6 := by omega
  have hg5 := hid g5
  have hg6 := hid g6
  have hg7 := hid g7
  replace hPb := hid hPb
  replace hMb := hid hMb
  clear g4 g5 g6 g7 g8
  obtain ⟨kp, hkp⟩ := Int.eq_ofNat_of_zero_le (show 0 ≤ p - 1 by omega)
  replace hmo := hid hmo
  replace ht := hid ht
  have hN := hid (fun (u : World) (hu : Most u) => policyNames_any hu)
  have hnk : ∀ (u : World) (B : Nat), Names u B → u.cell? ⟨B, kp, none⟩ = some (.string (bsOf (nmOf p))) := fun u B hn => by
    rw [hn kp (by omega)]
    unfold nmOf
    rw [hkp]
    rfl
  replace hnk := hid hnk
  have hz := fun (u : World) (hu : Tens u) => dec_any z (by omega) hu
  have hh := fun (u : World) (hu : Tens u) => dec_any h (by omega) hu
  replace hz := hid hz
  replace hh := hid hh
  have hnl := nm_len5 (p := p)
  have hzl := itoa_len (n := z) (by omega)
  have hhl := itoa_len (n := h) (by omega)
  obtain ⟨Sp, hSp⟩ : ∃ S, S = bsOf (nmOf p) := ⟨_, rfl⟩
  obtain ⟨Sz, hSz⟩ : ∃ S, S = bsOf (Lib.itoa z) := ⟨_, rfl⟩
  obtain ⟨Sh, hSh⟩ : ∃ S, S = bsOf (Lib.itoa h) := ⟨_, rfl⟩
  have hSps : Sp.size ≤ 5 := by rw [hSp, bsOf_size]; exact hnl
  have hSzs : Sz.size ≤ 21 := by rw [hSz, bsOf_size]; exact hzl
  have hShs : Sh.size ≤ 21 := by rw [hSh, bsOf_size]; exact hhl
  rw [← hSp] at hnk
  rw [← hSz] at hz
  rw [← hSh] at hh
  have hd0 := hid (show p ≠ 6 → Sp ++ { data := #[47] } ++ Sz = bsOf (caT p z P M h 0) from fun h6 => by
    rw [hT0.out, hdL, if_neg h6, List.append_nil, hSp, hSz, bs1, bsOf_append, bsOf_append]
    simp)
  have hd6 := hid (show p = 6 → Sp ++ { data := #[47] } ++ Sz ++ ({ data := #[64] } ++ Sh) = bsOf (caT p z P M h 0) from fun h6 => by
    rw [hT0.out, hdL, if_pos h6, hSp, hSz, hSh, bs1, bs1, bsOf_append, bsOf_append, bsOf_append, bsOf_append]
    simp)
  replace hSp := hid hSp
  replace hSz := hid hSz
  replace hSh := hid hSh
  clear hnl hzl hhl
  obtain ⟨W, hW⟩ : ∃ W, W = w.alloc (.cells #[.int .i64 p, .int .i64 z, .slice dP P.length cP, .slice dM M.length cM, .int .i64 h] 26) := ⟨_, rfl⟩
  have eW : Ext w W := by rw [hW]; infer_instance
  have x0 : W.cell? ⟨w.heap.size, 0, none⟩ = some (.int .i64 p) := by rw [hW]; go_simp
  have x1 : W.cell? ⟨w.heap.size, 1, none⟩ = some (.int .i64 z) := by rw [hW]; go_simp
  have x2 : W.cell? ⟨w.heap.size, 2, none⟩ = some (.slice dP P.length cP) := by rw [hW]; go_simp
  have x3 : W.cell? ⟨w.heap.size, 3, none⟩ = some (.slice dM M.length cM) := by rw [hW]; go_simp
  have x4 : W.cell? ⟨w.heap.size, 4, none⟩ = some (.int .i64 h) := by rw [hW]; go_simp
  go_enter Tryz.func26, Tryz.ntmps26
  go_upto_region 1 with fail
  rw [← hW]
  replace hW := hid hW
  have e0W : Ext w0 W := Ext.trans ‹Ext w0 w› eW
  go_cut [3] (fun sv wx => sv = .string (Sp ++ { data := #[47] } ++ Sz) ∧ Ext W wx)
  case first =>
    have hSx := hid (show ∀ u, Ext W u → u.cell? ⟨w.heap.size, 0, none⟩ = some (.int .i64 p) ∧ u.cell? ⟨w.heap.size, 1, none⟩ = some (.int .i64 z) from fun u e => ⟨e.cell x0, e.cell x1⟩)
    refine region_held_from (w0 := W) (S := fun u => u.cell? ⟨w.heap.size, 0, none⟩ = some (.int .i64 p) ∧ u.cell? ⟨w.heap.size, 1, none⟩ = some (.int .i64 z)) (by kernel_rfl) hSx.out (fun wd ed hHeld0 => ?_)
    have ed' : Ext w wd := Ext.trans eW ed
    have htd := ht.out.ext (w' := wd)
    have hmd := hmo.out.ext (w' := wd)
    replace htd := hid htd
    replace hmd := hid hmd
    refine wpAnyH_take (i := 1) (v := .pointer (some ⟨w.heap.size, 0, none⟩)) rfl (by kernel_rfl) (by kernel_rfl) (by kernel_rfl) (fun _ _ _ h => h) (Or.inl ⟨by rfl, by intro wx hx; go_simp⟩) (by assumption) ?_
    try simp only [List.getElem_toArray, List.getElem_cons_succ, List.getElem_cons_zero, Act.put, List.setIfInBounds_toArray, List.set_cons_zero, List.set_cons_succ]
    refine wpAnyH_take (i := 2) (v := .int .i64 p) rfl (by kernel_rfl) (by kernel_rfl) (by kernel_rfl) (fun _ _ _ h => h) (Or.inl ⟨by rfl, by intro wx hx; obtain ⟨_, _⟩ := hx; go_simp⟩) (by assumption) ?_
    try simp only [List.getElem_toArray, List.getElem_cons_succ, List.getElem_cons_zero, Act.put, List.setIfInBounds_toArray, List.set_cons_zero, List.set_cons_succ]
    refine wpAnyH_take (i := 3) (v := .int .i64 (kp : Int)) rfl (by kernel_rfl) (by kernel_rfl) (by kernel_rfl) (fun _ _ _ h => h) (Or.inl ⟨by rfl, by intro wx hx; (go_simp; rw [IntKind.wrap_i64]; omega)⟩) (by assumption) ?_
    try simp only [List.getElem_toArray, List.getElem_cons_succ, List.getElem_cons_zero, Act.put, List.setIfInBounds_toArray, List.set_cons_zero, List.set_cons_succ]
    refine wpAnyH_take (i := 7) (v := .pointer (some ⟨w.heap.size, 1, none⟩)) rfl (by kernel_rfl) (by kernel_rfl) (by kernel_rfl) (fun _ _ _ h => h) (Or.inl ⟨by rfl, by intro wx hx; go_simp⟩) (by assumption) ?_
    try simp only [List.getElem_toArray, List.getElem_cons_succ, List.getElem_cons_zero, Act.put, List.setIfInBounds_toArray, List.set_cons_zero, List.set_cons_succ]
    refine wpAnyH_take (i := 8) (v := .int .i64 z) rfl (by kernel_rfl) (by kernel_rfl) (by kernel_rfl) (fun _ _ _ h => h) (Or.inl ⟨by rfl, by intro wx hx; obtain ⟨_, _⟩ := hx; go_simp⟩) (by assumption) ?_
    try simp only [List.getElem_toArray, List.getElem_cons_succ, List.getElem_cons_zero, Act.put, List.setIfInBounds_toArray, List.set_cons_zero, List.set_cons_succ]
    refine wpAnyH_ready (rs := [0]) (by kernel_rfl) (by simp) ?_
    refine AllReadyH.cons rfl (fun K hK => ?_) AllReadyH.nil
    go_simp
    refine (hN.out _ hmd.out).mono ?_
    rintro e w2 ⟨B, m, rfl, hN2, e2⟩
    have zc := hnk.out _ _ hN2
    have g2' : Ext W w2 := Ext.trans ed e2
    have ht2 := hid (htd.out.ext (w' := w2))
    replace hN2 := hid hN2
    have h8 : 0 < 7 - kp := by omega
    have h9 : kp < 7 := by omega
    go_wp2_with fail
    refine hK.out _ _ (hSx.out w2 g2') (fun _ => ?_)
    clear hK K
    try simp only [List.getElem_toArray, List.getElem_cons_succ, List.getElem_cons_zero, Act.put, List.setIfInBounds_toArray, List.set_cons_zero, List.set_cons_succ]
    refine wpAnyH_take (i := 4) (v := .pointer (some ⟨B, kp, none⟩)) rfl (by kernel_rfl) (by kernel_rfl) (by kernel_rfl) (fun _ _ _ h => h) (Or.inl ⟨by rfl, by intro wx hx; (go_simp; omega)⟩) (by assumption) ?_
    try simp only [List.getElem_toArray, List.getElem_cons_succ, List.getElem_cons_zero, Act.put, List.setIfInBounds_toArray, List.set_cons_zero, List.set_cons_succ]
    refine wpAnyH_ready (rs := [5, 9]) (by kernel_rfl) (by simp) ?_
    refine AllReadyH.cons rfl (fun K hK => ?_) (AllReadyH.cons rfl (fun K hK => ?_) AllReadyH.nil)
    · go_simp
      refine hK.out _ _ (hSx.out w2 g2') (fun _ => ?_)
      clear hK K
      try simp only [List.getElem_toArray, List.getElem_cons_succ, List.getElem_cons_zero, Act.put, List.setIfInBounds_toArray, List.set_cons_zero, List.set_cons_succ]
      refine wpAnyH_take (i := 6) (v := .string (Sp ++ { data := #[47] })) rfl (by kernel_rfl) (by kernel_rfl) (by kernel_rfl) (fun _ _ _ h => h) (Or.inl ⟨by rfl, by intro wx hx; (go_simp; omega)⟩) (by assumption) ?_
      try simp only [List.getElem_toArray, List.getElem_cons_succ, List.getElem_cons_zero, Act.put, List.setIfInBounds_toArray, List.set_cons_zero, List.set_cons_succ]
      refine wpAnyH_ready (rs := [9]) (by kernel_rfl) (by simp) ?_
      refine AllReadyH.cons rfl (fun K hK => ?_) AllReadyH.nil
      go_simp
      refine (hz.out _ ht2.out).mono ?_
      rintro e w3 ⟨rfl, e3⟩
      have g3' : Ext W w3 := Ext.trans g2' e3
      go_wp2_with fail
      refine hK.out _ _ (hSx.out w3 g3') (fun _ => ?_)
      clear hK K
      try simp only [List.getElem_toArray, List.getElem_cons_succ, List.getElem_cons_zero, Act.put, List.setIfInBounds_toArray, List.set_cons_zero, List.set_cons_succ]
      refine wpAnyH_take (i := 10) (v := .string (Sp ++ { data := #[47] } ++ Sz)) rfl (by kernel_rfl) (by kernel_rfl) (by kernel_rfl) (fun _ _ _ h => h) (Or.inl ⟨by rfl, by intro wx hx; (go_simp; omega)⟩) (by assumption) ?_
      try simp only [List.getElem_toArray, List.getElem_cons_succ, List.getElem_cons_zero, Act.put, List.setIfInBounds_toArray, List.set_cons_zero, List.set_cons_succ]
      refine wpAnyH_take (i := 11) (v := .string (Sp ++ { data := #[47] } ++ Sz)) rfl (by kernel_rfl) (by kernel_rfl) (by kernel_rfl) (fun _ _ _ h => h) (Or.inl ⟨by rfl, by intro wx hx; go_simp⟩) (by assumption) ?_
      try simp only [List.getElem_toArray, List.getElem_cons_succ, List.getElem_cons_zero, Act.put, List.setIfInBounds_toArray, List.set_cons_zero, List.set_cons_succ]
      refine wpAnyH_done (by kernel_rfl) ?_ _
      go_wp2_with fail
      go_meet
      exact ⟨rfl, g3'⟩
    · go_simp
      refine (hz.out _ ht2.out).mono ?_
      rintro e w3 ⟨rfl, e3⟩
      have g3' : Ext W w3 := Ext.trans g2' e3
      have zc3 := e3.cell zc
      go_wp2_with fail
      refine hK.out _ _ (hSx.out w3 g3') (fun _ => ?_)
      clear hK K
      try simp only [List.getElem_toArray, List.getElem_cons_succ, List.getElem_cons_zero, Act.put, List.setIfInBounds_toArray, List.set_cons_zero, List.set_cons_succ]
      refine wpAnyH_ready (rs := [5]) (by kernel_rfl) (by simp) ?_
      refine AllReadyH.cons rfl (fun K hK => ?_) AllReadyH.nil
      go_simp
      refine hK.out _ _ (hSx.out w3 g3') (fun _ => ?_)
      clear hK K
      try simp only [List.getElem_toArray, List.getElem_cons_succ, List.getElem_cons_zero, Act.put, List.setIfInBounds_toArray, List.set_cons_zero, List.set_cons_succ]
      refine wpAnyH_take (i := 6) (v := .string (Sp ++ { data := #[47] })) rfl (by kernel_rfl) (by kernel_rfl) (by kernel_rfl) (fun _ _ _ h => h) (Or.inl ⟨by rfl, by intro wx hx; (go_simp; omega)⟩) (by assumption) ?_
      try simp only [List.getElem_toArray, List.getElem_cons_succ, List.getElem_cons_zero, Act.put, List.setIfInBounds_toArray, List.set_cons_zero, List.set_cons_succ]
      refine wpAnyH_take (i := 10) (v := .string (Sp ++ { data := #[47] } ++ Sz)) rfl (by kernel_rfl) (by kernel_rfl) (by kernel_rfl) (fun _ _ _ h => h) (Or.inl ⟨by rfl, by intro wx hx; (go_simp; omega)⟩) (by assumption) ?_
      try simp only [List.getElem_toArray, List.getElem_cons_succ, List.getElem_cons_zero, Act.put, List.setIfInBounds_toArray, List.set_cons_zero, List.set_cons_succ]
      refine wpAnyH_take (i := 11) (v := .string (Sp ++ { data := #[47] } ++ Sz)) rfl (by kernel_rfl) (by kernel_rfl) (by kernel_rfl) (fun _ _ _ h => h) (Or.inl ⟨by rfl, by intro wx hx; go_simp⟩) (by assumption) ?_
      try simp only [List.getElem_toArray, List.getElem_cons_succ, List.getElem_cons_zero, Act.put, List.setIfInBounds_toArray, List.set_cons_zero, List.set_cons_succ]
      refine wpAnyH_done (by kernel_rfl) ?_ _
      go_wp2_with fail
      go_meet
      exact ⟨rfl, g3'⟩
  case rest => as_aux_lemma =>
    obtain ⟨rfl, e1⟩ := hcut
    obtain ⟨SA, hSA⟩ : ∃ S, S = Sp ++ { data := #[47] } ++ Sz := ⟨_, rfl⟩
    have hszA : SA.size ≤ 30 := by
      rw [hSA, ByteArray.size_append, ByteArray.size_append]
      show Sp.size + 1 + Sz.size ≤ 30
      omega
    rw [← hSA] at hd0 hd6 ⊢
    replace hSA := hid hSA
    have x0 := e1.cell x0
    have x2 := e1.cell x2
    have x3 := e1.cell x3
    have x4 := e1.cell x4
    have e0c : Ext w0 wc := Ext.trans e0W e1
    have e0x : Ext w wc := Ext.trans eW e1
    clear x1 hnk hN hz
    go_upto_if 19 with fail
    go_cut [3] (fun sv wx => (∃ S, sv = .string S ∧ Hid (S = bsOf (caT p z P M h 0)) ∧ S.size ≤ 100) ∧ Ext wc wx)
    case first =>
      by_cases h6 : p = 6
      · have h6' : (p == 6) = true := beq_iff_eq.2 h6
        have hT := hid (hd6.out h6)
        replace h6 := hid h6
        have hz1 : ¬ 9223372036854775807 < 1 + Sh.size := by omega
        have hz2 : ¬ 9223372036854775807 < SA.size + (1 + Sh.size) := by omega
        have hsz : (SA ++ ({ data := #[64] } ++ Sh)).size ≤ 100 := by
          rw [ByteArray.size_append, ByteArray.size_append]
          show SA.size + (1 + Sh.size) ≤ 100
          omega
        replace hsz := hid hsz
        go_wp2_with fail
        with_reducible refine (hh.out _ (ht.out.ext (w' := wc))).mono ?_
        rintro e w3 ⟨rfl, e3⟩
        go_wp2_with fail
        go_meet
        exact ⟨⟨_, rfl, hT, hsz.out⟩, e3⟩
      · have h6' : (p == 6) = false := beq_eq_false_iff_ne.2 h6
        have hT := hid (hd0.out h6)
        replace h6 := hid h6
        go_wp2_with fail
        go_meet
        exact ⟨⟨_, rfl, hT, by omega⟩, Ext.refl _⟩
    case rest => as_aux_lemma =>
      obtain ⟨⟨S0, rfl, hS0, hS0z⟩, e2⟩ := hcut
      have e0d := Ext.trans e0c e2
      have x0 := e2.cell x0
      have x2 := e2.cell x2
      have x3 := e2.cell x3
      have e02 : Ext w wc := Ext.trans eW (Ext.trans e1 e2)
      clear x4 hd0 hd6 hh hszA hSA
      go_upto_region 5 with fail
      go_loopw [3, 29] (fun sv iv wr => ∃ (i : Nat) (S : ByteArray), i ≤ P.length ∧ iv = .int .i64 i ∧ sv = .string S ∧ Hid (S = bsOf (caT p z P M h i)) ∧ S.size ≤ 400 ∧ Ext wc wr) (fun _ iv _ => P.length - (intOf iv).toNat)
      case atStart => exact ⟨0, S0, by omega, rfl, rfl, hS0, by omega, Ext.refl _⟩
      case round =>
        clear hS0 hS0z
        obtain ⟨i, S, hi, rfl, rfl, hS, hSz4, he⟩ := hrel
        obtain ⟨wo, rfl⟩ : ∃ y : World, y = wr := ⟨_, rfl⟩
        have e0o : Ext w0 wo := Ext.trans e0d he
        have ewo : Ext w wo := Ext.trans e02 he
        have y0 := he.cell x0
        have y2 := he.cell x2
        have y3 := he.cell x3
        by_cases hlt : i < P.length
        · obtain ⟨bx, ox, hdx, hcx⟩ := hP'.at (w' := wo) hlt
          cases hdx
          have hxb := hg5.out _ (nth_mem hlt)
          have hsn := hTs.out i hlt
          have hln := hlen.out (i + 1) (by omega)
          have hS3 := hS.out
          obtain ⟨x, hx⟩ : ∃ x, x = nth P i := ⟨_, rfl⟩
          rw [← hx] at hcx hsn hxb
          have hNx := fun (u : World) (hu : Tens u) => dec_any x (by omega) hu
          obtain ⟨T, hTx⟩ : ∃ T, T = bsOf (Lib.itoa x) := ⟨_, rfl⟩
          rw [← hTx] at hNx
          have hTz : T.size ≤ 21 := by rw [hTx, bsOf_size]; exact itoa_len (by omega)
          have hsz0 : ¬ 9223372036854775807 < 1 + T.size := by omega
          have hsz1 : ¬ 9223372036854775807 < S.size + (1 + T.size) := by omega
          have hsz2 : (S ++ ({ data := #[32] } ++ T)).size ≤ 430 := by
            rw [ByteArray.size_append, ByteArray.size_append]
            show S.size + (1 + T.size) ≤ 430
            omega
          replace hNx := hid hNx
          replace hx := hid hx
          cases hk : mkd p with
          | false =>
            have hfin : S ++ ({ data := #[32] } ++ T) = bsOf (caT p z P M h (i + 1)) := by
              rw [hsn, wdL, hk, hS3, hTx, bs1, bsOf_append, bsOf_append]
              simp
            have hfz : (S ++ ({ data := #[32] } ++ T)).size ≤ 400 := by rw [hfin, bsOf_size]; omega
            replace hTx := hid hTx
            replace hfin := hid hfin
            replace hfz := hid hfz
            replace hsz2 := hid hsz2
            clear hS hsn hln hS3
            go_wp2_with fail
            with_reducible refine (hNx.out wo (ht.out.ext (w' := wo))).mono ?_
            rintro e w4 ⟨rfl, e4⟩
            have y0 := e4.cell y0
            have ew4 : Ext w w4 := Ext.trans ewo e4
            go_wp2_with fail
            refine (isMarked_any p w4).mono ?_
            rw [hk]
            rintro e w5 ⟨rfl, rfl⟩
            go_wp2_with fail
            go_roundw
            case rel => exact ⟨i + 1, _, by omega, by go_num, rfl, hfin, hfz.out, Ext.trans he e4⟩
            case measure => simp [intOf]; omega
          | true =>
            have hMl := hg7.out hk
            have hlm : i < M.length := by omega
            obtain ⟨bm, om, hdm, hcm⟩ := hM'.at (w' := wo) hlm
            cases hdm
            have hmb := hg6.out _ (nth_mem hlm)
            obtain ⟨m, hm⟩ : ∃ m, m = nth M i := ⟨_, rfl⟩
            rw [← hm] at hcm hsn hmb
            have hNm := fun (u : World) (hu : Tens u) => dec_any m (by omega) hu
            obtain ⟨T2, hT2⟩ : ∃ T, T = bsOf (Lib.itoa m) := ⟨_, rfl⟩
            rw [← hT2] at hNm
            have hT2z : T2.size ≤ 21 := by rw [hT2, bsOf_size]; exact itoa_len (by omega)
            replace hNm := hid hNm
            replace hm := hid hm
            obtain ⟨SB, hSB⟩ : ∃ B, B = S ++ ({ data := #[32] } ++ T) := ⟨_, rfl⟩
            have hfin : SB ++ ({ data := #[58] } ++ T2) = bsOf (caT p z P M h (i + 1)) := by
              rw [hsn, wdL, hk, hSB, hS3, hTx, hT2, bs1, bs1, bsOf_append, bsOf_append, bsOf_append, bsOf_append]
              simp
            have hfz : (SB ++ ({ data := #[58] } ++ T2)).size ≤ 400 := by rw [hfin, bsOf_size]; omega
            rw [← hSB] at hsz2
            have hsz3 : ¬ 9223372036854775807 < 1 + T2.size := by omega
            have hsz4 : ¬ 9223372036854775807 < SB.size + (1 + T2.size) := by omega
            have hMl2 : M.length ≤ P.length ∧ P.length ≤ M.length := by omega
            replace hTx := hid hTx
            replace hT2 := hid hT2
            replace hfin := hid hfin
            replace hfz := hid hfz
            replace hSB := hid hSB
            clear hS hsn hln hS3 hMl hsz2
            have hcm2 : ∀ u, Ext wo u → u.cell? ⟨bm, om + i, none⟩ = some (.int .i64 m) := fun u e => e.cell hcm
            replace hcm2 := hid hcm2
            go_wp2_with fail
            with_reducible refine (hNx.out wo (ht.out.ext (w' := wo))).mono ?_
            rintro e w4 ⟨rfl, e4⟩
            have y0 := e4.cell y0
            have ew4 : Ext w w4 := Ext.trans ewo e4
            have y3 := e4.cell y3
            have z4 := hcm2.out w4 e4
            go_upto_region 8 with fail
            rw [← hSB.out]
            go_wp2_with fail
            refine (isMarked_any p w4).mono ?_
            rw [hk]
            rintro e w5 ⟨rfl, rfl⟩
            go_wp2_with fail
            with_reducible refine (hNm.out w4 (ht.out.ext (w' := w4))).mono ?_
            rintro e w6 ⟨rfl, e6⟩
            go_wp2_with fail
            go_roundw
            case rel => exact ⟨i + 1, _, by omega, by go_num, rfl, hfin, hfz.out, Ext.trans he (Ext.trans e4 e6)⟩
            case measure => simp [intOf]; omega
        · have hSf : S = bsOf (caL p z P M h) := by rw [hS.out, ← hTe.out, show i = P.length by omega]
          replace hSf := hid hSf
          go_wp2_with fail
          refine bodyPost_ret (v := .string S) (by simp [results, Tryz.results26, go_sem]) rfl ?_
          exact ⟨by rw [hSf.out], Ext.trans e02 he⟩
end Go.Proofs.YtaphnkgjcmneoaaGreatDoor
