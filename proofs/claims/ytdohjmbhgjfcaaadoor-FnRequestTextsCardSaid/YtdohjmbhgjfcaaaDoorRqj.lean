/- Texts of sequences, read: the program's and the reference's. -/
import Derived.Test.YtdohjmbhgjfcaaaDoorRqi
import Derived.Test.YtdohjmbhgjfcaaaDoorTxb
import Derived.Test.YtdohjmbhgjfcaaaDoorPagT
namespace Go.Proofs.YtdohjmbhgjfcaaaDoor
open Go.RowKit

theorem ints_no (u : World) (d : Option Addr) (c : Nat) : IsInts u (.slice d 0 c) [] := ⟨d, c, rfl, ⟨Nat.zero_le _, Nat.zero_le _⟩, by simp, fun j hj => by simp at hj⟩
theorem rdO_i64 {L : List UInt8} {v : Int} (h : rdO L = some v) : I64 v := by
  have h1 := Lib.atoiAll_bounds (rdO_some h).1
  unfold I64
  omega
theorem rlL_snoc {W : List (List UInt8)} {t : Nat} {y : List UInt8} (h : W[t]? = some y) : rlL (W.take (t + 1)) = rlL (W.take t) ++ [(rdO y).getD 0] := by
  rw [List.take_add_one, h]; simp [rlL]
theorem rlB_snoc {W : List (List UInt8)} {t : Nat} {y : List UInt8} (h : W[t]? = some y) : rlB (W.take (t + 1)) = (rlB (W.take t) && (rdO y).isSome) := by
  rw [List.take_add_one, h]; simp [rlB]
theorem rlB_no {W : List (List UInt8)} {t : Nat} {y : List UInt8} (h : W[t]? = some y) (hy : rdO y = none) : rlB W = false := by
  cases hb : rlB W with
  | false => rfl
  | true =>
    have h1 := List.all_eq_true.1 hb y (List.mem_of_getElem? h)
    rw [hy] at h1
    cases h1
set_option maxHeartbeats 800000 in
theorem requestsText_any {v : Value} {X : List Int} {w0 : World} (hX : IsInts w0 v X) (ht : Tens w0) (hl : X.length ≤ 60) (hb : ∀ x ∈ X, -1000000000000000 ≤ x ∧ x ≤ 1000000000000000) :
    ∀ (w : World), Ext w0 w → Calls Tryd.prog 92 #[v] w fun e w' => e = .returned (.string (bsOf (rtL X))) ∧ Ext w w' := by
  intro w ew
  obtain ⟨d, m, rfl, lx⟩ := hX.form
  have hS := spaced_any (w0 := w0) (w := w) hX ht (by omega) hb
  by_cases hn : X.length = 0
  · have hnil := List.eq_nil_of_length_eq_zero hn
    subst hnil
    clear hS
    go_enter Tryd.func92, Tryd.ntmps92
    go_wp2_with fail
    refine bodyPost_ret (v := .string { data := #[110, 111, 110, 101] }) (by simp [results, Tryd.results92, go_sem]) rfl ?_
    exact ⟨rfl, Ext.refl _⟩
  · have hne : ((X.length : Int) == 0) = false := by simp; intro h; simp [h] at hn
    have hT : rtL X = spL X := by rw [rtL, if_neg (fun h => hn (by rw [h]; rfl))]
    obtain ⟨T, hTe⟩ : ∃ T, T = bsOf (spL X) := ⟨_, rfl⟩
    rw [hT, ← hTe]
    rw [← hTe] at hS
    replace hS := hid hS
    replace hTe := hid hTe
    replace hT := hid hT
    replace hb := hid hb
    go_enter Tryd.func92, Tryd.ntmps92
    go_wp2_with fail
    with_reducible refine hS.out.mono ?_
    rintro e w2 ⟨rfl, e2⟩
    go_wp2_with fail
    refine bodyPost_ret (v := .string T) (by simp [results, Tryd.results92, go_sem]) rfl ?_
    exact ⟨rfl, e2⟩
def rdR (W : List (List UInt8)) : List Int := if rlB W then rlL W else []
theorem rlL_len (W : List (List UInt8)) : (rlL W).length = W.length := by simp [rlL]
set_option maxHeartbeats 1600000 in
set_option maxRecDepth 100000 in
theorem readList_any {L : List UInt8} {w : World} (hl : L.length ≤ 100000) (ht : Tens w) (he : Errs w) :
    Calls Tryd.prog 95 #[.string (bsOf L)] w fun e w' => ∃ u, e = .returned (.tuple #[u, .bool (rlB (spW 32 L))]) ∧ IsInts w' u (rdR (spW 32 L)) ∧ Ext w w' := by
  have hsp := fun (u : World) => splitAt_any (w := u) hl
  have hWl : (spW 32 L).length ≤ 100001 := by
    have := spF_len 32 L []
    unfold spW
    omega
  have hWw : ∀ y ∈ spW 32 L, y.length ≤ 100000 := fun y hy => by
    have := spF_wlen 32 L [] y hy
    simp only [List.length_nil] at this
    omega
  obtain ⟨W, hW⟩ : ∃ W, W = spW 32 L := ⟨_, rfl⟩
  obtain ⟨S, hS⟩ : ∃ S, S = bsOf L := ⟨_, rfl⟩
  rw [← hW] at hsp hWl hWw ⊢
  rw [← hS] at hsp ⊢
  replace hsp := hid hsp
  replace hW := hid hW
  replace hS := hid hS
  replace hWw := hid hWw
  replace ht := hid ht
  replace he := hid he
  have own1 : Own (w.alloc (.cells #[] 3)) w.heap.size [intRowOf 3 (.slice (some ⟨w.heap.size, 0, none⟩) 0 0) []] := (Own.nil w w.heap.size).lit 3 1 0 #[] (Nat.le_refl _) (by unfold maxLen; omega) rfl
  have b1 : Below w.heap.size w (w.alloc (.cells #[] 3)) := (Below.refl _ w).alloc (Nat.le_refl _) _
  go_enter Tryd.func95, Tryd.ntmps95
  go_upto_region 2 with fail
  obtain ⟨B, hB0⟩ : ∃ b, b = w.heap.size := ⟨_, rfl⟩
  have hEx := hid (show ∀ u, Below B w u → Ext w u from fun u h => ⟨by rw [← hB0]; exact h⟩)
  have hBs := hid (show ∀ u, Below B w u → B ≤ u.heap.size from fun u h => by rw [hB0]; exact h.size)
  rw [← hB0] at own1 b1 ⊢
  replace hB0 := hid hB0
  generalize w.alloc (.cells #[] 3) = w1 at *
  go_wp2_with fail
  refine (hsp.out w1).mono ?_
  rintro e w2 ⟨vW, rfl, ownW, e2⟩
  have own2 := Own.join (w := w1) (w' := w2) own1 ownW (hBs.out _ b1)
  have b2 : Below B w w2 := b1.trans (e2.below.mono (hBs.out _ b1))
  have own3 : Own w2 B (intRowOf 3 (.slice (some ⟨B, 0, none⟩) 0 0) [] :: [⟨9, 1, vW, W.length, strV W⟩]) := own2.perm (List.Perm.swap _ _ _)
  obtain ⟨dW, mW, hvW⟩ := ownW.form
  simp only at hvW
  subst hvW
  clear own1 ownW own2 b1
  go_wp2_with fail
  go_loopw [4, 13] (fun u iv wr => ∃ t : Nat, t ≤ W.length ∧ iv = .int .i64 t ∧ Hid (rlB (W.take t) = true) ∧ Hid (∀ x ∈ rlL (W.take t), I64 x) ∧ Own wr B (intRowOf 3 u (rlL (W.take t)) :: [⟨9, 1, .slice dW W.length mW, W.length, strV W⟩]) ∧ Below B w wr) (fun _ iv _ => W.length - (intOf iv).toNat)
  case atStart => exact ⟨0, by omega, rfl, hid rfl, hid (by simp [rlL]), own3, b2⟩
  case round =>
    clear own3 b2
    obtain ⟨t, htl, rfl, hrb, hri, own, hbw⟩ := hrel
    obtain ⟨wo, rfl⟩ : ∃ y : World, y = wr := ⟨_, rfl⟩
    obtain ⟨dO, n0, mO, hvO, hn0⟩ := own_formN own
    subst hvO
    have hBo : B ≤ wo.heap.size := hBs.out _ hbw
    have eo : Ext w wo := hEx.out _ hbw
    by_cases hlt : t < W.length
    · obtain ⟨gW, rfl⟩ := own.tail.at (j := t) hlt
      obtain ⟨y, hy⟩ : ∃ y, W[t]? = some y := ⟨_, List.getElem?_eq_getElem hlt⟩
      have hye : W[t] = y := (List.getElem?_eq_some_iff.1 hy).2
      have cy : wo.cell? ⟨gW, t, none⟩ = some (.string (bsOf y)) := by
        rw [own.tail.cellAt (w' := wo) hlt, strV_at hlt, hye]
      have hyl := hWw.out y (List.mem_of_getElem? hy)
      have hR := fun (u : World) (h1 : Tens u) (h2 : Errs u) => readDec_any (L := y) (w := u) (by omega) h1 h2
      obtain ⟨Y, hY⟩ : ∃ Y, Y = bsOf y := ⟨_, rfl⟩
      rw [← hY] at cy hR
      replace hY := hid hY
      replace hye := hid hye
      have htw := hid (ht.out.ext (w' := wo))
      have hew := hid (he.out.ext (w' := wo))
      cases hrd : rdO y with
      | none =>
        have hf := hid (rlB_no hy hrd)
        have hf2 := hid (show rdR W = [] by rw [rdR, rlB_no hy hrd]; rfl)
        rw [hrd] at hR
        have hR2 : ∀ (u : World) (h1 : Tens u) (h2 : Errs u), Calls Tryd.prog 69 #[.string Y] u fun e w' => e = .returned (.tuple #[.int .i64 0, .bool false]) ∧ Ext u w' := hR
        replace hR2 := hid hR2
        replace hy := hid hy
        replace hrd := hid hrd
        clear hR
        go_wp2_with fail
        with_reducible refine (hR2.out wo htw.out hew.out).mono ?_
        rintro e w5 ⟨rfl, e5⟩
        have b5 : Below B w w5 := hbw.trans (e5.below.mono hBo)
        go_wp2_with fail
        go_ret2
        rw [hf.out, hf2.out]
        exact ⟨_, rfl, ints_no _ _ _, hEx.out _ b5⟩
      | some x =>
        have hxi := rdO_i64 hrd
        rw [hrd] at hR
        have hR2 : ∀ (u : World) (h1 : Tens u) (h2 : Errs u), Calls Tryd.prog 69 #[.string Y] u fun e w' => e = .returned (.tuple #[.int .i64 x, .bool true]) ∧ Ext u w' := hR
        replace hR2 := hid hR2
        have hs : rlL (W.take (t + 1)) = rlL (W.take t) ++ [x] := by rw [rlL_snoc hy, hrd]; rfl
        have hrb2 := hid (show rlB (W.take (t + 1)) = true by rw [rlB_snoc hy, hrb.out, hrd]; rfl)
        have hri2 := hid (show ∀ z ∈ rlL (W.take (t + 1)), I64 z by
          rw [hs]
          intro z hz
          rcases List.mem_append.1 hz with h | h
          · exact hri.out z h
          · rw [List.mem_singleton.1 h]; exact hxi)
        have hn1 : n0 = t := by rw [hn0.out, rlL_len, List.length_take]; omega
        subst hn1
        replace hs := hid hs
        replace hy := hid hy
        replace hrd := hid hrd
        replace hxi := hid hxi
        clear hR
        go_wp2_with fail
        with_reducible refine (hR2.out wo htw.out hew.out).mono ?_
        rintro e w5 ⟨rfl, e5⟩
        have b5 : Below B w w5 := hbw.trans (e5.below.mono hBo)
        have own5 := own.ext (w' := w5)
        have hB5 := hBs.out _ b5
        have own6 : Own w5 B (⟨3, 1, .slice dO n0 mO, n0, (rlL (W.take n0)).map (Value.int .i64)⟩ :: [⟨9, 1, .slice (some ⟨gW, 0, none⟩) W.length mW, W.length, strV W⟩]) := by
          have h := own5
          unfold intRowOf at h
          rw [← hn0.out] at h
          exact h
        clear own own5
        go_wp2_with (at_builtin; refine wpList_append1 rfl _ _ _ rfl elemInt rfl own6 hB5 rfl rfl (by omega) (by omega) ?_; intro v6 w6 ho6 hb6)
        go_roundw
        case rel => exact ⟨n0 + 1, by omega, by go_num, hrb2, hri2, by
          rw [hs.out]
          have h := ho6
          unfold intRowOf
          rw [List.length_append, ← hn0.out, List.map_append]
          exact h, b5.trans hb6⟩
        case measure => simp [intOf]; omega
    · have htW : t = W.length := by omega
      have hrb2 := hrb.out
      have hri2 := hri.out
      rw [htW, List.take_length] at own hrb2 hri2
      have hr : IsInts wo (.slice dO n0 mO) (rlL W) := own.reads (by rw [rlL_len]; unfold Short; omega) hri2
      have hf2 := hid (show rdR W = rlL W by rw [rdR, hrb2]; rfl)
      replace hrb2 := hid hrb2
      replace hri2 := hid hri2
      go_wp2_with fail
      go_ret2
      rw [hrb2.out, hf2.out]
      exact ⟨_, rfl, hr, eo⟩
theorem prB_none {n : Int} {L : List UInt8} (h : L = noneL) : prB n L = inB n 1 8 ∧ prR n L = [] := by
  rw [prB, prR, if_pos h, if_pos h]; exact ⟨rfl, rfl⟩
theorem prB_not {n : Int} {L : List UInt8} (h : L ≠ noneL) (hr : rlB (spW 32 L) = false) : prB n L = false ∧ prR n L = [] := by
  have h1 : prB n L = false := by rw [prB, if_neg h, hr]; rfl
  exact ⟨h1, by rw [prR, if_neg h, h1]; rfl⟩
theorem prB_sq {n : Int} {L : List UInt8} (h : L ≠ noneL) (hr : rlB (spW 32 L) = true) : prB n L = sqB n (rlL (spW 32 L)) ∧ prR n L = if sqB n (rlL (spW 32 L)) then rlL (spW 32 L) else [] := by
  have h1 : prB n L = sqB n (rlL (spW 32 L)) := by rw [prB, if_neg h, hr]; rfl
  exact ⟨h1, by rw [prR, if_neg h, h1]⟩
theorem sqB_def {n : Int} {X : List Int} : (inB n 1 8 && (decide (X.length ≤ 60) && belowB n X)) = sqB n X := rfl
set_option maxHeartbeats 800000 in
theorem implPr_any {n : Int} {L : List UInt8} {w : World} (hl : L.length ≤ 100000) (ht : Tens w) (he : Errs w) :
    Calls Tryd.prog 29 #[.int .i64 n, .string (bsOf L)] w fun e w' => ∃ u, e = .returned (.tuple #[u, .bool (prB n L)]) ∧ IsInts w' u (prR n L) ∧ Ext w w' := by
  obtain ⟨S, hS⟩ : ∃ S, S = bsOf L := ⟨_, rfl⟩
  have hR := readList_any (w := w) hl ht he
  rw [← hS] at hR ⊢
  by_cases hn : L = noneL
  · obtain ⟨p1, p2⟩ := prB_none (n := n) hn
    have hS0 : S = { data := #[110, 111, 110, 101] } := by rw [hS, hn]; rfl
    subst hS0
    obtain ⟨Q, hQ⟩ : ∃ Q, Q = inB n 1 8 := ⟨_, rfl⟩
    have hI := fun (u : World) => isItems_any n u
    rw [← hQ] at hI
    rw [p1, p2, ← hQ]
    replace hI := hid hI
    replace hn := hid hn
    replace hS := hid hS
    replace hQ := hid hQ
    clear hR p1 p2
    go_enter Tryd.func29, Tryd.ntmps29
    go_wp2_with fail
    with_reducible refine (hI.out w).mono ?_
    rintro e w2 ⟨rfl, rfl⟩
    go_wp2_with fail
    go_ret2
    exact ⟨_, rfl, ints_no _ _ _, Ext.refl _⟩
  · have hne : (S.toList == [110, 111, 110, 101]) = false := by
      rw [hS, bs_list, beq_eq_false_iff_ne]; exact hn
    cases hrb : rlB (spW 32 L) with
    | false =>
      obtain ⟨p1, p2⟩ := prB_not (n := n) hn hrb
      rw [p1, p2]
      rw [hrb] at hR
      replace hR := hid hR
      replace hn := hid hn
      replace hS := hid hS
      replace hrb := hid hrb
      clear p1 p2
      go_enter Tryd.func29, Tryd.ntmps29
      go_wp2_with fail
      with_reducible refine hR.out.mono ?_
      rintro e w2 ⟨u, rfl, hu, e2⟩
      go_wp2_with fail
      go_ret2
      exact ⟨_, rfl, ints_no _ _ _, e2⟩
    | true =>
      obtain ⟨p1, p2⟩ := prB_sq (n := n) hn hrb
      rw [show rdR (spW 32 L) = rlL (spW 32 L) by rw [rdR, hrb]; rfl, hrb] at hR
      obtain ⟨X, hX⟩ : ∃ X, X = rlL (spW 32 L) := ⟨_, rfl⟩
      rw [← hX] at hR p1 p2
      replace hR := hid hR
      replace hn := hid hn
      replace hS := hid hS
      replace hrb := hid hrb
      replace hX := hid hX
      cases hq : sqB n X with
      | false =>
        rw [p1, p2, hq, if_neg (by simp)]
        clear p1 p2
        replace hq := hid hq
        go_enter Tryd.func29, Tryd.ntmps29
        go_wp2_with fail
        with_reducible refine hR.out.mono ?_
        rintro e w2 ⟨u, rfl, hu, e2⟩
        obtain ⟨du, mu, rfl, lu⟩ := hu.form
        go_wp2_with fail
        with_reducible refine (implRequests_any (n := n) (w0 := w2) (w := w2) hu).mono ?_
        rw [sqB_def, hq.out]
        rintro e w3 ⟨rfl, e3⟩
        go_wp2_with fail
        go_ret2
        exact ⟨_, rfl, ints_no _ _ _, Ext.trans e2 e3⟩
      | true =>
        rw [p1, p2, hq, if_pos rfl]
        clear p1 p2
        replace hq := hid hq
        go_enter Tryd.func29, Tryd.ntmps29
        go_wp2_with fail
        with_reducible refine hR.out.mono ?_
        rintro e w2 ⟨u, rfl, hu, e2⟩
        obtain ⟨du, mu, rfl, lu⟩ := hu.form
        go_wp2_with fail
        with_reducible refine (implRequests_any (n := n) (w0 := w2) (w := w2) hu).mono ?_
        rw [sqB_def, hq.out]
        rintro e w3 ⟨rfl, e3⟩
        have hu3 := hu.ext (w' := w3)
        go_wp2_with fail
        go_ret2
        exact ⟨_, rfl, hu3, Ext.trans e2 e3⟩

/-- the text of a sequence: the program's -/
def rqT (n : Int) (X : List Int) : List UInt8 := if sqB n X then rtL X else []
set_option maxHeartbeats 800000 in
theorem implRt_any {n : Int} {v : Value} {X : List Int} {w0 w : World} [Ext w0 w] (hX : IsInts w0 v X) (ht : Tens w0) :
    Calls Tryd.prog 26 #[.int .i64 n, v] w fun e w' => e = .returned (.tuple #[.string (bsOf (rqT n X)), .bool (sqB n X)]) ∧ Ext w w' := by
  obtain ⟨d, m, rfl, lx⟩ := hX.form
  cases hq : sqB n X with
  | false =>
    have hT := hid (show rqT n X = [] by rw [rqT, hq]; rfl)
    replace hq := hid hq
    go_enter Tryd.func26, Tryd.ntmps26
    go_wp2_with fail
    with_reducible refine (implRequests_any (n := n) (w0 := w0) (w := w) hX).mono ?_
    rw [sqB_def, hq.out]
    rintro e w3 ⟨rfl, e3⟩
    go_wp2_with fail
    refine bodyPost_ret (v := .tuple #[.string { data := #[] }, .bool false]) (by simp [results, Tryd.results26, go_sem]) rfl ?_
    exact ⟨by rw [hT.out]; rfl, e3⟩
  | true =>
    have hq2 := hq
    unfold sqB at hq2
    rw [Bool.and_eq_true, Bool.and_eq_true, inB_true, decide_eq_true_eq] at hq2
    have h60 : X.length ≤ 60 := hq2.2.1
    have hxb : ∀ x ∈ X, -1000000000000000 ≤ x ∧ x ≤ 1000000000000000 := fun x hx => by
      have h := hq2.2.2
      unfold belowB at h
      rw [decide_eq_true_eq] at h
      have h1 := h x hx
      rw [inB_true] at h1
      omega
    have hR := requestsText_any (w0 := w0) hX ht h60 hxb
    have hT := hid (show rqT n X = rtL X by rw [rqT, hq]; rfl)
    obtain ⟨T, hTe⟩ : ∃ T, T = bsOf (rtL X) := ⟨_, rfl⟩
    rw [← hTe] at hR
    rw [hT.out, ← hTe]
    replace hR := hid hR
    replace hTe := hid hTe
    replace hq := hid hq
    replace hq2 := hid hq2
    go_enter Tryd.func26, Tryd.ntmps26
    go_wp2_with fail
    with_reducible refine (implRequests_any (n := n) (w0 := w0) (w := w) hX).mono ?_
    rw [sqB_def, hq.out]
    rintro e w3 ⟨rfl, e3⟩
    have e03 : Ext w0 w3 := Ext.trans ‹Ext w0 w› e3
    go_wp2_with fail
    with_reducible refine (hR.out w3 e03).mono ?_
    rintro e w4 ⟨rfl, e4⟩
    go_wp2_with fail
    go_ret2
    exact ⟨rfl, Ext.trans e3 e4⟩
end Go.Proofs.YtdohjmbhgjfcaaaDoor
