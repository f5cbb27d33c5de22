/- Texts of sequences, written and read: the reference's. -/
import Derived.Test.YtdohjmbhgjfcaaaDoorRqj
import Derived.Test.YtdohjmbhgjfcaaaDoorCkj
namespace Go.Proofs.YtdohjmbhgjfcaaaDoor
open Go.RowKit

theorem spL_snoc {X : List Int} {i : Nat} (h0 : 0 < i) (h : i < X.length) : spL (X.take (i + 1)) = spL (X.take i) ++ [32] ++ Lib.itoa (nth X i) := by
  unfold spL
  rw [take_succ_nth h, List.map_append, List.map_cons, List.map_nil, join_snoc, if_neg]
  intro e
  have h2 := congrArg List.length e
  rw [List.length_map, List.length_take, List.length_nil] at h2
  omega
theorem spL_len {X : List Int} {i : Nat} (hi : i ≤ 1000) (hb : ∀ x ∈ X, -1000000000000000 ≤ x ∧ x ≤ 1000000000000000) : (spL (X.take i)).length ≤ 22000 := by
  unfold spL
  have h := join_len (sep := [32]) (c := 21) (r := (X.take i).map Lib.itoa) fun y hy => by
    obtain ⟨x, hx, rfl⟩ := List.mem_map.1 hy
    exact itoa_len (hb x (List.mem_of_mem_take hx))
  rw [List.length_map, List.length_take, List.length_singleton] at h
  have : min i X.length * (21 + 1) ≤ 1000 * 22 := Nat.mul_le_mul (by omega) (by omega)
  omega
set_option maxHeartbeats 800000 in
set_option maxRecDepth 100000 in
theorem l3Text_any {v : Value} {X : List Int} {w0 : World} (hX : IsInts w0 v X) (hl : X.length ≤ 1000) (hb : ∀ x ∈ X, -1000000000000000 ≤ x ∧ x ≤ 1000000000000000) :
    ∀ (w : World), Ext w0 w → Calls Tryd.prog 94 #[v] w fun e w' => e = .returned (.string (bsOf (rtL X))) ∧ Ext w w' := by
  intro w ew
  obtain ⟨d, m, rfl, lx⟩ := hX.form
  have hX' := hX
  by_cases hn : X.length = 0
  · have hnil := List.eq_nil_of_length_eq_zero hn
    subst hnil
    go_enter Tryd.func94, Tryd.ntmps94
    go_wp2_with fail
    refine bodyPost_ret (v := .string { data := #[110, 111, 110, 101] }) (by simp [results, Tryd.results94, go_sem]) rfl ?_
    exact ⟨rfl, Ext.refl _⟩
  · have hne : ((X.length : Int) == 0) = false := by simp; intro h; simp [h] at hn
    have hT : rtL X = spL X := by rw [rtL, if_neg (fun h => hn (by rw [h]; rfl))]
    have h1 : spL (X.take 1) = Lib.itoa (nth X 0) := by
      rw [show (1 : Nat) = 0 + 1 from rfl, take_succ_nth (by omega)]
      simp [spL, Lib.join_one]
    have hlen := fun i (hi : i ≤ 1000) => spL_len (i := i) hi hb
    obtain ⟨b0, o0, hd0, hc0⟩ := hX'.at (w' := w) (show 0 < X.length by omega)
    cases hd0
    rw [Nat.add_zero] at hc0
    have hx0 := hb _ (nth_mem (show 0 < X.length by omega))
    obtain ⟨x0, he0⟩ : ∃ x, x = nth X 0 := ⟨_, rfl⟩
    rw [← he0] at hc0 hx0 h1
    have hN := fun (u : World) => l1Num_any x0 hx0 u
    obtain ⟨T0, hT0⟩ : ∃ T, T = bsOf (Lib.itoa x0) := ⟨_, rfl⟩
    rw [← hT0] at hN
    have hT01 : T0 = bsOf (spL (X.take 1)) := by rw [hT0, h1]
    replace hN := hid hN
    replace hT := hid hT
    replace hT0 := hid hT0
    replace hT01 := hid hT01
    replace h1 := hid h1
    replace hb := hid hb
    replace he0 := hid he0
    replace hlen := hid hlen
    go_enter Tryd.func94, Tryd.ntmps94
    go_wp2_with fail
    with_reducible refine (hN.out w).mono ?_
    rintro e w2 ⟨rfl, e2⟩
    go_wp2_with fail
    go_loopw [3, 4] (fun sv iv wr => ∃ (i : Nat) (S : ByteArray), 1 ≤ i ∧ i ≤ X.length ∧ iv = .int .i64 i ∧ sv = .string S ∧ Hid (S = bsOf (spL (X.take i))) ∧ S.size ≤ 22000 ∧ Ext w wr) (fun _ iv _ => X.length - (intOf iv).toNat)
    case atStart => exact ⟨1, T0, by omega, by omega, rfl, rfl, hT01, by rw [hT01.out, bsOf_size]; exact hlen.out 1 (by omega), e2⟩
    case round =>
      obtain ⟨i, S, hi1, hil, rfl, rfl, hS, hSz, hq⟩ := hrel
      obtain ⟨wo, rfl⟩ : ∃ y : World, y = wr := ⟨_, rfl⟩
      by_cases hlt : i < X.length
      · have e0o : Ext w0 wo := Ext.trans ew hq
        obtain ⟨bx, ox, hdx, hcx⟩ := hX'.at (w' := wo) hlt
        cases hdx
        have hxb := hb.out _ (nth_mem hlt)
        have hsn := spL_snoc hi1 hlt
        obtain ⟨x, hx⟩ : ∃ x, x = nth X i := ⟨_, rfl⟩
        rw [← hx] at hcx hsn hxb
        have hNx := fun (u : World) => l1Num_any x hxb u
        obtain ⟨T, hTx⟩ : ∃ T, T = bsOf (Lib.itoa x) := ⟨_, rfl⟩
        rw [← hTx] at hNx
        have hTz : T.size ≤ 21 := by rw [hTx, bsOf_size]; exact itoa_len hxb
        have hfin : S ++ { data := #[32] } ++ T = bsOf (spL (X.take (i + 1))) := by
          rw [hS.out, hTx, show ({ data := #[32] } : ByteArray) = bsOf [32] from rfl, bsOf_append, bsOf_append, hsn]
        have hfz : (S ++ { data := #[32] } ++ T).size ≤ 22000 := by rw [hfin, bsOf_size]; exact hlen.out _ (by omega)
        have hsz0 : ¬ 9223372036854775807 < S.size + 1 := by omega
        have hsz1 : ¬ 9223372036854775807 < S.size + 1 + T.size := by omega
        replace hNx := hid hNx
        replace hTx := hid hTx
        replace hx := hid hx
        replace hsn := hid hsn
        replace hfin := hid hfin
        replace hfz := hid hfz
        go_wp2_with fail
        with_reducible refine (hNx.out wo).mono ?_
        rintro e w4 ⟨rfl, e4⟩
        go_wp2_with fail
        go_roundw
        case rel => exact ⟨i + 1, _, by omega, by omega, by go_num, rfl, hfin, hfz.out, Ext.trans hq e4⟩
        case measure => simp [intOf]; omega
      · have hSf : S = bsOf (rtL X) := by rw [hS.out, hT.out, show i = X.length by omega, List.take_length]
        replace hSf := hid hSf
        go_wp2_with fail
        refine bodyPost_ret (v := .string S) (by simp [results, Tryd.results94, go_sem]) rfl ?_
        exact ⟨by rw [hSf.out], hq⟩
set_option maxHeartbeats 800000 in
theorem specRt_any {n : Int} {v : Value} {X : List Int} {w0 w : World} [Ext w0 w] (hX : IsInts w0 v X) :
    Calls Tryd.prog 27 #[.int .i64 n, v] w fun e w' => e = .returned (.tuple #[.string (bsOf (rqT n X)), .bool (sqB n X)]) ∧ Ext w w' := by
  obtain ⟨d, m, rfl, lx⟩ := hX.form
  cases hq : sqB n X with
  | false =>
    have hT := hid (show rqT n X = [] by rw [rqT, hq]; rfl)
    replace hq := hid hq
    go_enter Tryd.func27, Tryd.ntmps27
    go_wp2_with fail
    with_reducible refine (l3Good_any (n := n) (w0 := w0) (w := w) hX).mono ?_
    rw [sqB_def, hq.out]
    rintro e w3 ⟨rfl, e3⟩
    go_wp2_with fail
    refine bodyPost_ret (v := .tuple #[.string { data := #[] }, .bool false]) (by simp [results, Tryd.results27, go_sem]) rfl ?_
    exact ⟨by rw [hT.out]; rfl, e3⟩
  | true =>
    have hq2 := hq
    unfold sqB at hq2
    rw [Bool.and_eq_true, Bool.and_eq_true, inB_true, decide_eq_true_eq] at hq2
    have h60 : X.length ≤ 60 := hq2.2.1
    have hxb : ∀ x ∈ X, -1000000000000000 ≤ x ∧ x ≤ 1000000000000000 := fun x hx => by
      have h := hq2.2.2
      unfold belowB at h
      rw [decide_eq_true_eq] at h
      have h1 := h x hx
      rw [inB_true] at h1
      omega
    have hR := l3Text_any (w0 := w0) hX (by omega) hxb
    have hT := hid (show rqT n X = rtL X by rw [rqT, hq]; rfl)
    obtain ⟨T, hTe⟩ : ∃ T, T = bsOf (rtL X) := ⟨_, rfl⟩
    rw [← hTe] at hR
    rw [hT.out, ← hTe]
    replace hR := hid hR
    replace hTe := hid hTe
    replace hq := hid hq
    replace hq2 := hid hq2
    replace hxb := hid hxb
    go_enter Tryd.func27, Tryd.ntmps27
    go_wp2_with fail
    with_reducible refine (l3Good_any (n := n) (w0 := w0) (w := w) hX).mono ?_
    rw [sqB_def, hq.out]
    rintro e w3 ⟨rfl, e3⟩
    have e03 : Ext w0 w3 := Ext.trans ‹Ext w0 w› e3
    go_wp2_with fail
    with_reducible refine (hR.out w3 e03).mono ?_
    rintro e w4 ⟨rfl, e4⟩
    go_wp2_with fail
    go_ret2
    exact ⟨rfl, Ext.trans e3 e4⟩
set_option maxHeartbeats 800000 in
theorem specIs_any {n : Int} {v : Value} {X : List Int} {w0 w : World} [Ext w0 w] (hX : IsInts w0 v X) :
    Calls Tryd.prog 28 #[.int .i64 n, v] w fun e w' => e = .returned (.bool (sqB n X)) ∧ Ext w w' := by
  obtain ⟨d, m, rfl, lx⟩ := hX.form
  go_enter Tryd.func28, Tryd.ntmps28
  go_wp2_with fail
  with_reducible refine (l3Good_any (n := n) (w0 := w0) (w := w) hX).mono ?_
  rw [sqB_def]
  rintro e w3 ⟨rfl, e3⟩
  go_wp2_with fail
  go_ret
  exact ⟨rfl, e3⟩
theorem prR_no {n : Int} {L : List UInt8} (h : prB n L = false) : prR n L = [] := by
  unfold prR
  split
  · rfl
  · rw [h]; rfl
theorem rsL_snoc {W : List (List UInt8)} {t : Nat} {y : List UInt8} (h : W[t]? = some y) : rsL (W.take (t + 1)) = rsL (W.take t) ++ [(rsO y).getD 0] := by
  rw [List.take_add_one, h]; simp [rsL]
theorem rsL_len (W : List (List UInt8)) : (rsL W).length = W.length := by simp [rsL]
theorem pr_word {n : Int} {L y : List UInt8} (hL : L ≠ noneL) (hy : y ∈ spW 32 L) (h : wdOk n y = false) : prB n L = false := by
  cases hp : prB n L with
  | false => rfl
  | true =>
    have h1 := ((pr_true hL).1 hp).2.1 y hy
    rw [h] at h1
    cases h1
theorem Ext.allocd (w : World) (o : Obj) : Ext w (w.alloc o) := inferInstance
set_option maxHeartbeats 1600000 in
set_option maxRecDepth 100000 in
theorem specPr_any {n : Int} {L : List UInt8} {w : World} (hl : L.length ≤ 100000) :
    Calls Tryd.prog 33 #[.int .i64 n, .string (bsOf L)] w fun e w' => ∃ u, e = .returned (.tuple #[u, .bool (prB n L)]) ∧ IsInts w' u (prR n L) ∧ Ext w w' := by
  obtain ⟨S, hS⟩ : ∃ S, S = bsOf L := ⟨_, rfl⟩
  have hSz : S.size = L.length := by rw [hS, bsOf_size]
  rw [← hS]
  obtain ⟨Q, hQ⟩ : ∃ Q, Q = inB n 1 8 := ⟨_, rfl⟩
  have hI := fun (u : World) => l3Items_any n u
  rw [← hQ] at hI
  replace hI := hid hI
  cases Q with
  | false =>
    have hp : prB n L = false := by
      unfold prB sqB
      rw [← hQ]
      split
      · rfl
      · simp
    have hpR := hid (prR_no hp)
    have hp2 := hid hp
    clear hp
    replace hQ := hid hQ
    replace hS := hid hS
    have own1 : Own (w.alloc (.cells #[] 3)) w.heap.size [intRowOf 3 (.slice (some ⟨w.heap.size, 0, none⟩) 0 0) []] := (Own.nil w w.heap.size).lit 3 1 0 #[] (Nat.le_refl _) (by unfold maxLen; omega) rfl
    have b1 : Below w.heap.size w (w.alloc (.cells #[] 3)) := (Below.refl _ w).alloc (Nat.le_refl _) _
    go_enter Tryd.func33, Tryd.ntmps33
    go_upto_region 2 with fail
    obtain ⟨B, hB0⟩ : ∃ b, b = w.heap.size := ⟨_, rfl⟩
    have hEx := hid (show ∀ u, Below B w u → Ext w u from fun u h => ⟨by rw [← hB0]; exact h⟩)
    have hBs := hid (show ∀ u, Below B w u → B ≤ u.heap.size from fun u h => by rw [hB0]; exact h.size)
    rw [← hB0] at own1 b1 ⊢
    replace hB0 := hid hB0
    generalize w.alloc (.cells #[] 3) = w1 at *
    go_wp2_with fail
    with_reducible refine (hI.out w1).mono ?_
    rintro e w2 ⟨rfl, rfl⟩
    go_wp2_with fail
    go_ret2
    rw [hp2.out, hpR.out]
    exact ⟨_, rfl, ints_no _ _ _, (hEx.out _ b1)⟩
  | true =>
    by_cases h120 : L.length ≤ 120
    · by_cases hn : L = noneL
      · have hS0 : S = { data := #[110, 111, 110, 101] } := by rw [hS, hn]; rfl
        obtain ⟨p1, p2⟩ := prB_none (n := n) hn
        rw [← hQ] at p1
        replace p1 := hid p1
        replace p2 := hid p2
        subst hS0
        replace hQ := hid hQ
        replace hS := hid hS
        replace hn := hid hn
        clear hSz h120
        have own1 : Own (w.alloc (.cells #[] 3)) w.heap.size [intRowOf 3 (.slice (some ⟨w.heap.size, 0, none⟩) 0 0) []] := (Own.nil w w.heap.size).lit 3 1 0 #[] (Nat.le_refl _) (by unfold maxLen; omega) rfl
        have b1 : Below w.heap.size w (w.alloc (.cells #[] 3)) := (Below.refl _ w).alloc (Nat.le_refl _) _
        go_enter Tryd.func33, Tryd.ntmps33
        go_upto_region 2 with fail
        obtain ⟨B, hB0⟩ : ∃ b, b = w.heap.size := ⟨_, rfl⟩
        have hEx := hid (show ∀ u, Below B w u → Ext w u from fun u h => ⟨by rw [← hB0]; exact h⟩)
        have hBs := hid (show ∀ u, Below B w u → B ≤ u.heap.size from fun u h => by rw [hB0]; exact h.size)
        rw [← hB0] at own1 b1 ⊢
        replace hB0 := hid hB0
        generalize w.alloc (.cells #[] 3) = w1 at *
        go_wp2_with fail
        with_reducible refine (hI.out w1).mono ?_
        rintro e w2 ⟨rfl, rfl⟩
        go_wp2_with fail
        go_ret2
        rw [p1.out, p2.out]
        exact ⟨_, rfl, ints_no _ _ _, hEx.out _ b1⟩
      · have hne : (S.toList == [110, 111, 110, 101]) = false := by
          rw [hS, bs_list, beq_eq_false_iff_ne]; exact hn
        have hsp := fun (u : World) => l1Split_any (w := u) hl
        have hWl : (spW 32 L).length ≤ 121 := by
          have := spF_len 32 L []
          unfold spW
          omega
        have hWw : ∀ y ∈ spW 32 L, y.length ≤ 120 := fun y hy => by
          have := spF_wlen 32 L [] y hy
          simp only [List.length_nil] at this
          omega
        have hword := hid (fun y hy h => pr_word (n := n) (y := y) hn hy h)
        have htrue := hid (pr_true (n := n) hn)
        have htext := hid (pr_text (n := n) hn)
        have hn8 : 1 ≤ n ∧ n ≤ 8 := by
          have h := hQ.symm
          rw [inB_true] at h
          exact h
        have hprR : prR n L = if prB n L then rlL (spW 32 L) else [] := by rw [prR, if_neg hn]
        replace hprR := hid hprR
        obtain ⟨W, hW⟩ : ∃ W, W = spW 32 L := ⟨_, rfl⟩
        rw [← hW] at hsp hWl hWw hword htrue htext hprR
        rw [← hS] at hsp
        have hS120 : ¬ 120 < S.size := by omega
        replace hsp := hid hsp
        replace hW := hid hW
        replace hS := hid hS
        replace hQ := hid hQ
        replace hn := hid hn
        replace hSz := hid hSz
        replace hWw := hid hWw
        have own1 : Own (w.alloc (.cells #[] 3)) w.heap.size [intRowOf 3 (.slice (some ⟨w.heap.size, 0, none⟩) 0 0) []] := (Own.nil w w.heap.size).lit 3 1 0 #[] (Nat.le_refl _) (by unfold maxLen; omega) rfl
        have b1 : Below w.heap.size w (w.alloc (.cells #[] 3)) := (Below.refl _ w).alloc (Nat.le_refl _) _
        go_enter Tryd.func33, Tryd.ntmps33
        go_upto_region 2 with fail
        obtain ⟨B, hB0⟩ : ∃ b, b = w.heap.size := ⟨_, rfl⟩
        have hEx := hid (show ∀ u, Below B w u → Ext w u from fun u h => ⟨by rw [← hB0]; exact h⟩)
        have hBs := hid (show ∀ u, Below B w u → B ≤ u.heap.size from fun u h => by rw [hB0]; exact h.size)
        rw [← hB0] at own1 b1 ⊢
        replace hB0 := hid hB0
        generalize w.alloc (.cells #[] 3) = w1 at *
        go_wp2_with fail
        with_reducible refine (hI.out w1).mono ?_
        rintro e w2 ⟨rfl, rfl⟩
        go_wp2_with fail
        refine (hsp.out _).mono ?_
        rintro e w3 ⟨vW, rfl, ownW, e3⟩
        have own2 := Own.join (w := w1) (w' := w3) own1 ownW (hBs.out _ b1)
        have b3 : Below B w w3 := b1.trans (e3.below.mono (hBs.out _ b1))
        have own3 : Own w3 B (intRowOf 3 (.slice (some ⟨B, 0, none⟩) 0 0) [] :: [⟨9, 1, vW, W.length, strV W⟩]) := own2.perm (List.Perm.swap _ _ _)
        obtain ⟨dW, mW, hvW⟩ := ownW.form
        simp only at hvW
        subst hvW
        clear own1 ownW own2 b1
        go_wp2_with fail
        go_loopw [6, 8] (fun u iv wr => ∃ t : Nat, t ≤ W.length ∧ iv = .int .i64 t ∧ Hid (∀ y ∈ W.take t, wdOk n y = true) ∧ Own wr B (intRowOf 3 u (rsL (W.take t)) :: [⟨9, 1, .slice dW W.length mW, W.length, strV W⟩]) ∧ Below B w wr) (fun _ iv _ => W.length - (intOf iv).toNat)
        case atStart => exact ⟨0, by omega, rfl, hid (by simp), own3, b3⟩
        case round =>
          clear own3 b3
          obtain ⟨t, htl, rfl, hwd, own, hbw⟩ := hrel
          obtain ⟨wo, rfl⟩ : ∃ y : World, y = wr := ⟨_, rfl⟩
          obtain ⟨dO, n0, mO, hvO, hn0⟩ := own_formN own
          subst hvO
          have hBo : B ≤ wo.heap.size := hBs.out _ hbw
          have eo : Ext w wo := hEx.out _ hbw
          by_cases hlt : t < W.length
          · obtain ⟨gW, rfl⟩ := own.tail.at (j := t) hlt
            obtain ⟨y, hy⟩ : ∃ y, W[t]? = some y := ⟨_, List.getElem?_eq_getElem hlt⟩
            have hye : W[t] = y := (List.getElem?_eq_some_iff.1 hy).2
            have hyW : y ∈ W := List.mem_of_getElem? hy
            have cy : wo.cell? ⟨gW, t, none⟩ = some (.string (bsOf y)) := by
              rw [own.tail.cellAt (w' := wo) hlt, strV_at hlt, hye]
            have hyl := hWw.out y hyW
            have hR := fun (u : World) => l1Read_any (L := y) (w := u) (by omega)
            obtain ⟨Y, hY⟩ : ∃ Y, Y = bsOf y := ⟨_, rfl⟩
            rw [← hY] at cy hR
            replace hY := hid hY
            replace hye := hid hye
            have hsn := rsL_snoc hy
            cases hrd : rsO y with
            | none =>
              have hp := hword.out y hyW (by unfold wdOk; rw [hrd]; rfl)
              have hpR := hid (prR_no hp)
              have hp2 := hid hp
              clear hp
              rw [hrd] at hR
              have hR2 : ∀ (u : World), Calls Tryd.prog 70 #[.string Y] u fun e w' => e = .returned (.tuple #[.int .i64 0, .bool false]) ∧ Ext u w' := hR
              replace hR2 := hid hR2
              replace hy := hid hy
              replace hyW := hid hyW
              replace hrd := hid hrd
              clear hR hsn
              go_wp2_with fail
              with_reducible refine (hR2.out wo).mono ?_
              rintro e w5 ⟨rfl, e5⟩
              have b5 : Below B w w5 := hbw.trans (e5.below.mono hBo)
              have e05 := hEx.out _ b5
              go_wp2_with fail
              go_ret2
              rw [hp2.out, hpR.out]
              exact ⟨_, rfl, ints_no _ _ _, (Ext.trans e05 (Ext.allocd w5 _))⟩
            | some x =>
              rw [hrd] at hR hsn
              have hsn : rsL (W.take (t + 1)) = rsL (W.take t) ++ [x] := hsn
              have hR2 : ∀ (u : World), Calls Tryd.prog 70 #[.string Y] u fun e w' => e = .returned (.tuple #[.int .i64 x, .bool true]) ∧ Ext u w' := hR
              replace hR2 := hid hR2
              have hin := fun (u : World) => l1In_any x 0 (n - 1) u
              cases hb : inB x 0 (n - 1) with
              | false =>
                have hp := hword.out y hyW (by unfold wdOk; rw [hrd]; exact hb)
                have hpR := hid (prR_no hp)
                have hp2 := hid hp
                clear hp
                rw [hb] at hin
                replace hin := hid hin
                replace hy := hid hy
                replace hyW := hid hyW
                replace hrd := hid hrd
                replace hb := hid hb
                replace hsn := hid hsn
                clear hR
                go_wp2_with fail
                with_reducible refine (hR2.out wo).mono ?_
                rintro e w5 ⟨rfl, e5⟩
                have b5 : Below B w w5 := hbw.trans (e5.below.mono hBo)
                have e05 := hEx.out _ b5
                go_wp2_with fail
                with_reducible refine (hin.out w5).mono ?_
                rintro e w6 ⟨rfl, rfl⟩
                go_wp2_with fail
                go_ret2
                rw [hp2.out, hpR.out]
                exact ⟨_, rfl, ints_no _ _ _, (Ext.trans e05 (Ext.allocd w5 _))⟩
              | true =>
                have hwd2 := hid (show ∀ z ∈ W.take (t + 1), wdOk n z = true by
                  intro z hz
                  rw [List.take_add_one, hy] at hz
                  rcases List.mem_append.1 hz with h | h
                  · exact hwd.out z h
                  · rw [Option.toList_some, List.mem_singleton] at h
                    rw [h]
                    unfold wdOk
                    rw [hrd]
                    exact hb)
                have hn1 : n0 = t := by rw [hn0.out, rsL_len, List.length_take]; omega
                subst hn1
                rw [hb] at hin
                replace hin := hid hin
                replace hy := hid hy
                replace hyW := hid hyW
                replace hrd := hid hrd
                replace hb := hid hb
                replace hsn := hid hsn
                clear hR
                go_wp2_with fail
                with_reducible refine (hR2.out wo).mono ?_
                rintro e w5 ⟨rfl, e5⟩
                have b5 : Below B w w5 := hbw.trans (e5.below.mono hBo)
                have own5 := own.ext (w' := w5)
                have hB5 := hBs.out _ b5
                have own6 : Own w5 B (⟨3, 1, .slice dO n0 mO, n0, (rsL (W.take n0)).map (Value.int .i64)⟩ :: [⟨9, 1, .slice (some ⟨gW, 0, none⟩) W.length mW, W.length, strV W⟩]) := by
                  have h := own5
                  unfold intRowOf at h
                  rw [← hn0.out] at h
                  exact h
                clear own own5
                go_wp2_with fail
                with_reducible refine (hin.out w5).mono ?_
                rintro e w6 ⟨rfl, rfl⟩
                go_wp2_with (at_builtin; refine wpList_append1 rfl _ _ _ rfl elemInt rfl own6 hB5 rfl rfl (by omega) (by omega) ?_; intro v6 w7 ho6 hb6)
                go_roundw
                case rel => exact ⟨n0 + 1, by omega, by go_num, hwd2, by
                  rw [hsn.out]
                  have h := ho6
                  unfold intRowOf
                  rw [List.length_append, ← hn0.out, List.map_append]
                  exact h, b5.trans hb6⟩
                case measure => simp [intOf]; omega
          · have htW : t = W.length := by omega
            have hwd2 := hwd.out
            rw [htW, List.take_length] at own hwd2 hn0
            have hall := rs_rl hn8.2 hwd2
            rw [hall.1] at own hn0
            have hnW : n0 = W.length := by rw [hn0.out, rlL_len]
            subst hnW
            have hxb : ∀ x ∈ rlL W, 0 ≤ x ∧ x ≤ 7 := fun x hx => by
              have h := hall.2.2.1
              unfold belowB at h
              rw [decide_eq_true_eq] at h
              have h1 := h x hx
              rw [inB_true] at h1
              omega
            have hr : IsInts wo (.slice dO W.length mO) (rlL W) := own.reads (by rw [rlL_len]; unfold Short; omega) (fun x hx => by have := hxb x hx; unfold I64; omega)
            by_cases h60 : W.length ≤ 60
            · have hp : prB n L = true := htrue.out.2 ⟨by rw [hQ.out], hwd2, h60⟩
              have hpR := hid (show prR n L = rlL W by rw [hprR.out, hp]; rfl)
              have hT : bsOf (rtL (rlL W)) = S := by rw [htext.out hp, hS.out]
              have hTx := l3Text_any (w0 := wo) hr (by rw [rlL_len]; omega) (fun x hx => by have := hxb x hx; omega) wo (Ext.refl _)
              rw [hT] at hTx
              replace hT := hid hT
              replace hTx := hid hTx
              have hp2 := hid hp
              clear hp
              replace hall := hid hall
              replace hxb := hid hxb
              replace hwd2 := hid hwd2
              go_wp2_with fail
              with_reducible refine hTx.out.mono ?_
              rintro e w5 ⟨rfl, e5⟩
              have hr5 := hr.ext (w' := w5)
              go_wp2_with fail
              go_ret2
              rw [hp2.out, hpR.out]
              exact ⟨_, rfl, hr5, Ext.trans eo e5⟩
            · have hp : prB n L = false := by
                cases hp : prB n L with
                | false => rfl
                | true => exact absurd (htrue.out.1 hp).2.2 h60
              have hpR := hid (prR_no hp)
              have hp2 := hid hp
              clear hp
              replace hall := hid hall
              replace hxb := hid hxb
              replace hwd2 := hid hwd2
              go_wp2_with fail
              go_ret2
              rw [hp2.out, hpR.out]
              exact ⟨_, rfl, ints_no _ _ _, (Ext.trans eo (Ext.allocd wo _))⟩
    · have hp : prB n L = false := by
        cases hp : prB n L with
        | false => rfl
        | true => exact absurd (pr_len hp) h120
      have hpR := hid (prR_no hp)
      have hp2 := hid hp
      clear hp
      have hS120 : 120 < S.size := by omega
      replace hQ := hid hQ
      replace hS := hid hS
      replace hSz := hid hSz
      have own1 : Own (w.alloc (.cells #[] 3)) w.heap.size [intRowOf 3 (.slice (some ⟨w.heap.size, 0, none⟩) 0 0) []] := (Own.nil w w.heap.size).lit 3 1 0 #[] (Nat.le_refl _) (by unfold maxLen; omega) rfl
      have b1 : Below w.heap.size w (w.alloc (.cells #[] 3)) := (Below.refl _ w).alloc (Nat.le_refl _) _
      go_enter Tryd.func33, Tryd.ntmps33
      go_upto_region 2 with fail
      obtain ⟨B, hB0⟩ : ∃ b, b = w.heap.size := ⟨_, rfl⟩
      have hEx := hid (show ∀ u, Below B w u → Ext w u from fun u h => ⟨by rw [← hB0]; exact h⟩)
      have hBs := hid (show ∀ u, Below B w u → B ≤ u.heap.size from fun u h => by rw [hB0]; exact h.size)
      rw [← hB0] at own1 b1 ⊢
      replace hB0 := hid hB0
      generalize w.alloc (.cells #[] 3) = w1 at *
      go_wp2_with fail
      with_reducible refine (hI.out w1).mono ?_
      rintro e w2 ⟨rfl, rfl⟩
      go_wp2_with fail
      go_ret2
      rw [hp2.out, hpR.out]
      exact ⟨_, rfl, ints_no _ _ _, (hEx.out _ b1)⟩
end Go.Proofs.YtdohjmbhgjfcaaaDoor
