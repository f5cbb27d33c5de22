/- The farthest plan and the curve: the program's. -/
import Derived.Test.YtmabejallkjjmaaCvF
namespace Go.Proofs.Ytmabejallkjjmaa
open Go.RowKit

theorem IsInts.drop2 {w : World} {b o c n : Nat} {xs : List Int} (h : IsInts w (.slice (some ⟨b, o, none⟩) n c) xs) {k : Nat} (_hk : k ≤ xs.length) :
    IsInts w (.slice (if c = k then some ⟨b, o, none⟩ else some ⟨b, o + k, none⟩) (xs.length - k) (c - k)) (xs.drop k) := by
  obtain ⟨a, c', h1, h2, h3, h4⟩ := h
  cases h1
  refine ⟨_, _, by rw [List.length_drop], ⟨by have := h2.1; unfold Short at this ⊢; rw [List.length_drop]; omega, by have := h2.2; rw [List.length_drop]; omega⟩, fun x hx => h3 x (List.mem_of_mem_drop hx), fun j hj => ⟨b, o + k, ?_, ?_⟩⟩
  · rw [List.length_drop] at hj
    have h5 := h2.2
    rw [if_neg (by omega)]
  · rw [List.length_drop] at hj
    obtain ⟨b', o', e1, e2⟩ := h4 (k + j) (by omega)
    cases e1
    rw [Nat.add_assoc, e2]
    simp [nth]
set_option maxHeartbeats 800000 in
set_option maxRecDepth 100000 in
theorem farthest_any {vX vN : Value} {X N : List Int} {i : Nat} {w0 w : World} [Ext w0 w] (hX : IsInts w0 vX X) (hN : IsInts w0 vN N) (hi : i < X.length) (hl : X.length ≤ 100000) :
    Calls Try.prog 154 #[.int .i64 i, vX, vN] w fun e w' => e = .returned (.int .i64 (farC X i N)) ∧ w = w' := by
  have hX' := hX
  obtain ⟨dx, mx, rfl, lx⟩ := hX.form
  obtain ⟨b0, o0, hd0, hc0⟩ := hX.at (w' := w) hi
  cases hd0
  have hN' := hN
  obtain ⟨dn, mn, rfl, ln⟩ := hN.form
  have hcap : X.length ≤ mx := by
    obtain ⟨_, _, e, h2, _⟩ := hX'
    cases e
    exact h2.2
  have hD := hX'.drop2 (k := i + 1) (by omega)
  have hfar := hid (show farC X i N = farG (X.drop (i + 1)) N (-1) (-1) from rfl)
  have hDl : (X.drop (i + 1)).length = X.length - (i + 1) := List.length_drop
  generalize hY : X.drop (i + 1) = Y at *
  replace hY := hid hY
  replace hDl := hid hDl
  by_cases hmx : mx = i + 1
  · have hD2 : IsInts w0 (.slice (some ⟨b0, o0, none⟩) 0 0) Y := by
      rw [if_pos hmx, show mx - (i + 1) = 0 by omega, show X.length - (i + 1) = 0 by omega] at hD
      exact hD
    clear hD
    subst hmx
    go_enter Try.func154, Try.ntmps154
    go_wp2_with fail
    go_loopw [7, 8, 10, 11, 14] (fun bv fv _ _ jv wr => ∃ (j : Nat) (b f : Int), j ≤ N.length ∧ jv = .int .i64 j ∧ bv = .int .i64 b ∧ fv = .int .i64 f ∧ Hid (farG Y (N.drop j) b f = farG Y N (-1) (-1)) ∧ -1 ≤ f ∧ f ≤ 100000 ∧ wr = w) (fun _ _ _ _ jv _ => N.length - (intOf jv).toNat)
    case atStart => exact ⟨0, -1, -1, by omega, rfl, rfl, rfl, hid rfl, by omega, by omega, rfl⟩
    case round =>
      obtain ⟨j, b, f, hj, rfl, rfl, rfl, hg, hf1, hf2, rfl⟩ := hrel
      by_cases hlt : j < N.length
      · obtain ⟨bn, on, hdn, hcn⟩ := hN'.at (w' := wr) hlt
        cases hdn
        have hg2 : farG Y (N.drop j) b f = (if ixOf Y (nth N j) < 0 then nth N j else if f < ixOf Y (nth N j) then farG Y (N.drop (j + 1)) (nth N j) (ixOf Y (nth N j)) else farG Y (N.drop (j + 1)) b f) := by
          rw [List.drop_eq_getElem_cons hlt, farG]
          simp [nth, hlt]
        have hpi := hN'.i64 hlt
        obtain ⟨p, hp⟩ : ∃ p, p = nth N j := ⟨_, rfl⟩
        rw [← hp] at hcn hg2 hpi
        have hix : ixOf Y p = -1 ∨ (0 ≤ ixOf Y p ∧ ixOf Y p < Y.length) := by
          by_cases hm : p ∈ Y
          · exact .inr ⟨(ixOf_in hm).1, (ixOf_in hm).2.1⟩
          · exact .inl (ixOf_none hm)
        have hYl := hDl.out
        obtain ⟨q, hq⟩ : ∃ q, q = ixOf Y p := ⟨_, rfl⟩
        rw [← hq] at hg2 hix
        have hqb : -1 ≤ q ∧ q ≤ 100000 := by omega
        have hqi : I64 q := by unfold I64; omega
        have hfi : I64 f := by unfold I64; omega
        replace hp := hid hp
        replace hq := hid hq
        replace hg2 := hid hg2
        clear hix hYl
        go_wp2_with fail
        with_reducible refine (sIndex_any (w0 := w0) (w := wr) hD2).mono ?_
        rw [← hq.out]
        rintro e w3 ⟨rfl, rfl⟩
        by_cases hneg : q < 0
        · have hv := hid (show farC X i N = p by rw [hfar.out, ← hg.out, hg2.out, if_pos hneg])
          go_wp2_with fail
          go_ret
          exact ⟨ret_int hv.out.symm, rfl⟩
        · by_cases hgt : f < q
          · have g1 : decide (q > f) = true := decide_eq_true hgt
            have hv := hid (show farG Y (N.drop (j + 1)) p q = farG Y N (-1) (-1) by rw [← hg.out, hg2.out, if_neg hneg, if_pos hgt])
            go_wp2_with fail
            go_roundw
            case rel => exact ⟨j + 1, p, q, by omega, by go_num, rfl, rfl, hv, by omega, by omega, trivial⟩
            case measure => simp [intOf]; omega
          · have g1 : decide (q > f) = false := decide_eq_false hgt
            have hv := hid (show farG Y (N.drop (j + 1)) b f = farG Y N (-1) (-1) by rw [← hg.out, hg2.out, if_neg hneg, if_neg hgt])
            go_wp2_with fail
            go_roundw
            case rel => exact ⟨j + 1, b, f, by omega, by go_num, rfl, rfl, hv, by omega, by omega, trivial⟩
            case measure => simp [intOf]; omega
      · have hv := hid (show farC X i N = b by
          have h := hg.out
          rw [List.drop_eq_nil_of_le (by omega)] at h
          rw [hfar.out, ← h]
          rfl)
        go_wp2_with fail
        go_ret
        exact ⟨ret_int hv.out.symm, rfl⟩
  · have hD2 : IsInts w0 (.slice (some ⟨b0, o0 + (i + 1), none⟩) (X.length - (i + 1)) (mx - (i + 1))) Y := by
      rw [if_neg hmx] at hD
      exact hD
    clear hD
    go_enter Try.func154, Try.ntmps154
    go_wp2_with fail
    go_loopw [7, 8, 10, 11, 14] (fun bv fv _ _ jv wr => ∃ (j : Nat) (b f : Int), j ≤ N.length ∧ jv = .int .i64 j ∧ bv = .int .i64 b ∧ fv = .int .i64 f ∧ Hid (farG Y (N.drop j) b f = farG Y N (-1) (-1)) ∧ -1 ≤ f ∧ f ≤ 100000 ∧ wr = w) (fun _ _ _ _ jv _ => N.length - (intOf jv).toNat)
    case atStart => exact ⟨0, -1, -1, by omega, rfl, rfl, rfl, hid rfl, by omega, by omega, rfl⟩
    case round =>
      obtain ⟨j, b, f, hj, rfl, rfl, rfl, hg, hf1, hf2, rfl⟩ := hrel
      by_cases hlt : j < N.length
      · obtain ⟨bn, on, hdn, hcn⟩ := hN'.at (w' := wr) hlt
        cases hdn
        have hg2 : farG Y (N.drop j) b f = (if ixOf Y (nth N j) < 0 then nth N j else if f < ixOf Y (nth N j) then farG Y (N.drop (j + 1)) (nth N j) (ixOf Y (nth N j)) else farG Y (N.drop (j + 1)) b f) := by
          rw [List.drop_eq_getElem_cons hlt, farG]
          simp [nth, hlt]
        have hpi := hN'.i64 hlt
        obtain ⟨p, hp⟩ : ∃ p, p = nth N j := ⟨_, rfl⟩
        rw [← hp] at hcn hg2 hpi
        have hix : ixOf Y p = -1 ∨ (0 ≤ ixOf Y p ∧ ixOf Y p < Y.length) := by
          by_cases hm : p ∈ Y
          · exact .inr ⟨(ixOf_in hm).1, (ixOf_in hm).2.1⟩
          · exact .inl (ixOf_none hm)
        have hYl := hDl.out
        obtain ⟨q, hq⟩ : ∃ q, q = ixOf Y p := ⟨_, rfl⟩
        rw [← hq] at hg2 hix
        have hqb : -1 ≤ q ∧ q ≤ 100000 := by omega
        have hqi : I64 q := by unfold I64; omega
        have hfi : I64 f := by unfold I64; omega
        replace hp := hid hp
        replace hq := hid hq
        replace hg2 := hid hg2
        clear hix hYl
        go_wp2_with fail
        with_reducible refine (sIndex_any (w0 := w0) (w := wr) hD2).mono ?_
        rw [← hq.out]
        rintro e w3 ⟨rfl, rfl⟩
        by_cases hneg : q < 0
        · have hv := hid (show farC X i N = p by rw [hfar.out, ← hg.out, hg2.out, if_pos hneg])
          go_wp2_with fail
          go_ret
          exact ⟨ret_int hv.out.symm, rfl⟩
        · by_cases hgt : f < q
          · have g1 : decide (q > f) = true := decide_eq_true hgt
            have hv := hid (show farG Y (N.drop (j + 1)) p q = farG Y N (-1) (-1) by rw [← hg.out, hg2.out, if_neg hneg, if_pos hgt])
            go_wp2_with fail
            go_roundw
            case rel => exact ⟨j + 1, p, q, by omega, by go_num, rfl, rfl, hv, by omega, by omega, trivial⟩
            case measure => simp [intOf]; omega
          · have g1 : decide (q > f) = false := decide_eq_false hgt
            have hv := hid (show farG Y (N.drop (j + 1)) b f = farG Y N (-1) (-1) by rw [← hg.out, hg2.out, if_neg hneg, if_neg hgt])
            go_wp2_with fail
            go_roundw
            case rel => exact ⟨j + 1, b, f, by omega, by go_num, rfl, rfl, hv, by omega, by omega, trivial⟩
            case measure => simp [intOf]; omega
      · have hv := hid (show farC X i N = b by
          have h := hg.out
          rw [List.drop_eq_nil_of_le (by omega)] at h
          rw [hfar.out, ← h]
          rfl)
        go_wp2_with fail
        go_ret
        exact ⟨ret_int hv.out.symm, rfl⟩

set_option maxHeartbeats 400000 in
theorem farthestPlan1_any {u : Value} {X N : List Int} {i B m : Nat} {d : Option Addr} {w0 w : World} [Ext w0 w] (hX : IsInts w0 (.slice d X.length m) X) (hN : IsInts w u N) (hc : w.cell? ⟨B, 0, none⟩ = some (.slice d X.length m)) (hi : i < X.length) (hl : X.length ≤ 100000) :
    Calls Try.prog 153 #[.int .i64 i, u, .pointer (some ⟨B, 0, none⟩)] w fun e w' => e = .returned (.int .i64 (farC X i N)) ∧ w = w' := by
  have hX2 := hX.ext (w' := w)
  go_enter Try.func153, Try.ntmps153
  go_wp2_with fail
  with_reducible refine (farthest_any (w0 := w) (w := w) hX2 hN hi hl).mono ?_
  rintro e w3 ⟨rfl, rfl⟩
  go_wp2_with fail
  go_ret
  exact ⟨rfl, rfl⟩
theorem farthestPlan1_call (xa : Array Value) (W : World) : (callFunc 153 xa).run Try.prog W = .ok (.enter 153 xa) W := by kernel_rfl

set_option maxHeartbeats 800000 in
set_option maxRecDepth 100000 in
theorem farthestPlan_any {vX : Value} {k : Int} {X : List Int} {w0 w : World} [Ext w0 w] (hX : IsInts w0 vX X) (hl : X.length ≤ 60) (hk : I64 k) (hk1 : 1 ≤ k) :
    Calls Try.prog 117 #[.int .i64 k, vX] w fun e w' => ∃ d m, e = .returned (.slice d X.length m) ∧ IsInts w' (.slice d X.length m) (pbL k (farC X) X X.length) ∧ Ext w w' := by
  have hX' := hX
  obtain ⟨dx, mx, rfl, lx⟩ := hX.form
  have hok := farC_ok (k := k) (X := X) hk1
  have hci : ∀ t, t < X.length → I64 (pbP k (farC X) X t) := fun t ht => by
    unfold pbP
    by_cases h : nth X t ∉ pbC k (farC X) X t ∧ ((pbC k (farC X) X t).length : Int) = k
    · rw [if_pos h]
      obtain ⟨s, hs, e⟩ := pbC_mem (hok.mem t ht h.1 h.2)
      rw [← e]; exact hX'.i64 (by omega)
    · rw [if_neg h]; unfold I64; omega
  have x0 : (w.alloc (.cells #[.slice dx X.length mx] 27)).cell? ⟨w.heap.size, 0, none⟩ = some (.slice dx X.length mx) := by go_simp
  have e1 : Ext w (w.alloc (.cells #[.slice dx X.length mx] 27)) := inferInstance
  replace hok := hid hok
  go_enter Try.func117, Try.ntmps117
  go_upto_region 1 with fail
  generalize w.alloc (.cells #[.slice dx X.length mx] 27) = w1 at *
  have e01 : Ext w0 w1 := Ext.trans ‹Ext w0 w› e1
  have hpl := planBy_any (w0 := w0) (w := w1) hX' hl hk 153 #[.pointer (some ⟨w.heap.size, 0, none⟩)] (farC X) farthestPlan1_call
    (fun W hW t ht _ _ u hu => by
      have e0W : Ext w0 W := Ext.trans e01 hW
      exact (farthestPlan1_any (w0 := w0) (w := W) (i := t) hX' hu (hW.cell x0) ht (by omega)).mono fun _ _ ⟨h1, h2⟩ => ⟨h1, by rw [h2]; exact Ext.refl _⟩) hci
  replace hci := hid hci
  go_wp2_with fail
  refine hpl.mono ?_
  rintro e w4 ⟨d4, m4, rfl, h4, e4⟩
  go_wp2_with fail
  go_ret
  exact ⟨_, _, rfl, h4, Ext.trans e1 e4⟩

theorem pb_poss {k : Int} {X : List Int} (hk : 1 ≤ k) (hX0 : ∀ s, s < X.length → 0 ≤ nth X s) : rnB k X (pbL k (farC X) X X.length) X.length = true := by
  have hok := farC_ok (k := k) (X := X) hk
  unfold rnB
  rw [decide_eq_true_iff]
  intro s hs
  rw [pb_rn hok hX0 (by omega), pbL_at hs]
  have h2 : rnC X (pbL k (farC X) X X.length) (s + 1) = pbC k (farC X) X (s + 1) := pb_rn hok hX0 (by omega)
  rw [rnC, pb_rn hok hX0 (by omega), pbL_at hs] at h2
  refine okS_iff.2 ⟨?_, by rw [h2]; exact pbC_le hk hok (by omega)⟩
  rintro ⟨h0, h1⟩
  unfold pbP at h0 h1
  by_cases h : nth X s ∉ pbC k (farC X) X s ∧ ((pbC k (farC X) X s).length : Int) = k
  · rw [if_pos h] at h0 h1
    rcases h1 with h1 | h1
    · exact h.1 h1
    · exact h1 (hok.mem s hs h.1 h.2)
  · rw [if_neg h] at h0
    omega
set_option maxHeartbeats 800000 in
set_option maxRecDepth 100000 in
theorem fewestFaults_any {vX : Value} {k : Int} {X : List Int} {w0 w : World} [Ext w0 w] (hX : IsInts w0 vX X) (hl : X.length ≤ 60) (hk : 1 ≤ k ∧ k ≤ 6) (hX0 : ∀ s, s < X.length → 0 ≤ nth X s) :
    Calls Try.prog 61 #[.int .i64 k, vX] w fun e w' => e = .returned (.int .i64 (optF k X)) ∧ Ext w w' := by
  have hX' := hX
  obtain ⟨dx, mx, rfl, lx⟩ := hX.form
  have hB := hid (pb_poss hk.1 hX0)
  have hF := hid (show rnF X (pbL k (farC X) X X.length) X.length = optF k X from rnF_ft (farC_ok hk.1) hX0 (Nat.le_refl _))
  have hpl := hid (pbL_len k (farC X) X X.length)
  replace hX0 := hid hX0
  go_enter Try.func61, Try.ntmps61
  go_wp2_with fail
  with_reducible refine (farthestPlan_any (w0 := w0) (w := w) hX' hl (by unfold I64; omega) hk.1).mono ?_
  rintro e w2 ⟨d2, m2, rfl, h2, e2⟩
  have e02 : Ext w0 w2 := Ext.trans ‹Ext w0 w› e2
  have hX2 := hX'.ext (e := e02)
  go_wp2_with fail
  with_reducible refine (played_any (w0 := w2) (w := w2) hX2 h2 hk hl hpl.out hX0.out).mono ?_
  rintro e w3 ⟨u, rfl, hu, e3⟩
  rw [hB.out, if_pos rfl, hF.out]
  clear hu
  obtain ⟨f, hf⟩ : ∃ f : Int, f = optF k X := ⟨_, rfl⟩
  rw [← hf]
  replace hf := hid hf
  go_wp2_with fail
  go_ret
  exact ⟨ret_int hf.out, Ext.trans e2 e3⟩
end Go.Proofs.Ytmabejallkjjmaa
