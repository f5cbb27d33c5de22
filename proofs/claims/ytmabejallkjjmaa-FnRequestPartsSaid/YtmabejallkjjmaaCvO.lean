/- The curve of the fewest faults. -/
import Derived.Test.YtmabejallkjjmaaCvI
import Derived.Test.YtmabejallkjjmaaPagF
namespace Go.Proofs.Ytmabejallkjjmaa
open Go.RowKit

def seqOk (n : Int) (X : List Int) : Bool := inB n 1 8 && (decide (X.length ≤ 60) && belowB n X)
theorem seqOk_in {n : Int} {X : List Int} (h : seqOk n X = true) : (1 ≤ n ∧ n ≤ 8) ∧ X.length ≤ 60 ∧ pagesB n.toNat X := by
  have h2 : pagB 1 n X = true := by
    unfold pagB
    have : inB 1 1 6 = true := by decide
    rw [this]
    exact h
  exact (pagB_in h2).2
def cvTo (X : List Int) (t : Nat) : List Int := (List.range t).map fun (i : Nat) => (optF ((i : Int) + 1) X : Int)
theorem cvTo_succ (X : List Int) (t : Nat) : cvTo X (t + 1) = cvTo X t ++ [(optF ((t : Int) + 1) X : Int)] := by simp [cvTo, List.range_succ]
theorem cvTo_len (X : List Int) (t : Nat) : (cvTo X t).length = t := by simp [cvTo]
def cvR (n : Int) (X : List Int) : List Int := if seqOk n X then cvTo X 6 else []
theorem optF_le {k : Int} {X : List Int} (hk : 1 ≤ k) (hX0 : ∀ s, s < X.length → 0 ≤ nth X s) : optF k X ≤ X.length := (optF_run hk hX0).1.le
theorem cvTo_i64 {X : List Int} {t : Nat} (hl : X.length ≤ 60) (hX0 : ∀ s, s < X.length → 0 ≤ nth X s) : ∀ y ∈ cvTo X t, I64 y := fun y hy => by
  obtain ⟨s, _, rfl⟩ := List.mem_map.1 hy
  have := optF_le (k := (s : Int) + 1) (X := X) (by omega) hX0
  unfold I64; omega
set_option maxHeartbeats 800000 in
set_option maxRecDepth 100000 in
theorem implCv_any {vX : Value} {n : Int} {X : List Int} {w0 w : World} [Ext w0 w] (hX : IsInts w0 vX X) (_hn : -100 ≤ n ∧ n ≤ 100) :
    Calls Try.prog 17 #[.int .i64 n, vX] w fun e w' => ∃ u, e = .returned (.tuple #[u, .bool (seqOk n X)]) ∧ IsInts w' u (cvR n X) ∧ Ext w w' := by
  have hX' := hX
  obtain ⟨dx, mx, rfl, lx⟩ := hX.form
  cases hp : seqOk n X with
  | false =>
    have hv := hid (show cvR n X = [] by rw [cvR, hp]; rfl)
    have hp' := hid (show (inB n 1 8 && (decide (X.length ≤ 60) && belowB n X)) = false from hp)
    replace hp := hid hp
    go_enter Try.func17, Try.ntmps17
    go_wp2_with fail
    with_reducible refine (implRequests_any (w0 := w0) hX').mono ?_
    rw [hp'.out]
    rintro e w2 ⟨rfl, e2⟩
    go_wp2_with fail
    go_ret2
    rw [hv.out]
    exact ⟨_, rfl, ints_nil _ _ _, e2⟩
  | true =>
    have hv := hid (show cvR n X = cvTo X 6 by rw [cvR, hp]; rfl)
    have hp' := hid (show (inB n 1 8 && (decide (X.length ≤ 60) && belowB n X)) = true from hp)
    obtain ⟨hn2, hl, hpg⟩ := seqOk_in hp
    have hX0 := hid (show ∀ s, s < X.length → 0 ≤ nth X s from fun s hs => by have := hpg s hs; omega)
    replace hp := hid hp
    clear hpg
    go_enter Try.func17, Try.ntmps17
    go_wp2_with fail
    with_reducible refine (implRequests_any (w0 := w0) hX').mono ?_
    rw [hp'.out]
    rintro e w2 ⟨rfl, e2⟩
    obtain ⟨B, hB0⟩ : ∃ b, b = w.heap.size := ⟨_, rfl⟩
    have hEx := hid (show ∀ u, Below B w u → Ext w u from fun u h => ⟨by rw [← hB0]; exact h⟩)
    have hBs := hid (show ∀ u, Below B w u → B ≤ u.heap.size from fun u h => by rw [hB0]; exact h.size)
    have hB2 : B ≤ w2.heap.size := by rw [hB0]; exact e2.size
    go_upto_region 4 with fail
    have own1 : Own (w2.alloc (.cells #[] 3)) B [⟨3, 1, .slice (some ⟨w2.heap.size, 0, none⟩) 0 0, 0, (cvTo X 0).map (Value.int .i64)⟩] := Own.litInts (xs := []) hB2 rfl rfl (by simp) rfl
    have b1 : Below B w (w2.alloc (.cells #[] 3)) := by
      have : Below B w w2 := by rw [hB0]; exact e2.below
      exact this.alloc hB2 _
    generalize w2.alloc (.cells #[] 3) = w1 at *
    go_wp2_with fail
    go_loopw [6, 7] (fun ov kv wr => ∃ t : Nat, t ≤ 6 ∧ kv = .int .i64 ((t : Int) + 1) ∧ Own wr B [⟨3, 1, ov, t, (cvTo X t).map (Value.int .i64)⟩] ∧ Below B w wr) (fun _ kv _ => 7 - (intOf kv).toNat)
    case atStart => exact ⟨0, by omega, rfl, own1, b1⟩
    case round =>
      clear own1 b1
      obtain ⟨t, ht, rfl, own, hb⟩ := hrel
      obtain ⟨wo, rfl⟩ : ∃ y : World, y = wr := ⟨_, rfl⟩
      have eo : Ext w wo := hEx.out _ hb
      have e0 : Ext w0 wo := Ext.trans ‹Ext w0 w› eo
      have hBo := hBs.out _ hb
      obtain ⟨dp, mp, hvp⟩ := own.form
      simp only at hvp
      subst hvp
      by_cases hlt : t < 6
      · have hsucc := hid (cvTo_succ X t)
        have hki : 1 ≤ (t : Int) + 1 ∧ (t : Int) + 1 ≤ 6 := by omega
        have hXo := hX'.ext (e := e0)
        go_wp2_with fail
        (with_reducible refine (fewestFaults_any (w0 := wo) (w := wo) hXo hl hki hX0.out).mono ?_)
        rintro e w2 ⟨rfl, e2⟩
        have own2 := own.ext (w' := w2)
        have b2 : Below B w w2 := hb.trans (e2.below.mono hBo)
        have hB2 := hBs.out _ b2
        clear own
        go_wp2_with (at_builtin; refine wpList_append1 rfl _ _ _ rfl elemInt rfl own2 hB2 rfl rfl (by omega) (by omega) ?_; intro v7 w7 ho7 hb7)
        go_roundw
        case rel => exact ⟨t + 1, by omega, by go_num, by rw [hsucc.out, List.map_append]; exact ho7, b2.trans hb7⟩
        case measure => simp [intOf]; omega
      · have htl : t = 6 := by omega
        subst htl
        have hlL := hid (cvTo_len X 6)
        have hrd : IsInts wo (.slice dp 6 mp) (cvTo X 6) := own.readsN (e := 3) hlL.out (by omega) (cvTo_i64 hl hX0.out)
        clear own
        go_wp2_with fail
        go_ret2
        rw [hv.out]
        exact ⟨_, rfl, hrd, eo⟩

set_option maxHeartbeats 800000 in
set_option maxRecDepth 100000 in
theorem l5Opt_any {vX : Value} {K n : Nat} {X : List Int} {w0 w : World} [Ext w0 w] (hK0 : 0 < K ∧ K ≤ 6) (hn0 : 0 < n) (hn : n ≤ 8) (hlX : X.length ≤ 60) (hP : pagesB n X) (hX : IsInts w0 vX X) :
    Calls Try.prog 63 #[.int .i64 K, .int .i64 n, vX] w fun e w' => e = .returned (.int .i64 (optF K X)) ∧ Ext w w' := by
  have hv : fewT K n X X.length 0 = optF K X := by
    have h := few_lst hn hK0.1 hP (d := X.length) (S := 0) (Nat.le_refl _) (Nat.two_pow_pos n) (Nat.zero_le K)
    rw [h.1, few_opt hn hK0.1 hP]
  have hrow : row (fwTab K n X 0 (2 ^ n)) 0 = fwPart K n X 0 (2 ^ n) := by
    rw [row_fwTab (by omega), if_neg (by omega), if_pos rfl]
  have hrl : (row (fwTab K n X 0 (2 ^ n)) 0).length = 2 ^ n := by rw [hrow, fwPart_length]
  have hp0 : 0 < 2 ^ n := Nat.two_pow_pos n
  have hr0 : nth (row (fwTab K n X 0 (2 ^ n)) 0) 0 = optF K X := by
    rw [hrow, nth_fwPart hp0, Nat.sub_zero, hv]
  have htl := fwTab_length K n X 0 (2 ^ n)
  replace hv := hid hv
  replace hrow := hid hrow
  replace htl := hid htl
  replace hr0 := hid hr0
  replace hrl := hid hrl
  replace hp0 := hid hp0
  go_enter Try.func63, Try.ntmps63
  go_wp2_with fail
  with_reducible refine (l5Fewest_any (w0 := w0) (w := w) hK0.1 hn0 hn hlX hP hX).mono ?_
  rintro e w2 ⟨vs, hvs, rfl, own, e2⟩
  obtain ⟨gk, mk, hu, _⟩ := tb_blk own hvs htl.out (show 0 < X.length + 1 by omega) (by rw [hrl.out]; exact hp0.out)
  have hc1 := (tb_cell own hvs hu).1
  have hc2 := (tb_at own htl.out (show 0 < X.length + 1 by omega) hu rfl (show 0 < _ by rw [hrl.out]; exact hp0.out)).1
  rw [hr0.out] at hc2
  have hpos : 0 < (row (fwTab K n X 0 (2 ^ n)) 0).length := by rw [hrl.out]; exact hp0.out
  generalize (row (fwTab K n X 0 (2 ^ n)) 0).length = rl at *
  obtain ⟨f, hf⟩ : ∃ f : Int, f = optF K X := ⟨_, rfl⟩
  rw [← hf] at hc2
  replace hf := hid hf
  replace hu := hid hu
  replace own := hid own
  go_wp2_with fail
  go_ret
  exact ⟨ret_int hf.out, e2⟩

theorem l5OptI_any {vX : Value} {t n : Nat} {X : List Int} {w0 w : World} [Ext w0 w] (ht : t < 6) (hn0 : 0 < n) (hn : n ≤ 8) (hlX : X.length ≤ 60) (hP : pagesB n X) (hX : IsInts w0 vX X) :
    Calls Try.prog 63 #[.int .i64 ((t : Int) + 1), .int .i64 n, vX] w fun e w' => e = .returned (.int .i64 (optF ((t : Int) + 1) X)) ∧ Ext w w' := by
  have h := l5Opt_any (K := t + 1) (w0 := w0) (w := w) (by omega) hn0 hn hlX hP hX
  rw [show ((t + 1 : Nat) : Int) = (t : Int) + 1 by omega] at h
  exact h
set_option maxHeartbeats 800000 in
set_option maxRecDepth 100000 in
theorem specCv_any {vX : Value} {n : Int} {X : List Int} {w0 w : World} [Ext w0 w] (hX : IsInts w0 vX X) (_hn : -100 ≤ n ∧ n ≤ 100) :
    Calls Try.prog 18 #[.int .i64 n, vX] w fun e w' => ∃ u, e = .returned (.tuple #[u, .bool (seqOk n X)]) ∧ IsInts w' u (cvR n X) ∧ Ext w w' := by
  have hX' := hX
  obtain ⟨dx, mx, rfl, lx⟩ := hX.form
  cases hp : seqOk n X with
  | false =>
    have hv := hid (show cvR n X = [] by rw [cvR, hp]; rfl)
    have hp' := hid (show (inB n 1 8 && (decide (X.length ≤ 60) && belowB n X)) = false from hp)
    replace hp := hid hp
    go_enter Try.func18, Try.ntmps18
    go_wp2_with fail
    with_reducible refine (l3Good_any (w0 := w0) hX').mono ?_
    rw [hp'.out]
    rintro e w2 ⟨rfl, e2⟩
    go_wp2_with fail
    go_ret2
    rw [hv.out]
    exact ⟨_, rfl, ints_nil _ _ _, Ext.trans inferInstance e2⟩
  | true =>
    have hv := hid (show cvR n X = cvTo X 6 by rw [cvR, hp]; rfl)
    have hp' := hid (show (inB n 1 8 && (decide (X.length ≤ 60) && belowB n X)) = true from hp)
    obtain ⟨hn2, hl, hpg⟩ := seqOk_in hp
    have hX0 := hid (show ∀ s, s < X.length → 0 ≤ nth X s from fun s hs => by have := hpg s hs; omega)
    obtain ⟨n', rfl⟩ := Int.eq_ofNat_of_zero_le (show 0 ≤ n by omega)
    rw [Int.toNat_natCast] at hpg
    replace hp := hid hp
    replace hpg := hid hpg
    have own1 : Own (w.alloc (.cells #[] 3)) w.heap.size [⟨3, 1, .slice (some ⟨w.heap.size, 0, none⟩) 0 0, 0, (cvTo X 0).map (Value.int .i64)⟩] := Own.litInts (xs := []) (by omega) rfl rfl (by simp) rfl
    have b1 : Below w.heap.size w (w.alloc (.cells #[] 3)) := (Below.refl _ w).alloc (by omega) _
    have hB1 : w.heap.size ≤ (w.alloc (.cells #[] 3)).heap.size := b1.size
    go_enter Try.func18, Try.ntmps18
    go_upto_region 2 with fail
    obtain ⟨B, hB0⟩ : ∃ b, b = w.heap.size := ⟨_, rfl⟩
    rw [← hB0] at own1 b1 hB1 ⊢
    have hEx := hid (show ∀ u, Below B w u → Ext w u from fun u h => ⟨by rw [← hB0]; exact h⟩)
    have hBs := hid (show ∀ u, Below B w u → B ≤ u.heap.size from fun u h => by rw [hB0]; exact h.size)
    replace hB0 := hid hB0
    generalize w.alloc (.cells #[] 3) = wa at *
    have ea : Ext w wa := hEx.out _ b1
    have e0a : Ext w0 wa := Ext.trans ‹Ext w0 w› ea
    go_wp2_with fail
    with_reducible refine (l3Good_any (w0 := w0) (w := wa) hX').mono ?_
    rw [hp'.out]
    rintro e w2 ⟨rfl, e2⟩
    have own1 := own1.ext (w' := w2)
    have b1 : Below B w w2 := b1.trans (e2.below.mono hB1)
    go_wp2_with fail
    go_loopw [6, 7] (fun ov kv wr => ∃ t : Nat, t ≤ 6 ∧ kv = .int .i64 ((t : Int) + 1) ∧ Own wr B [⟨3, 1, ov, t, (cvTo X t).map (Value.int .i64)⟩] ∧ Below B w wr) (fun _ kv _ => 7 - (intOf kv).toNat)
    case atStart => exact ⟨0, by omega, rfl, own1, b1⟩
    case round =>
      clear own1 b1
      obtain ⟨t, ht, rfl, own, hb⟩ := hrel
      obtain ⟨wo, rfl⟩ : ∃ y : World, y = wr := ⟨_, rfl⟩
      have eo : Ext w wo := hEx.out _ hb
      have e0 : Ext w0 wo := Ext.trans ‹Ext w0 w› eo
      have hBo := hBs.out _ hb
      obtain ⟨dp, mp, hvp⟩ := own.form
      simp only at hvp
      subst hvp
      by_cases hlt : t < 6
      · have hsucc := hid (cvTo_succ X t)
        have hki : 1 ≤ (t : Int) + 1 ∧ (t : Int) + 1 ≤ 6 := by omega
        have hXo := hX'.ext (e := e0)
        go_wp2_with fail
        (with_reducible refine (l5OptI_any (w0 := wo) (w := wo) (t := t) (by omega) (by omega) (by omega) hl hpg.out hXo).mono ?_)
        rintro e w2 ⟨rfl, e2⟩
        have own2 := own.ext (w' := w2)
        have b2 : Below B w w2 := hb.trans (e2.below.mono hBo)
        have hB2 := hBs.out _ b2
        clear own
        go_wp2_with (at_builtin; refine wpList_append1 rfl _ _ _ rfl elemInt rfl own2 hB2 rfl rfl (by omega) (by omega) ?_; intro v7 w7 ho7 hb7)
        go_roundw
        case rel => exact ⟨t + 1, by omega, by go_num, by rw [hsucc.out, List.map_append]; exact ho7, b2.trans hb7⟩
        case measure => simp [intOf]; omega
      · have htl : t = 6 := by omega
        subst htl
        have hlL := hid (cvTo_len X 6)
        have hrd : IsInts wo (.slice dp 6 mp) (cvTo X 6) := own.readsN (e := 3) hlL.out (by omega) (cvTo_i64 hl hX0.out)
        clear own
        go_wp2_with fail
        go_ret2
        rw [hv.out]
        exact ⟨_, rfl, hrd, eo⟩
end Go.Proofs.Ytmabejallkjjmaa
