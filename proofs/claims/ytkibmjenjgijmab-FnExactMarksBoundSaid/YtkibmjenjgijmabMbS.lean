/- The bound of marks: the reference's. -/
import Derived.Test.YtkibmjenjgijmabDif
import Derived.Test.YtkibmjenjgijmabMbI
import Derived.Test.YtkibmjenjgijmabGrK
import Derived.Test.YtkibmjenjgijmabPagT
namespace Go.Proofs.Ytkibmjenjgijmab
open Go.RowKit

set_option maxHeartbeats 800000 in
theorem l5Use_any {v : Value} {i : Nat} {p : Int} {X : List Int} {w0 w : World} [Ext w0 w] (hX : IsInts w0 v X) (hi : i < X.length) (hl : X.length ≤ 1000) :
    Calls Try.prog 78 #[v, .int .i64 i, .int .i64 p] w fun e w' => e = .returned (.int .i64 (useL X i p : Nat)) ∧ Ext w w' := by
  obtain ⟨a, c, rfl, la⟩ := hX.form
  go_enter Try.func78, Try.ntmps78
  go_wp2_with fail
  go_loopw [7] (fun q wr => ∃ j : Nat, i < j ∧ j ≤ X.length ∧ q = .int .i64 j ∧ Hid (∀ l, i < l → l < j → nth X l ≠ p) ∧ Ext w wr) (fun q _ => X.length - (intOf q).toNat)
  case atStart => exact ⟨i + 1, by omega, by omega, by go_num, fun l h1 h2 => by omega, Ext.refl _⟩
  case round =>
    obtain ⟨j, hij, hj, rfl, hno, hd⟩ := hrel
    obtain ⟨wo, rfl⟩ : ∃ y : World, y = wr := ⟨_, rfl⟩
    have e0 : Ext w0 wo := Ext.trans ‹Ext w0 w› hd
    by_cases hlt : j < X.length
    · obtain ⟨b, o, hda, hc⟩ := hX.at (w' := wo) hlt
      cases hda
      have hg : decide (j < X.length) = true := decide_eq_true hlt
      by_cases he : nth X j = p
      · have hfin := hid (useL_hit hij hlt he hno.out)
        rw [he] at hc
        have hb : (p != p) = false := by simp
        replace he := hid he
        go_wp2_with fail
        go_ret
        exact ⟨by rw [hfin.out]; rfl, hd⟩
      · have hno2 := hid (show ∀ l, i < l → l < j + 1 → nth X l ≠ p from fun l h1 h2 => by
          by_cases e : l = j
          · subst e; exact he
          · exact hno.out l h1 (by omega))
        have hb : (nth X j != p) = true := by simpa using he
        replace he := hid he
        go_wp2_with fail
        go_roundw
        case rel => exact ⟨j + 1, by omega, by omega, by go_num, hno2.out, hd⟩
        case measure => simp [intOf]; omega
    · have hjl : j = X.length := by omega
      have hfin := hid (show useL X i p = j by
        rw [hjl]
        exact useL_none hi (fun l h1 h2 => hno.out l h1 (by omega)))
      have hg : decide (j < X.length) = false := decide_eq_false hlt
      replace hjl := hid hjl
      go_wp2_with fail
      go_ret
      exact ⟨by rw [hfin.out]; rfl, hd⟩

/-- the first t intervals -/
def ivL (X : List Int) (t : Nat) : List (List Int) := (List.range t).map fun i : Nat => [(i : Int), nxU X i]
theorem ivL_len (X : List Int) (t : Nat) : (ivL X t).length = t := by simp [ivL]
theorem ivL_succ (X : List Int) (t : Nat) : ivL X (t + 1) = ivL X t ++ [[(t : Int), nxU X t]] := by simp [ivL, List.range_succ]
theorem ivL_two {X : List Int} {t : Nat} : ∀ x ∈ ivL X t, x.length = 2 := by
  intro x hx
  obtain ⟨i, _, rfl⟩ := List.mem_map.1 hx
  rfl
theorem ivL_at {X : List Int} {t i : Nat} (h : i < t) : cell (ivL X t) i 0 = i ∧ cell (ivL X t) i 1 = nxU X i := by
  simp [cell, ivL, row, nth, h]

set_option maxHeartbeats 800000 in
set_option maxRecDepth 100000 in
theorem l5Intervals_any {v : Value} {X : List Int} {w0 w : World} [Ext w0 w] (hX : IsInts w0 v X) (hl : X.length ≤ 1000) :
    Calls Try.prog 47 #[v] w fun e w' => ∃ d m, e = .returned (.slice d X.length m) ∧ IsFlat w' (.slice d X.length m) 2 (ivL X X.length) ∧ Ext w w' := by
  have hX' := hX
  obtain ⟨da, ma, rfl, la⟩ := hX.form
  obtain ⟨B, hB⟩ : ∃ b, b = w.heap.size := ⟨_, rfl⟩
  have hEx := hid (show ∀ u, Below B w u → Ext w u from fun u h => ⟨by rw [← hB]; exact h⟩)
  have hBs := hid (show ∀ u, Below B w u → B ≤ u.heap.size from fun u h => by rw [hB]; exact h.size)
  have own1 : Own (w.alloc (.cells #[] 64)) B [⟨64, 2, .slice (some ⟨B, 0, none⟩) 0 0, 0, (ivL X 0).flatten.map (Value.int .i64)⟩] := by
    rw [hB]
    exact (Own.nil w w.heap.size).lit 64 2 0 #[] (Nat.le_refl _) (by unfold maxLen; omega) rfl
  have b1 : Below B w (w.alloc (.cells #[] 64)) := by rw [hB]; exact (Below.refl _ w).alloc (Nat.le_refl _) _
  go_enter Try.func47, Try.ntmps47
  go_upto_region 2 with fail
  rw [← hB]
  replace hB := hid hB
  generalize w.alloc (.cells #[] 64) = w1 at *
  go_wp2_with fail
  go_loopw [3, 4] (fun u i wr => ∃ t : Nat, t ≤ X.length ∧ i = .int .i64 t ∧ Own wr B [⟨64, 2, u, t, (ivL X t).flatten.map (Value.int .i64)⟩] ∧ Below B w wr) (fun _ i _ => X.length - (intOf i).toNat)
  case atStart => exact ⟨0, by omega, rfl, own1, b1⟩
  case round =>
    clear own1 b1
    obtain ⟨t, ht, rfl, own, hb⟩ := hrel
    obtain ⟨wo, rfl⟩ : ∃ y : World, y = wr := ⟨_, rfl⟩
    obtain ⟨dO, mO, hvO⟩ := own.form
    simp only at hvO
    subst hvO
    have eo : Ext w wo := hEx.out _ hb
    have e0 : Ext w0 wo := Ext.trans ‹Ext w0 w› eo
    by_cases hlt : t < X.length
    · obtain ⟨ba, oa, hda, hca⟩ := hX'.at (w' := wo) hlt
      cases hda
      have hu : useL X t (nth X t) ≤ X.length := by
        rcases useL_spec (p := nth X t) hlt with h | h <;> omega
      have hsn := hid (ivL_succ X t)
      obtain ⟨x, hx⟩ : ∃ x, x = nth X t := ⟨_, rfl⟩
      have hxi : I64 x := by rw [hx]; exact hX'.i64 hlt
      rw [← hx] at hca hu
      have hnx := hid (show nxU X t = if useL X t x < X.length then (useL X t x : Int) else -1 by rw [hx]; rfl)
      replace hx := hid hx
      go_wp2_with fail
      with_reducible refine (l5Use_any (w0 := w0) (w := wo) hX' hlt hl).mono ?_
      rintro e w2 ⟨rfl, e2⟩
      have own2 := own.ext (w' := w2)
      have hBo := hBs.out _ hb
      have b2 : Below B w w2 := hb.trans (e2.below.mono hBo)
      have hB2 := hBs.out _ b2
      clear own hb
      obtain ⟨y, hy⟩ : ∃ y, y = useL X t x := ⟨_, rfl⟩
      rw [← hy] at hnx hu ⊢
      replace hy := hid hy
      by_cases hye : y = X.length
      · have hn := hid (show ivL X (t + 1) = ivL X t ++ [[(t : Int), -1]] by rw [hsn.out, hnx.out, if_neg (by omega)])
        subst hye
        go_wp2_with (at_builtin; refine wpList_append1z rfl _ _ _ rfl elemPair rfl own2 hB2 (us := [.int .i64 t, .int .i64 (-1)]) rfl rfl (by intro u hu; simp at hu; rcases hu with rfl | rfl <;> rfl) (by omega) (by omega) ?_; intro v1 w5 ho hb5)
        go_roundw
        case rel => exact ⟨t + 1, by omega, by go_num, by rw [hn.out]; simpa using ho, b2.trans hb5⟩
        case measure => simp [intOf]; omega
      · have hn := hid (show ivL X (t + 1) = ivL X t ++ [[(t : Int), (y : Int)]] by rw [hsn.out, hnx.out, if_pos (by omega)])
        have hne : ((y : Int) == (X.length : Int)) = false := by simp; omega
        have hne2 : (y == X.length) = false := by simpa using hye
        replace hye := hid hye
        go_wp2_with (at_builtin; refine wpList_append1z rfl _ _ _ rfl elemPair rfl own2 hB2 (us := [.int .i64 t, .int .i64 y]) rfl rfl (by intro u hu; simp at hu; rcases hu with rfl | rfl <;> rfl) (by omega) (by omega) ?_; intro v1 w5 ho hb5)
        go_roundw
        case rel => exact ⟨t + 1, by omega, by go_num, by rw [hn.out]; simpa using ho, b2.trans hb5⟩
        case measure => simp [intOf]; omega
    · have htl : t = X.length := by omega
      rw [htl] at own
      have hlen := hid (ivL_len X X.length)
      have hrd : IsFlat wo (.slice dO X.length mO) 2 (ivL X X.length) := by
        have h : Own wo B [flatRowOf 64 2 (.slice dO X.length mO) (ivL X X.length)] := by
          unfold flatRowOf
          rw [hlen.out]
          exact own
        exact h.readsFlat (by rw [hlen.out]; omega) ivL_two (fun x hx y hy => by
          obtain ⟨i, hi, rfl⟩ := List.mem_map.1 hx
          have h1 := List.mem_range.1 hi
          have := nxU_bd h1
          unfold I64
          simp only [List.mem_cons, List.not_mem_nil, or_false] at hy
          omega)
      have htl' := hid htl
      clear htl own
      go_wp2_with fail
      go_ret
      exact ⟨dO, mO, by rw [htl'.out]; rfl, hrd, eo⟩

set_option maxHeartbeats 800000 in
set_option maxRecDepth 100000 in
theorem l5Has_any {v : Value} {X Mk : List Int} {i : Nat} {w0 w : World} [Ext w0 w] (hM : IsInts w0 v Mk) (hl : Mk.length ≤ 1000) :
    Calls Try.prog 48 #[.agg #[.int .i64 i, .int .i64 (nxU X i)], v] w fun e w' => e = .returned (.int .i64 (cntM X Mk i Mk.length)) ∧ Ext w w' := by
  have hM' := hM
  obtain ⟨da, ma, rfl, la⟩ := hM.form
  obtain ⟨nx, hnx⟩ : ∃ y, y = nxU X i := ⟨_, rfl⟩
  have hin := hid (show ∀ j, inIvI X Mk i j = if nth Mk j > (i : Int) ∧ (nx < 0 ∨ nth Mk j < nx) then 1 else 0 from fun j => by
    unfold inIvI inIv; rw [hnx]; simp)
  rw [← hnx]
  replace hnx := hid hnx
  go_enter Try.func48, Try.ntmps48
  go_upto_region 1 with fail
  have e1 : Ext w (w.alloc (.cells #[.int .i64 i, .int .i64 nx] 64)) := inferInstance
  have x0 : (w.alloc (.cells #[.int .i64 i, .int .i64 nx] 64)).cell? ⟨w.heap.size, 0, none⟩ = some (.int .i64 i) := by go_simp
  have x1 : (w.alloc (.cells #[.int .i64 i, .int .i64 nx] 64)).cell? ⟨w.heap.size, 1, none⟩ = some (.int .i64 nx) := by go_simp
  obtain ⟨g, hg⟩ : ∃ y, y = w.heap.size := ⟨_, rfl⟩
  rw [← hg] at x0 x1 ⊢
  replace hg := hid hg
  generalize w.alloc (.cells #[.int .i64 i, .int .i64 nx] 64) = w1 at *
  go_wp2_with fail
  go_loopw [5, 6] (fun c j wr => ∃ t : Nat, t ≤ Mk.length ∧ j = .int .i64 t ∧ c = .int .i64 (cntM X Mk i t) ∧ Ext w1 wr) (fun _ j _ => Mk.length - (intOf j).toNat)
  case atStart => exact ⟨0, by omega, rfl, rfl, Ext.refl _⟩
  case round =>
    obtain ⟨t, ht, rfl, rfl, hd⟩ := hrel
    obtain ⟨wo, rfl⟩ : ∃ y : World, y = wr := ⟨_, rfl⟩
    have ew : Ext w wo := Ext.trans e1 hd
    have e0 : Ext w0 wo := Ext.trans ‹Ext w0 w› ew
    have hcb := cntM_bd X Mk i t
    by_cases hlt : t < Mk.length
    · obtain ⟨ba, oa, hda, hca⟩ := hM'.at (w' := wo) hlt
      cases hda
      have y0 := hd.cell x0
      have y1 := hd.cell x1
      have hi := hin.out t
      have hcs : cntM X Mk i (t + 1) = cntM X Mk i t + inIvI X Mk i t := rfl
      obtain ⟨c, hc⟩ : ∃ c, c = cntM X Mk i t := ⟨_, rfl⟩
      obtain ⟨y, hy⟩ : ∃ y, y = nth Mk t := ⟨_, rfl⟩
      rw [← hc] at hcb hcs ⊢
      rw [← hy] at hca hi
      replace hy := hid hy
      replace hc := hid hc
      by_cases h1 : y > (i : Int)
      · have g1 : decide (y > (i : Int)) = true := decide_eq_true h1
        by_cases h2 : nx < 0
        · have g2 : decide (nx < 0) = true := decide_eq_true h2
          have hcs2 := hid (show cntM X Mk i (t + 1) = c + 1 by rw [hcs, hi, if_pos ⟨h1, .inl h2⟩])
          clear hcs hi
          go_wp2_with (go_quiet (fail))
          go_roundw
          case rel => exact ⟨t + 1, by omega, by go_num, by rw [hcs2.out], Ext.trans hd inferInstance⟩
          case measure => simp [intOf]; omega
        · have g2 : decide (nx < 0) = false := decide_eq_false h2
          by_cases h3 : y < nx
          · have g3 : decide (y < nx) = true := decide_eq_true h3
            have hcs2 := hid (show cntM X Mk i (t + 1) = c + 1 by rw [hcs, hi, if_pos ⟨h1, .inr h3⟩])
            clear hcs hi
            go_wp2_with (go_quiet (fail))
            go_roundw
            case rel => exact ⟨t + 1, by omega, by go_num, by rw [hcs2.out], Ext.trans hd inferInstance⟩
            case measure => simp [intOf]; omega
          · have g3 : decide (y < nx) = false := decide_eq_false h3
            have hcs2 := hid (show cntM X Mk i (t + 1) = c by rw [hcs, hi, if_neg (by omega)]; omega)
            clear hcs hi
            go_wp2_with (go_quiet (fail))
            go_roundw
            case rel => exact ⟨t + 1, by omega, by go_num, by rw [hcs2.out], Ext.trans hd inferInstance⟩
            case measure => simp [intOf]; omega
      · have g1 : decide (y > (i : Int)) = false := decide_eq_false h1
        have hcs2 := hid (show cntM X Mk i (t + 1) = c by rw [hcs, hi, if_neg (by omega)]; omega)
        clear hcs hi
        go_wp2_with (go_quiet (fail))
        go_roundw
        case rel => exact ⟨t + 1, by omega, by go_num, by rw [hcs2.out], Ext.trans hd inferInstance⟩
        case measure => simp [intOf]; omega
    · have htl : t = Mk.length := by omega
      have hfin := hid (show cntM X Mk i t = cntM X Mk i Mk.length by rw [htl])
      replace htl := hid htl
      go_wp2_with fail
      go_ret
      exact ⟨ret_int hfin.out, ew⟩

/-- what the reference has behind the first t intervals -/
def mbS (k : Int) (X Mk : List Int) (t : Nat) : Int := mbD k (dfN X) X Mk Mk.length - sgTo (cutM X Mk Mk.length) t
theorem mbD_bd {k : Int} (hk : 1 ≤ k ∧ k ≤ 6) {X Mk : List Int} (hl : X.length ≤ 60) : ∀ t : Nat, -6 * (t : Int) ≤ mbD k (dfN X) X Mk t ∧ mbD k (dfN X) X Mk t ≤ 60 + 60 * (t : Int)
  | 0 => by
    have := dfN_bd X X.length
    simp only [mbD, sgTo]
    omega
  | t + 1 => by
    have h1 := mbD_bd hk (X := X) (Mk := Mk) hl t
    have h2 := dfN_bd X (nth Mk t + 1).toNat
    simp only [mbD, sgTo] at h1 ⊢
    omega
theorem sgCut_bd (X Mk : List Int) (t n : Nat) : 0 ≤ sgTo (cutM X Mk t) n ∧ sgTo (cutM X Mk t) n ≤ t * n := by
  have := sgTo_bd (f := cutM X Mk t) (a := 0) (b := t) (n := n) fun i _ => cutM_bd X Mk i t
  omega
theorem mbS_end {k : Int} {X Mk : List Int} (hr : rsg Mk) : mbS k X Mk X.length = mbTo k (dfN X) X Mk Mk.length := (mb_law hr (Nat.le_refl _)).symm

set_option maxHeartbeats 1600000 in
set_option maxRecDepth 100000 in
theorem l5Bound_any {v u : Value} {k : Int} {X Mk : List Int} {w0 w : World} [Ext w0 w] (hX : IsInts w0 v X) (hM : IsInts w0 u Mk) (hl : X.length ≤ 60) (hml : Mk.length ≤ 60) (hk : 1 ≤ k ∧ k ≤ 6) (hm : belowB X.length Mk = true) (hr : rsg Mk) :
    Calls Try.prog 26 #[.int .i64 k, v, u] w fun e w' => e = .returned (.int .i64 (mbTo k (dfN X) X Mk Mk.length)) ∧ Ext w w' := by
  have hX' := hX
  have hM' := hM
  obtain ⟨da, ma, rfl, la⟩ := hX.form
  obtain ⟨dm, mm, rfl, lm⟩ := hM.form
  have hD := hid (dfN_all X)
  have hend := hid (mbS_end (k := k) (X := X) hr)
  replace hr := hid hr
  go_enter Try.func26, Try.ntmps26
  go_wp2_with fail
  with_reducible refine (l3Different_any (w0 := w0) hX' (by omega)).mono ?_
  rintro e w1 ⟨d1, m1, rfl, hr1, e1⟩
  clear hr1
  obtain ⟨D, hDd⟩ : ∃ D, D = (difL X).length := ⟨_, rfl⟩
  have hD2 := hid (show mbD k (dfN X) X Mk 0 = (D : Int) by
    rw [hDd, ← hD.out]
    simp only [mbD, sgTo]
    omega)
  rw [← hDd]
  replace hDd := hid hDd
  go_wp2_with fail
  go_loopw [7, 8] (fun o i wr => ∃ t : Nat, t ≤ Mk.length ∧ i = .int .i64 t ∧ o = .int .i64 (mbD k (dfN X) X Mk t) ∧ Ext w1 wr) (fun _ i _ => Mk.length - (intOf i).toNat)
  case atStart => exact ⟨0, by omega, rfl, by rw [hD2.out], Ext.refl _⟩
  case round =>
    obtain ⟨t, ht, rfl, rfl, hd⟩ := hrel
    obtain ⟨wo, rfl⟩ : ∃ y : World, y = wr := ⟨_, rfl⟩
    have ew : Ext w wo := Ext.trans e1 hd
    have e0 : Ext w0 wo := Ext.trans ‹Ext w0 w› ew
    have hb := mbD_bd hk (X := X) (Mk := Mk) hl t
    by_cases hlt : t < Mk.length
    · obtain ⟨bm, om, hdm, hcm⟩ := hM'.at (w' := wo) hlt
      cases hdm
      have hmk := belowB_at hm hlt
      have hs := hid (show mbD k (dfN X) X Mk (t + 1) = mbD k (dfN X) X Mk t + (dfN X (nth Mk t + 1).toNat - k) by
        simp only [mbD, sgTo]; omega)
      obtain ⟨y, hy⟩ := Int.eq_ofNat_of_zero_le hmk.1
      obtain ⟨O, hO⟩ : ∃ s, s = mbD k (dfN X) X Mk t := ⟨_, rfl⟩
      rw [← hO] at hb ⊢
      rw [hy] at hmk hcm
      have hyX : y < X.length := by omega
      have hs2 := hid (show mbD k (dfN X) X Mk (t + 1) = O + ((difL (X.take (y + 1))).length - k) by
        rw [hs.out, ← hO, hy]
        have : ((y : Int) + 1).toNat = y + 1 := by omega
        rw [this]
        rfl)
      replace hO := hid hO
      replace hy := hid hy
      clear hs
      obtain ⟨ba, oa, rfl, _⟩ := hX'.at (w' := wo) (k := 0) (by omega)
      have hcut := hX'.cut (k := y + 1) (by omega)
      have hcap := hX'.cap
      have hw1 := hid (show IntKind.i64.wrap ((y : Int) + 1) = (y : Int) + 1 from IntWalk.i64_in _ (by omega))
      go_wp2_with fail
      with_reducible refine (l3Different_any (w0 := w0) (w := wo) hcut (by rw [List.length_take]; omega)).mono ?_
      rintro e w2 ⟨d2, m2, rfl, hr2, e2⟩
      clear hr2
      have hG2 := difL_len (X.take (y + 1))
      rw [List.length_take] at hG2
      obtain ⟨G, hG⟩ : ∃ s, s = (difL (X.take (y + 1))).length := ⟨_, rfl⟩
      rw [← hG] at hG2 ⊢
      have hs3 := hid (show mbD k (dfN X) X Mk (t + 1) = O + G - k by rw [hs2.out, hG]; omega)
      replace hG := hid hG
      have hG3 : G ≤ 60 := by omega
      clear hcut hG2
      go_wp2_with fail
      go_roundw
      case rel => exact ⟨t + 1, by omega, by go_num, by rw [hs3.out], Ext.trans hd e2⟩
      case measure => simp [intOf]; omega
    · have htl : t = Mk.length := by omega
      have hz : mbS k X Mk 0 = mbD k (dfN X) X Mk t := by
        rw [mbS, htl]
        simp only [sgTo]
        omega
      rw [← hz] at hb ⊢
      replace htl := hid htl
      replace hz := hid hz
      have hb2 := hid hb
      clear hb
      go_wp2_with fail
      with_reducible refine (l5Intervals_any (w0 := w0) (w := wo) hX' (by omega)).mono ?_
      rintro e w2 ⟨d2, m2, rfl, hF, e2⟩
      have hil := hid (ivL_len X X.length)
      have ew2 : Ext w w2 := Ext.trans ew e2
      go_wp2_with fail
      go_loopw [7, 10] (fun o i wr => ∃ t : Nat, t ≤ X.length ∧ i = .int .i64 t ∧ o = .int .i64 (mbS k X Mk t) ∧ Ext w2 wr) (fun _ i _ => X.length - (intOf i).toNat)
      case atStart => exact ⟨0, by omega, rfl, rfl, Ext.refl _⟩
      case round =>
        obtain ⟨i, hi, rfl, rfl, hy⟩ := hrel
        obtain ⟨wq, rfl⟩ : ∃ y : World, y = wr := ⟨_, rfl⟩
        have ewq : Ext w wq := Ext.trans ew2 hy
        have e0q : Ext w0 wq := Ext.trans ‹Ext w0 w› ewq
        have hbD := mbD_bd hk (X := X) (Mk := Mk) hl Mk.length
        have hsg := sgCut_bd X Mk Mk.length i
        by_cases hli : i < X.length
        · have hi2 : i < (ivL X X.length).length := by rw [hil.out]; exact hli
          obtain ⟨bf, of, hdf, hcf⟩ := hF.at (w' := wq) hi2
          cases hdf
          have c0 := hcf 0 (by omega)
          have c1 := hcf 1 (by omega)
          rw [(ivL_at hli).1, Nat.add_zero] at c0
          rw [(ivL_at hli).2] at c1
          have hcb := cntM_bd X Mk i Mk.length
          have hcut := cutM_bd X Mk i Mk.length
          have hnb := nxU_bd hli
          have hmul : (Mk.length : Int) * i ≤ 60 * 60 := by
            have h1 : (Mk.length : Int) * i ≤ 60 * (i : Int) := Int.mul_le_mul_of_nonneg_right (by omega) (by omega)
            have h2 : (60 : Int) * i ≤ 60 * 60 := by omega
            omega
          have hSb : -10000 ≤ mbS k X Mk i ∧ mbS k X Mk i ≤ 10000 := by unfold mbS; omega
          have hss : mbS k X Mk (i + 1) = mbS k X Mk i - cutM X Mk Mk.length i := by simp only [mbS, sgTo]; omega
          clear hmul hsg hbD hcf
          have hsx : mbS k X Mk (i + 1) = mbS k X Mk i - (if nxU X i ≥ 0 then max (cntM X Mk i Mk.length - 1) 0 else cntM X Mk i Mk.length) := hss
          obtain ⟨O, hO⟩ : ∃ s, s = mbS k X Mk i := ⟨_, rfl⟩
          obtain ⟨nx, hnx⟩ : ∃ s, s = nxU X i := ⟨_, rfl⟩
          rw [← hO] at hSb hsx ⊢
          rw [← hnx] at hnb hsx c1
          have hH := l5Has_any (v := .slice dm Mk.length mm) (X := X) (Mk := Mk) (i := i) (w0 := w0) (w := wq) hM' (by omega)
          rw [← hnx] at hH
          obtain ⟨C, hC⟩ : ∃ s, s = cntM X Mk i Mk.length := ⟨_, rfl⟩
          rw [← hC] at hcb hsx hH
          replace hC := hid hC
          replace hO := hid hO
          replace hnx := hid hnx
          replace hH := hid hH
          clear hss hcut
          by_cases hneg : nx ≥ 0
          · have g1 : decide (nx ≥ 0) = true := decide_eq_true hneg
            rw [if_pos hneg] at hsx
            replace hsx := hid hsx
            go_wp2_with fail
            with_reducible refine hH.out.mono ?_
            rintro e w5 ⟨rfl, e5⟩
            have c1' := e5.cell c1
            have hyq : Ext w2 w5 := Ext.trans hy e5
            go_wp2_with fail
            with_reducible refine (l1Most_any _ _ _).mono ?_
            rintro e w6 ⟨rfl, rfl⟩
            have hYb : 0 ≤ max (C - 1) 0 ∧ max (C - 1) 0 ≤ 60 := by omega
            obtain ⟨Y, hY⟩ : ∃ s, s = max (C - 1) 0 := ⟨_, rfl⟩
            rw [← hY] at hYb ⊢
            have hsy := hid (show mbS k X Mk (i + 1) = O - Y by rw [hsx.out, hY])
            replace hY := hid hY
            go_wp2_with fail
            go_roundw
            case rel => exact ⟨i + 1, by omega, by go_num, by rw [hsy.out], hyq⟩
            case measure => simp [intOf]; omega
          · have g1 : decide (nx ≥ 0) = false := decide_eq_false hneg
            rw [if_neg hneg] at hsx
            replace hsx := hid hsx
            go_wp2_with fail
            with_reducible refine hH.out.mono ?_
            rintro e w5 ⟨rfl, e5⟩
            have c1' := e5.cell c1
            have hyq : Ext w2 w5 := Ext.trans hy e5
            go_wp2_with fail
            go_roundw
            case rel => exact ⟨i + 1, by omega, by go_num, by rw [hsx.out], hyq⟩
            case measure => simp [intOf]; omega
        · have hil2 : i = X.length := by omega
          have hfin := hid (show mbS k X Mk i = mbTo k (dfN X) X Mk Mk.length by rw [hil2]; exact hend.out)
          replace hil2 := hid hil2
          clear hbD hsg
          go_wp2_with fail
          go_ret
          exact ⟨ret_int hfin.out, ewq⟩

set_option maxHeartbeats 800000 in
theorem l5Marks_any {v u : Value} {X Mk : List Int} {w0 w : World} [Ext w0 w] (hX : IsInts w0 v X) (hM : IsInts w0 u Mk) :
    Calls Try.prog 25 #[v, u] w fun e w' => e = .returned (.bool (mrkB X Mk)) ∧ Ext w w' := by
  have hX' := hX
  have hM' := hM
  obtain ⟨da, ma, rfl, la⟩ := hX.form
  obtain ⟨dm, mm, rfl, lm⟩ := hM.form
  go_enter Try.func25, Try.ntmps25
  go_wp2_with fail
  with_reducible refine (l1Rising_any (w0 := w0) hM').mono ?_
  rintro e w1 ⟨rfl, e1⟩
  obtain ⟨b, hb⟩ : ∃ b, b = (belowB (X.length : Int) Mk && rsB Mk) := ⟨_, rfl⟩
  have hm := hid (show mrkB X Mk = b by rw [hb]; rfl)
  rw [← hb]
  replace hb := hid hb
  go_wp2_with fail
  go_ret
  exact ⟨ret_bool hm.out.symm, e1⟩

set_option maxHeartbeats 800000 in
set_option maxRecDepth 100000 in
theorem specMB_any {vX vM : Value} {k n : Int} {X Mk : List Int} {w0 w : World} [Ext w0 w] (_hk : I64 k) (_hn : I64 n) (hX : IsInts w0 vX X) (hM : IsInts w0 vM Mk) :
    Calls Try.prog 6 #[.int .i64 k, .int .i64 n, vX, vM] w fun e w' => e = .returned (.tuple #[.int .i64 (mbR k n X Mk), .bool (mbOk k n X Mk)]) ∧ Ext w w' := by
  cases hp : pagB k n X with
  | false =>
    have hr := hid (show mbOk k n X Mk = false by rw [mbOk, hp]; rfl)
    have hv := hid (show mbR k n X Mk = 0 by rw [mbR, hr.out]; rfl)
    replace hp := hid hp
    go_enter Try.func6, Try.ntmps6
    go_wp2_with fail
    with_reducible refine (l5Takes_any (w0 := w0) hX).mono ?_
    rw [hp.out]
    rintro e w2 ⟨rfl, e2⟩
    go_wp2_with fail
    go_ret2
    rw [hr.out, hv.out]
    exact ⟨rfl, e2⟩
  | true =>
    cases hm : mrkB X Mk with
    | false =>
      have hr := hid (show mbOk k n X Mk = false by rw [mbOk, hp, hm]; rfl)
      have hv := hid (show mbR k n X Mk = 0 by rw [mbR, hr.out]; rfl)
      replace hp := hid hp
      replace hm := hid hm
      go_enter Try.func6, Try.ntmps6
      go_wp2_with fail
      with_reducible refine (l5Takes_any (w0 := w0) hX).mono ?_
      rw [hp.out]
      rintro e w2 ⟨rfl, e2⟩
      have e02 : Ext w0 w2 := Ext.trans ‹Ext w0 w› e2
      go_wp2_with fail
      with_reducible refine (l5Marks_any (w0 := w0) (w := w2) hX hM).mono ?_
      rw [hm.out]
      rintro e w3 ⟨rfl, e3⟩
      go_wp2_with fail
      go_ret2
      rw [hr.out, hv.out]
      exact ⟨rfl, Ext.trans e2 e3⟩
    | true =>
      have hr := hid (show mbOk k n X Mk = true by rw [mbOk, hp, hm]; rfl)
      have hv := hid (show mbR k n X Mk = mbTo k (dfN X) X Mk Mk.length by rw [mbR, hr.out]; rfl)
      obtain ⟨hk2, hn2, hl, _⟩ := pagB_in hp
      have hml := mrk_len hm hl
      have hbl : belowB X.length Mk = true := by simp only [mrkB, Bool.and_eq_true] at hm; exact hm.1
      have hrs : rsg Mk := by simp only [mrkB, Bool.and_eq_true] at hm; exact rsg_iff.2 (rsB_iff.1 hm.2)
      replace hp := hid hp
      replace hm := hid hm
      replace hbl := hid hbl
      replace hrs := hid hrs
      go_enter Try.func6, Try.ntmps6
      go_wp2_with fail
      with_reducible refine (l5Takes_any (w0 := w0) hX).mono ?_
      rw [hp.out]
      rintro e w2 ⟨rfl, e2⟩
      have e02 : Ext w0 w2 := Ext.trans ‹Ext w0 w› e2
      go_wp2_with fail
      with_reducible refine (l5Marks_any (w0 := w0) (w := w2) hX hM).mono ?_
      rw [hm.out]
      rintro e w3 ⟨rfl, e3⟩
      have e03 : Ext w0 w3 := Ext.trans e02 e3
      go_wp2_with fail
      with_reducible refine (l5Bound_any (w0 := w0) (w := w3) hX hM hl hml hk2 hbl.out hrs.out).mono ?_
      rintro e w4 ⟨rfl, e4⟩
      go_wp2_with fail
      go_ret2
      rw [hr.out, hv.out]
      exact ⟨rfl, Ext.trans e2 (Ext.trans e3 e4)⟩
end Go.Proofs.Ytkibmjenjgijmab
