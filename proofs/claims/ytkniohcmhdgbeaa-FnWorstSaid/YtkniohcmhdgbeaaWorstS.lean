/- WorstSequence of the reference. Written by worsts.py. -/
import Derived.Test.YtkniohcmhdgbeaaWorstP
import Derived.Test.YtkniohcmhdgbeaaWorkW
import Derived.Deep.RegionHeld3
import Derived.IntWalk
namespace Go.Proofs.Ytkniohcmhdgbeaa
open Go.RowKit

def wsB (M S N : List (List Int)) (s len : Int) : Bool := startB M S s [] && algB M S N && inB len 0 5
/-- the worst sequence among the first k -/
def wsL (d : Nat → Int) (m len : Nat) : Nat → List Int
  | 0 => []
  | k + 1 => if (worstTo d k).2 < d k then seqOf m len k else wsL d m len k
def wsR (M S N : List (List Int)) (s len : Int) : List Int := if wsB M S N s len = true then wsL (lossK M S N s len.toNat) S.length len.toNat (S.length ^ len.toNat) else []
def wsD (M S N : List (List Int)) (s len : Int) : Int := if wsB M S N s len = true then (worstTo (lossK M S N s len.toNat) (S.length ^ len.toNat)).2 else 0
theorem wsB_start {M S N : List (List Int)} {s len : Int} (h : startB M S s [] = false) : wsB M S N s len = false := by simp [wsB, h]
theorem wsB_alg {M S N : List (List Int)} {s len : Int} (h : algB M S N = false) : wsB M S N s len = false := by simp [wsB, h]
theorem wsB_len {M S N : List (List Int)} {s len : Int} (h : inB len 0 5 = false) : wsB M S N s len = false := by simp [wsB, h]
theorem wsB_true {M S N : List (List Int)} {s len : Int} (h1 : startB M S s [] = true) (h2 : algB M S N = true) (h3 : inB len 0 5 = true) : wsB M S N s len = true := by rw [wsB, h1, h2, h3]; rfl
theorem wsR_false {M S N : List (List Int)} {s len : Int} (h : wsB M S N s len = false) : wsR M S N s len = [] := by simp [wsR, h]
theorem wsD_false {M S N : List (List Int)} {s len : Int} (h : wsB M S N s len = false) : wsD M S N s len = 0 := by simp [wsD, h]
theorem wsR_true {M S N : List (List Int)} {s len : Int} (h : wsB M S N s len = true) : wsR M S N s len = wsL (lossK M S N s len.toNat) S.length len.toNat (S.length ^ len.toNat) := by simp [wsR, h]
theorem wsD_true {M S N : List (List Int)} {s len : Int} (h : wsB M S N s len = true) : wsD M S N s len = (worstTo (lossK M S N s len.toNat) (S.length ^ len.toNat)).2 := by simp [wsD, h]
theorem wsL_length (d : Nat → Int) (m len : Nat) : ∀ k, (wsL d m len k).length ≤ len
  | 0 => by simp [wsL]
  | k + 1 => by
    rw [wsL]
    split
    · rw [seqOf_length]; exact Nat.le_refl _
    · exact wsL_length d m len k
theorem wsR_len {M S N : List (List Int)} {s len : Int} : (wsR M S N s len).length ≤ 4000000 := by
  unfold wsR
  split
  · rename_i h
    have := wsL_length (lossK M S N s len.toNat) S.length len.toNat (S.length ^ len.toNat)
    simp only [wsB, Bool.and_eq_true] at h
    have h3 := inB_true.1 h.2
    omega
  · simp
theorem seqOf_i64 {m len k : Nat} (hm : 0 < m) (h4 : m ≤ 1000) : ∀ x ∈ seqOf m len k, I64 x := by
  intro x hx
  obtain ⟨j, hj, rfl⟩ := mem_iff_nth.1 hx
  rw [seqOf_length] at hj
  have := seqOf_in (m := m) (len := len) (k := k) hm hj
  unfold I64
  omega
theorem start_seq {M S : List (List Int)} {s : Int} (h : startB M S s [] = true) {len k : Nat} (hl : len ≤ 5) : startB M S s (seqOf S.length len k) = true := by
  have hn := probB_len (startB_prob h)
  simp only [startB, Bool.and_eq_true] at h ⊢
  refine ⟨h.1, ?_⟩
  rw [seqB, Bool.and_eq_true]
  refine ⟨decide_eq_true (by rw [seqOf_length]; omega), belowB_of fun j hj => ?_⟩
  rw [seqOf_length] at hj
  have := seqOf_in (m := S.length) (len := len) (k := k) (by omega) hj
  exact inB_true.2 (by omega)
/-- the reference's list when j digits are laid -/
def digL (m len code j : Nat) : List Int := (List.range len).map fun i => if len ≤ i + j then (digP m code (len - 1 - i) : Int) else 0
theorem digL_length (m len code j : Nat) : (digL m len code j).length = len := by simp [digL]
theorem nth_digL {m len code j i : Nat} (h : i < len) : nth (digL m len code j) i = if len ≤ i + j then (digP m code (len - 1 - i) : Int) else 0 := by simp [digL, nth, h]
theorem digL_zero (m len code : Nat) : digL m len code 0 = List.replicate len 0 := by
  refine eq_of_nth (by rw [digL_length, List.length_replicate]) fun i hi => ?_
  rw [digL_length] at hi
  rw [nth_digL hi, if_neg (by omega)]
  simp [nth, hi]
theorem digL_full (m len code : Nat) : digL m len code len = seqOf m len code := by
  refine eq_of_nth (by rw [digL_length, seqOf_length]) fun i hi => ?_
  rw [digL_length] at hi
  rw [nth_digL hi, if_pos (by omega), nth_seqOf hi]
theorem digL_set {m len code j : Nat} (hj : j < len) : ((digL m len code j).map (Value.int .i64)).set (len - 1 - j) (.int .i64 (digP m code j)) = (digL m len code (j + 1)).map (Value.int .i64) := by
  rw [← List.map_set]
  congr 1
  refine eq_of_nth (by rw [List.length_set, digL_length, digL_length]) fun i hi => ?_
  rw [List.length_set, digL_length] at hi
  rw [nth_digL hi]
  by_cases h : i = len - 1 - j
  · subst h
    rw [if_pos (by omega)]
    have : len - 1 - (len - 1 - j) = j := by omega
    rw [this]
    simp [nth, digL_length, hi]
  · have e : nth ((digL m len code j).set (len - 1 - j) (digP m code j : Int)) i = nth (digL m len code j) i := by
      simp [nth, Ne.symm h]
    rw [e, nth_digL hi]
    by_cases h2 : len ≤ i + j
    · rw [if_pos h2, if_pos (by omega)]
    · rw [if_neg h2, if_neg (by omega)]

set_option maxHeartbeats 3200000 in
set_option maxRecDepth 100000 in
theorem specWS_any {v vN : Value} {M S N : List (List Int)} {s q : Int} {w0 w : World} [Ext w0 w] (hp : IsProb w0 v M S) (hN : IsRows w0 vN N) (_hs : I64 s) (_hq : I64 q) :
    Calls Try.prog 9 #[v, vN, .int .i64 s, .int .i64 q] w fun e w' => ∃ d0 m0, e = .returned (.tuple #[.slice d0 (wsR M S N s q).length m0, .int .i64 (wsD M S N s q), .bool (wsB M S N s q)]) ∧ IsInts w' (.slice d0 (wsR M S N s q).length m0) (wsR M S N s q) ∧ Ext w w' := by
  have hp' := hp
  obtain ⟨v1, v2, rfl, hM, hS⟩ := hp
  have hM' := hM
  have hS' := hS
  obtain ⟨a1, c1, rfl, l1⟩ := hM.form
  obtain ⟨a2, c2, rfl, l2⟩ := hS.form
  have hN' := hN
  obtain ⟨aN, cN, rfl, lN⟩ := hN.form
  obtain ⟨w0', hw0'⟩ : ∃ x, x = (w.alloc (.cells #[.slice a1 M.length c1, .slice a2 S.length c2] 26)).alloc (.cells #[] 3) := ⟨_, rfl⟩
  have e00 : Ext w0 w0' := by rw [hw0']; infer_instance
  have e01 : Ext w0' ((w.alloc (.cells #[.slice a1 M.length c1, .slice a2 S.length c2] 26)).alloc (.cells #[] 3)) := by rw [hw0']; infer_instance
  have hpq := hp'.ext (w' := w0')
  have hxq : IsInts w0' (.slice (some ⟨w.heap.size + 1, 0, none⟩) 0 0) [] := isInts_zero _ _ _
  clear hw0'
  cases hB0 : startB M S s [] with
  | false =>
    have hr := hid (wsB_start (N := N) (len := q) hB0)
    have hz := hid (wsR_false hr.out)
    have hy := hid (wsD_false hr.out)
    replace hB0 := hid hB0
    go_enter Try.func9, Try.ntmps9
    go_wp2_with fail
    refine (l8Takes_any (w0 := w0') hpq hxq).mono ?_; rw [hB0.out]; rintro e w1 ⟨rfl, hb1⟩
    have x0 : w1.cell? ⟨w.heap.size, 0, none⟩ = some (.slice a1 M.length c1) := hb1.cell (by go_simp)
    have x1 : w1.cell? ⟨w.heap.size, 1, none⟩ = some (.slice a2 S.length c2) := hb1.cell (by go_simp)
    have e1 : Ext w w1 := Ext.trans inferInstance hb1
    have e0 : Ext w0 w1 := Ext.trans ‹Ext w0 w› e1
    clear hb1
    go_wp2_with fail
    refine bodyPost_ret (v := .tuple #[.slice (some ⟨_, 0, none⟩) 0 0, .int .i64 0, .bool false]) (by simp [results, Try.results9, go_sem]; rfl) rfl ?_
    rw [hz.out, hy.out, hr.out]
    exact ⟨_, _, rfl, isInts_zero _ _ _, Ext.trans e1 inferInstance⟩
  | true =>
    have hC0 := hid hB0
    replace hB0 := hid hB0
    cases hB1 : algB M S N with
    | false =>
      have hr := hid (wsB_alg (s := s) (len := q) hB1)
      have hz := hid (wsR_false hr.out)
      have hy := hid (wsD_false hr.out)
      replace hB1 := hid hB1
      go_enter Try.func9, Try.ntmps9
      go_wp2_with fail
      refine (l8Takes_any (w0 := w0') hpq hxq).mono ?_; rw [hB0.out]; rintro e w1 ⟨rfl, hb1⟩
      have x0 : w1.cell? ⟨w.heap.size, 0, none⟩ = some (.slice a1 M.length c1) := hb1.cell (by go_simp)
      have x1 : w1.cell? ⟨w.heap.size, 1, none⟩ = some (.slice a2 S.length c2) := hb1.cell (by go_simp)
      have e1 : Ext w w1 := Ext.trans inferInstance hb1
      have e0 : Ext w0 w1 := Ext.trans ‹Ext w0 w› e1
      clear hb1
      go_wp2_with fail
      refine (l8Alg_any (w0 := w0) hM' hS' hN' (startB_prob hC0.out)).mono ?_; rw [hB1.out]; rintro e w2 ⟨rfl, hb2⟩
      replace x0 := hb2.cell x0
      replace x1 := hb2.cell x1
      replace e1 : Ext w w2 := Ext.trans e1 hb2
      replace e0 : Ext w0 w2 := Ext.trans ‹Ext w0 w› e1
      clear hb2
      go_wp2_with fail
      refine bodyPost_ret (v := .tuple #[.slice (some ⟨_, 0, none⟩) 0 0, .int .i64 0, .bool false]) (by simp [results, Try.results9, go_sem]; rfl) rfl ?_
      rw [hz.out, hy.out, hr.out]
      exact ⟨_, _, rfl, isInts_zero _ _ _, Ext.trans e1 inferInstance⟩
    | true =>
      have hC1 := hid hB1
      replace hB1 := hid hB1
      cases hB2 : inB q 0 5 with
      | false =>
        have hr := hid (wsB_len (M := M) (S := S) (N := N) (s := s) hB2)
        have hz := hid (wsR_false hr.out)
        have hy := hid (wsD_false hr.out)
        replace hB2 := hid hB2
        go_enter Try.func9, Try.ntmps9
        go_wp2_with fail
        refine (l8Takes_any (w0 := w0') hpq hxq).mono ?_; rw [hB0.out]; rintro e w1 ⟨rfl, hb1⟩
        have x0 : w1.cell? ⟨w.heap.size, 0, none⟩ = some (.slice a1 M.length c1) := hb1.cell (by go_simp)
        have x1 : w1.cell? ⟨w.heap.size, 1, none⟩ = some (.slice a2 S.length c2) := hb1.cell (by go_simp)
        have e1 : Ext w w1 := Ext.trans inferInstance hb1
        have e0 : Ext w0 w1 := Ext.trans ‹Ext w0 w› e1
        clear hb1
        go_wp2_with fail
        refine (l8Alg_any (w0 := w0) hM' hS' hN' (startB_prob hC0.out)).mono ?_; rw [hB1.out]; rintro e w2 ⟨rfl, hb2⟩
        replace x0 := hb2.cell x0
        replace x1 := hb2.cell x1
        replace e1 : Ext w w2 := Ext.trans e1 hb2
        replace e0 : Ext w0 w2 := Ext.trans ‹Ext w0 w› e1
        clear hb2
        go_wp2_with fail
        refine (l1In_any _ _ _ _).mono ?_; rw [hB2.out]; rintro e w3 ⟨rfl, rfl⟩
        go_wp2_with fail
        refine bodyPost_ret (v := .tuple #[.slice (some ⟨_, 0, none⟩) 0 0, .int .i64 0, .bool false]) (by simp [results, Try.results9, go_sem]; rfl) rfl ?_
        rw [hz.out, hy.out, hr.out]
        exact ⟨_, _, rfl, isInts_zero _ _ _, Ext.trans e1 inferInstance⟩
      | true =>
        have hC2 := hid hB2
        replace hB2 := hid hB2
        have hok := hid (wsB_true hC0.out hC1.out hC2.out)
        have hvR := hid (wsR_true hok.out)
        have hvD := hid (wsD_true hok.out)
        have hq := inB_true.1 hC2.out
        obtain ⟨len, hl'⟩ := Int.eq_ofNat_of_zero_le hq.1
        subst hl'
        rw [Int.toNat_natCast] at hvR hvD
        have hlen5 : len ≤ 5 := by omega
        clear hq
        have hn := hid (probB_len (startB_prob hC0.out))
        obtain ⟨d, hd⟩ : ∃ d, d = lossK M S N s len := ⟨_, rfl⟩
        rw [← hd] at hvR hvD
        replace hd := hid hd
        go_enter Try.func9, Try.ntmps9
        go_wp2_with fail
        refine (l8Takes_any (w0 := w0') hpq hxq).mono ?_; rw [hB0.out]; rintro e w1 ⟨rfl, hb1⟩
        have x0 : w1.cell? ⟨w.heap.size, 0, none⟩ = some (.slice a1 M.length c1) := hb1.cell (by go_simp)
        have x1 : w1.cell? ⟨w.heap.size, 1, none⟩ = some (.slice a2 S.length c2) := hb1.cell (by go_simp)
        have e1 : Ext w w1 := Ext.trans inferInstance hb1
        have e0 : Ext w0 w1 := Ext.trans ‹Ext w0 w› e1
        clear hb1
        go_wp2_with fail
        refine (l8Alg_any (w0 := w0) hM' hS' hN' (startB_prob hC0.out)).mono ?_; rw [hB1.out]; rintro e w2 ⟨rfl, hb2⟩
        replace x0 := hb2.cell x0
        replace x1 := hb2.cell x1
        replace e1 : Ext w w2 := Ext.trans e1 hb2
        replace e0 : Ext w0 w2 := Ext.trans ‹Ext w0 w› e1
        clear hb2
        go_wp2_with fail
        refine (l1In_any _ _ _ _).mono ?_; rw [hB2.out]; rintro e w3 ⟨rfl, rfl⟩
        go_upto_region 5 with fail
        go_loopw [12, 13] (fun p i wi => ∃ j : Nat, j ≤ len ∧ i = .int .i64 j ∧ p = .int .i64 ((S.length ^ j : Nat) : Int) ∧ Drew w2 wi) (fun _ i _ => len - (intOf i).toNat)
        case atStart => exact ⟨0, by omega, rfl, rfl, Drew.refl _⟩
        case round =>
          obtain ⟨j, hj, rfl, rfl, hdr⟩ := hrel
          by_cases hltj : j < len
          · have hltj' : (j : Int) < (len : Int) := by omega
            have hpw : S.length ^ j ≤ 4 ^ 5 := Nat.le_trans (Nat.pow_le_pow_left hn.out.2.2.2 j) (Nat.pow_le_pow_right (by omega) (by omega))
            have hmul := Nat.mul_le_mul hpw hn.out.2.2.2
            have hsucc := hid (show ((S.length ^ (j + 1) : Nat) : Int) = ((S.length ^ j : Nat) : Int) * (S.length : Int) by rw [Nat.pow_succ]; exact Int.natCast_mul _ _)
            have hbd := hid (show ((S.length ^ j : Nat) : Int) * (S.length : Int) ≤ 100000 ∧ 0 ≤ ((S.length ^ j : Nat) : Int) * (S.length : Int) by
              rw [← Int.natCast_mul]; omega)
            clear hmul
            generalize S.length ^ j = pw at *
            go_wp2
            go_roundw
            case rel => exact ⟨j + 1, by omega, by go_num, by rw [hsucc.out]; exact congrArg (Value.int .i64) (IntWalk.wrap64_in _ (by have := hbd.out; omega)), hdr⟩
            case measure => simp [intOf]; omega
          · have hjl : len = j := by omega
            subst hjl
            obtain ⟨wa, rfl⟩ : ∃ x : World, x = wr := ⟨_, rfl⟩
            have ea : Ext w wa := Ext.trans e1 hdr.ext
            have k0 := hdr.ext.cell x0
            have k1 := hdr.ext.cell x1
            obtain ⟨all, hall⟩ : ∃ all, all = S.length ^ len := ⟨_, rfl⟩
            rw [← hall] at hvR hvD ⊢
            have hall4 : all ≤ 4 ^ 5 := by rw [hall]; exact Nat.le_trans (Nat.pow_le_pow_left hn.out.2.2.2 _) (Nat.pow_le_pow_right (by omega) hlen5)
            replace hall := hid hall
            go_upto_region 10 with fail
            have eb0 : Ext wa (wa.alloc (.cells #[] 3)) := inferInstance
            generalize wa.alloc (.cells #[] 3) = wb at *
            go_loopw [14, 15, 16] (fun bv p i wi => ∃ k : Nat, ∃ bd bm, k ≤ all ∧ i = .int .i64 k ∧ p = .int .i64 (worstTo d k).2 ∧ bv = .slice bd (wsL d S.length len k).length bm ∧ IsInts wi (.slice bd (wsL d S.length len k).length bm) (wsL d S.length len k) ∧ Ext wb wi) (fun _ _ i _ => all - (intOf i).toNat)
            case atStart => exact ⟨0, _, _, by omega, rfl, rfl, rfl, isInts_zero _ _ _, Ext.refl _⟩
            case round =>
              obtain ⟨k, bd, bm, hk, rfl, rfl, rfl, hbest, heb⟩ := hrel
              obtain ⟨wo, rfl⟩ : ∃ x : World, x = wr := ⟨_, rfl⟩
              have eo : Ext w wo := Ext.trans (Ext.trans ea eb0) heb
              have y0 := heb.cell (eb0.cell k0)
              have y1 := heb.cell (eb0.cell k1)
              by_cases hlt : k < all
              · have hwsucc := hid (show worstTo d (k + 1) = if (worstTo d k).2 < d k then (k, d k) else worstTo d k from rfl)
                have hlsucc := hid (show wsL d S.length len (k + 1) = if (worstTo d k).2 < d k then seqOf S.length len k else wsL d S.length len k from rfl)
                generalize hmst : (worstTo d k).2 = mst at *
                replace hmst := hid hmst
                generalize hbl : wsL d S.length len k = bl at *
                replace hbl := hid hbl
                have eom : Ext wo (wo.alloc (.cells (Array.replicate len (.int .i64 0)) 3)) := inferInstance
                go_upto_region 14 with (at_make; refine wpList_makeOwn rfl _ _ _ rfl elemInt len rfl rfl (by omega) (by omega) rfl ?_; intro hown)
                generalize wo.alloc (.cells (Array.replicate len (.int .i64 0)) 3) = wm at *
                obtain ⟨g, hg⟩ : ∃ g, g = wo.heap.size := ⟨_, rfl⟩
                rw [← hg] at hown ⊢
                have hown0 : Own wm g [⟨3, 1, .slice (some ⟨g, 0, none⟩) len len, len, (digL S.length len k 0).map (Value.int .i64)⟩] := by
                  rw [digL_zero, List.map_replicate]; exact hown
                have hbm : Below g wo wm := hg ▸ eom.below
                replace hg := hid hg
                clear hown
                go_loopw [18, 19] (fun rs i wi => ∃ j : Nat, j ≤ len ∧ i = .int .i64 ((len : Int) - 1 - j) ∧ rs = .int .i64 ((k / S.length ^ j : Nat) : Int) ∧ Own wi g [⟨3, 1, .slice (some ⟨g, 0, none⟩) len len, len, (digL S.length len k j).map (Value.int .i64)⟩] ∧ Below g wo wi) (fun _ i _ => (intOf i + 1).toNat)
                case atStart => exact ⟨0, by omega, by go_num, by rw [Nat.pow_zero, Nat.div_one], hown0, hbm⟩
                case round =>
                  obtain ⟨j, hj, rfl, rfl, hown, hbw⟩ := hrel
                  by_cases hltj : j < len
                  · obtain ⟨pp, hpp⟩ : ∃ pp : Nat, pp = len - 1 - j := ⟨_, rfl⟩
                    have hi : (len : Int) - 1 - j = (pp : Int) := by omega
                    have hpl : pp < len := by omega
                    have hc := hown.cellAt (w' := wr) hpl
                    have hf := hown.frozenAt pp
                    have hset := hid (digL_set (m := S.length) (code := k) hltj)
                    rw [← hpp] at hset
                    have hdig := hid (show digP S.length k j = k / S.length ^ j % S.length from rfl)
                    have hdiv := hid (show k / S.length ^ (j + 1) = k / S.length ^ j / S.length by rw [Nat.pow_succ, Nat.div_div_eq_div_mul])
                    have hrb : k / S.length ^ j ≤ 4 ^ 5 := Nat.le_trans (Nat.div_le_self _ _) (by omega)
                    rw [hi]
                    replace hi := hid hi
                    replace hpp := hid hpp
                    generalize k / S.length ^ j = rs at *
                    have hSn : (0 : Int) < (S.length : Int) := by have := hn.out; omega
                    have hmod := hid (show ((rs : Int) % (S.length : Int)) = ((digP S.length k j : Nat) : Int) by rw [hdig.out]; rfl)
                    obtain ⟨z, hz⟩ : ∃ z : Nat, z = k / S.length ^ (j + 1) := ⟨_, rfl⟩
                    have hdv := hid (show ((rs : Int) / (S.length : Int)) = (z : Int) by rw [hz, hdiv.out]; rfl)
                    have hdb := hid (show z ≤ 4 ^ 5 by rw [hz, hdiv.out]; exact Nat.le_trans (Nat.div_le_self _ _) hrb)
                    replace hz := hid hz
                    go_wp2
                    go_roundw
                    case rel =>
                      refine ⟨j + 1, by omega, by have := hi.out; congr 1; omega, ?_, ?_, hbw.setCell (Nat.le_refl _) _⟩
                      · rw [hdv.out, ← hz.out]; exact congrArg (Value.int .i64) (IntWalk.wrap64_in (z : Int) (by have := hdb.out; omega))
                      · have h := hown.set pp (.int .i64 ((digP S.length k j : Nat) : Int))
                        rw [hset.out] at h
                        rw [hmod.out]
                        exact h
                    case measure => have := hi.out; simp [intOf] <;> omega
                  · have hjl : j = len := by omega
                    rw [hjl, digL_full] at hown
                    replace hjl := hid hjl
                    have ewr : Ext wo wr := ⟨by rw [hg.out] at hbw; exact hbw⟩
                    have e0r : Ext w0 wr := Ext.trans ‹Ext w0 w› (Ext.trans eo ewr)
                    have z0 := ewr.cell y0
                    have z1 := ewr.cell y1
                    have hneg : ¬ 0 ≤ (len : Int) - 1 - j := by have := hjl.out; omega
                    have hown' : Own wr g [intRowOf 3 (.slice (some ⟨g, 0, none⟩) (seqOf S.length len k).length len) (seqOf S.length len k)] := by
                      unfold intRowOf
                      rw [seqOf_length]
                      exact hown
                    have hseq0 := hown'.reads (by rw [seqOf_length]; unfold Short; omega) (seqOf_i64 (by have := hn.out; omega) (by have := hn.out; omega))
                    have hseq : IsInts wr (.slice (some ⟨g, 0, none⟩) len len) (seqOf S.length len k) := by rw [seqOf_length] at hseq0; exact hseq0
                    have hst2 := hid (start_seq hC0.out (k := k) hlen5)
                    have hXl := hid (seqOf_length S.length len k)
                    have hdk0 := hid (show d k = sumA M S N s (seqOf S.length len k) len - optL M S (row M s.toNat) (seqOf S.length len k) by rw [hd.out]; rfl)
                    have hb1 := sumA_le hst2.out hC1.out (k := len) (by rw [seqOf_length]; exact Nat.le_refl _)
                    have hb2 : 0 ≤ optL M S (row M s.toNat) (seqOf S.length len k) ∧ optL M S (row M s.toNat) (seqOf S.length len k) ≤ 10000 := by
                      have hw := start_workL hst2.out
                      obtain ⟨⟨c, hc, e⟩, _⟩ := leastL_min (w := workL M S (row M s.toNat) (seqOf S.length len k)) (by intro e; rw [e] at hw; have h1 := hw.1; have h2 := hn.out; simp at h1; omega)
                      obtain ⟨q, hq, rfl⟩ := mem_iff_nth.1 hc
                      rw [hw.1] at hq
                      have := hw.2 q hq
                      have e' : optL M S (row M s.toNat) (seqOf S.length len k) = nth (workL M S (row M s.toNat) (seqOf S.length len k)) q := e
                      omega
                    have hbest2 := hbest.ext (w' := wr)
                    clear hown hown' hseq0
                    generalize hXX : seqOf S.length len k = X at *
                    replace hXX := hid hXX
                    generalize hsA : sumA M S N s X len = sa at *
                    replace hsA := hid hsA
                    generalize hoL : optL M S (row M s.toNat) X = ol at *
                    replace hoL := hid hoL
                    have hdk := hid (show IntKind.i64.wrap (sa - ol) = d k by rw [hdk0.out]; exact IntWalk.i64_in _ (by omega))
                    generalize hdd : d k = dk at *
                    replace hdd := hid hdd
                    clear hb1 hb2
                    by_cases hgt : mst < dk
                    · have hgt' : decide (mst < dk) = true := by simpa using hgt
                      have hw2 := hid (hwsucc.out.trans (if_pos hgt))
                      have hl2 := hid (hlsucc.out.trans (if_pos hgt))
                      clear hwsucc hlsucc
                      go_upto_region 18 with fail
                      have ed : Ext wr wr.drew := inferInstance
                      refine wp_region_held_drew (S := fun w' => Ext wr w' ∧ w'.cell? ⟨w.heap.size, 0, none⟩ = some (.slice a1 M.length c1) ∧ w'.cell? ⟨w.heap.size, 1, none⟩ = some (.slice a2 S.length c2)) (by kernel_rfl) ⟨ed, ed.cell z0, ed.cell z1⟩ (fun hHeld => ?_)
                      refine wpAnyH_take (i := 0) (v := .agg #[.slice a1 M.length c1, .slice a2 S.length c2]) rfl (by kernel_rfl) (by kernel_rfl) (by kernel_rfl) (fun _ _ _ h => h) (Or.inl ⟨by rfl, by intro wx hx; obtain ⟨_, _, _⟩ := hx; go_simp⟩) (by assumption) ?_
                      try simp only [List.getElem_toArray, List.getElem_cons_zero, Act.put, List.setIfInBounds_toArray, List.set_cons_zero, List.set_cons_succ]
                      refine wpAnyH_take (i := 1) (v := .slice aN N.length cN) rfl (by kernel_rfl) (by kernel_rfl) (by kernel_rfl) (fun _ _ _ h => h) (Or.inl ⟨by rfl, by intro wx hx; go_simp⟩) (by assumption) ?_
                      try simp only [List.getElem_toArray, List.getElem_cons_succ, List.getElem_cons_zero, Act.put, List.setIfInBounds_toArray, List.set_cons_zero, List.set_cons_succ]
                      refine wpAnyH_take (i := 2) (v := .int .i64 s) rfl (by kernel_rfl) (by kernel_rfl) (by kernel_rfl) (fun _ _ _ h => h) (Or.inl ⟨by rfl, by intro wx hx; go_simp⟩) (by assumption) ?_
                      try simp only [List.getElem_toArray, List.getElem_cons_succ, List.getElem_cons_zero, Act.put, List.setIfInBounds_toArray, List.set_cons_zero, List.set_cons_succ]
                      refine wpAnyH_take (i := 3) (v := .slice (some ⟨g, 0, none⟩) len len) rfl (by kernel_rfl) (by kernel_rfl) (by kernel_rfl) (fun _ _ _ h => h) (Or.inl ⟨by rfl, by intro wx hx; go_simp⟩) (by assumption) ?_
                      try simp only [List.getElem_toArray, List.getElem_cons_succ, List.getElem_cons_zero, Act.put, List.setIfInBounds_toArray, List.set_cons_zero, List.set_cons_succ]
                      refine wpAnyH_take (i := 5) (v := .agg #[.slice a1 M.length c1, .slice a2 S.length c2]) rfl (by kernel_rfl) (by kernel_rfl) (by kernel_rfl) (fun _ _ _ h => h) (Or.inl ⟨by rfl, by intro wx hx; obtain ⟨_, _, _⟩ := hx; go_simp⟩) (by assumption) ?_
                      try simp only [List.getElem_toArray, List.getElem_cons_succ, List.getElem_cons_zero, Act.put, List.setIfInBounds_toArray, List.set_cons_zero, List.set_cons_succ]
                      refine wpAnyH_take (i := 6) (v := .int .i64 s) rfl (by kernel_rfl) (by kernel_rfl) (by kernel_rfl) (fun _ _ _ h => h) (Or.inl ⟨by rfl, by intro wx hx; go_simp⟩) (by assumption) ?_
                      try simp only [List.getElem_toArray, List.getElem_cons_succ, List.getElem_cons_zero, Act.put, List.setIfInBounds_toArray, List.set_cons_zero, List.set_cons_succ]
                      refine wpAnyH_take (i := 7) (v := .slice (some ⟨g, 0, none⟩) len len) rfl (by kernel_rfl) (by kernel_rfl) (by kernel_rfl) (fun _ _ _ h => h) (Or.inl ⟨by rfl, by intro wx hx; go_simp⟩) (by assumption) ?_
                      try simp only [List.getElem_toArray, List.getElem_cons_succ, List.getElem_cons_zero, Act.put, List.setIfInBounds_toArray, List.set_cons_zero, List.set_cons_succ]
                      refine wpAnyH_ready (rs := [4]) (by kernel_rfl) (by simp) ?_
                      refine AllReadyH.cons rfl (fun K hK => ?_) AllReadyH.nil
                      go_simp
                      go_at_call 47
                      refine (l8Cost_any (w0 := wr) (start := s) (X := X) (hM'.ext (w' := wr)) (hS'.ext (w' := wr)) (hN'.ext (w' := wr)) hseq hst2.out hC1.out).mono ?_
                      rw [hXl.out, hsA.out]; rintro e w5 ⟨rfl, hb5⟩
                      go_wp2_with fail
                      have eb5 : Ext wr w5 := Ext.trans ed hb5
                      refine hK.out _ _ ⟨eb5, eb5.cell z0, eb5.cell z1⟩ (fun hHeld5 => ?_)
                      clear hK K hHeld
                      try simp only [List.getElem_toArray, List.getElem_cons_succ, List.getElem_cons_zero, Act.put, List.setIfInBounds_toArray, List.set_cons_zero, List.set_cons_succ]
                      refine wpAnyH_ready (rs := [8]) (by kernel_rfl) (by simp) ?_
                      refine AllReadyH.cons rfl (fun K hK => ?_) AllReadyH.nil
                      go_simp
                      go_at_call 48
                      refine (l8Opt_any (w0 := wr) (start := s) (X := X) (hM'.ext (w' := wr)) (hS'.ext (w' := wr)) hseq hst2.out).mono ?_
                      rw [hoL.out]; rintro e w6 ⟨rfl, hb6⟩
                      go_wp2_with fail
                      have eb6 : Ext wr w6 := Ext.trans eb5 hb6
                      refine hK.out _ _ ⟨eb6, eb6.cell z0, eb6.cell z1⟩ (fun hHeld6 => ?_)
                      clear hK K hHeld5
                      try simp only [List.getElem_toArray, List.getElem_cons_succ, List.getElem_cons_zero, Act.put, List.setIfInBounds_toArray, List.set_cons_zero, List.set_cons_succ]
                      refine wpAnyH_take (i := 9) (v := .int .i64 dk) rfl (by kernel_rfl) (by kernel_rfl) (by kernel_rfl) (fun _ _ _ h => h) (Or.inl ⟨by rfl, by intro wx hx; go_simp; exact hdk.out⟩) (by assumption) ?_
                      try simp only [List.getElem_toArray, List.getElem_cons_succ, List.getElem_cons_zero, Act.put, List.setIfInBounds_toArray, List.set_cons_zero, List.set_cons_succ]
                      refine wpAnyH_take (i := 10) (v := .int .i64 dk) rfl (by kernel_rfl) (by kernel_rfl) (by kernel_rfl) (fun _ _ _ h => h) (Or.inl ⟨by rfl, by intro wx hx; go_simp⟩) (by assumption) ?_
                      try simp only [List.getElem_toArray, List.getElem_cons_succ, List.getElem_cons_zero, Act.put, List.setIfInBounds_toArray, List.set_cons_zero, List.set_cons_succ]
                      refine wpAnyH_done (by kernel_rfl) ?_ _
                      go_wp2_with fail
                      go_roundw
                      case rel => exact ⟨k + 1, some ⟨g, 0, none⟩, len, by omega, by go_num, by rw [hw2.out], by rw [hl2.out, hXl.out], by rw [hl2.out, hXl.out]; exact hseq.ext (w' := w6), Ext.trans heb (Ext.trans ewr eb6)⟩
                      case measure => simp [intOf]; omega
                    · have hgt' : decide (mst < dk) = false := by simpa using hgt
                      have hw2 := hid (hwsucc.out.trans (if_neg hgt))
                      have hl2 := hid (hlsucc.out.trans (if_neg hgt))
                      clear hwsucc hlsucc
                      go_upto_region 18 with fail
                      have ed : Ext wr wr.drew := inferInstance
                      refine wp_region_held_drew (S := fun w' => Ext wr w' ∧ w'.cell? ⟨w.heap.size, 0, none⟩ = some (.slice a1 M.length c1) ∧ w'.cell? ⟨w.heap.size, 1, none⟩ = some (.slice a2 S.length c2)) (by kernel_rfl) ⟨ed, ed.cell z0, ed.cell z1⟩ (fun hHeld => ?_)
                      refine wpAnyH_take (i := 0) (v := .agg #[.slice a1 M.length c1, .slice a2 S.length c2]) rfl (by kernel_rfl) (by kernel_rfl) (by kernel_rfl) (fun _ _ _ h => h) (Or.inl ⟨by rfl, by intro wx hx; obtain ⟨_, _, _⟩ := hx; go_simp⟩) (by assumption) ?_
                      try simp only [List.getElem_toArray, List.getElem_cons_zero, Act.put, List.setIfInBounds_toArray, List.set_cons_zero, List.set_cons_succ]
                      refine wpAnyH_take (i := 1) (v := .slice aN N.length cN) rfl (by kernel_rfl) (by kernel_rfl) (by kernel_rfl) (fun _ _ _ h => h) (Or.inl ⟨by rfl, by intro wx hx; go_simp⟩) (by assumption) ?_
                      try simp only [List.getElem_toArray, List.getElem_cons_succ, List.getElem_cons_zero, Act.put, List.setIfInBounds_toArray, List.set_cons_zero, List.set_cons_succ]
                      refine wpAnyH_take (i := 2) (v := .int .i64 s) rfl (by kernel_rfl) (by kernel_rfl) (by kernel_rfl) (fun _ _ _ h => h) (Or.inl ⟨by rfl, by intro wx hx; go_simp⟩) (by assumption) ?_
                      try simp only [List.getElem_toArray, List.getElem_cons_succ, List.getElem_cons_zero, Act.put, List.setIfInBounds_toArray, List.set_cons_zero, List.set_cons_succ]
                      refine wpAnyH_take (i := 3) (v := .slice (some ⟨g, 0, none⟩) len len) rfl (by kernel_rfl) (by kernel_rfl) (by kernel_rfl) (fun _ _ _ h => h) (Or.inl ⟨by rfl, by intro wx hx; go_simp⟩) (by assumption) ?_
                      try simp only [List.getElem_toArray, List.getElem_cons_succ, List.getElem_cons_zero, Act.put, List.setIfInBounds_toArray, List.set_cons_zero, List.set_cons_succ]
                      refine wpAnyH_take (i := 5) (v := .agg #[.slice a1 M.length c1, .slice a2 S.length c2]) rfl (by kernel_rfl) (by kernel_rfl) (by kernel_rfl) (fun _ _ _ h => h) (Or.inl ⟨by rfl, by intro wx hx; obtain ⟨_, _, _⟩ := hx; go_simp⟩) (by assumption) ?_
                      try simp only [List.getElem_toArray, List.getElem_cons_succ, List.getElem_cons_zero, Act.put, List.setIfInBounds_toArray, List.set_cons_zero, List.set_cons_succ]
                      refine wpAnyH_take (i := 6) (v := .int .i64 s) rfl (by kernel_rfl) (by kernel_rfl) (by kernel_rfl) (fun _ _ _ h => h) (Or.inl ⟨by rfl, by intro wx hx; go_simp⟩) (by assumption) ?_
                      try simp only [List.getElem_toArray, List.getElem_cons_succ, List.getElem_cons_zero, Act.put, List.setIfInBounds_toArray, List.set_cons_zero, List.set_cons_succ]
                      refine wpAnyH_take (i := 7) (v := .slice (some ⟨g, 0, none⟩) len len) rfl (by kernel_rfl) (by kernel_rfl) (by kernel_rfl) (fun _ _ _ h => h) (Or.inl ⟨by rfl, by intro wx hx; go_simp⟩) (by assumption) ?_
                      try simp only [List.getElem_toArray, List.getElem_cons_succ, List.getElem_cons_zero, Act.put, List.setIfInBounds_toArray, List.set_cons_zero, List.set_cons_succ]
                      refine wpAnyH_ready (rs := [4]) (by kernel_rfl) (by simp) ?_
                      refine AllReadyH.cons rfl (fun K hK => ?_) AllReadyH.nil
                      go_simp
                      go_at_call 47
                      refine (l8Cost_any (w0 := wr) (start := s) (X := X) (hM'.ext (w' := wr)) (hS'.ext (w' := wr)) (hN'.ext (w' := wr)) hseq hst2.out hC1.out).mono ?_
                      rw [hXl.out, hsA.out]; rintro e w5 ⟨rfl, hb5⟩
                      go_wp2_with fail
                      have eb5 : Ext wr w5 := Ext.trans ed hb5
                      refine hK.out _ _ ⟨eb5, eb5.cell z0, eb5.cell z1⟩ (fun hHeld5 => ?_)
                      clear hK K hHeld
                      try simp only [List.getElem_toArray, List.getElem_cons_succ, List.getElem_cons_zero, Act.put, List.setIfInBounds_toArray, List.set_cons_zero, List.set_cons_succ]
                      refine wpAnyH_ready (rs := [8]) (by kernel_rfl) (by simp) ?_
                      refine AllReadyH.cons rfl (fun K hK => ?_) AllReadyH.nil
                      go_simp
                      go_at_call 48
                      refine (l8Opt_any (w0 := wr) (start := s) (X := X) (hM'.ext (w' := wr)) (hS'.ext (w' := wr)) hseq hst2.out).mono ?_
                      rw [hoL.out]; rintro e w6 ⟨rfl, hb6⟩
                      go_wp2_with fail
                      have eb6 : Ext wr w6 := Ext.trans eb5 hb6
                      refine hK.out _ _ ⟨eb6, eb6.cell z0, eb6.cell z1⟩ (fun hHeld6 => ?_)
                      clear hK K hHeld5
                      try simp only [List.getElem_toArray, List.getElem_cons_succ, List.getElem_cons_zero, Act.put, List.setIfInBounds_toArray, List.set_cons_zero, List.set_cons_succ]
                      refine wpAnyH_take (i := 9) (v := .int .i64 dk) rfl (by kernel_rfl) (by kernel_rfl) (by kernel_rfl) (fun _ _ _ h => h) (Or.inl ⟨by rfl, by intro wx hx; go_simp; exact hdk.out⟩) (by assumption) ?_
                      try simp only [List.getElem_toArray, List.getElem_cons_succ, List.getElem_cons_zero, Act.put, List.setIfInBounds_toArray, List.set_cons_zero, List.set_cons_succ]
                      refine wpAnyH_take (i := 10) (v := .int .i64 dk) rfl (by kernel_rfl) (by kernel_rfl) (by kernel_rfl) (fun _ _ _ h => h) (Or.inl ⟨by rfl, by intro wx hx; go_simp⟩) (by assumption) ?_
                      try simp only [List.getElem_toArray, List.getElem_cons_succ, List.getElem_cons_zero, Act.put, List.setIfInBounds_toArray, List.set_cons_zero, List.set_cons_succ]
                      refine wpAnyH_done (by kernel_rfl) ?_ _
                      go_wp2_with fail
                      go_roundw
                      case rel => exact ⟨k + 1, bd, bm, by omega, by go_num, by rw [hw2.out, hmst.out], by rw [hl2.out], by rw [hl2.out]; exact hbest2.ext (w' := w6), Ext.trans heb (Ext.trans ewr eb6)⟩
                      case measure => simp [intOf]; omega
              · have hkl : k = all := by omega
                subst hkl
                rw [← hvR.out] at hbest ⊢
                rw [← hvD.out]
                go_wp2_with fail
                refine bodyPost_ret (v := .tuple #[.slice bd (wsR M S N s len).length bm, .int .i64 (wsD M S N s len), .bool true]) (by simp [results, Try.results9, go_sem]) rfl ?_
                rw [hok.out]
                exact ⟨_, _, rfl, hbest, eo⟩

end Go.Proofs.Ytkniohcmhdgbeaa
