/- The place of a configuration among all: the program's search and the reference's. -/
import Derived.Test.YtmgcfnciejfpbaaGreatLex
import Derived.Test.YtmgcfnciejfpbaaGreatOffsW
import Derived.IntWalk
import Derived.Test.YtmgcfnciejfpbaaGreatMatS
namespace Go.Proofs.YtmgcfnciejfpbaaGreat
open Go.RowKit

theorem lex_at {P : List (List Int)} (h : P.Pairwise (fun a b => lexC a b < 0)) {c : List Int} {t q : Nat} (ht : t < P.length) (hc : row P t = c) (hq : q < P.length) : (q < t → lexC (row P q) c < 0) ∧ (¬ q < t → ¬ lexC (row P q) c < 0) ∧ (q = t → lexC (row P q) c = 0) := by
  subst hc
  refine ⟨fun h1 => asc_row h h1 ht, fun h1 h2 => ?_, fun h1 => by rw [h1, lexC_self]⟩
  rcases Nat.eq_or_lt_of_le (Nat.le_of_not_lt h1) with e | e
  · subst e; rw [lexC_self] at h2; omega
  · have := asc_row h e hq
    rw [lexC_anti] at this
    omega

set_option maxHeartbeats 400000 in
theorem index1_any {va vb : Value} {a b : List Int} {w0 w : World} [Ext w0 w] (ha : IsInts w0 va a) (hb : IsInts w0 vb b) :
    Calls Tryz.prog 131 #[va, vb] w fun e w' => e = .returned (.int .i64 (lexC a b)) ∧ w = w' := by
  go_enter Tryz.func131, Tryz.ntmps131
  go_wp2_with fail
  with_reducible refine (sCompare_any (w0 := w0) ha hb).mono ?_
  rintro e w1 ⟨rfl, rfl⟩
  go_wp2_with fail
  go_ret
  exact ⟨rfl, rfl⟩
theorem index1_call (xa : Array Value) (W : World) : (callFunc 131 xa).run Tryz.prog W = .ok (.enter 131 xa) W := by kernel_rfl

set_option maxHeartbeats 800000 in
set_option maxRecDepth 100000 in
theorem binSearch_any {v vc : Value} {P : List (List Int)} {c : List Int} {w0 w : World} [Ext w0 w] (hP : IsRows w0 v P) (hc : IsInts w0 vc c) (hasc : P.Pairwise (fun a b => lexC a b < 0)) (hm : c ∈ P) (hl : P.length ≤ 1000) :
    Calls Tryz.prog 130 #[v, vc, .func (.func 131) #[] #[]] w fun e w' => e = .returned (.tuple #[.int .i64 (atR P c), .bool true]) ∧ w = w' := by
  obtain ⟨aP, cP, rfl, lP⟩ := hP.form
  have hc' := hc
  obtain ⟨dc, mc, rfl, lc⟩ := hc.form
  obtain ⟨ht, hrt⟩ := atR_lt hm
  have hcmp := hid (fun q hq => lex_at hasc ht hrt (q := q) hq)
  obtain ⟨t, htd⟩ : ∃ t, t = atR P c := ⟨_, rfl⟩
  rw [← htd] at ht hcmp ⊢
  replace hrt := hid hrt
  replace htd := hid htd
  have hcall := hid index1_call
  go_enter Tryz.func130, Tryz.ntmps130
  go_wp2
  go_loop [9, 10] (fun i j => ∃ lo hi : Nat, lo ≤ t ∧ t ≤ hi ∧ hi ≤ P.length ∧ i = .int .i64 lo ∧ j = .int .i64 hi) (fun i j => (intOf j).toNat - (intOf i).toNat)
  case atStart => exact ⟨0, P.length, by omega, by omega, by omega, rfl, rfl⟩
  case round =>
    obtain ⟨lo, hi, h1, h2, h3, rfl, rfl⟩ := hrel
    by_cases hlt : lo < hi
    · have hlo : lo ≤ (lo + hi) / 2 := by omega
      have hhi : (lo + hi) / 2 < hi := by omega
      have hhP : (lo + hi) / 2 < P.length := by omega
      obtain ⟨b1, o1, dr, mr, rfl, hcr, hir, hlr⟩ := hP.at (w' := w) hhP
      obtain ⟨hc1, hc2, _⟩ := hcmp.out _ hhP
      obtain ⟨r, hr⟩ : ∃ r, r = row P ((lo + hi) / 2) := ⟨_, rfl⟩
      rw [← hr] at hcr hir hlr hc1 hc2
      replace hr := hid hr
      by_cases hlt2 : (lo + hi) / 2 < t
      · have hd : decide (lexC r c < 0) = true := decide_eq_true (hc1 hlt2)
        have hd2 : lexC r c < 0 := hc1 hlt2
        clear hc1 hc2
        go_wp2_with fail
        with_reducible refine (index1_any (w0 := w0) hir hc').mono ?_
        rintro e w1 ⟨rfl, rfl⟩
        go_wp2_with fail
        go_round
        case rel => exact ⟨(lo + hi) / 2 + 1, hi, by omega, h2, h3, by go_num, rfl⟩
        case measure => simp [intOf]; omega
      · have hd : decide (lexC r c < 0) = false := decide_eq_false (by have := hc2 hlt2; omega)
        have hd2 : ¬ lexC r c < 0 := by have := hc2 hlt2; omega
        clear hc1 hc2
        go_wp2_with fail
        with_reducible refine (index1_any (w0 := w0) hir hc').mono ?_
        rintro e w1 ⟨rfl, rfl⟩
        go_wp2_with fail
        go_round
        case rel => exact ⟨lo, (lo + hi) / 2, h1, by omega, by omega, rfl, by go_num⟩
        case measure => simp [intOf]; omega
    · have e : lo = t := by omega
      subst e
      obtain ⟨b1, o1, dr, mr, rfl, hcr, hir, hlr⟩ := hP.at (w' := w) ht
      obtain ⟨_, _, hc3⟩ := hcmp.out _ ht
      have hz := hid (hc3 rfl)
      obtain ⟨r, hr⟩ : ∃ r, r = row P lo := ⟨_, rfl⟩
      rw [← hr] at hcr hir hlr hz
      replace hr := hid hr
      clear hc3
      go_wp2_with fail
      with_reducible refine (index1_any (w0 := w0) hir hc').mono ?_
      rw [hz.out]
      rintro e w1 ⟨rfl, rfl⟩
      go_wp2_with fail
      go_ret2
      exact ⟨rfl, rfl⟩

/-- the program's configurations and costs: a struct in a block of its own -/
def cosL (M : List (List Int)) (P : List (List Int)) : List (List Int) := P.map fun a => P.map fun b => mvC M a b
/-- the pointer points to the configurations of k servers and their costs -/
def IsWorks (w : World) (v : Value) (M : List (List Int)) (P : List (List Int)) : Prop := ∃ b mv pv cv, v = .pointer (some ⟨b, 0, none⟩) ∧ w.cell? ⟨b, 0, none⟩ = some mv ∧ w.cell? ⟨b, 1, none⟩ = some pv ∧ w.cell? ⟨b, 2, none⟩ = some cv ∧ IsRows w mv M ∧ IsRows w pv P ∧ IsRows w cv (cosL M P)
theorem IsWorks.ext {w w' : World} {v : Value} {M P : List (List Int)} (h : IsWorks w v M P) [e : Ext w w'] : IsWorks w' v M P := by
  obtain ⟨b, mv, pv, cv, h1, h2, h3, h4, h5, h6, h7⟩ := h
  exact ⟨b, mv, pv, cv, h1, e.cell h2, e.cell h3, e.cell h4, h5.ext, h6.ext, h7.ext⟩

set_option maxHeartbeats 800000 in
set_option maxRecDepth 100000 in
theorem index_any {v vc : Value} {M P : List (List Int)} {c : List Int} {w0 w : World} [Ext w0 w] (hW : IsWorks w0 v M P) (hc : IsInts w0 vc c) (hasc : P.Pairwise (fun a b => lexC a b < 0)) (hm : c ∈ P) (hl : P.length ≤ 1000) :
    Calls Tryz.prog 79 #[v, vc] w fun e w' => e = .returned (.int .i64 (atR P c)) ∧ w = w' := by
  obtain ⟨b, mv, pv, cv, rfl, h0, h1, h2, hM, hP, hC⟩ := hW
  have x1 := (‹Ext w0 w›).cell h1
  have hP' := hP
  obtain ⟨aP, cP, rfl, lP⟩ := hP.form
  go_enter Tryz.func79, Tryz.ntmps79
  go_wp2_with fail
  with_reducible refine (binSearch_any (w0 := w0) hP' hc hasc hm hl).mono ?_
  rintro e w1 ⟨rfl, rfl⟩
  go_wp2_with fail
  go_ret
  exact ⟨rfl, rfl⟩

set_option maxHeartbeats 800000 in
set_option maxRecDepth 100000 in
theorem l7Index_any {v vc : Value} {P : List (List Int)} {c : List Int} {w0 w : World} [Ext w0 w] (hP : IsRows w0 v P) (hc : IsInts w0 vc c) (hm : c ∈ P) :
    Calls Tryz.prog 81 #[v, vc] w fun e w' => e = .returned (.int .i64 (atR P c)) ∧ Ext w w' := by
  obtain ⟨aP, cP, rfl, lP⟩ := hP.form
  have hc' := hc
  obtain ⟨dc, mc, rfl, lc⟩ := hc.form
  obtain ⟨ht, hrt⟩ := atR_lt hm
  have hfirst := hid (show ∀ q, q < atR P c → row P q ≠ c from fun q hq e => by
    have h5 := List.not_of_lt_findIdx (p := fun y => y == c) (xs := P) (i := q) hq
    have h6 : P[q]'(by omega) = c := by rw [← row_get (by omega)]; exact e
    rw [h6] at h5
    simp at h5)
  obtain ⟨t, htd⟩ : ∃ t, t = atR P c := ⟨_, rfl⟩
  rw [← htd] at ht hrt hfirst ⊢
  replace hrt := hid hrt
  replace htd := hid htd
  go_enter Tryz.func81, Tryz.ntmps81
  go_wp2
  go_loopw [5] (fun i wr => ∃ q : Nat, q ≤ t ∧ i = .int .i64 q ∧ Ext w wr) (fun i _ => P.length - (intOf i).toNat)
  case atStart => exact ⟨0, by omega, rfl, Ext.refl _⟩
  case round =>
    obtain ⟨q, hq, rfl, hx⟩ := hrel
    have hqP : q < P.length := by omega
    have e0 : Ext w0 wr := Ext.trans ‹Ext w0 w› hx
    obtain ⟨b1, o1, dr, mr, rfl, hcr, hir, hlr⟩ := hP.at (w' := wr) hqP
    by_cases hqt : q = t
    · have hs := hid (show decide (row P q = c) = true by rw [hqt, hrt.out]; simp)
      subst hqt
      go_wp2_with fail
      with_reducible refine (l1Same_any (w0 := w0) hir hc').mono ?_
      rw [hs.out]
      rintro e w1 ⟨rfl, e1⟩
      go_wp2_with fail
      go_ret
      exact ⟨rfl, Ext.trans hx e1⟩
    · have hs := hid (show decide (row P q = c) = false from decide_eq_false (hfirst.out q (by omega)))
      go_wp2_with fail
      with_reducible refine (l1Same_any (w0 := w0) hir hc').mono ?_
      rw [hs.out]
      rintro e w1 ⟨rfl, e1⟩
      go_wp2_with fail
      go_roundw
      case rel => exact ⟨q + 1, by omega, by go_num, Ext.trans hx e1⟩
      case measure => simp [intOf]; omega
end Go.Proofs.YtmgcfnciejfpbaaGreat
