/- Work functions and least costs walked, the reference's and the program's. -/
import Derived.Test.YtkniohcmhdgbeaaNextI
import Derived.Test.YtkniohcmhdgbeaaAlgS
namespace Go.Proofs.Ytkniohcmhdgbeaa
open Go.RowKit

theorem wOk_i64 {M : List (List Int)} {w : List Int} {B : Int} (h : wOk M w B) (hB : B ≤ 1000000) : ∀ x ∈ w, I64 x := by
  intro x hx
  obtain ⟨k, hk, rfl⟩ := mem_iff_nth.1 hx
  have := h.2 k (by rw [← h.1]; exact hk)
  unfold I64
  omega
theorem start_work {M S : List (List Int)} {s : Int} {X : List Int} (h : startB M S s X = true) {k : Nat} (hk : k ≤ X.length) : wOk M (workTo M S (row M s.toNat) X k) 10000 := by
  have hs := startB_state h
  have hl := startB_len h
  have := workTo_ok (startB_prob h) (row_ok (startB_prob h) (s := s.toNat) (by omega)) (X := X) (fun j hj => by have := startB_req h hj; omega) hk (by omega)
  exact ⟨this.1, fun t ht => by have h2 := this.2 t ht; omega⟩
theorem start_workL {M S : List (List Int)} {s : Int} {X : List Int} (h : startB M S s X = true) : wOk M (workL M S (row M s.toNat) X) 10000 := start_work h (Nat.le_refl _)

set_option maxHeartbeats 1600000 in
set_option maxRecDepth 100000 in
theorem l8Work_any {v1 v2 v3 : Value} {M S : List (List Int)} {start : Int} {X : List Int} {w0 w : World} [Ext w0 w] (hM : IsRows w0 v1 M) (hS : IsRows w0 v2 S) (hx : IsInts w0 v3 X) (hst : startB M S start X = true) :
    Calls Try.prog 57 #[.agg #[v1, v2], .int .i64 start, v3] w fun e w' => ∃ d m, e = .returned (.slice d (workL M S (row M start.toNat) X).length m) ∧ Own w' w.heap.size [intRowOf 3 (.slice d (workL M S (row M start.toNat) X).length m) (workL M S (row M start.toNat) X)] ∧ Ext w w' := by
  have hM' := hM
  have hS' := hS
  obtain ⟨a1, c1, rfl, l1⟩ := hM.form
  obtain ⟨a2, c2, rfl, l2⟩ := hS.form
  obtain ⟨a3, c3, rfl, l3⟩ := hx.form
  have hp := hid (startB_prob hst)
  have hss := startB_state hst
  obtain ⟨s, rfl⟩ := Int.eq_ofNat_of_zero_le hss.1
  have hsM : s < M.length := by omega
  have hn := hid (probB_len hp.out)
  have hsq := hid (probB_sq hp.out hsM)
  have hwk := hid (fun k (hk : k ≤ X.length) => start_work hst hk)
  rw [Int.toNat_natCast] at hwk ⊢
  replace hst := hid hst
  clear hss
  have own0 : Own ((w.alloc (.cells #[.slice a1 M.length c1, .slice a2 S.length c2] 26)).alloc (.cells #[] 3)) (w.heap.size + 1) [⟨3, 1, .slice (some ⟨w.heap.size + 1, 0, none⟩) 0 0, 0, []⟩] :=
    Own.litInts (xs := []) (by simp) (by simp) rfl (by simp) rfl
  have hsz : w.heap.size + 1 ≤ ((w.alloc (.cells #[.slice a1 M.length c1, .slice a2 S.length c2] 26)).alloc (.cells #[] 3)).heap.size := by simp
  obtain ⟨b5, o5, d5, m5, rfl, hc5, hr5, hl5⟩ := hM.at (w' := (w.alloc (.cells #[.slice a1 M.length c1, .slice a2 S.length c2] 26)).alloc (.cells #[] 3)) hsM
  go_enter Try.func57, Try.ntmps57
  go_upto_region 2 with (at_builtin; refine wpList_appendInts rfl _ _ _ rfl elemInt rfl own0 hsz rfl (hr5.ext (w' := (w.alloc (.cells #[.slice (some ⟨b5, o5, none⟩) M.length c1, .slice a2 S.length c2] 26)).alloc (.cells #[] 3))) (by omega) ?_; intro v1 w1 ho hb1)
  rw [Nat.zero_add, List.nil_append] at ho
  have x0 : w1.cell? ⟨w.heap.size, 0, none⟩ = some (.slice (some ⟨b5, o5, none⟩) M.length c1) := (hb1.cell (p := ⟨w.heap.size, 0, none⟩) (by simp)).trans (by go_simp)
  have x1 : w1.cell? ⟨w.heap.size, 1, none⟩ = some (.slice a2 S.length c2) := (hb1.cell (p := ⟨w.heap.size, 1, none⟩) (by simp)).trans (by go_simp)
  have e1 : Ext w w1 := ⟨(((Below.refl w.heap.size w).alloc (Nat.le_refl _) _).alloc (by simp) _).trans (hb1.mono (by omega))⟩
  have hown1 : Own w1 (w.heap.size + 1) [intRowOf 3 v1 (workTo M S (row M s) X 0)] := ho
  clear ho hb1 own0 hsz hc5
  have hsz1 : w.heap.size < w1.heap.size := World.block_lt_of_cell? w1 ⟨w.heap.size, 0, none⟩ x0
  go_wp2
  go_loopw [7, 8] (fun v i wr => ∃ k : Nat, k ≤ X.length ∧ i = .int .i64 k ∧ Own wr w.heap.size [intRowOf 3 v (workTo M S (row M s) X k)] ∧ Ext w1 wr) (fun _ i _ => X.length - (intOf i).toNat)
  case atStart => exact ⟨0, by omega, rfl, hown1.mono (by omega), Ext.refl _⟩
  case round =>
    obtain ⟨k, hk, rfl, hown, hb⟩ := hrel
    obtain ⟨vd, vm, rfl⟩ := hown.formInts
    have y0 := hb.cell x0
    have y1 := hb.cell x1
    have e2 : Ext w wr := Ext.trans e1 hb
    have e0 : Ext w0 wr := Ext.trans ‹Ext w0 w› e2
    by_cases hlt : k < X.length
    · obtain ⟨b3, o3, rfl, hc3⟩ := hx.at (w' := wr) hlt
      have hr := startB_req hst.out hlt
      obtain ⟨r, hr'⟩ := Int.eq_ofNat_of_zero_le hr.1
      have hrS : r < S.length := by have := hr.2; omega
      have hok := hwk.out k (by omega)
      have hsucc := hid (show workTo M S (row M s) X (k + 1) = nextL M S (workTo M S (row M s) X k) r by rw [workTo, hr', Int.toNat_natCast])
      rw [hr'] at hc3
      replace hr' := hid hr'
      clear hr
      have hread := hown.reads (by rw [hok.1]; have := hn.out; unfold Short; omega) (wOk_i64 hok (by omega))
      generalize hg : workTo M S (row M s) X k = ws at *
      replace hg := hid hg
      replace hok := hid hok
      go_upto_region 5 with fail
      go_still_tail 6, (by kernel_rfl)
      change wpList _ _ _ _ _ wr.drew
      go_wp2_with fail
      refine (l8Next_any (w0 := wr.drew) (hM'.ext (w' := wr.drew)) (hS'.ext (w' := wr.drew)) (hread.ext (w' := wr.drew)) hp.out hok.out (by omega) hrS).mono ?_
      rintro e w2 ⟨nd, nm, rfl, own2, hb2⟩
      rw [← hsucc.out] at own2 ⊢
      go_wp2_with fail
      go_roundw
      case rel => exact ⟨k + 1, by omega, by go_num, own2.mono (Ext.trans e2 (Ext.drew wr wr)).size, Ext.trans hb (Ext.trans (Ext.drew wr wr) hb2)⟩
      case measure => simp [intOf]; omega
    · have : k = X.length := by omega
      subst this
      go_wp2
      go_ret
      exact ⟨_, _, rfl, hown, e2⟩

set_option maxHeartbeats 1600000 in
set_option maxRecDepth 100000 in
theorem work_any {v1 v2 v3 : Value} {M S : List (List Int)} {start : Int} {X : List Int} {w0 w : World} [Ext w0 w] (hM : IsRows w0 v1 M) (hS : IsRows w0 v2 S) (hx : IsInts w0 v3 X) (hst : startB M S start X = true) :
    Calls Try.prog 56 #[.agg #[v1, v2], .int .i64 start, v3] w fun e w' => ∃ d m, e = .returned (.slice d (workL M S (row M start.toNat) X).length m) ∧ Own w' w.heap.size [intRowOf 3 (.slice d (workL M S (row M start.toNat) X).length m) (workL M S (row M start.toNat) X)] ∧ Ext w w' := by
  have hM' := hM
  have hS' := hS
  obtain ⟨a1, c1, rfl, l1⟩ := hM.form
  obtain ⟨a2, c2, rfl, l2⟩ := hS.form
  obtain ⟨a3, c3, rfl, l3⟩ := hx.form
  have hp := hid (startB_prob hst)
  have hss := startB_state hst
  obtain ⟨s, rfl⟩ := Int.eq_ofNat_of_zero_le hss.1
  have hsM : s < M.length := by omega
  have hn := hid (probB_len hp.out)
  have hwk := hid (fun k (hk : k ≤ X.length) => start_work hst hk)
  rw [Int.toNat_natCast] at hwk ⊢
  replace hst := hid hst
  clear hss
  obtain ⟨b5, o5, d5, m5, rfl, hc5, hr5, hl5⟩ := hM.at (w' := w.alloc (.cells #[.slice a1 M.length c1, .slice a2 S.length c2] 26)) hsM
  go_enter Try.func56, Try.ntmps56
  go_wp2_with fail
  refine (cloneInts_any (w0 := w0) hr5).mono ?_
  rintro e w1 ⟨cd, cm, rfl, own, hb1⟩
  have x0 : w1.cell? ⟨w.heap.size, 0, none⟩ = some (.slice (some ⟨b5, o5, none⟩) M.length c1) := hb1.cell (by go_simp)
  have x1 : w1.cell? ⟨w.heap.size, 1, none⟩ = some (.slice a2 S.length c2) := hb1.cell (by go_simp)
  have e1 : Ext w w1 := Ext.trans inferInstance hb1
  have hown1 : Own w1 w.heap.size [intRowOf 3 (.slice cd (row M s).length cm) (workTo M S (row M s) X 0)] := own.mono (by simp)
  clear own hb1 hc5
  go_wp2
  go_loopw [7, 18] (fun v i wr => ∃ k : Nat, k ≤ X.length ∧ i = .int .i64 k ∧ Own wr w.heap.size [intRowOf 3 v (workTo M S (row M s) X k)] ∧ Ext w1 wr) (fun _ i _ => X.length - (intOf i).toNat)
  case atStart => exact ⟨0, by omega, rfl, hown1, Ext.refl _⟩
  case round =>
    obtain ⟨k, hk, rfl, hown, hb⟩ := hrel
    obtain ⟨vd, vm, rfl⟩ := hown.formInts
    have y0 := hb.cell x0
    have y1 := hb.cell x1
    have e2 : Ext w wr := Ext.trans e1 hb
    have e0 : Ext w0 wr := Ext.trans ‹Ext w0 w› e2
    by_cases hlt : k < X.length
    · obtain ⟨b3, o3, rfl, hc3⟩ := hx.at (w' := wr) hlt
      have hr := startB_req hst.out hlt
      obtain ⟨r, hr'⟩ := Int.eq_ofNat_of_zero_le hr.1
      have hrS : r < S.length := by have := hr.2; omega
      have hok := hwk.out k (by omega)
      have hsucc := hid (show workTo M S (row M s) X (k + 1) = nextL M S (workTo M S (row M s) X k) r by rw [workTo, hr', Int.toNat_natCast])
      rw [hr'] at hc3
      replace hr' := hid hr'
      clear hr
      have hread := hown.reads (by rw [hok.1]; have := hn.out; unfold Short; omega) (wOk_i64 hok (by omega))
      generalize hg : workTo M S (row M s) X k = ws at *
      replace hg := hid hg
      replace hok := hid hok
      go_wp2_with fail
      refine (nextWork_any (w0 := wr) (hM'.ext (w' := wr)) (hS'.ext (w' := wr)) hread hp.out hok.out (by omega) hrS).mono ?_
      rintro e w2 ⟨nd, nm, rfl, own2, hb2⟩
      rw [← hsucc.out] at own2 ⊢
      go_wp2_with fail
      go_roundw
      case rel => exact ⟨k + 1, by omega, by go_num, own2.mono e2.size, Ext.trans hb hb2⟩
      case measure => simp [intOf]; omega
    · have : k = X.length := by omega
      subst this
      go_wp2
      go_ret
      exact ⟨_, _, rfl, hown, e2⟩

set_option maxHeartbeats 800000 in
set_option maxRecDepth 100000 in
theorem l8Opt_any {v1 v2 v3 : Value} {M S : List (List Int)} {start : Int} {X : List Int} {w0 w : World} [Ext w0 w] (hM : IsRows w0 v1 M) (hS : IsRows w0 v2 S) (hx : IsInts w0 v3 X) (hst : startB M S start X = true) :
    Calls Try.prog 48 #[.agg #[v1, v2], .int .i64 start, v3] w fun e w' => e = .returned (.int .i64 (optL M S (row M start.toNat) X)) ∧ Ext w w' := by
  have hM' := hM
  have hS' := hS
  have hx' := hx
  obtain ⟨a1, c1, rfl, l1⟩ := hM.form
  obtain ⟨a2, c2, rfl, l2⟩ := hS.form
  obtain ⟨a3, c3, rfl, l3⟩ := hx.form
  have hok := hid (start_workL hst)
  have hn := hid (probB_len (startB_prob hst))
  replace hst := hid hst
  go_enter Try.func48, Try.ntmps48
  go_wp2_with fail
  refine (l8Work_any (w0 := w0) hM' hS' hx' hst.out).mono ?_
  rintro e w1 ⟨d, m, rfl, own, hb⟩
  have hread := own.reads (by rw [hok.out.1]; have := hn.out; unfold Short; omega) (wOk_i64 hok.out (by omega))
  go_wp2_with fail
  refine (l8Least_any (w0 := w1) hread (by rw [hok.out.1]; have := hn.out; omega)).mono ?_
  rintro e w2 ⟨rfl, rfl⟩
  go_wp2_with fail
  go_ret
  exact ⟨rfl, Ext.trans inferInstance hb⟩

set_option maxHeartbeats 800000 in
set_option maxRecDepth 100000 in
theorem leastCost_any {v1 v2 v3 : Value} {M S : List (List Int)} {start : Int} {X : List Int} {w0 w : World} [Ext w0 w] (hM : IsRows w0 v1 M) (hS : IsRows w0 v2 S) (hx : IsInts w0 v3 X) (hst : startB M S start X = true) :
    Calls Try.prog 42 #[.agg #[v1, v2], .int .i64 start, v3] w fun e w' => e = .returned (.int .i64 (optL M S (row M start.toNat) X)) ∧ Ext w w' := by
  have hM' := hM
  have hS' := hS
  have hx' := hx
  obtain ⟨a1, c1, rfl, l1⟩ := hM.form
  obtain ⟨a2, c2, rfl, l2⟩ := hS.form
  obtain ⟨a3, c3, rfl, l3⟩ := hx.form
  have hok := hid (start_workL hst)
  have hn := hid (probB_len (startB_prob hst))
  replace hst := hid hst
  go_enter Try.func42, Try.ntmps42
  go_wp2_with fail
  refine (work_any (w0 := w0) hM' hS' hx' hst.out).mono ?_
  rintro e w1 ⟨d, m, rfl, own, hb⟩
  have hread := own.reads (by rw [hok.out.1]; have := hn.out; unfold Short; omega) (wOk_i64 hok.out (by omega))
  go_wp2_with fail
  refine (sMin_any (w0 := w1) hread (by rw [hok.out.1]; have := hn.out; omega)).mono ?_
  rintro e w2 ⟨rfl, rfl⟩
  go_wp2_with fail
  go_ret
  exact ⟨rfl, Ext.trans inferInstance hb⟩

end Go.Proofs.Ytkniohcmhdgbeaa
