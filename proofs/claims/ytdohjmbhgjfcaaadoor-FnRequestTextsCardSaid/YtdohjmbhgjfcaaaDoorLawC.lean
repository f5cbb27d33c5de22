/- eqIntSS -/
import Derived.Test.YtdohjmbhgjfcaaaDoorLawB
namespace Go.Proofs.YtdohjmbhgjfcaaaDoor
open Go.RowKit

set_option maxHeartbeats 400000 in
set_option maxRecDepth 100000 in
theorem eqIntSS_any {v1 v2 : Value} {xs ys : List (List Int)} {w0 w : World} [Ext w0 w] (hx : IsRows w0 v1 xs) (hy : IsRows w0 v2 ys) :
    Calls Tryd.prog 87 #[v1, v2] w fun e w' => e = .returned (.bool (eqR xs ys)) ∧ Drew w w' := by
  obtain ⟨a, ca, rfl, la⟩ := hx.form
  obtain ⟨b, cb, rfl, lb⟩ := hy.form
  by_cases hn : xs.length = ys.length
  · have hne : ((xs.length : Int) != ys.length) = false := by simp [hn]
    replace hn := hid hn
    go_enter Tryd.func87, Tryd.ntmps87
    go_wp2
    go_loopw [5] (fun i wr => ∃ k : Nat, k ≤ xs.length ∧ i = .int .i64 k ∧ Hid (∀ j, j < k → row xs j = row ys j) ∧ Drew w wr) (fun i _ => xs.length - (intOf i).toNat)
    case atStart => exact ⟨0, by omega, rfl, by intro j hj; omega, Drew.refl _⟩
    case round =>
      obtain ⟨k, hk, rfl, heq, hd⟩ := hrel
      by_cases hlt : k < xs.length
      · have e0 : Ext w0 wr := Ext.trans ‹Ext w0 w› hd.ext
        obtain ⟨b1, o1, d1, m1, rfl, hc1, hr1, _⟩ := hx.at (w' := wr) hlt
        obtain ⟨b2, o2, d2, m2, rfl, hc2, hr2, _⟩ := hy.at (w' := wr) (k := k) (by have := hn.out; omega)
        have hlt2 : k < ys.length := by have := hn.out; omega
        by_cases he : row xs k = row ys k
        · have hE := hid (show eqL (row xs k) (row ys k) = true from eqL_iff.2 he)
          replace he := hid he
          have hE2 : ∀ n, Calls Tryd.prog 138 #[.slice d1 (row xs k).length m1, .slice d2 (row ys k).length m2] (wr.drewN n) fun e w' => e = .returned (.bool true) ∧ ∃ m, w' = wr.drewN m := fun n => Calls.quiet_of (hE.out ▸ eqIntS_any (w0 := w0) hr1 hr2)
          go_wp2_with (go_quiet ((go_at_call 138; exact hE2 _)))
          go_roundw
          case rel =>
            refine ⟨k + 1, by omega, by go_num, ?_, hd.step _⟩
            intro j hj
            by_cases hjk : j = k
            · subst hjk; exact he.out
            · exact heq.out j (by omega)
          case measure => simp [intOf]; omega
        · have hE := hid (show eqL (row xs k) (row ys k) = false by rw [Bool.eq_false_iff]; intro h; exact he (eqL_iff.1 h))
          replace he := hid he
          have hE2 : ∀ n, Calls Tryd.prog 138 #[.slice d1 (row xs k).length m1, .slice d2 (row ys k).length m2] (wr.drewN n) fun e w' => e = .returned (.bool false) ∧ ∃ m, w' = wr.drewN m := fun n => Calls.quiet_of (hE.out ▸ eqIntS_any (w0 := w0) hr1 hr2)
          go_wp2_with (go_quiet ((go_at_call 138; exact hE2 _)))
          go_ret
          refine ⟨ret_bool ?_, hd.step _⟩
          symm
          rw [Bool.eq_false_iff]
          intro h'
          rw [eqR_iff] at h'
          subst h'
          exact he.out rfl
      · go_wp2
        go_ret
        refine ⟨ret_bool ?_, hd⟩
        symm
        rw [eqR_iff]
        have : k = xs.length := by omega
        subst this
        exact eq_of_row hn.out heq.out
  · have hne : ((xs.length : Int) != ys.length) = true := by simp; omega
    replace hn := hid hn
    go_enter Tryd.func87, Tryd.ntmps87
    go_wp2
    go_ret
    refine ⟨ret_bool ?_, Drew.refl _⟩
    symm
    rw [Bool.eq_false_iff]
    intro h'
    rw [eqR_iff] at h'
    subst h'
    exact hn.out rfl


/-- what heldIntSS answers -/
def heldR (M : List (List Int)) (k : Int) : Int := if M = markR M k then k + sumLen M else -1

/-- A value that reads as a problem of moves M and serves S. -/
def IsProb (w : World) (v : Value) (M S : List (List Int)) : Prop := ∃ v1 v2, v = .agg #[v1, v2] ∧ IsRows w v1 M ∧ IsRows w v2 S

theorem IsProb.ext {w w' : World} {v : Value} {M S : List (List Int)} (h : IsProb w v M S) [e : Ext w w'] : IsProb w' v M S := by
  obtain ⟨v1, v2, h0, h1, h2⟩ := h
  exact ⟨v1, v2, h0, h1.ext, h2.ext⟩
theorem Own.prob {w w0 : World} {B e1 e2 : Nat} {u1 u2 v0 : Value} {vs1 vs2 : List Value} {M S : List (List Int)} {R : List Row} (h : Own w B (rowsOf e1 e2 u1 vs1 M ++ (rowsOf e1 e2 u2 vs2 S ++ R))) (h1 : vs1.length = M.length) (h2 : vs2.length = S.length) (hp : IsProb w0 v0 M S) :
    IsProb w (.agg #[u1, u2]) M S := by
  obtain ⟨_, _, _, hM, hS⟩ := hp
  exact ⟨u1, u2, rfl, h.readsAll h1 hM.all.1 hM.all.2.1 hM.all.2.2, h.right.readsAll h2 hS.all.1 hS.all.2.1 hS.all.2.2⟩

theorem Own.prob' {w w0 : World} {B e1 e2 : Nat} {u1 u2 v0 : Value} {vs1 vs2 : List Value} {M S : List (List Int)} (h : Own w B (rowsOf e1 e2 u1 vs1 M ++ rowsOf e1 e2 u2 vs2 S)) (h1 : vs1.length = M.length) (h2 : vs2.length = S.length) (hp : IsProb w0 v0 M S) :
    IsProb w (.agg #[u1, u2]) M S := by
  have h' : Own w B (rowsOf e1 e2 u1 vs1 M ++ (rowsOf e1 e2 u2 vs2 S ++ [])) := by rw [List.append_nil]; exact h
  exact h'.prob h1 h2 hp

set_option maxHeartbeats 400000 in
theorem szProblem_any {v : Value} {M S : List (List Int)} {left : Int} {w0 w : World} [Ext w0 w] (hp : IsProb w0 v M S) (h0 : 0 ≤ left) (h1 : left ≤ 2000000) :
    Calls Tryd.prog 19 #[v, .int .i64 left] w fun y w' => y = .returned (.int .i64 (leftOf left (M.length + sumLen M + (S.length + sumLen S)))) ∧ Ext w w' := by
  obtain ⟨v1, v2, rfl, hM, hS⟩ := hp
  obtain ⟨a1, c1, rfl, l1⟩ := hM.form
  obtain ⟨a2, c2, rfl, l2⟩ := hS.form
  by_cases h : left - (M.length + sumLen M : Nat) < 0
  · have e1 := hid (show leftOf left (M.length + sumLen M) = -1 by rw [leftOf, if_pos h])
    have e2 := hid (show leftOf left (M.length + sumLen M + (S.length + sumLen S)) = -1 by rw [leftOf, if_pos (by omega)])
    go_enter Tryd.func19, Tryd.ntmps19
    go_wp2_with (go_at_call 77; refine (szIntSS_any (w0 := w0) hM h0 h1).mono ?_; rw [e1.out]; rintro e w' ⟨rfl, rfl⟩)
    go_ret
    exact ⟨ret_int e2.out.symm, inferInstance⟩
  · have e1 := hid (show leftOf left (M.length + sumLen M) = left - (M.length + sumLen M : Nat) by rw [leftOf, if_neg h])
    have h0' : 0 ≤ left - (M.length + sumLen M : Nat) := by omega
    have h1' : left - (M.length + sumLen M : Nat) ≤ 2000000 := by omega
    by_cases g : left - (M.length + sumLen M : Nat) - (S.length + sumLen S : Nat) < 0
    · have e3 := hid (show leftOf (left - (M.length + sumLen M : Nat)) (S.length + sumLen S) = -1 by rw [leftOf, if_pos g])
      have e2 := hid (show leftOf left (M.length + sumLen M + (S.length + sumLen S)) = -1 by rw [leftOf, if_pos (by omega)])
      generalize hr : left - (M.length + sumLen M : Nat) = r at *
      replace hr := hid hr
      go_enter Tryd.func19, Tryd.ntmps19
      go_wp2_with fail
      refine (szIntSS_any (w0 := w0) hM h0 h1).mono ?_
      rw [e1.out]; rintro e w' ⟨rfl, rfl⟩
      go_wp2_with fail
      refine (szIntSS_any (w0 := w0) hS h0' h1').mono ?_
      rw [e3.out]; rintro e w' ⟨rfl, rfl⟩
      go_wp2_with fail
      go_ret
      exact ⟨ret_int e2.out.symm, inferInstance⟩
    · have e3 := hid (show leftOf (left - (M.length + sumLen M : Nat)) (S.length + sumLen S) = left - (M.length + sumLen M : Nat) - (S.length + sumLen S : Nat) by rw [leftOf, if_neg g])
      have e2 := hid (show leftOf left (M.length + sumLen M + (S.length + sumLen S)) = left - (M.length + sumLen M : Nat) - (S.length + sumLen S : Nat) by rw [leftOf, if_neg (by omega)]; omega)
      have h2' : 0 ≤ left - (M.length + sumLen M : Nat) - (S.length + sumLen S : Nat) := by omega
      generalize hr : left - (M.length + sumLen M : Nat) = r at *
      replace hr := hid hr
      generalize hq : r - (S.length + sumLen S : Nat) = q at *
      replace hq := hid hq
      go_enter Tryd.func19, Tryd.ntmps19
      go_wp2_with fail
      refine (szIntSS_any (w0 := w0) hM h0 h1).mono ?_
      rw [e1.out]; rintro e w' ⟨rfl, rfl⟩
      go_wp2_with fail
      refine (szIntSS_any (w0 := w0) hS h0' h1').mono ?_
      rw [e3.out]; rintro e w' ⟨rfl, rfl⟩
      go_wp2_with fail
      go_ret
      exact ⟨ret_int e2.out.symm, inferInstance⟩

set_option maxHeartbeats 800000 in
theorem toProblem_any {v : Value} {M S : List (List Int)} {w0 w : World} [Ext w0 w] (hp : IsProb w0 v M S) :
    Calls Tryd.prog 21 #[v] w fun e w' => ∃ d1 m1 vs1 d2 m2 vs2, e = .returned (.agg #[.slice d1 M.length m1, .slice d2 S.length m2]) ∧ vs1.length = M.length ∧ vs2.length = S.length ∧
      Own w' w.heap.size (rowsOf 41 3 (.slice d1 M.length m1) vs1 M ++ rowsOf 41 3 (.slice d2 S.length m2) vs2 S) ∧ Ext w w' := by
  obtain ⟨v1, v2, rfl, hM, hS⟩ := hp
  obtain ⟨a1, c1, rfl, l1⟩ := hM.form
  obtain ⟨a2, c2, rfl, l2⟩ := hS.form
  go_enter Tryd.func21, Tryd.ntmps21
  go_wp2_with fail
  refine (toIntSS_any (w0 := w0) hM).mono ?_
  rintro e w1 ⟨d1, m1, vs1, rfl, hl1, hown1, hb1⟩
  have c1 : w1.cell? ⟨w.heap.size, 1, none⟩ = some (.slice a2 S.length c2) := hb1.cell (by go_simp)
  have c2 : w1.cell? ⟨w.heap.size + 1, 0, none⟩ = some (.slice none 0 0) := hb1.cell (by go_simp)
  have c3 : w1.cell? ⟨w.heap.size + 1, 1, none⟩ = some (.slice none 0 0) := hb1.cell (by go_simp)
  have c4 : w1.cell? ⟨w.heap.size + 1 + 1, 0, none⟩ = some (.slice none 0 0) := hb1.cell (by go_simp)
  have c5 : w1.cell? ⟨w.heap.size + 1 + 1, 1, none⟩ = some (.slice none 0 0) := hb1.cell (by go_simp)
  have f2 : w1.frozen? ⟨w.heap.size + 1, 0, none⟩ = false := hb1.frozen (v := .slice none 0 0) (by go_simp) (by go_simp)
  have f3 : w1.frozen? ⟨w.heap.size + 1, 1, none⟩ = false := hb1.frozen (v := .slice none 0 0) (by go_simp) (by go_simp)
  have f4 : w1.frozen? ⟨w.heap.size + 1 + 1, 0, none⟩ = false := hb1.frozen (v := .slice none 0 0) (by go_simp) (by go_simp)
  have f5 : w1.frozen? ⟨w.heap.size + 1 + 1, 1, none⟩ = false := hb1.frozen (v := .slice none 0 0) (by go_simp) (by go_simp)
  have hs1 := hb1.size
  simp only [World.size_alloc] at hs1 hown1
  have e1 : Ext w w1 := Ext.trans inferInstance hb1
  have e2 : Ext w (w1.setCell ⟨w.heap.size + 1 + 1, 0, none⟩ (.slice d1 M.length m1)) := Ext.set (by simp; omega) _
  have e3 : Ext w0 (w1.setCell ⟨w.heap.size + 1 + 1, 0, none⟩ (.slice d1 M.length m1)) := Ext.trans ‹Ext w0 w› e2
  go_wp2_with fail
  refine (toIntSS_any (w0 := w0) hS).mono ?_
  rintro e w2 ⟨d2, m2, vs2, rfl, hl2, hown2, hb2⟩
  have g2 : w2.cell? ⟨w.heap.size + 1, 0, none⟩ = some (.slice none 0 0) := hb2.cell (by go_simp)
  have g3 : w2.cell? ⟨w.heap.size + 1, 1, none⟩ = some (.slice none 0 0) := hb2.cell (by go_simp)
  have g4 : w2.cell? ⟨w.heap.size + 1 + 1, 0, none⟩ = some (.slice d1 M.length m1) := hb2.cell (by go_simp)
  have g5 : w2.cell? ⟨w.heap.size + 1 + 1, 1, none⟩ = some (.slice none 0 0) := hb2.cell (by go_simp)
  have k2 : w2.frozen? ⟨w.heap.size + 1, 0, none⟩ = false := hb2.frozen (v := .slice none 0 0) (by go_simp) (by go_simp)
  have k3 : w2.frozen? ⟨w.heap.size + 1, 1, none⟩ = false := hb2.frozen (v := .slice none 0 0) (by go_simp) (by go_simp)
  have k4 : w2.frozen? ⟨w.heap.size + 1 + 1, 0, none⟩ = false := hb2.frozen (v := .slice d1 M.length m1) (by go_simp) (by go_simp)
  have k5 : w2.frozen? ⟨w.heap.size + 1 + 1, 1, none⟩ = false := hb2.frozen (v := .slice none 0 0) (by go_simp) (by go_simp)
  have hs2 := hb2.size
  have hown2' := (hown1.setBelow (p := ⟨w.heap.size + 1 + 1, 0, none⟩) (Nat.lt_succ_self _) (.slice d1 M.length m1)).join hown2 (by simp; omega)
  clear c1 c2 c3 c4 c5 f2 f3 f4 f5
  simp only [World.size_setCell] at hs2
  go_wp2_with fail
  refine bodyPost_ret (v := .agg #[.slice d1 M.length m1, .slice d2 S.length m2]) (by simp [results, Tryd.results21, go_sem, g2, g3]) rfl ⟨d1, m1, vs1, d2, m2, vs2, rfl, hl1, hl2, ?_, ?_⟩
  · exact (((hown2'.setBelow (p := ⟨w.heap.size + 1 + 1, 1, none⟩) (Nat.lt_succ_self _) _).setBelow (p := ⟨w.heap.size + 1, 0, none⟩) (Nat.lt_succ_of_lt (Nat.lt_succ_self _)) _).setBelow (p := ⟨w.heap.size + 1, 1, none⟩) (Nat.lt_succ_of_lt (Nat.lt_succ_self _)) _).swap.mono (by omega)
  · have h : Ext w w2 := Ext.trans e2 hb2
    exact @Ext.set _ _ (@Ext.set _ _ (@Ext.set _ _ h _ (by simp; omega) _) _ (by simp) _) _ (by simp) _

theorem perm_a {α : Type} (x : α) (A S R : List α) : (S ++ (x :: (A ++ R))).Perm (x :: (A ++ (S ++ R))) := by
  classical
  refine List.perm_iff_count.2 fun y => ?_
  simp only [List.count_append, List.count_cons]
  omega
theorem perm_b {α : Type} (x : α) (A S R : List α) : (x :: (A ++ (S ++ R))).Perm (S ++ (x :: (A ++ R))) := (perm_a x A S R).symm

def eqP (M S M' S' : List (List Int)) : Bool := eqR M M' && eqR S S'
theorem eqP_iff {M S M' S' : List (List Int)} : eqP M S M' S' = true ↔ M = M' ∧ S = S' := by simp [eqP, eqR_iff]

set_option maxHeartbeats 400000 in
theorem eqProblem_any {v u : Value} {M S M' S' : List (List Int)} {w0 w : World} [Ext w0 w] (hp : IsProb w0 v M S) (hq : IsProb w0 u M' S') :
    Calls Tryd.prog 23 #[v, u] w fun e w' => e = .returned (.bool (eqP M S M' S')) ∧ Ext w w' := by
  obtain ⟨v1, v2, rfl, hM, hS⟩ := hp
  obtain ⟨u1, u2, rfl, hM', hS'⟩ := hq
  obtain ⟨a1, c1, rfl, l1⟩ := hM.form
  obtain ⟨a2, c2, rfl, l2⟩ := hS.form
  obtain ⟨a3, c3, rfl, l3⟩ := hM'.form
  obtain ⟨a4, c4, rfl, l4⟩ := hS'.form
  cases he : eqR M M' with
  | false =>
    have hf := hid (show eqP M S M' S' = false by simp [eqP, he])
    replace he := hid he
    go_enter Tryd.func23, Tryd.ntmps23
    go_wp2_with (go_at_call 87; refine (eqIntSS_any (w0 := w0) hM hM').mono ?_; rw [he.out]; rintro e w' ⟨rfl, n, rfl⟩)
    go_ret
    exact ⟨ret_bool hf.out.symm, inferInstance⟩
  | true =>
    cases hg : eqR S S' with
    | false =>
      have hf := hid (show eqP M S M' S' = false by simp [eqP, hg])
      replace he := hid he
      replace hg := hid hg
      go_enter Tryd.func23, Tryd.ntmps23
      go_wp2_with fail
      refine (eqIntSS_any (w0 := w0) hM hM').mono ?_
      rw [he.out]; rintro e w' ⟨rfl, n, rfl⟩
      go_wp2_with fail
      refine (eqIntSS_any (w0 := w0) hS hS').mono ?_
      rw [hg.out]; rintro e w' ⟨rfl, n, rfl⟩
      go_wp2_with fail
      go_ret
      exact ⟨ret_bool hf.out.symm, inferInstance⟩
    | true =>
      have hf := hid (show eqP M S M' S' = true by simp [eqP, he, hg])
      replace he := hid he
      replace hg := hid hg
      go_enter Tryd.func23, Tryd.ntmps23
      go_wp2_with fail
      refine (eqIntSS_any (w0 := w0) hM hM').mono ?_
      rw [he.out]; rintro e w' ⟨rfl, n, rfl⟩
      go_wp2_with fail
      refine (eqIntSS_any (w0 := w0) hS hS').mono ?_
      rw [hg.out]; rintro e w' ⟨rfl, n, rfl⟩
      go_wp2_with fail
      go_ret
      exact ⟨ret_bool hf.out.symm, inferInstance⟩

end Go.Proofs.YtdohjmbhgjfcaaaDoor
