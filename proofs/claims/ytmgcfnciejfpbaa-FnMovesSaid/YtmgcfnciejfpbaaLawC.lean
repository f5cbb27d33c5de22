/- eqIntSS -/
import Derived.Test.YtmgcfnciejfpbaaLawB
namespace Go.Proofs.Ytmgcfnciejfpbaa
open Go.RowKit

set_option maxHeartbeats 400000 in
set_option maxRecDepth 100000 in
theorem eqIntSS_any {v1 v2 : Value} {xs ys : List (List Int)} {w0 w : World} [Ext w0 w] (hx : IsRows w0 v1 xs) (hy : IsRows w0 v2 ys) :
    Calls Try.prog 46 #[v1, v2] w fun e w' => e = .returned (.bool (eqR xs ys)) ∧ Drew w w' := by
  obtain ⟨a, ca, rfl, la⟩ := hx.form
  obtain ⟨b, cb, rfl, lb⟩ := hy.form
  by_cases hn : xs.length = ys.length
  · have hne : ((xs.length : Int) != ys.length) = false := by simp [hn]
    replace hn := hid hn
    go_enter Try.func46, Try.ntmps46
    go_wp2
    go_loopw [5] (fun i wr => ∃ k : Nat, k ≤ xs.length ∧ i = .int .i64 k ∧ Hid (∀ j, j < k → row xs j = row ys j) ∧ Drew w wr) (fun i _ => xs.length - (intOf i).toNat)
    case atStart => exact ⟨0, by omega, rfl, by intro j hj; omega, Drew.refl _⟩
    case round =>
      obtain ⟨k, hk, rfl, heq, hd⟩ := hrel
      by_cases hlt : k < xs.length
      · have e0 : Ext w0 wr := Ext.trans ‹Ext w0 w› hd.ext
        obtain ⟨b1, o1, d1, m1, rfl, hc1, hr1, _⟩ := hx.at (w' := wr) hlt
        obtain ⟨b2, o2, d2, m2, rfl, hc2, hr2, _⟩ := hy.at (w' := wr) (k := k) (by have := hn.out; omega)
        have hlt2 : k < ys.length := by have := hn.out; omega
        by_cases he : row xs k = row ys k
        · have hE := hid (show eqL (row xs k) (row ys k) = true from eqL_iff.2 he)
          replace he := hid he
          have hE2 : ∀ n, Calls Try.prog 11 #[.slice d1 (row xs k).length m1, .slice d2 (row ys k).length m2] (wr.drewN n) fun e w' => e = .returned (.bool true) ∧ ∃ m, w' = wr.drewN m := fun n => Calls.quiet_of (hE.out ▸ eqIntS_any (w0 := w0) hr1 hr2)
          go_wp2_with (go_quiet ((go_at_call 11; exact hE2 _)))
          go_roundw
          case rel =>
            refine ⟨k + 1, by omega, by go_num, ?_, hd.step _⟩
            intro j hj
            by_cases hjk : j = k
            · subst hjk; exact he.out
            · exact heq.out j (by omega)
          case measure => simp [intOf]; omega
        · have hE := hid (show eqL (row xs k) (row ys k) = false by rw [Bool.eq_false_iff]; intro h; exact he (eqL_iff.1 h))
          replace he := hid he
          have hE2 : ∀ n, Calls Try.prog 11 #[.slice d1 (row xs k).length m1, .slice d2 (row ys k).length m2] (wr.drewN n) fun e w' => e = .returned (.bool false) ∧ ∃ m, w' = wr.drewN m := fun n => Calls.quiet_of (hE.out ▸ eqIntS_any (w0 := w0) hr1 hr2)
          go_wp2_with (go_quiet ((go_at_call 11; exact hE2 _)))
          go_ret
          refine ⟨ret_bool ?_, hd.step _⟩
          symm
          rw [Bool.eq_false_iff]
          intro h'
          rw [eqR_iff] at h'
          subst h'
          exact he.out rfl
      · go_wp2
        go_ret
        refine ⟨ret_bool ?_, hd⟩
        symm
        rw [eqR_iff]
        have : k = xs.length := by omega
        subst this
        exact eq_of_row hn.out heq.out
  · have hne : ((xs.length : Int) != ys.length) = true := by simp; omega
    replace hn := hid hn
    go_enter Try.func46, Try.ntmps46
    go_wp2
    go_ret
    refine ⟨ret_bool ?_, Drew.refl _⟩
    symm
    rw [Bool.eq_false_iff]
    intro h'
    rw [eqR_iff] at h'
    subst h'
    exact hn.out rfl


/-- what heldIntSS answers -/
def heldR (M : List (List Int)) (k : Int) : Int := if M = markR M k then k + sumLen M else -1

/-- A value that reads as a problem of moves M and serves S. -/
def IsProb (w : World) (v : Value) (M S : List (List Int)) : Prop := ∃ v1 v2, v = .agg #[v1, v2] ∧ IsRows w v1 M ∧ IsRows w v2 S

theorem IsProb.ext {w w' : World} {v : Value} {M S : List (List Int)} (h : IsProb w v M S) [e : Ext w w'] : IsProb w' v M S := by
  obtain ⟨v1, v2, h0, h1, h2⟩ := h
  exact ⟨v1, v2, h0, h1.ext, h2.ext⟩
theorem Own.prob {w w0 : World} {B e1 e2 : Nat} {u1 u2 v0 : Value} {vs1 vs2 : List Value} {M S : List (List Int)} {R : List Row} (h : Own w B (rowsOf e1 e2 u1 vs1 M ++ (rowsOf e1 e2 u2 vs2 S ++ R))) (h1 : vs1.length = M.length) (h2 : vs2.length = S.length) (hp : IsProb w0 v0 M S) :
    IsProb w (.agg #[u1, u2]) M S := by
  obtain ⟨_, _, _, hM, hS⟩ := hp
  exact ⟨u1, u2, rfl, h.readsAll h1 hM.all.1 hM.all.2.1 hM.all.2.2, h.right.readsAll h2 hS.all.1 hS.all.2.1 hS.all.2.2⟩

theorem Own.prob' {w w0 : World} {B e1 e2 : Nat} {u1 u2 v0 : Value} {vs1 vs2 : List Value} {M S : List (List Int)} (h : Own w B (rowsOf e1 e2 u1 vs1 M ++ rowsOf e1 e2 u2 vs2 S)) (h1 : vs1.length = M.length) (h2 : vs2.length = S.length) (hp : IsProb w0 v0 M S) :
    IsProb w (.agg #[u1, u2]) M S := by
  have h' : Own w B (rowsOf e1 e2 u1 vs1 M ++ (rowsOf e1 e2 u2 vs2 S ++ [])) := by rw [List.append_nil]; exact h
  exact h'.prob h1 h2 hp

theorem perm_a {α : Type} (x : α) (A S R : List α) : (S ++ (x :: (A ++ R))).Perm (x :: (A ++ (S ++ R))) := by
  classical
  refine List.perm_iff_count.2 fun y => ?_
  simp only [List.count_append, List.count_cons]
  omega
theorem perm_b {α : Type} (x : α) (A S R : List α) : (x :: (A ++ (S ++ R))).Perm (S ++ (x :: (A ++ R))) := (perm_a x A S R).symm

def eqP (M S M' S' : List (List Int)) : Bool := eqR M M' && eqR S S'
theorem eqP_iff {M S M' S' : List (List Int)} : eqP M S M' S' = true ↔ M = M' ∧ S = S' := by simp [eqP, eqR_iff]

end Go.Proofs.Ytmgcfnciejfpbaa
