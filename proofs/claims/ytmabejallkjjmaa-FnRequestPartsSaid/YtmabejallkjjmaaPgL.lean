/- The arguments of FnLazyPlans and FnCurve, drawn. -/
import Derived.Test.YtmabejallkjjmaaPgE
namespace Go.Proofs.Ytmabejallkjjmaa
open Go.RowKit

/-- what a draw of a cache, a sequence and a plan gives -/
def PlPost (w : World) (e : Ending) (w' : World) : Prop :=
  ∃ (k n : Int) (v u : Value) (X P : List Int), e = .returned (.tuple #[.int .i64 k, .int .i64 n, v, u]) ∧ (-1 ≤ k ∧ k ≤ 7) ∧ (0 ≤ n ∧ n ≤ 9) ∧ IsInts w' v X ∧ IsInts w' u P ∧ X.length ≤ 100 ∧ P.length ≤ 100 ∧ Ext w w'
def CvPost (w : World) (e : Ending) (w' : World) : Prop :=
  ∃ (n : Int) (v : Value) (X : List Int), e = .returned (.tuple #[.int .i64 n, v]) ∧ (0 ≤ n ∧ n ≤ 9) ∧ IsInts w' v X ∧ X.length ≤ 100 ∧ Ext w w'

set_option maxHeartbeats 1600000 in
set_option maxRecDepth 100000 in
theorem drawCv_any {w0 w : World} [Ext w0 w] {vc : Value} {nb : Nat} (hc : IsBytes w0 vc nb) :
    Calls Try.prog 16 #[vc] w (CvPost w) := by
  obtain ⟨ac, cc, rfl⟩ := hc.form
  have hsz : w0.heap.size ≤ w.heap.size := (‹Ext w0 w›).size
  obtain ⟨B, hB⟩ : ∃ B, B = w.heap.size := ⟨_, rfl⟩
  have own1 : CurAt (w.alloc (.cells #[.slice ac nb cc, .int .i64 0, .int .u64 0] 55)) B B (.slice ac nb cc) 0 [] := by
    rw [hB]
    exact CurAt.start (Own.nil w w.heap.size) (Nat.le_refl _)
  have b1 : Below B w (w.alloc (.cells #[.slice ac nb cc, .int .i64 0, .int .u64 0] 55)) := by rw [hB]; exact (Below.refl _ w).alloc (Nat.le_refl _) _
  have hwB : w0.heap.size ≤ B := by omega
  have hE := hid (show ∀ u, Below B w u → Ext w u from fun u h => ⟨by rw [← hB]; exact h⟩)
  go_enter Try.func16, Try.ntmps16
  go_upto_region 2 with fail
  rw [← hB]
  replace hB := hid hB
  generalize w.alloc (.cells #[.slice ac nb cc, .int .i64 0, .int .u64 0] 55) = w1 at *
  have e1 : Ext w0 w1 := Ext.trans ‹Ext w0 w› (hE.out _ b1)
  go_wp2_with fail
  refine (paging_any (w0 := w0) hc own1 hwB (by omega) (by omega)).mono ?_
  rintro e w2 ⟨k, n, v, X, a2, rfl, hk, hn, hXl, hXb, h2a, h2b, own2, b2⟩
  have b2' := b1.trans b2
  have hX : IsInts w2 v X := (own2.rows).reads (e := 3) (by unfold Short; omega) (fun y hy => by have := hXb y hy; unfold I64; omega)
  go_wp2_with fail
  refine bodyPost_ret (v := .tuple #[.int .i64 n, v]) (by simp [results, Try.results16, go_sem]) rfl ?_
  exact ⟨n, v, X, rfl, hn, hX, hXl, hE.out _ b2'⟩
end Go.Proofs.Ytmabejallkjjmaa
