/- Draws of work lists. -/
import Derived.Test.YtkibmjenjgijmaaMtW
import Derived.Test.YtkibmjenjgijmaaGrM
namespace Go.Proofs.Ytkibmjenjgijmaa
open Go.RowKit

/-- what such a draw gives: lists of its own that read as a metric and a work list -/
def IWPost (w : World) (e : Ending) (w' : World) : Prop :=
  ∃ d m u M k ws Z, e = .returned (.tuple #[.agg #[.slice d (M : List (List Int)).length m], .int .i64 k, u]) ∧ MOk M ∧ -1 ≤ k ∧ k ≤ 10 ∧ (ws : List Int).length ≤ 300 ∧ Own w' w.heap.size Z ∧ Hid (∀ u' B', Own u' B' Z → IsMet u' (.agg #[.slice d M.length m]) M ∧ IsInts u' u ws) ∧ Ext w w'

set_option maxHeartbeats 1600000 in
set_option maxRecDepth 100000 in
theorem drawIW_any {w0 w : World} [Ext w0 w] {vc : Value} {nb : Nat} (hc : IsBytes w0 vc nb) :
    Calls Try.prog 39 #[vc] w (IWPost w) := by
  obtain ⟨ac, cc, rfl⟩ := hc.form
  go_enter Try.func39, Try.ntmps39
  go_upto_region 2 with fail
  have hsz : w0.heap.size ≤ w.heap.size := (‹Ext w0 w›).size
  have own1 := CurAt.start (vc := .slice ac nb cc) (((Own.nil w w.heap.size).lit 26 1 1 #[.slice none 0 0] (Nat.le_refl _) (by unfold maxLen; omega) rfl)) (by simp)
  have e1 : Ext w ((w.alloc (.cells #[.slice none 0 0] 26)).alloc (.cells #[.slice ac nb cc, .int .i64 0, .int .u64 0] 68)) := inferInstance
  have hcs : (w.alloc (.cells #[.slice none 0 0] 26)).heap.size = w.heap.size + 1 := by simp
  rw [hcs] at own1
  obtain ⟨r, hr⟩ : ∃ r, r = w.heap.size := ⟨_, rfl⟩
  obtain ⟨c, hcd⟩ : ∃ c, c = w.heap.size + 1 := ⟨_, rfl⟩
  obtain ⟨B, hBd⟩ : ∃ B, B = w.heap.size := ⟨_, rfl⟩
  have own1' : CurAt ((w.alloc (.cells #[.slice none 0 0] 26)).alloc (.cells #[.slice ac nb cc, .int .i64 0, .int .u64 0] 68)) B c (.slice ac nb cc) 0 [boxRow 26 1 r [.slice none 0 0]] := by
    rw [hBd, hcd, hr]; exact own1
  have hwB : w0.heap.size ≤ B := by omega
  have b1 : Below B w ((w.alloc (.cells #[.slice none 0 0] 26)).alloc (.cells #[.slice ac nb cc, .int .i64 0, .int .u64 0] 68)) := by rw [hBd]; exact e1.below
  rw [← hcd, ← hr]
  generalize (w.alloc (.cells #[.slice none 0 0] 26)).alloc (.cells #[.slice ac nb cc, .int .i64 0, .int .u64 0] 68) = w1 at *
  replace hr := hid hr
  replace hcd := hid hcd
  replace hBd := hid hBd
  have hE : ∀ u, Below B w u → Ext w0 u := fun u h => ⟨(‹Ext w0 w›).below.trans (h.mono hwB)⟩
  replace hE := hid hE
  clear own1 e1 hcs
  have e1 : Ext w0 w1 := hE.out _ b1
  go_wp2_with fail
  refine (work_any (w0 := w0) hc own1' hwB (by omega) (by omega)).mono ?_
  rintro e w2 ⟨d, m, u, M, k, ws, Z, a2, rfl, hM, hk1, hk2, hwl, h1, h2, own2, hZ, b2⟩
  have b2' := b1.trans b2
  have r0 := own2.at (e := 26) (z := 1) (b := r) (cs := [.slice none 0 0]) (List.mem_append_right _ (.head _)) (j := 0) (by omega)
  have r00 : w2.cell? ⟨r, 0, none⟩ = some (.slice none 0 0) := r0.1
  have r01 := r0.2
  have hset := CurAt.set (A := Z) (L := []) own2 0 (.slice d M.length m)
  have y0 : (w2.setCell ⟨r, 0, none⟩ (.slice d M.length m)).cell? ⟨r, 0, none⟩ = some (.slice d M.length m) := by go_simp
  have hz := hset.1.rows.left
  have b3 := b2'.setCell hset.2 (p := ⟨r, 0, none⟩) (.slice d M.length m)
  clear r0 own1' own2 b1 b2 e1 hset
  go_wp2_with fail
  refine bodyPost_ret (v := .tuple #[.agg #[.slice d M.length m], .int .i64 k, u]) (by simp [results, Try.results39, go_sem, y0]) rfl ?_
  refine ⟨d, m, u, M, k, ws, Z, rfl, hM, hk1, hk2, hwl, by rw [← hBd.out]; exact hz, hZ, ⟨?_⟩⟩
  rw [← hBd.out]
  exact b3
end Go.Proofs.Ytkibmjenjgijmaa
