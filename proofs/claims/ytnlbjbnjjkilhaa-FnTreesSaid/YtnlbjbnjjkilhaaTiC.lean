/- The stable sorting of the edges and the program's spanning tree, walked. -/
import Derived.Test.YtnlbjbnjjkilhaaTiB
namespace Go.Proofs.Ytnlbjbnjjkilhaa
open Go.RowKit

def SrtPost (D : Nat → Nat → Int) (E0 : List (Nat × Nat)) (B g l m : Nat) (w : World) (e : Ending) (w' : World) : Prop :=
  e = .returned (.tuple #[]) ∧ ∃ G, (G.Pairwise fun a b => D a.1 a.2 ≤ D b.1 b.2) ∧ (∀ d : Int, (G.filter fun e => decide (D e.1 e.2 = d)) = E0.filter fun e => decide (D e.1 e.2 = d)) ∧ (∀ e, e ∈ G ↔ e ∈ E0) ∧ G.length = E0.length ∧
    Own w' B [flatRowOf 46 2 (.slice (some ⟨g, 0, none⟩) l m) (edR G)] ∧ Below B w w'
set_option maxHeartbeats 3200000 in
set_option maxRecDepth 100000 in
theorem stable_any {g l m id B : Nat} {caps : Array Value} {D : Nat → Nat → Int} {E0 : List (Nat × Nat)} {w : World} (hl : l = E0.length) (h20 : l < 20)
    (own0 : Own w B [flatRowOf 46 2 (.slice (some ⟨g, 0, none⟩) l m) (edR E0)]) (hB : B ≤ w.heap.size)
    (hcall : ∀ xa W, (callFunc id xa).run Try.prog W = .ok (.enter id xa) W)
    (hf : ∀ W, Below B w W → ∀ u v : Nat × Nat, u ∈ E0 → v ∈ E0 → Calls Try.prog id (#[.agg #[.int .i64 (u.1 : Int), .int .i64 (u.2 : Int)], .agg #[.int .i64 (v.1 : Int), .int .i64 (v.2 : Int)]] ++ caps) W fun e w' => e = .returned (.int .i64 (D u.1 u.2 - D v.1 v.2)) ∧ Ext W w')
    (hE : ∀ e, e ∈ E0 → e.1 < 1000 ∧ e.2 < 1000) :
    Calls Try.prog 81 #[.slice (some ⟨g, 0, none⟩) l m, .int .i64 l, .func (.func id) #[] caps] w (SrtPost D E0 B g l m w) := by
  have hIn := hid (insSort_any hl (by omega) own0 hB hcall hf hE)
  obtain ⟨PO, hPO⟩ : ∃ P, P = SrtPost D E0 B g l m w := ⟨_, rfl⟩
  rw [← hPO]
  replace hPO := hid hPO
  clear hf hE own0 hcall hl
  have hlI : ¬ (20 : Int) ≤ (l : Int) := by omega
  have hlJ : ¬ (20 : Int) < (l : Int) := by omega
  go_enter Try.func81, Try.ntmps81
  go_upto_region 2 with fail
  go_loopw [7, 8] (fun av bv wr => av = .int .i64 0 ∧ bv = .int .i64 20 ∧ wr = w) (fun _ _ _ => 0)
  case atStart => exact ⟨rfl, rfl, rfl⟩
  case round =>
    obtain ⟨rfl, rfl, rfl⟩ := hrel
    go_wp2_with fail
    with_reducible refine hIn.out.mono ?_
    rintro e w2 ⟨rfl, G, h1, h2, h3, h4, own2, b2⟩
    have hp := hid (show PO (.returned (.tuple #[])) w2 by rw [hPO.out]; exact ⟨rfl, G, h1, h2, h3, h4, own2, b2⟩)
    clear h1 h2 h3 h4 own2 b2
    go_upto_region 7 with fail
    go_loopw [6] (fun cv wr => cv = .int .i64 20 ∧ wr = w2) (fun _ _ => 0)
    case atStart => exact ⟨rfl, rfl⟩
    case round =>
      obtain ⟨rfl, rfl⟩ := hrel
      go_wp2_with fail
      refine bodyPost_end (v := .tuple #[]) (by simp [results, Try.results81, go_sem]) rfl ?_
      exact hp.out
set_option maxHeartbeats 3200000 in
set_option maxRecDepth 100000 in
theorem sortStable_any {g l m id B : Nat} {caps : Array Value} {D : Nat → Nat → Int} {E0 : List (Nat × Nat)} {w : World} (hl : l = E0.length) (h20 : l < 20)
    (own0 : Own w B [flatRowOf 46 2 (.slice (some ⟨g, 0, none⟩) l m) (edR E0)]) (hB : B ≤ w.heap.size)
    (hcall : ∀ xa W, (callFunc id xa).run Try.prog W = .ok (.enter id xa) W)
    (hf : ∀ W, Below B w W → ∀ u v : Nat × Nat, u ∈ E0 → v ∈ E0 → Calls Try.prog id (#[.agg #[.int .i64 (u.1 : Int), .int .i64 (u.2 : Int)], .agg #[.int .i64 (v.1 : Int), .int .i64 (v.2 : Int)]] ++ caps) W fun e w' => e = .returned (.int .i64 (D u.1 u.2 - D v.1 v.2)) ∧ Ext W w')
    (hE : ∀ e, e ∈ E0 → e.1 < 1000 ∧ e.2 < 1000) :
    Calls Try.prog 53 #[.slice (some ⟨g, 0, none⟩) l m, .func (.func id) #[] caps] w (SrtPost D E0 B g l m w) := by
  have hIn := hid (stable_any hl h20 own0 hB hcall hf hE)
  obtain ⟨PO, hPO⟩ : ∃ P, P = SrtPost D E0 B g l m w := ⟨_, rfl⟩
  rw [← hPO] at hIn ⊢
  replace hPO := hid hPO
  clear hf hE own0 hcall hl
  go_enter Try.func53, Try.ntmps53
  go_wp2_with fail
  with_reducible refine hIn.out.mono ?_
  intro e w2 h
  have he : e = .returned (.tuple #[]) := by rw [hPO.out] at h; exact h.1
  subst he
  replace h := hid h
  go_wp2_with fail
  refine bodyPost_end (v := .tuple #[]) (by simp [results, Try.results53, go_sem]) rfl ?_
  exact h.out
end Go.Proofs.Ytnlbjbnjjkilhaa
