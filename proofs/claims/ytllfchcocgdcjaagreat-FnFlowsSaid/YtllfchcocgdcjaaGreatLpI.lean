/- The least prices: LeastPrices of the program. -/
import Derived.Test.YtllfchcocgdcjaaGreatLpP
import Derived.Test.YtllfchcocgdcjaaGreatAsg
namespace Go.Proofs.YtllfchcocgdcjaaGreat
open Go.RowKit

/-- what LeastPrices hands over -/
def LpOk (M : List (List Int)) (a X L : List Int) : Prop :=
  if srvB M a X then L.length = X.length ∧ ∃ f, Mtc (Al a.length) X.length (a.length + X.length) f ∧ Low (Al a.length) (flC M a X) X.length (a.length + X.length) f (nth L) else L = []
theorem LpOk.no {M : List (List Int)} {a X : List Int} (h : srvB M a X = false) : LpOk M a X [] := by unfold LpOk; rw [h]; rfl
theorem Low.congr {A : Nat → Nat → Prop} {c : Nat → Nat → Int} {n m : Nat} {f : Nat → Nat} {p p' : Nat → Int} (h : Low A c n m f p) (he : ∀ i, i < n → p' i = p i) : Low A c n m f p' := by
  obtain ⟨⟨q, hc⟩, hl⟩ := h
  refine ⟨⟨q, ⟨hc.1.1, fun i l hi hm ha => by rw [he i hi]; exact hc.1.2 i l hi hm ha⟩, fun i hi => by rw [he i hi]; exact hc.2.1 i hi, hc.2.2⟩, fun p2 q2 h2 i hi => by rw [he i hi]; exact hl p2 q2 h2 i hi⟩
set_option maxHeartbeats 800000 in
set_option maxRecDepth 100000 in
theorem assigned0_any {d : Option Addr} {cp m : Nat} {c : Nat → Nat → Int} (w : World) : Calls Tryz.prog 25 #[.slice d 0 cp] w (AsPost c 0 m w) := by
  go_enter Tryz.func25, Tryz.ntmps25
  go_wp2_with fail
  refine bodyPost_ret (v := .tuple #[.slice none 0 0, .int .i64 0]) (by simp [results, Tryz.results25, go_sem]) rfl ?_
  refine ⟨_, fun _ => 0, fun _ => 0, fun _ => 0, rfl, ⟨none, 0, rfl, ⟨Nat.zero_le _, Nat.zero_le _⟩, by simp, fun j hj => by simp at hj⟩, ⟨fun i hi => by omega, fun i j hi => by omega⟩, ⟨⟨fun _ _ => Int.le_refl _, fun i l hi => by omega⟩, fun i hi => by omega, fun _ _ _ => rfl⟩, fun r hr => by omega, Ext.refl _⟩
/-- a row of one's own by a function, its slice of any form -/
abbrev dR (d : Option Addr) (n c : Nat) (o : Nat → Int) : Row := ⟨3, 1, .slice d n c, n, (List.range n).map fun j => .int .i64 (o j)⟩
end Go.Proofs.YtllfchcocgdcjaaGreat
