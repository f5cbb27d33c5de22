/- The problem that a draw makes: what it returns reads as rows of numbers. -/
import Derived.Test.YtnlbjbnjjkilhaaLine
import Derived.Test.YtnlbjbnjjkilhaaPackA
import Derived.Test.YtnlbjbnjjkilhaaAppN
import Derived.Deep.DeepCutAuto
namespace Go.Proofs.Ytnlbjbnjjkilhaa
open Go.RowKit

theorem CurAt.join {w w' : World} {B c : Nat} {vc : Value} {a : Int} {R S : List Row} (h : CurAt w B c vc a R) (hn : Own w' w.heap.size S) [e : Ext w w'] (hB : B ≤ w.heap.size) : CurAt w' B c vc a (S ++ R) := by
  obtain ⟨s, h⟩ := h
  exact ⟨s, (h.join hn hB).perm List.perm_middle.symm⟩
theorem CurAt.box {w : World} {B c : Nat} {vc : Value} {a : Int} {R : List Row} (h : CurAt w B c vc a R) (e z : Nat) (cs : Array Value) (hB : B ≤ w.heap.size) (hs : cs.size = 1 * z) :
    CurAt (w.alloc (.cells cs e)) B c vc a (boxRow e z w.heap.size cs.toList :: R) := by
  obtain ⟨s, h⟩ := h
  exact ⟨s, (h.lit e z 1 cs hB (by unfold maxLen; omega) hs).perm (List.Perm.swap _ _ _)⟩
theorem CurAt.cur {w : World} {B c : Nat} {vc : Value} {a : Int} {R : List Row} (h : CurAt w B c vc a R) : ∃ s, Own w B (curRow c vc a s :: R) := h
/-- a bound on the size: blocks below B are there -/
theorem CurAt.size {w : World} {B c : Nat} {vc : Value} {a : Int} {R : List Row} (h : CurAt w B c vc a R) : B ≤ w.heap.size := by
  obtain ⟨s, h⟩ := h
  have := ow_lt h
  omega
/-- a box's cell -/
theorem CurAt.at {w : World} {B c : Nat} {vc : Value} {a : Int} {e z b : Nat} {cs : List Value} {R : List Row} (h : CurAt w B c vc a R) (hm : boxRow e z b cs ∈ R) {j : Nat} (hj : j < z) : w.cell? ⟨b, j, none⟩ = some (cs.getD j undef) ∧ w.frozen? ⟨b, j, none⟩ = false := by
  have h1 := h.rows
  exact ⟨ow_cell h1 hm (by omega), ow_frozen h1 hm j⟩
theorem CurAt.set {w : World} {B c : Nat} {vc : Value} {a : Int} {e z b : Nat} {cs : List Value} {A L : List Row} (h : CurAt w B c vc a (A ++ (boxRow e z b cs :: L))) (j : Nat) (u : Value) :
    CurAt (w.setCell ⟨b, j, none⟩ u) B c vc a (A ++ (boxRow e z b (cs.set j u) :: L)) ∧ B ≤ b := by
  obtain ⟨s, h⟩ := h
  refine ⟨⟨s, ow_set (A := curRow c vc a s :: A) h j u⟩, ?_⟩
  exact ((h.1 (boxRow e z b cs) (by simp)).lt b rfl).1
theorem IsInts.take {w : World} {a : Option Addr} {n c : Nat} {xs : List Int} (h : IsInts w (.slice a n c) xs) {k : Nat} (hk : k ≤ xs.length) : IsInts w (.slice a k c) (xs.take k) := by
  obtain ⟨a', c', h1, h2, h3, h4⟩ := h
  cases h1
  have hl : (xs.take k).length = k := by rw [List.length_take]; omega
  refine ⟨a, c, by rw [hl], ⟨by rw [hl]; have := h2.1; unfold Short at *; omega, by rw [hl]; have := h2.2; omega⟩, fun x hx => h3 x (List.mem_of_mem_take hx), fun j hj => ?_⟩
  rw [hl] at hj
  obtain ⟨b, o, h5, h6⟩ := h4 j (by omega)
  refine ⟨b, o, h5, ?_⟩
  rw [h6]
  simp [nth, hj]
theorem CurAt.fin {w : World} {B c : Nat} {vc : Value} {a : Int} {bx : Row} {e z r : Nat} {u0 u1 v0 v1 : Value} {Z R : List Row} (h : CurAt w B c vc a (bx :: (Z ++ (boxRow e z r [u0, u1] :: R)))) :
    CurAt ((w.setCell ⟨r, 0, none⟩ v0).setCell ⟨r, 1, none⟩ v1) B c vc a (Z ++ R) ∧ Below B w ((w.setCell ⟨r, 0, none⟩ v0).setCell ⟨r, 1, none⟩ v1) := by
  have h1 := CurAt.set (A := bx :: Z) h 0 v0
  have h2 := CurAt.set (A := bx :: Z) h1.1 1 v1
  refine ⟨(h2.1.drop).sub (List.Sublist.append_left (List.sublist_cons_self _ _) _), ((Below.refl B w).setCell h1.2 _).setCell h1.2 _⟩
/-- rows of small numbers, not many in a row -/
def RowsOk (S : List (List Int)) : Prop := ∀ r ∈ S, r.length ≤ 100 ∧ ∀ x ∈ r, -100000 ≤ x ∧ x ≤ 100000
theorem RowsOk.short {S : List (List Int)} (h : RowsOk S) : (∀ r ∈ S, Short r.length) ∧ ∀ r ∈ S, ∀ x ∈ r, I64 x :=
  ⟨fun r hr => by have := (h r hr).1; unfold Short; omega, fun r hr x hx => by have := (h r hr).2 x hx; unfold I64; omega⟩
theorem TabOk.rows {M : List (List Int)} {n : Nat} (h : TabOk M n) (hn : n ≤ 100) : RowsOk M := by
  intro r hr
  obtain ⟨k, hk, rfl⟩ := mem_iff_row.1 hr
  have hk' : k < n := by rw [← h.1]; exact hk
  refine ⟨by rw [(h.2 k hk').1]; exact hn, fun x hx => ?_⟩
  obtain ⟨q, hq, rfl⟩ := mem_iff_nth.1 hx
  rw [(h.2 k hk').1] at hq
  exact (h.2 k hk').2 q hq
theorem CurAt.put {w : World} {B c : Nat} {vc : Value} {a : Int} {A R : List Row} {e1 e2 g l m : Nat} {v : Value} {vs : List Value} {M : List (List Int)} (h : CurAt w B c vc a (A ++ (rowsOf e1 e2 v vs M ++ R))) (hv : vs.length = M.length) {j : Nat} (hj : j < M.length) (hu : vs[j]? = some (.slice (some ⟨g, 0, none⟩) l m)) (hl : (row M j).length = l) (q : Nat) (x : Int) :
    CurAt (w.setCell ⟨g, q, none⟩ (.int .i64 x)) B c vc a (A ++ (rowsOf e1 e2 v vs (M.set j ((row M j).set q x)) ++ R)) ∧ B ≤ g := by
  obtain ⟨s, h⟩ := h
  have h1 := ow_front (A := curRow c vc a s :: A) h
  have h2 := rw_put h1 hv hj hu hl q x
  refine ⟨⟨s, ow_front (A := rowsOf _ _ _ _ _) (T := curRow c vc a s :: A) h2⟩, ?_⟩
  exact ((rw_row h1 hj hu).head.lt g rfl).1
theorem CurAt.tab {w : World} {B c : Nat} {vc : Value} {a : Int} {A R : List Row} {e1 e2 : Nat} {v : Value} {vs : List Value} {M : List (List Int)} (h : CurAt w B c vc a (A ++ (rowsOf e1 e2 v vs M ++ R))) : ∃ R', Own w B (rowsOf e1 e2 v vs M ++ R') := by
  obtain ⟨s, h⟩ := h
  exact ⟨_, ow_front (A := curRow c vc a s :: A) h⟩
theorem rw_addr {w : World} {B e1 e2 n m : Nat} {d : Option Addr} {vs : List Value} {M : List (List Int)} {R : List Row} (h : Own w B (rowsOf e1 e2 (.slice d n m) vs M ++ R)) (hn : vs.length = n) (h0 : 0 < n) : ∃ g, d = some ⟨g, 0, none⟩ := by
  subst hn
  have h1 : Own w B (⟨e1, 1, .slice d vs.length m, vs.length, vs⟩ :: (List.zipWith (intRowOf e2) vs M ++ R)) := h
  exact h1.at (j := 0) h0
theorem fieldDist (v : Value) (w : World) : (Instr.field 29 (.agg #[v]) 0).run Try.prog w = .ok v w := by kernel_rfl
end Go.Proofs.Ytnlbjbnjjkilhaa
