/- Owned lists of elements of many cells; an append as one step of a region that draws its order. -/
import Derived.Test.YtnlbjbnjjkilhaaFlat
import Derived.Test.YtnlbjbnjjkilhaaOffsA
import Derived.Deep.RegionHeld3
import Derived.Laws.StructEq
namespace Go.Proofs.Ytnlbjbnjjkilhaa
open Go.RowKit

theorem Try.infoPair : (Try.prog.info? 46).map (fun i => (i.zero, i.size, i.bytes)) = some (some (.agg #[.int .i64 0, .int .i64 0]), 2, 16) := by kernel_rfl
theorem elemPair : Elem Try.prog 35 46 (.agg #[.int .i64 0, .int .i64 0]) 2 16 := ⟨Try.underlying35, info_parts Try.infoPair, rfl, by decide⟩
theorem partPair0 (x y : Int) (w : World) : (part 3 #[.int .i64 x, .int .i64 y] 0).run Try.prog w = .ok (.int .i64 x) w := by kernel_rfl
theorem partPair1 (x y : Int) (w : World) : (part 3 #[.int .i64 x, .int .i64 y] 1).run Try.prog w = .ok (.int .i64 y) w := by kernel_rfl
theorem equalPair (a b c d : Int) (w : World) : (Op.equalIn 10000 46 (.agg #[.int .i64 a, .int .i64 b]) (.agg #[.int .i64 c, .int .i64 d])).run Try.prog w = .ok (a == c && b == d) w := by
  have hu := Try.underlying46
  have hi : ∀ (x y : Int), (Op.equalIn 9999 3 (.int .i64 x) (.int .i64 y)).run Try.prog w = .ok (x == y) w := fun (x y : Int) => run_equalIn_int (P := Try.prog) w 9998 3 .i64 .i64 x y Try.underlying3
  rw [show 10000 = 9999 + 1 from rfl, Op.equalIn]
  simp [run_underlying hu, List.range', partPair0, partPair1, hi]
  by_cases hac : a = c <;> by_cases hbd : b = d <;> simp [hac, hbd]
theorem equalPair_yes {a b c d : Int} (h : a = c ∧ b = d) : ∀ w, (Op.equalIn 10000 46 (.agg #[.int .i64 a, .int .i64 b]) (.agg #[.int .i64 c, .int .i64 d])).run Try.prog w = .ok true w := by
  intro w
  rw [equalPair, h.1, h.2]
  simp
/-- 'append(s, x)' onto what is owned, x of z cells in a block of its own, as one step of a region that draws its order. -/
theorem step_append1z {P : Program} {ops : Array Oper} {o : Oper} {a : Act} {w : World} {K : Act → World → Prop} {Q : Exit → Act → World → Prop} {E0 : Prop} (hgd : o.guard = none) (s x : Operand) (t : TypeId)
    (ho : o.op = .call { callee := .builtin .append, args := #[s, x], argTypes := #[t, t] })
    {e z bytes : Nat} {zv : Value} (E : Elem P t e zv z bytes) {B : Nat} {R : List Row} {v : Value} {n : Nat} {cs : List Value} (hs : a.eval s = v)
    (own : Own w B (⟨e, z, v, n, cs⟩ :: R)) (hB : B ≤ w.heap.size) {g : Nat} {us : List Value} (hus : us.length = z)
    (hx : a.eval x = .slice (some ⟨g, 0, none⟩) 1 1) (hnews : ∀ j u, us[j]? = some u → w.cell? ⟨g, j, none⟩ = some u) (h1 : ∀ u ∈ us, u.oneCell' = true) (h63 : n ≤ 17592186044415) (hb16 : (n + 1) * bytes ≤ 140737488355328)
    (h : ∀ v' w', Own w' B (⟨e, z, v', n + 1, cs ++ us⟩ :: R) → Below B w w' → K (a.put o.dst v') w') :
    if Region.wanted o (yielded ops a.tmps) = true then Oper.wp P o a w K Q else E0 := by
  have hw : Region.wanted o (yielded ops a.tmps) = true := by simp [Region.wanted, hgd]
  rw [if_pos hw]
  have hn2 : ∀ j u, us[j]? = some u → w.cell? ((⟨g, 0, none⟩ : Addr).add j) = some u := by
    intro j u hj
    have e1 : (⟨g, 0, none⟩ : Addr).add j = ⟨g, j, none⟩ := by
      unfold Addr.add; split <;> simp_all
    rw [e1]
    exact hnews j u hj
  obtain ⟨v', w', hr, h2, h3⟩ := run_append_Own (P := P) (ty := o.type) E own hB (m := 1) (c := 1) (by omega) hn2 h1 (by unfold maxLen; omega) hb16
  unfold Oper.wp execOp
  simp only [ho, resolve, invoke, builtin, Sem.run_bind, Sem.run_pure, Result.andThen_ok, List.map_toArray, List.map_cons, List.map_nil, hs, hx]
  rw [hr]
  exact h v' w' h2 h3
/-- The value v reads as a slice of slices of elements of z ints. -/
def IsFlats (w : World) (v : Value) (z : Nat) (Ms : List (List (List Int))) : Prop :=
  ∃ a c, v = .slice a Ms.length c ∧ Ms.length ≤ 1000000 ∧
    ∀ j, j < Ms.length → ∃ b o u, a = some ⟨b, o, none⟩ ∧ w.cell? ⟨b, o + j, none⟩ = some u ∧ IsFlat w u z (Ms.getD j [])
theorem IsFlats.ext {w w' : World} {v : Value} {z : Nat} {Ms : List (List (List Int))} (h : IsFlats w v z Ms) [e : Ext w w'] : IsFlats w' v z Ms := by
  obtain ⟨a, c, h1, h2, h4⟩ := h
  refine ⟨a, c, h1, h2, fun j hj => ?_⟩
  obtain ⟨b, o, u, h5, h6, h7⟩ := h4 j hj
  exact ⟨b, o, u, h5, e.cell h6, h7.ext⟩
theorem IsFlats.form {w : World} {v : Value} {z : Nat} {Ms : List (List (List Int))} (h : IsFlats w v z Ms) : ∃ a c, v = .slice a Ms.length c ∧ Ms.length ≤ 1000000 := by
  obtain ⟨a, c, h1, h2, _⟩ := h
  exact ⟨a, c, h1, h2⟩
theorem IsFlats.at {w w' : World} {a : Option Addr} {n c z : Nat} {Ms : List (List (List Int))} (h : IsFlats w (.slice a n c) z Ms) [e : Ext w w'] {k : Nat} (hk : k < Ms.length) :
    ∃ b o d m, a = some ⟨b, o, none⟩ ∧ w'.cell? ⟨b, o + k, none⟩ = some (.slice d (Ms.getD k []).length m) ∧ IsFlat w (.slice d (Ms.getD k []).length m) z (Ms.getD k []) := by
  obtain ⟨a', c', h1, h2, h4⟩ := h
  obtain ⟨b, o, u, h5, h6, h7⟩ := h4 k hk
  cases h1
  obtain ⟨d, m, rfl, hs⟩ := h7.form
  exact ⟨b, o, d, m, h5, e.cell h6, h7⟩
end Go.Proofs.Ytnlbjbnjjkilhaa
