/- Tables of one's own that grow: their values hidden, their rows told. -/
import Derived.Test.YtohjbabjkjcddaaLawB
import Derived.Test.YtohjbabjkjcddaaMark
import Derived.Test.YtohjbabjkjcddaaAppend
namespace Go.Proofs.Ytohjbabjkjcddaa
open Go.RowKit

/-- w has a table of one's own, v, whose rows are M, and the rows R beside it -/
def Tab (w : World) (B : Nat) (v : Value) (M : List (List Int)) (R : List Row) : Prop := ∃ vs, vs.length = M.length ∧ Own w B (rowsOf 24 3 v vs M ++ R)
/-- and a row xs that is being made -/
def TabX (w : World) (B : Nat) (v : Value) (M : List (List Int)) (rv : Value) (xs : List Int) (R : List Row) : Prop := ∃ vs, vs.length = M.length ∧ Own w B (intRowOf 3 rv xs :: (rowsOf 24 3 v vs M ++ R))

theorem Tab.ext {w w' : World} {B : Nat} {v : Value} {M : List (List Int)} {R : List Row} (h : Tab w B v M R) [e : Ext w w'] : Tab w' B v M R := by
  obtain ⟨vs, h1, h2⟩ := h
  exact ⟨vs, h1, h2.ext⟩
theorem TabX.ext {w w' : World} {B : Nat} {v rv : Value} {M : List (List Int)} {xs : List Int} {R : List Row} (h : TabX w B v M rv xs R) [e : Ext w w'] : TabX w' B v M rv xs R := by
  obtain ⟨vs, h1, h2⟩ := h
  exact ⟨vs, h1, h2.ext⟩
theorem Tab.form {w : World} {B : Nat} {v : Value} {M : List (List Int)} {R : List Row} (h : Tab w B v M R) : ∃ d m, v = .slice d M.length m := by
  obtain ⟨vs, h1, h2⟩ := h
  have h3 : Own w B (⟨24, 1, v, vs.length, vs⟩ :: (List.zipWith (intRowOf 3) vs M ++ R)) := h2
  obtain ⟨d, m, h4⟩ := h3.form
  have h4' : v = .slice d vs.length m := h4
  exact ⟨d, m, by rw [h4', h1]⟩
theorem TabX.tab {w : World} {B : Nat} {v rv : Value} {M : List (List Int)} {xs : List Int} {R : List Row} (h : TabX w B v M rv xs R) : Tab w B v M R := by
  obtain ⟨vs, h1, h2⟩ := h
  exact ⟨vs, h1, h2.tail⟩
theorem TabX.own {w : World} {B : Nat} {v rv : Value} {M : List (List Int)} {xs : List Int} {R : List Row} (h : TabX w B v M rv xs R) : ∃ R', Own w B (intRowOf 3 rv xs :: R') := by
  obtain ⟨vs, h1, h2⟩ := h
  exact ⟨_, h2⟩
theorem TabX.rform {w : World} {B : Nat} {v rv : Value} {M : List (List Int)} {xs : List Int} {R : List Row} (h : TabX w B v M rv xs R) : ∃ d m, rv = .slice d xs.length m := by
  obtain ⟨R', h⟩ := h.own
  exact h.form
theorem Tab.rest {w : World} {B : Nat} {v : Value} {M : List (List Int)} {R : List Row} (h : Tab w B v M R) : Own w B R := by
  obtain ⟨vs, h1, h2⟩ := h
  exact h2.right
theorem Tab.start {w : World} {B : Nat} {R : List Row} (h : Own w B R) (hB : B ≤ w.heap.size) : Tab (w.alloc (.cells #[] 24)) B (.slice (some ⟨w.heap.size, 0, none⟩) 0 0) [] R :=
  ⟨[], rfl, h.lit 24 1 0 #[] hB (by unfold maxLen; omega) rfl⟩
theorem Tab.nil {w : World} {B : Nat} {R : List Row} (h : Own w B R) : Tab w B (.slice none 0 0) [] R := ⟨[], rfl, h.cons_nil _ _⟩
/-- a row of one's own joins, made by a callee -/
theorem Tab.join {w w' : World} {B : Nat} {v rv : Value} {M : List (List Int)} {xs : List Int} {R : List Row} (h : Tab w B v M R) (hn : Own w' w.heap.size [intRowOf 3 rv xs]) (e : Ext w w') (hB : B ≤ w.heap.size) : TabX w' B v M rv xs R := by
  obtain ⟨vs, h1, h2⟩ := h
  exact ⟨vs, h1, Own.join h2 hn hB⟩
/-- a row that is written out -/
theorem Tab.lit {w : World} {B : Nat} {v : Value} {M : List (List Int)} {R : List Row} (h : Tab w B v M R) (cs : Array Value) (xs : List Int) {n : Nat} (hB : B ≤ w.heap.size) (hx : cs.toList = xs.map (Value.int .i64)) (hn : n = xs.length) (hs : xs.length ≤ 1000000) :
    TabX (w.alloc (.cells cs 3)) B v M (.slice (some ⟨w.heap.size, 0, none⟩) n n) xs R := by
  subst hn
  obtain ⟨vs, h1, h2⟩ := h
  have hl : cs.size = xs.length * 1 := by rw [← Array.length_toList, hx]; simp
  have h3 := h2.lit 3 1 xs.length cs hB (by unfold maxLen; omega) hl
  rw [hx] at h3
  exact ⟨vs, h1, h3⟩
theorem Tab.reads {w : World} {B : Nat} {v : Value} {M : List (List Int)} {R : List Row} (h : Tab w B v M R) (hs : ShortRows M.length) (hr : ∀ r ∈ M, Short r.length) (hi : ∀ r ∈ M, ∀ x ∈ r, I64 x) : IsRows w v M := by
  obtain ⟨vs, h1, h2⟩ := h
  exact h2.readsAll h1 hs hr hi
theorem Tab.rows {w : World} {B : Nat} {v : Value} {M : List (List Int)} {R : List Row} (h : Tab w B v M R) : ∃ vs, vs.length = M.length ∧ Own w B (rowsOf 24 3 v vs M ++ R) := h
theorem TabX.reads {w : World} {B : Nat} {v rv : Value} {M : List (List Int)} {xs : List Int} {R : List Row} (h : TabX w B v M rv xs R) (hs : Short xs.length) (hi : ∀ x ∈ xs, I64 x) : IsInts w rv xs := by
  obtain ⟨R', h⟩ := h.own
  exact h.reads hs hi
section
variable {P : Program} {ops : Array Oper} {o : Oper} {rest : List Oper} {a : Act} {w : World} {Q : Exit → Act → World → Prop}
/-- the finished row is appended to the table -/
theorem wpList_push (hgd : o.guard = none) (s x : Operand) (ho : o.op = .call { callee := .builtin .append, args := #[s, x], argTypes := #[29, 29] })
    {B : Nat} {v rv : Value} {M : List (List Int)} {xs : List Int} {R : List Row} (hs : a.eval s = v) (tab : TabX w B v M rv xs R) (hB : B ≤ w.heap.size)
    (hx : a.eval x = .slice (some ⟨w.heap.size, 0, none⟩) 1 1) (hm : M.length ≤ 1000000)
    (h : ∀ v' w', Tab w' B v' (M ++ [xs]) R → Below B w w' → wpList Try.prog ops Q rest (a.put o.dst v') w') : wpList Try.prog ops Q (o :: rest) a (w.alloc (.cells #[rv] 24)) := by
  obtain ⟨vs, h1, h2⟩ := tab
  have h3 : Own w B (⟨24, 1, v, vs.length, vs⟩ :: (intRowOf 3 rv xs :: (List.zipWith (intRowOf 3) vs M ++ R))) := h2.perm (List.Perm.swap _ _ _)
  have h1c : rv.oneCell' = true := by
    obtain ⟨d, m, hv⟩ : ∃ d m, rv = .slice d xs.length m := h2.form
    rw [hv]; rfl
  refine wpList_append1 hgd s x _ ho elemInts hs h3 hB hx h1c (by omega) (by omega) fun v' w' h4 h5 => h v' w' ⟨vs ++ [rv], by simp [h1], ?_⟩ h5
  have e : rowsOf 24 3 v' (vs ++ [rv]) (M ++ [xs]) ++ R = (⟨24, 1, v', vs.length + 1, vs ++ [rv]⟩ : Row) :: (List.zipWith (intRowOf 3) vs M ++ (intRowOf 3 rv xs :: R)) := by
    unfold rowsOf valRowOf
    rw [List.zipWith_append h1, List.length_append]
    simp
  rw [e]
  exact h4.perm (List.Perm.cons _ List.perm_middle)
/-- a number is appended to the row -/
theorem wpList_grow (hgd : o.guard = none) (s x : Operand) (ho : o.op = .call { callee := .builtin .append, args := #[s, x], argTypes := #[24, 24] })
    {B : Nat} {v rv : Value} {M : List (List Int)} {xs : List Int} {R : List Row} {y : Int} (hs : a.eval s = rv) (tab : TabX w B v M rv xs R) (hB : B ≤ w.heap.size)
    (hx : a.eval x = .slice (some ⟨w.heap.size, 0, none⟩) 1 1) (hm : xs.length ≤ 1000000)
    (h : ∀ rv' w', TabX w' B v M rv' (xs ++ [y]) R → Below B w w' → wpList Try.prog ops Q rest (a.put o.dst rv') w') : wpList Try.prog ops Q (o :: rest) a (w.alloc (.cells #[.int .i64 y] 3)) := by
  obtain ⟨vs, h1, h2⟩ := tab
  refine wpList_append1 hgd s x _ ho elemInt hs h2 hB hx rfl (by omega) (by omega) fun v' w' h4 h5 => h v' w' ⟨vs, h1, ?_⟩ h5
  unfold intRowOf
  rw [List.length_append, List.map_append]
  exact h4
/-- numbers that are there already are appended to the row -/
theorem wpList_more (hgd : o.guard = none) (s x : Operand) (ho : o.op = .call { callee := .builtin .append, args := #[s, x], argTypes := #[24, 24] })
    {B : Nat} {v rv u : Value} {M : List (List Int)} {xs ys : List Int} {R : List Row} (hs : a.eval s = rv) (tab : TabX w B v M rv xs R) (hB : B ≤ w.heap.size)
    (hx : a.eval x = u) (hy : IsInts w u ys) (hm : xs.length + ys.length ≤ 1000000)
    (h : ∀ rv' w', TabX w' B v M rv' (xs ++ ys) R → Below B w w' → wpList Try.prog ops Q rest (a.put o.dst rv') w') : wpList Try.prog ops Q (o :: rest) a w := by
  obtain ⟨vs, h1, h2⟩ := tab
  refine wpList_appendInts hgd s x _ ho elemInt hs h2 hB hx hy (by omega) fun v' w' h4 h5 => h v' w' ⟨vs, h1, ?_⟩ h5
  unfold intRowOf
  rw [List.length_append, List.map_append]
  exact h4
end
end Go.Proofs.Ytohjbabjkjcddaa
