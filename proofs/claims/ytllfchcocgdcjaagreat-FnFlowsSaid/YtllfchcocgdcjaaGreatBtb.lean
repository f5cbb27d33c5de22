/- Tables of truth values: readings, and tables of one's own that grow (written by btb.py out of XTbl). -/
import Derived.Test.YtllfchcocgdcjaaGreatGrD
import Derived.Test.YtllfchcocgdcjaaGreatArr
namespace Go.Proofs.YtllfchcocgdcjaaGreat
open Go.RowKit

def nthB (xs : List Bool) (k : Nat) : Bool := xs.getD k false
def rowB (M : List (List Bool)) (k : Nat) : List Bool := M.getD k []
/-- The value v reads as the truth values xs in w. -/
def IsBools (w : World) (v : Value) (xs : List Bool) : Prop :=
  ∃ a c, v = .slice a xs.length c ∧ (Short xs.length ∧ xs.length ≤ c) ∧ ∀ j, j < xs.length → ∃ b o, a = some ⟨b, o, none⟩ ∧ w.cell? ⟨b, o + j, none⟩ = some (.bool (nthB xs j))
theorem IsBools.ext {w w' : World} {v : Value} {xs : List Bool} (h : IsBools w v xs) [e : Ext w w'] : IsBools w' v xs := by
  obtain ⟨a, c, h1, h2, h3⟩ := h
  refine ⟨a, c, h1, h2, fun j hj => ?_⟩
  obtain ⟨b, o, h5, h6⟩ := h3 j hj
  exact ⟨b, o, h5, e.cell h6⟩
theorem IsBools.form {w : World} {v : Value} {xs : List Bool} (h : IsBools w v xs) : ∃ a c, v = .slice a xs.length c ∧ xs.length ≤ 17592186044415 ∧ xs.length ≤ c := by
  obtain ⟨a, c, h1, h2, _⟩ := h
  exact ⟨a, c, h1, h2.1, h2.2⟩
theorem IsBools.at {w w' : World} {a : Option Addr} {n c : Nat} {xs : List Bool} (h : IsBools w (.slice a n c) xs) [e : Ext w w'] {k : Nat} (hk : k < xs.length) :
    ∃ b o, a = some ⟨b, o, none⟩ ∧ w'.cell? ⟨b, o + k, none⟩ = some (.bool (nthB xs k)) := by
  obtain ⟨a', c', h1, h2, h3⟩ := h
  obtain ⟨b, o, h5, h6⟩ := h3 k hk
  cases h1
  exact ⟨b, o, h5, e.cell h6⟩
theorem IsBools.nil (w : World) : IsBools w (.slice none 0 0) [] := ⟨none, 0, rfl, ⟨Nat.zero_le _, Nat.le_refl _⟩, fun j hj => by simp at hj⟩
/-- The value v reads as the rows of truth values M in w. -/
def IsGrid (w : World) (v : Value) (M : List (List Bool)) : Prop :=
  ∃ a c, v = .slice a M.length c ∧ ShortRows M.length ∧ ∀ j, j < M.length → ∃ b o vr, a = some ⟨b, o, none⟩ ∧ w.cell? ⟨b, o + j, none⟩ = some vr ∧ IsBools w vr (rowB M j)
theorem IsGrid.ext {w w' : World} {v : Value} {M : List (List Bool)} (h : IsGrid w v M) [e : Ext w w'] : IsGrid w' v M := by
  obtain ⟨a, c, h1, h2, h3⟩ := h
  refine ⟨a, c, h1, h2, fun j hj => ?_⟩
  obtain ⟨b, o, vr, h5, h6, h7⟩ := h3 j hj
  exact ⟨b, o, vr, h5, e.cell h6, h7.ext⟩
theorem IsGrid.form {w : World} {v : Value} {M : List (List Bool)} (h : IsGrid w v M) : ∃ a c, v = .slice a M.length c ∧ M.length ≤ 5864062014804 := by
  obtain ⟨a, c, h1, h2, _⟩ := h
  exact ⟨a, c, h1, h2⟩
theorem IsGrid.at {w w' : World} {a : Option Addr} {n c : Nat} {M : List (List Bool)} (h : IsGrid w (.slice a n c) M) [e : Ext w w'] {k : Nat} (hk : k < M.length) :
    ∃ b o d m, a = some ⟨b, o, none⟩ ∧ w'.cell? ⟨b, o + k, none⟩ = some (.slice d (rowB M k).length m) ∧ IsBools w' (.slice d (rowB M k).length m) (rowB M k) := by
  obtain ⟨a', c', h1, h2, h3⟩ := h
  obtain ⟨b, o, vr, h5, h6, h7⟩ := h3 k hk
  cases h1
  obtain ⟨d, m, rfl, _⟩ := h7.form
  exact ⟨b, o, d, m, h5, e.cell h6, h7.ext⟩
abbrev browOf (e : Nat) (v : Value) (xs : List Bool) : Row := ⟨e, 1, v, xs.length, xs.map Value.bool⟩
def browsOf (e1 e2 : Nat) (u : Value) (vs : List Value) (M : List (List Bool)) : List Row := valRowOf e1 u vs :: List.zipWith (browOf e2) vs M
theorem Tryz.infoBools : (Tryz.prog.info? 74).map (fun i => (i.zero, i.size, i.bytes)) = some (some (.slice none 0 0), 1, 24) := by kernel_rfl
theorem elemBools : Elem Tryz.prog 80 74 (.slice none 0 0) 1 24 := ⟨Tryz.underlying80, info_parts Tryz.infoBools, rfl, by decide⟩
theorem Own.readsB {w : World} {B e : Nat} {v : Value} {xs : List Bool} {R : List Row} (h : Own w B (browOf e v xs :: R)) (hs : Short xs.length) : IsBools w v xs := by
  rcases h.head.2 with ⟨h1, h2⟩ | ⟨g, cap, cur, hv, hb, hg, hc, hm, hz, ht⟩
  · have hx : xs = [] := List.eq_nil_of_length_eq_zero h2
    subst hx
    have h1' : v = .slice none 0 0 := h1
    rw [h1']; exact IsBools.nil w
  · have hv' : v = .slice (some ⟨g, 0, none⟩) xs.length cap := hv
    refine ⟨_, cap, hv', ⟨hs, hc⟩, fun j hj => ⟨g, 0, rfl, ?_⟩⟩
    have ho := h.head
    simp only [hv'] at ho
    have := ho.cellAt (0 + j) (by omega)
    rw [this]
    simp [nthB, hj]
theorem Own.readsAllB {w : World} {B e1 e2 : Nat} {u : Value} {vs : List Value} {M : List (List Bool)} {R : List Row} (h : Own w B (browsOf e1 e2 u vs M ++ R)) (hl : vs.length = M.length)
    (hs : ShortRows M.length) (hr : ∀ r ∈ M, Short r.length) : IsGrid w u M := by
  have hrow : ∀ j, j < M.length → IsBools w (vs.getD j undef) (rowB M j) := by
    intro j hj
    have h1 : (List.zipWith (browOf e2) vs M ++ R)[j]? = some (browOf e2 (vs.getD j undef) (rowB M j)) := by
      have hj' : j < vs.length := by omega
      rw [List.getElem?_append_left (by simp; omega)]
      simp [List.getElem?_zipWith, hj', rowB, hj]
    have h2 : Own w B (List.zipWith (browOf e2) vs M ++ R) := Own.tail (r := valRowOf e1 u vs) (by simpa [browsOf] using h)
    exact (h2.pick h1).readsB (hr _ (by
      rw [show rowB M j = M[j] by simp [rowB, hj]]
      exact List.getElem_mem hj))
  have h' : Own w B (valRowOf e1 u vs :: (List.zipWith (browOf e2) vs M ++ R)) := by simpa [browsOf] using h
  rcases h'.head.2 with ⟨h1, h2⟩ | ⟨g, cap, cur, hv, hb, hg, hc, hm, hz, ht⟩
  · have h2' : vs.length = 0 := h2
    have hx : M = [] := List.eq_nil_of_length_eq_zero (by omega)
    subst hx
    have h1' : u = .slice none 0 0 := h1
    rw [h1']
    exact ⟨none, 0, rfl, Nat.zero_le _, fun j hj => by simp at hj⟩
  · have hv' : u = .slice (some ⟨g, 0, none⟩) vs.length cap := hv
    refine ⟨_, cap, by rw [hv', hl], hs, fun j hj => ⟨g, 0, vs.getD j undef, rfl, ?_, hrow j hj⟩⟩
    have ho := h'.head
    simp only [hv'] at ho
    have := ho.cellAt (0 + j) (by omega)
    rw [this]
    have hj' : j < vs.length := by omega
    simp [hj']
theorem cells_of_bools {w : World} {ad : Addr} {n c : Nat} {ys : List Bool} (hy : IsBools w (.slice (some ad) n c) ys) :
    ∀ j u, (ys.map (Value.bool))[j]? = some u → w.cell? (ad.add j) = some u := by
  intro j u hj
  have hl : j < ys.length := by
    by_cases hl : j < ys.length
    · exact hl
    · rw [List.getElem?_eq_none (by simp; omega)] at hj; cases hj
  obtain ⟨b, o, h1, h2⟩ := hy.at (w' := w) hl
  cases h1
  have : (⟨b, o, none⟩ : Addr).add j = ⟨b, o + j, none⟩ := by
    unfold Addr.add; split <;> simp_all
  rw [this, h2, ← hj]
  simp [nthB, hl]
section
variable {P : Program} {ops : Array Oper} {o : Oper} {rest : List Oper} {a : Act} {w : World} {Q : Exit → Act → World → Prop}
theorem wpList_appendBools (hgd : o.guard = none) (s x : Operand) (t : TypeId)
    (ho : o.op = .call { callee := .builtin .append, args := #[s, x], argTypes := #[t, t] })
    {e : Nat} (E : Elem P t e (.bool false) 1 1) {B : Nat} {R : List Row} {v u : Value} {n : Nat} {cs : List Value} (hs : a.eval s = v)
    (own : Own w B (⟨e, 1, v, n, cs⟩ :: R)) (hB : B ≤ w.heap.size) {ys : List Bool} (hx : a.eval x = u) (hy : IsBools w u ys)
    (h63 : n + ys.length ≤ 17592186044415)
    (h : ∀ v' w', Own w' B (⟨e, 1, v', n + ys.length, cs ++ ys.map (Value.bool)⟩ :: R) → Below B w w' → wpList P ops Q rest (a.put o.dst v') w') : wpList P ops Q (o :: rest) a w := by
  obtain ⟨d, c, rfl, hl, _⟩ := hy.form
  cases d with
  | some ad =>
    exact wpList_append_Own hgd ho E hs own hB hx (by simp) (cells_of_bools hy) (by intro y hy'; obtain ⟨k, _, rfl⟩ := List.mem_map.1 hy'; rfl) (by unfold maxLen; omega) (by omega) h
  | none =>
    have hy0 : ys = [] := by
      cases ys with
      | nil => rfl
      | cons y ys =>
        obtain ⟨b, o, h1, _⟩ := hy.at (w' := w) (k := 0) (by simp)
        cases h1
    subst hy0
    refine wpList_plain hgd fun K hK => ?_
    have hr := run_append_none (P := P) (ty := o.type) E own.head c
    unfold Oper.wp execOp
    simp only [ho, resolve, invoke, builtin, Sem.run_bind, Sem.run_pure, Result.andThen_ok, List.map_toArray, List.map_cons, List.map_nil, hs, hx, List.length_nil]
    rw [hr]
    exact hK _ _ (h v w (by rw [List.length_nil, Nat.add_zero, List.map_nil, List.append_nil]; exact own) (Below.refl _ _))
end
/-- w has a table of one's own, v, whose rows are M, and the rows R beside it -/
def TabB (w : World) (B : Nat) (v : Value) (M : List (List Bool)) (R : List Row) : Prop := ∃ vs, vs.length = M.length ∧ Own w B (browsOf 74 4 v vs M ++ R)
/-- and a row xs that is being made -/
def TabBX (w : World) (B : Nat) (v : Value) (M : List (List Bool)) (rv : Value) (xs : List Bool) (R : List Row) : Prop := ∃ vs, vs.length = M.length ∧ Own w B (browOf 4 rv xs :: (browsOf 74 4 v vs M ++ R))

theorem TabB.ext {w w' : World} {B : Nat} {v : Value} {M : List (List Bool)} {R : List Row} (h : TabB w B v M R) [e : Ext w w'] : TabB w' B v M R := by
  obtain ⟨vs, h1, h2⟩ := h
  exact ⟨vs, h1, h2.ext⟩
theorem TabBX.ext {w w' : World} {B : Nat} {v rv : Value} {M : List (List Bool)} {xs : List Bool} {R : List Row} (h : TabBX w B v M rv xs R) [e : Ext w w'] : TabBX w' B v M rv xs R := by
  obtain ⟨vs, h1, h2⟩ := h
  exact ⟨vs, h1, h2.ext⟩
theorem TabB.form {w : World} {B : Nat} {v : Value} {M : List (List Bool)} {R : List Row} (h : TabB w B v M R) : ∃ d m, v = .slice d M.length m := by
  obtain ⟨vs, h1, h2⟩ := h
  have h3 : Own w B (⟨74, 1, v, vs.length, vs⟩ :: (List.zipWith (browOf 4) vs M ++ R)) := h2
  obtain ⟨d, m, h4⟩ := h3.form
  have h4' : v = .slice d vs.length m := h4
  exact ⟨d, m, by rw [h4', h1]⟩
theorem TabBX.tab {w : World} {B : Nat} {v rv : Value} {M : List (List Bool)} {xs : List Bool} {R : List Row} (h : TabBX w B v M rv xs R) : TabB w B v M R := by
  obtain ⟨vs, h1, h2⟩ := h
  exact ⟨vs, h1, h2.tail⟩
theorem TabBX.own {w : World} {B : Nat} {v rv : Value} {M : List (List Bool)} {xs : List Bool} {R : List Row} (h : TabBX w B v M rv xs R) : ∃ R', Own w B (browOf 4 rv xs :: R') := by
  obtain ⟨vs, h1, h2⟩ := h
  exact ⟨_, h2⟩
theorem TabBX.rform {w : World} {B : Nat} {v rv : Value} {M : List (List Bool)} {xs : List Bool} {R : List Row} (h : TabBX w B v M rv xs R) : ∃ d m, rv = .slice d xs.length m := by
  obtain ⟨R', h⟩ := h.own
  exact h.form
theorem TabB.rest {w : World} {B : Nat} {v : Value} {M : List (List Bool)} {R : List Row} (h : TabB w B v M R) : Own w B R := by
  obtain ⟨vs, h1, h2⟩ := h
  exact h2.right
theorem TabB.start {w : World} {B : Nat} {R : List Row} (h : Own w B R) (hB : B ≤ w.heap.size) : TabB (w.alloc (.cells #[] 74)) B (.slice (some ⟨w.heap.size, 0, none⟩) 0 0) [] R :=
  ⟨[], rfl, h.lit 74 1 0 #[] hB (by unfold maxLen; omega) rfl⟩
theorem TabB.nil {w : World} {B : Nat} {R : List Row} (h : Own w B R) : TabB w B (.slice none 0 0) [] R := ⟨[], rfl, h.cons_nil _ _⟩
/-- a row of one's own joins, made by a callee -/
theorem TabB.join {w w' : World} {B : Nat} {v rv : Value} {M : List (List Bool)} {xs : List Bool} {R : List Row} (h : TabB w B v M R) (hn : Own w' w.heap.size [browOf 4 rv xs]) (e : Ext w w') (hB : B ≤ w.heap.size) : TabBX w' B v M rv xs R := by
  obtain ⟨vs, h1, h2⟩ := h
  exact ⟨vs, h1, Own.join h2 hn hB⟩
/-- a row that is written out -/
theorem TabB.lit {w : World} {B : Nat} {v : Value} {M : List (List Bool)} {R : List Row} (h : TabB w B v M R) (cs : Array Value) (xs : List Bool) {n : Nat} (hB : B ≤ w.heap.size) (hx : cs.toList = xs.map (Value.bool)) (hn : n = xs.length) (hs : xs.length ≤ 1000000) :
    TabBX (w.alloc (.cells cs 4)) B v M (.slice (some ⟨w.heap.size, 0, none⟩) n n) xs R := by
  subst hn
  obtain ⟨vs, h1, h2⟩ := h
  have hl : cs.size = xs.length * 1 := by rw [← Array.length_toList, hx]; simp
  have h3 := h2.lit 4 1 xs.length cs hB (by unfold maxLen; omega) hl
  rw [hx] at h3
  exact ⟨vs, h1, h3⟩
theorem TabB.reads {w : World} {B : Nat} {v : Value} {M : List (List Bool)} {R : List Row} (h : TabB w B v M R) (hs : ShortRows M.length) (hr : ∀ r ∈ M, Short r.length) : IsGrid w v M := by
  obtain ⟨vs, h1, h2⟩ := h
  exact h2.readsAllB h1 hs hr
theorem TabB.rows {w : World} {B : Nat} {v : Value} {M : List (List Bool)} {R : List Row} (h : TabB w B v M R) : ∃ vs, vs.length = M.length ∧ Own w B (browsOf 74 4 v vs M ++ R) := h
theorem TabBX.reads {w : World} {B : Nat} {v rv : Value} {M : List (List Bool)} {xs : List Bool} {R : List Row} (h : TabBX w B v M rv xs R) (hs : Short xs.length) : IsBools w rv xs := by
  obtain ⟨R', h⟩ := h.own
  exact h.readsB hs
section
variable {P : Program} {ops : Array Oper} {o : Oper} {rest : List Oper} {a : Act} {w : World} {Q : Exit → Act → World → Prop}
/-- the finished row is appended to the table -/
theorem wpList_pushB (hgd : o.guard = none) (s x : Operand) (ho : o.op = .call { callee := .builtin .append, args := #[s, x], argTypes := #[80, 80] })
    {B : Nat} {v rv : Value} {M : List (List Bool)} {xs : List Bool} {R : List Row} (hs : a.eval s = v) (tab : TabBX w B v M rv xs R) (hB : B ≤ w.heap.size)
    (hx : a.eval x = .slice (some ⟨w.heap.size, 0, none⟩) 1 1) (hm : M.length ≤ 1000000)
    (h : ∀ v' w', TabB w' B v' (M ++ [xs]) R → Below B w w' → wpList Tryz.prog ops Q rest (a.put o.dst v') w') : wpList Tryz.prog ops Q (o :: rest) a (w.alloc (.cells #[rv] 74)) := by
  obtain ⟨vs, h1, h2⟩ := tab
  have h3 : Own w B (⟨74, 1, v, vs.length, vs⟩ :: (browOf 4 rv xs :: (List.zipWith (browOf 4) vs M ++ R))) := h2.perm (List.Perm.swap _ _ _)
  have h1c : rv.oneCell' = true := by
    obtain ⟨d, m, hv⟩ : ∃ d m, rv = .slice d xs.length m := h2.form
    rw [hv]; rfl
  refine wpList_append1 hgd s x _ ho elemBools hs h3 hB hx h1c (by omega) (by omega) fun v' w' h4 h5 => h v' w' ⟨vs ++ [rv], by simp [h1], ?_⟩ h5
  have e : browsOf 74 4 v' (vs ++ [rv]) (M ++ [xs]) ++ R = (⟨74, 1, v', vs.length + 1, vs ++ [rv]⟩ : Row) :: (List.zipWith (browOf 4) vs M ++ (browOf 4 rv xs :: R)) := by
    unfold browsOf valRowOf
    rw [List.zipWith_append h1, List.length_append]
    simp
  rw [e]
  exact h4.perm (List.Perm.cons _ List.perm_middle)
/-- a number is appended to the row -/
theorem wpList_growB (hgd : o.guard = none) (s x : Operand) (ho : o.op = .call { callee := .builtin .append, args := #[s, x], argTypes := #[74, 74] })
    {B : Nat} {v rv : Value} {M : List (List Bool)} {xs : List Bool} {R : List Row} {y : Bool} (hs : a.eval s = rv) (tab : TabBX w B v M rv xs R) (hB : B ≤ w.heap.size)
    (hx : a.eval x = .slice (some ⟨w.heap.size, 0, none⟩) 1 1) (hm : xs.length ≤ 1000000)
    (h : ∀ rv' w', TabBX w' B v M rv' (xs ++ [y]) R → Below B w w' → wpList Tryz.prog ops Q rest (a.put o.dst rv') w') : wpList Tryz.prog ops Q (o :: rest) a (w.alloc (.cells #[.bool y] 4)) := by
  obtain ⟨vs, h1, h2⟩ := tab
  refine wpList_append1 hgd s x _ ho elemBool hs h2 hB hx rfl (by omega) (by omega) fun v' w' h4 h5 => h v' w' ⟨vs, h1, ?_⟩ h5
  unfold browOf
  rw [List.length_append, List.map_append]
  exact h4
/-- numbers that are there already are appended to the row -/
theorem wpList_moreB (hgd : o.guard = none) (s x : Operand) (ho : o.op = .call { callee := .builtin .append, args := #[s, x], argTypes := #[74, 74] })
    {B : Nat} {v rv u : Value} {M : List (List Bool)} {xs ys : List Bool} {R : List Row} (hs : a.eval s = rv) (tab : TabBX w B v M rv xs R) (hB : B ≤ w.heap.size)
    (hx : a.eval x = u) (hy : IsBools w u ys) (hm : xs.length + ys.length ≤ 1000000)
    (h : ∀ rv' w', TabBX w' B v M rv' (xs ++ ys) R → Below B w w' → wpList Tryz.prog ops Q rest (a.put o.dst rv') w') : wpList Tryz.prog ops Q (o :: rest) a w := by
  obtain ⟨vs, h1, h2⟩ := tab
  refine wpList_appendBools hgd s x _ ho elemBool hs h2 hB hx hy (by omega) fun v' w' h4 h5 => h v' w' ⟨vs, h1, ?_⟩ h5
  unfold browOf
  rw [List.length_append, List.map_append]
  exact h4
end
end Go.Proofs.YtllfchcocgdcjaaGreat
