/- Owned lists of elements of many cells; an append as one step of a region that draws its order. -/
import Derived.Test.YtkniohcmhdgbeaaFlat
import Derived.Test.YtkniohcmhdgbeaaOffsA
import Derived.Deep.RegionHeld3
import Derived.Laws.StructEq
namespace Go.Proofs.Ytkniohcmhdgbeaa
open Go.RowKit

theorem partPair0 (x y : Int) (w : World) : (part 3 #[.int .i64 x, .int .i64 y] 0).run Try.prog w = .ok (.int .i64 x) w := by kernel_rfl
theorem partPair1 (x y : Int) (w : World) : (part 3 #[.int .i64 x, .int .i64 y] 1).run Try.prog w = .ok (.int .i64 y) w := by kernel_rfl
/-- 'append(s, x)' onto what is owned, x of z cells in a block of its own, as one step of a region that draws its order. -/
theorem step_append1z {P : Program} {ops : Array Oper} {o : Oper} {a : Act} {w : World} {K : Act → World → Prop} {Q : Exit → Act → World → Prop} {E0 : Prop} (hgd : o.guard = none) (s x : Operand) (t : TypeId)
    (ho : o.op = .call { callee := .builtin .append, args := #[s, x], argTypes := #[t, t] })
    {e z bytes : Nat} {zv : Value} (E : Elem P t e zv z bytes) {B : Nat} {R : List Row} {v : Value} {n : Nat} {cs : List Value} (hs : a.eval s = v)
    (own : Own w B (⟨e, z, v, n, cs⟩ :: R)) (hB : B ≤ w.heap.size) {g : Nat} {us : List Value} (hus : us.length = z)
    (hx : a.eval x = .slice (some ⟨g, 0, none⟩) 1 1) (hnews : ∀ j u, us[j]? = some u → w.cell? ⟨g, j, none⟩ = some u) (h1 : ∀ u ∈ us, u.oneCell' = true) (h63 : n ≤ 17592186044415) (hb16 : (n + 1) * bytes ≤ 140737488355328)
    (h : ∀ v' w', Own w' B (⟨e, z, v', n + 1, cs ++ us⟩ :: R) → Below B w w' → K (a.put o.dst v') w') :
    if Region.wanted o (yielded ops a.tmps) = true then Oper.wp P o a w K Q else E0 := by
  have hw : Region.wanted o (yielded ops a.tmps) = true := by simp [Region.wanted, hgd]
  rw [if_pos hw]
  have hn2 : ∀ j u, us[j]? = some u → w.cell? ((⟨g, 0, none⟩ : Addr).add j) = some u := by
    intro j u hj
    have e1 : (⟨g, 0, none⟩ : Addr).add j = ⟨g, j, none⟩ := by
      unfold Addr.add; split <;> simp_all
    rw [e1]
    exact hnews j u hj
  obtain ⟨v', w', hr, h2, h3⟩ := run_append_Own (P := P) (ty := o.type) E own hB (m := 1) (c := 1) (by omega) hn2 h1 (by unfold maxLen; omega) hb16
  unfold Oper.wp execOp
  simp only [ho, resolve, invoke, builtin, Sem.run_bind, Sem.run_pure, Result.andThen_ok, List.map_toArray, List.map_cons, List.map_nil, hs, hx]
  rw [hr]
  exact h v' w' h2 h3

/-- a list of lists of elements of z ints -/
def rowsF (e1 e2 z : Nat) (u : Value) (vs : List Value) (Ms : List (List (List Int))) : List Row := valRowOf e1 u vs :: List.zipWith (flatRowOf e2 z) vs Ms
theorem rowsF_perm {e1 e2 z : Nat} {v rv : Value} {vs : List Value} {Ms : List (List (List Int))} {L : List (List Int)} {R : List Row} (hl : vs.length = Ms.length) :
    (rowsF e1 e2 z v (vs ++ [rv]) (Ms ++ [L]) ++ R).Perm (⟨e1, 1, v, vs.length + 1, vs ++ [rv]⟩ :: flatRowOf e2 z rv L :: (List.zipWith (flatRowOf e2 z) vs Ms ++ R)) := by
  have e : rowsF e1 e2 z v (vs ++ [rv]) (Ms ++ [L]) ++ R = (⟨e1, 1, v, vs.length + 1, vs ++ [rv]⟩ : Row) :: (List.zipWith (flatRowOf e2 z) vs Ms ++ (flatRowOf e2 z rv L :: R)) := by
    unfold rowsF valRowOf
    rw [List.zipWith_append hl, List.length_append]
    simp
  rw [e]
  exact (List.perm_middle (a := flatRowOf e2 z rv L) (l₁ := List.zipWith (flatRowOf e2 z) vs Ms) (l₂ := R)).cons _
theorem rowsF_snoc {w : World} {B e1 e2 z : Nat} {v rv : Value} {vs : List Value} {Ms : List (List (List Int))} {L : List (List Int)} {R : List Row} (h : Own w B (⟨e1, 1, v, vs.length + 1, vs ++ [rv]⟩ :: flatRowOf e2 z rv L :: (List.zipWith (flatRowOf e2 z) vs Ms ++ R))) (hl : vs.length = Ms.length) :
    Own w B (rowsF e1 e2 z v (vs ++ [rv]) (Ms ++ [L]) ++ R) := by
  have e : rowsF e1 e2 z v (vs ++ [rv]) (Ms ++ [L]) ++ R = (⟨e1, 1, v, vs.length + 1, vs ++ [rv]⟩ : Row) :: (List.zipWith (flatRowOf e2 z) vs Ms ++ (flatRowOf e2 z rv L :: R)) := by
    unfold rowsF valRowOf
    rw [List.zipWith_append hl, List.length_append]
    simp
  rw [e]
  exact h.perm ((List.perm_middle (a := flatRowOf e2 z rv L) (l₁ := List.zipWith (flatRowOf e2 z) vs Ms) (l₂ := R)).cons _)

/-- The value v reads as a slice of slices of elements of z ints. -/
def IsFlats (w : World) (v : Value) (z : Nat) (Ms : List (List (List Int))) : Prop :=
  ∃ a c, v = .slice a Ms.length c ∧ Ms.length ≤ 1000000 ∧
    ∀ j, j < Ms.length → ∃ b o u, a = some ⟨b, o, none⟩ ∧ w.cell? ⟨b, o + j, none⟩ = some u ∧ IsFlat w u z (Ms.getD j [])
theorem IsFlats.ext {w w' : World} {v : Value} {z : Nat} {Ms : List (List (List Int))} (h : IsFlats w v z Ms) [e : Ext w w'] : IsFlats w' v z Ms := by
  obtain ⟨a, c, h1, h2, h4⟩ := h
  refine ⟨a, c, h1, h2, fun j hj => ?_⟩
  obtain ⟨b, o, u, h5, h6, h7⟩ := h4 j hj
  exact ⟨b, o, u, h5, e.cell h6, h7.ext⟩
theorem IsFlats.form {w : World} {v : Value} {z : Nat} {Ms : List (List (List Int))} (h : IsFlats w v z Ms) : ∃ a c, v = .slice a Ms.length c ∧ Ms.length ≤ 1000000 := by
  obtain ⟨a, c, h1, h2, _⟩ := h
  exact ⟨a, c, h1, h2⟩
theorem IsFlats.at {w w' : World} {a : Option Addr} {n c z : Nat} {Ms : List (List (List Int))} (h : IsFlats w (.slice a n c) z Ms) [e : Ext w w'] {k : Nat} (hk : k < Ms.length) :
    ∃ b o d m, a = some ⟨b, o, none⟩ ∧ w'.cell? ⟨b, o + k, none⟩ = some (.slice d (Ms.getD k []).length m) ∧ IsFlat w (.slice d (Ms.getD k []).length m) z (Ms.getD k []) := by
  obtain ⟨a', c', h1, h2, h4⟩ := h
  obtain ⟨b, o, u, h5, h6, h7⟩ := h4 k hk
  cases h1
  obtain ⟨d, m, rfl, hs⟩ := h7.form
  exact ⟨b, o, d, m, h5, e.cell h6, h7⟩
theorem Own.readsFlats {w : World} {B e1 e2 z : Nat} {v : Value} {vs : List Value} {Ms : List (List (List Int))} {R : List Row} (h : Own w B (rowsF e1 e2 z v vs Ms ++ R)) (hl : vs.length = Ms.length) (hs : Ms.length ≤ 1000000)
    (hr : ∀ L ∈ Ms, L.length ≤ 1000000 ∧ (∀ x ∈ L, x.length = z) ∧ ∀ x ∈ L, ∀ y ∈ x, I64 y) : IsFlats w v z Ms := by
  have hh : Own w B (valRowOf e1 v vs :: (List.zipWith (flatRowOf e2 z) vs Ms ++ R)) := h
  have hi : ∀ j, j < Ms.length → IsFlat w (vs.getD j undef) z (Ms.getD j []) := by
    intro j hj
    have h1 : (List.zipWith (flatRowOf e2 z) vs Ms ++ R)[j]? = some (flatRowOf e2 z (vs.getD j undef) (Ms.getD j [])) := by
      have hj' : j < vs.length := by omega
      rw [List.getElem?_append_left (by simp; omega)]
      simp [List.getElem?_zipWith, hj', hj]
    have hm : Ms.getD j [] ∈ Ms := by simp [hj]
    exact (hh.tail.pick h1).readsFlat (hr _ hm).1 (hr _ hm).2.1 (hr _ hm).2.2
  rcases hh.head.2 with ⟨h1, h2⟩ | ⟨g, cap, cur, hv, hb, hg, hc, hm, hz, ht⟩
  · have h2' : vs.length = 0 := h2
    have hx : Ms = [] := List.eq_nil_of_length_eq_zero (by omega)
    subst hx
    have h1' : v = .slice none 0 0 := h1
    exact ⟨none, 0, h1', Nat.zero_le _, fun j hj => by simp at hj⟩
  · have hv' : v = .slice (some ⟨g, 0, none⟩) vs.length cap := hv
    refine ⟨_, cap, by rw [hv', hl], hs, fun j hj => ⟨g, 0, vs.getD j undef, rfl, ?_, hi j hj⟩⟩
    have ho := hh.head
    simp only [hv'] at ho
    have := ho.cellAt (0 + j) (by omega)
    rw [this]
    have hj' : j < vs.length := by omega
    simp [hj']

end Go.Proofs.Ytkniohcmhdgbeaa
