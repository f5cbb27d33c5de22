/- Slices whose elements are arrays or structs of ints, as lists of rows of one length. -/
import Derived.Test.YtnlbjbnjjkilhaaPackA
namespace Go.Proofs.Ytnlbjbnjjkilhaa
open Go.RowKit

theorem flatz_len {z : Nat} : ∀ {L : List (List Int)}, (∀ x ∈ L, x.length = z) → L.flatten.length = L.length * z
  | [], _ => by simp
  | x :: L, h => by
    have h1 := h x (by simp)
    have h2 := flatz_len (L := L) fun y hy => h y (by simp [hy])
    rw [List.flatten_cons, List.length_append, h1, h2, List.length_cons, Nat.add_mul, Nat.one_mul, Nat.add_comm]
theorem flat_get {z : Nat} : ∀ {L : List (List Int)}, (∀ x ∈ L, x.length = z) → ∀ {j k : Nat}, j < L.length → k < z → L.flatten[j * z + k]? = some (cell L j k)
  | [], _, _, _, hj, _ => by simp at hj
  | x :: L, h, 0, k, _, hk => by
    have h1 := h x (by simp)
    rw [List.flatten_cons, Nat.zero_mul, Nat.zero_add, List.getElem?_append_left (by omega)]
    have hk' : k < x.length := by omega
    simp [cell, row, nth, hk']
  | x :: L, h, j + 1, k, hj, hk => by
    have h1 := h x (by simp)
    have ih := flat_get (L := L) (fun y hy => h y (by simp [hy])) (j := j) (k := k) (by simpa using hj) hk
    rw [List.flatten_cons, List.getElem?_append_right (by rw [h1, Nat.add_mul]; omega), h1]
    rw [show (j + 1) * z + k - z = j * z + k by rw [Nat.add_mul, Nat.one_mul]; omega, ih]
    rfl
abbrev flatRowOf (e z : Nat) (v : Value) (L : List (List Int)) : Row := ⟨e, z, v, L.length, L.flatten.map (Value.int .i64)⟩
/-- The value v reads as a slice of elements of z ints each: the rows L. -/
def IsFlat (w : World) (v : Value) (z : Nat) (L : List (List Int)) : Prop :=
  ∃ a c, v = .slice a L.length c ∧ L.length ≤ 1000000 ∧ (∀ x ∈ L, x.length = z) ∧ (∀ x ∈ L, ∀ y ∈ x, I64 y) ∧
    ∀ j, j < L.length → ∃ b o, a = some ⟨b, o, none⟩ ∧ ∀ k, k < z → w.cell? ⟨b, o + j * z + k, none⟩ = some (.int .i64 (cell L j k))
theorem IsFlat.ext {w w' : World} {v : Value} {z : Nat} {L : List (List Int)} (h : IsFlat w v z L) [e : Ext w w'] : IsFlat w' v z L := by
  obtain ⟨a, c, h1, h2, h3, h5, h4⟩ := h
  refine ⟨a, c, h1, h2, h3, h5, fun j hj => ?_⟩
  obtain ⟨b, o, h6, h7⟩ := h4 j hj
  exact ⟨b, o, h6, fun k hk => e.cell (h7 k hk)⟩
theorem IsFlat.form {w : World} {v : Value} {z : Nat} {L : List (List Int)} (h : IsFlat w v z L) : ∃ a c, v = .slice a L.length c ∧ L.length ≤ 1000000 := by
  obtain ⟨a, c, h1, h2, _⟩ := h
  exact ⟨a, c, h1, h2⟩
theorem IsFlat.at {w w' : World} {a : Option Addr} {n c z : Nat} {L : List (List Int)} (h : IsFlat w (.slice a n c) z L) [e : Ext w w'] {j : Nat} (hj : j < L.length) :
    ∃ b o, a = some ⟨b, o, none⟩ ∧ ∀ k, k < z → w'.cell? ⟨b, o + j * z + k, none⟩ = some (.int .i64 (cell L j k)) := by
  obtain ⟨a', c', h1, h2, h3, _, h4⟩ := h
  obtain ⟨b, o, h5, h6⟩ := h4 j hj
  cases h1
  exact ⟨b, o, h5, fun k hk => e.cell (h6 k hk)⟩
theorem IsFlat.nil (w : World) (z : Nat) : IsFlat w (.slice none 0 0) z [] := ⟨none, 0, rfl, Nat.zero_le _, by simp, by simp, fun j hj => by simp at hj⟩
theorem IsFlat.zero (w : World) (d : Option Addr) (c z : Nat) : IsFlat w (.slice d ([] : List (List Int)).length c) z [] := ⟨d, c, rfl, Nat.zero_le _, by simp, by simp, fun j hj => by simp at hj⟩
theorem IsFlat.all {w : World} {v : Value} {z : Nat} {L : List (List Int)} (h : IsFlat w v z L) : L.length ≤ 1000000 ∧ (∀ x ∈ L, x.length = z) ∧ ∀ x ∈ L, ∀ y ∈ x, I64 y := by
  obtain ⟨a, c, _, h2, h3, h4, _⟩ := h
  exact ⟨h2, h3, h4⟩
theorem Own.readsFlat {w : World} {B e z : Nat} {v : Value} {L : List (List Int)} {R : List Row} (h : Own w B (flatRowOf e z v L :: R)) (hs : L.length ≤ 1000000) (hz : ∀ x ∈ L, x.length = z) (hi : ∀ x ∈ L, ∀ y ∈ x, I64 y) : IsFlat w v z L := by
  rcases h.head.2 with ⟨h1, h2⟩ | ⟨g, cap, cur, hv, hb, hg, hc, hm, hzz, ht⟩
  · have hx : L = [] := List.eq_nil_of_length_eq_zero h2
    subst hx
    have h1' : v = .slice none 0 0 := h1
    rw [h1']; exact IsFlat.nil w z
  · have hv' : v = .slice (some ⟨g, 0, none⟩) L.length cap := hv
    refine ⟨_, cap, hv', hs, hz, hi, fun j hj => ⟨g, 0, rfl, fun k hk => ?_⟩⟩
    have ho := h.head
    simp only [hv'] at ho
    have hlt : j * z + k < L.length * z := by
      have h3 : (j + 1) * z ≤ L.length * z := Nat.mul_le_mul_right _ hj
      rw [Nat.add_mul, Nat.one_mul] at h3
      omega
    have := ho.cellAt (0 + j * z + k) (by omega)
    rw [this, Nat.zero_add, List.getElem?_map, flat_get hz hj hk]
    rfl
theorem flat_snoc {w : World} {B e z n : Nat} {v : Value} {L : List (List Int)} {x : List Int} {us : List Value} {R : List Row} (h : Own w B (⟨e, z, v, n + 1, L.flatten.map (Value.int .i64) ++ us⟩ :: R)) (hn : n = L.length) (hu : us = x.map (Value.int .i64)) : Own w B (flatRowOf e z v (L ++ [x]) :: R) := by
  subst hn
  subst hu
  have e1 : flatRowOf e z v (L ++ [x]) = ⟨e, z, v, L.length + 1, L.flatten.map (Value.int .i64) ++ x.map (Value.int .i64)⟩ := by
    unfold flatRowOf
    simp
  rw [e1]
  exact h
section
variable {P : Program} {w : World} {ops : Array Oper} {rest : List Oper} {o : Oper} {a : Act} {Q : Exit → Act → World → Prop}
/-- 'append(s, x)': x, of z cells, lies in a new block of its own. -/
theorem wpList_append1z (hgd : o.guard = none) (s x : Operand) (t : TypeId)
    (ho : o.op = .call { callee := .builtin .append, args := #[s, x], argTypes := #[t, t] })
    {e z bytes : Nat} {zv : Value} (E : Elem P t e zv z bytes) {B : Nat} {R : List Row} {v : Value} {n : Nat} {cs : List Value} (hs : a.eval s = v)
    (own : Own w B (⟨e, z, v, n, cs⟩ :: R)) (hB : B ≤ w.heap.size) {us : List Value} (hus : us.length = z)
    (hx : a.eval x = .slice (some ⟨w.heap.size, 0, none⟩) 1 1) (h1 : ∀ u ∈ us, u.oneCell' = true) (h63 : n ≤ 17592186044415) (hb16 : (n + 1) * bytes ≤ 140737488355328)
    (h : ∀ v' w', Own w' B (⟨e, z, v', n + 1, cs ++ us⟩ :: R) → Below B w w' → wpList P ops Q rest (a.put o.dst v') w') : wpList P ops Q (o :: rest) a (w.alloc (.cells us.toArray e)) := by
  refine wpList_append_Own (w := w.alloc (.cells us.toArray e)) hgd ho E hs own.ext (by simp; omega) hx (news := us) (by omega) ?_ h1 (by unfold maxLen; omega) hb16 ?_
  · intro j y hj
    have hj2 : us.toArray[j]? = some y := by simpa using hj
    have e1 : (⟨w.heap.size, 0, none⟩ : Addr).add j = ⟨w.heap.size, j, none⟩ := by
      unfold Addr.add; split <;> simp_all
    rw [e1]
    simp [hj]
  · intro v' w' h2 h3
    exact h v' w' h2 (((Below.refl B w).alloc hB _).trans h3)
end
end Go.Proofs.Ytnlbjbnjjkilhaa
