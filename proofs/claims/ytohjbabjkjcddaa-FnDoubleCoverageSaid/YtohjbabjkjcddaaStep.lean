/- Steps of a drawing region that append. -/
import Derived.Test.YtohjbabjkjcddaaAppend
import Derived.Test.YtohjbabjkjcddaaLawA
import Derived.Deep.RegionHeld3
import Derived.Deep.RegionLaw
namespace Go.Proofs.Ytohjbabjkjcddaa
open Go.RowKit

theorem stp_one {P : Program} {ops : Array Oper} {o : Oper} {a : Act} {w : World} {K : Act → World → Prop} {Q : Exit → Act → World → Prop} {E0 : Prop} (hgd : o.guard = none) (s x : Operand) (t : TypeId)
    (ho : o.op = .call { callee := .builtin .append, args := #[s, x], argTypes := #[t, t] })
    {e z bytes : Nat} {zv : Value} (E : Elem P t e zv z bytes) {B : Nat} {R : List Row} {v : Value} {n : Nat} {cs : List Value} (hs : a.eval s = v)
    (own : Own w B (⟨e, z, v, n, cs⟩ :: R)) (hB : B ≤ w.heap.size) {g : Nat} {us : List Value} (hus : us.length = z)
    (hx : a.eval x = .slice (some ⟨g, 0, none⟩) 1 1) (hnews : ∀ j u, us[j]? = some u → w.cell? ⟨g, j, none⟩ = some u) (h1 : ∀ u ∈ us, u.oneCell' = true) (h63 : n ≤ 17592186044415) (hb16 : (n + 1) * bytes ≤ 140737488355328)
    (h : ∀ v' w', Own w' B (⟨e, z, v', n + 1, cs ++ us⟩ :: R) → Below B w w' → K (a.put o.dst v') w') :
    if Region.wanted o (yielded ops a.tmps) = true then Oper.wp P o a w K Q else E0 := by
  have hw : Region.wanted o (yielded ops a.tmps) = true := by simp [Region.wanted, hgd]
  rw [if_pos hw]
  have hn2 : ∀ j u, us[j]? = some u → w.cell? ((⟨g, 0, none⟩ : Addr).add j) = some u := by
    intro j u hj
    have e1 : (⟨g, 0, none⟩ : Addr).add j = ⟨g, j, none⟩ := by
      unfold Addr.add; split <;> simp_all
    rw [e1]
    exact hnews j u hj
  obtain ⟨v', w', hr, h2, h3⟩ := run_append_Own (P := P) (ty := o.type) E own hB (m := 1) (c := 1) (by omega) hn2 h1 (by unfold maxLen; omega) hb16
  unfold Oper.wp execOp
  simp only [ho, resolve, invoke, builtin, Sem.run_bind, Sem.run_pure, Result.andThen_ok, List.map_toArray, List.map_cons, List.map_nil, hs, hx]
  rw [hr]
  exact h v' w' h2 h3

theorem stp_ints {P : Program} {ops : Array Oper} {o : Oper} {a : Act} {w : World} {K : Act → World → Prop} {Q : Exit → Act → World → Prop} {E0 : Prop} (hgd : o.guard = none) (s x : Operand) (t : TypeId)
    (ho : o.op = .call { callee := .builtin .append, args := #[s, x], argTypes := #[t, t] })
    {e : Nat} (E : Elem P t e (.int .i64 0) 1 8) {B : Nat} {R : List Row} {v u : Value} {n : Nat} {cs : List Value} (hs : a.eval s = v)
    (own : Own w B (⟨e, 1, v, n, cs⟩ :: R)) (hB : B ≤ w.heap.size) {ys : List Int} (hx : a.eval x = u) (hy : IsInts w u ys)
    (h63 : n + ys.length ≤ 17592186044415)
    (h : ∀ v' w', Own w' B (⟨e, 1, v', n + ys.length, cs ++ ys.map (Value.int .i64)⟩ :: R) → Below B w w' → K (a.put o.dst v') w') :
    if Region.wanted o (yielded ops a.tmps) = true then Oper.wp P o a w K Q else E0 := by
  have hw : Region.wanted o (yielded ops a.tmps) = true := by simp [Region.wanted, hgd]
  rw [if_pos hw]
  obtain ⟨d, c, rfl, hl⟩ := hy.form
  cases d with
  | some ad =>
    obtain ⟨v', w', hr, h2, h3⟩ := run_append_Own (P := P) (ty := o.type) E own hB (ad := ad) (m := ys.length) (c := c) (news := ys.map (Value.int .i64)) (by simp) (cells_of_ints hy) (by intro y hy'; simp at hy'; obtain ⟨k, _, rfl⟩ := hy'; rfl) (by unfold maxLen; omega) (by omega)
    unfold Oper.wp execOp
    simp only [ho, resolve, invoke, builtin, Sem.run_bind, Sem.run_pure, Result.andThen_ok, List.map_toArray, List.map_cons, List.map_nil, hs, hx]
    rw [hr]
    exact h v' w' h2 h3
  | none =>
    have hy0 : ys = [] := by
      cases ys with
      | nil => rfl
      | cons y ys =>
        obtain ⟨b, o, h1, _⟩ := hy.at (w' := w) (k := 0) (by simp)
        cases h1
    subst hy0
    have hr := run_append_none (P := P) (ty := o.type) E own.head c
    unfold Oper.wp execOp
    simp only [ho, resolve, invoke, builtin, Sem.run_bind, Sem.run_pure, Result.andThen_ok, List.map_toArray, List.map_cons, List.map_nil, hs, hx, List.length_nil]
    rw [hr]
    exact h v w (by rw [List.length_nil, Nat.add_zero, List.map_nil, List.append_nil]; exact own) (Below.refl _ _)


theorem region_held_from {P : Program} {ops : Array Oper} {Q : Exit → Act → World → Prop} {S : World → Prop} {id : Nat} {a : Act} {w w0 : World} [e : Ext w0 w] (hm : P.follows .mixedOrders = true) (hS : ∀ u, Ext w0 u → S u)
    (h : ∀ wd, Ext w0 wd → S wd → wpAnyH P .any ops Q S ops.size (Array.replicate ops.size false) a wd) : (Code.region id ops true).wp P Q a w :=
  wp_region_held_drew hm (hS _ inferInstance) (fun h0 => h _ inferInstance h0)
theorem own_formN {w : World} {B e : Nat} {v : Value} {xs : List Int} {R : List Row} (h : Own w B (intRowOf e v xs :: R)) : ∃ d n m, v = .slice d n m ∧ Hid (n = xs.length) := by
  obtain ⟨d, m, h⟩ := h.form
  exact ⟨d, _, m, h, rfl⟩
theorem own_grow1 {w : World} {B e n : Nat} {v : Value} {xs : List Int} {x : Int} {R : List Row} (h : Own w B (⟨e, 1, v, n + 1, xs.map (Value.int .i64) ++ [.int .i64 x]⟩ :: R)) (hn : n = xs.length) : Own w B (intRowOf e v (xs ++ [x]) :: R) := by
  subst hn
  unfold intRowOf
  rw [List.length_append, List.map_append]
  exact h
theorem own_more {w : World} {B e n : Nat} {v : Value} {xs ys : List Int} {R : List Row} (h : Own w B (⟨e, 1, v, n + ys.length, xs.map (Value.int .i64) ++ ys.map (Value.int .i64)⟩ :: R)) (hn : n = xs.length) : Own w B (intRowOf e v (xs ++ ys) :: R) := by
  subst hn
  unfold intRowOf
  rw [List.length_append, List.map_append]
  exact h
end Go.Proofs.Ytohjbabjkjcddaa
