/- Double coverage walked: boxes of rows, and what is copied into them. -/
import Derived.Test.YtohjbabjkjcddaaDcM
import Derived.Laws.CopyOwn
import Derived.Maps.OwnSet
namespace Go.Proofs.Ytohjbabjkjcddaa
open Go.RowKit Go.Maps

theorem wpList_insert_own {H : Type} {P : Program} (w : World) {ops : Array Oper} {rest : List Oper} {o : Oper} {a : Act} {Q : Exit → Act → World → Prop}
    (hg : o.guard = none) (m x v : Operand) (t : TypeId) (hop : o.op = Op.insert t m x v)
    (k e : TypeId) (K : Keyed P k) (ht : P.underlying t = some (.map k e)) (R : Value → Option (DataW H × List MemPlace)) (b n : Nat) (D : DataW H)
    (hm : a.eval m = .map (some b)) (hown : w.ownsMap P k R b n D) (hn : n < maxLen) (key val : Value) (kl : Lit) (hx : a.eval x = key) (hv : a.eval v = val) (hkey : keyOf P k key = some kl)
    (d : DataW H) (ps : List MemPlace) (hval : R val = some (d, ps))
    (hK : ∀ w', w'.ownsMap P k R b (n + 1) (D.put kl d) → w.grownBy w' (some b) → wpList P ops Q rest (a.put o.dst undef) w') :
    wpList P ops Q (o :: rest) a w := by
  refine wpList_plain hg fun K' hK' => ?_
  obtain ⟨w', hrun, r1, r2⟩ := hown.update K ht hn hkey hval
  unfold Oper.wp
  simp [execOp, hop, hm, hx, hv, hrun, Result.andThen]
  exact hK' _ _ (hK w' r1 r2)
theorem ext_grown3 {w w' : World} [e : Ext w w'] (r : Option Nat) : w.grownBy w' r := ⟨e.below.os, e.below.tape, e.below.output, e.below.size, fun k hk _ => e.below.block k hk⟩
theorem Try.sizeInt1 : (Try.prog.info? 3).map (·.size) = some 1 := by kernel_rfl
/-- a box holds a row, filled up with noughts -/
def StB (w : World) (g : Nat) (s : List Int) : Prop := w.heap[g]? = some (.cells #[.int .i64 (nth s 0), .int .i64 (nth s 1), .int .i64 (nth s 2)] 68 (0, 0))
theorem StB.lt {w : World} {g : Nat} {s : List Int} (h : StB w g s) : g < w.heap.size := by
  unfold StB at h
  exact (Array.getElem?_eq_some_iff.1 h).1
theorem StB.grown {w w' : World} {g : Nat} {s : List Int} {row : Option Nat} (h : StB w g s) (hg : w.grownBy w' row) (hr : some g ≠ row) : StB w' g s := by
  unfold StB
  rw [hg.block g h.lt hr]
  exact h
theorem StB.ext {w w' : World} {g : Nat} {s : List Int} (h : StB w g s) [Ext w w'] : StB w' g s := h.grown (ext_grown3 none) (by simp)
theorem StB.cells {w : World} {g : Nat} {s : List Int} (h : StB w g s) : w.cell? ⟨g, 0, none⟩ = some (.int .i64 (nth s 0)) ∧ w.cell? ⟨g, 1, none⟩ = some (.int .i64 (nth s 1)) ∧ w.cell? ⟨g, 2, none⟩ = some (.int .i64 (nth s 2)) := by
  unfold StB at h
  refine ⟨?_, ?_, ?_⟩ <;> simp [World.cell?, h]
theorem StB.at {w : World} {g : Nat} {s : List Int} (h : StB w g s) {k : Nat} (hk : k < 3) : w.cell? ⟨g, k, none⟩ = some (.int .i64 (nth s k)) := by
  obtain ⟨h0, h1, h2⟩ := h.cells
  have : k = 0 ∨ k = 1 ∨ k = 2 := by omega
  rcases this with rfl | rfl | rfl <;> assumption
theorem StB.ints {w : World} {g L : Nat} {s : List Int} (h : StB w g s) (hs : RowS L s) (hL : L ≤ 3) : IsInts w (.slice (some ⟨g, 0, none⟩) s.length 3) s := by
  have hl := hs.1
  refine ⟨_, _, rfl, ⟨by unfold Short; omega, by omega⟩, fun x hx => by have := hs.2 x hx; unfold I64; omega, fun j hj => ⟨g, 0, rfl, ?_⟩⟩
  rw [Nat.zero_add]
  exact h.at (by omega)
theorem wpList_copy_st {w : World} {ops : Array Oper} {rest : List Oper} {o : Oper} {a : Act} {Q : Exit → Act → World → Prop} (hgd : o.guard = none) (d s : Operand)
    (ho : o.op = .call { callee := .builtin .copy, args := #[d, s], argTypes := #[24, 24] })
    (g : Nat) (v : Value) (xs : List Int) (hd : a.eval d = .slice (some ⟨g, 0, none⟩) 3 3) (hs : a.eval s = v) (hi : IsInts w v xs) (h1 : 1 ≤ xs.length) (h3 : xs.length ≤ 3)
    (hg : w.heap[g]? = some (.cells #[.int .i64 0, .int .i64 0, .int .i64 0] 68 (0, 0)))
    (h : ∀ w', StB w' g xs → w.grownBy w' (some g) → wpList Try.prog ops Q rest (a.put o.dst (goInt xs.length)) w') : wpList Try.prog ops Q (o :: rest) a w := by
  obtain ⟨ap, c, rfl, la⟩ := hi.form
  obtain ⟨b, off, rfl, _⟩ := hi.at (w' := w) (k := 0) (by omega)
  refine wpList_copy_own hgd d s 24 24 ho 3 Try.underlying24 Try.sizeInt1 g 0 3 3 ⟨b, off, none⟩ xs.length c hd hs _ 68 hg (xs.map (Value.int .i64)) (by rw [List.length_map]; exact (Nat.min_eq_left h3).symm) (fun j v hj => ?_) (by simp; omega) (fun v hv => ?_) ?_
  · rw [List.getElem?_map] at hj
    cases hk : xs[j]? with
    | none => rw [hk] at hj; cases hj
    | some x =>
      rw [hk] at hj
      cases hj
      have hjl : j < xs.length := (List.getElem?_eq_some_iff.1 hk).1
      obtain ⟨b', o', h1, h2⟩ := hi.at (w' := w) hjl
      cases h1
      rw [show (⟨b, off, none⟩ : Addr).add j = ⟨b, off + j, none⟩ by unfold Addr.add; split <;> simp_all]
      rw [h2]
      simp [nth, hk]
  · obtain ⟨x, _, rfl⟩ := List.mem_map.1 hv
    rfl
  · rw [List.length_map]
    refine h _ ?_ ⟨rfl, rfl, rfl, by simp [World.setRow], fun k hk hne => setRow_other w g k _ (by intro e; exact hne (by rw [e]))⟩
    unfold StB
    rw [setRow_heap w g _ _ 68 _ hg]
    match xs, h1, h3 with
    | [a], _, _ => rfl
    | [a, b], _, _ => rfl
    | [a, b, c], _, _ => rfl
    | _ :: _ :: _ :: _ :: l, _, h3 => simp at h3
theorem zeroInt3 (w : World) : (zeroValue 3).run Try.prog w = .ok (.int .i64 0) w := by kernel_rfl
end Go.Proofs.Ytohjbabjkjcddaa
