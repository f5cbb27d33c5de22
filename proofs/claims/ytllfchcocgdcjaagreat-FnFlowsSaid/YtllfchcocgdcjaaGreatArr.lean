/- Arrays of one's own by functions. -/
import Derived.Test.YtllfchcocgdcjaaGreatGrG
import Derived.Test.YtllfchcocgdcjaaGreatAsH
namespace Go.Proofs.YtllfchcocgdcjaaGreat
open Go.RowKit

/-- an array of one's own whose values are those of a function -/
abbrev aR (e b n c : Nat) (g : Nat → Value) : Row := ⟨e, 1, .slice (some ⟨b, 0, none⟩) n c, n, (List.range n).map g⟩
abbrev iA (b n c : Nat) (f : Nat → Int) : Row := aR 3 b n c fun j => .int .i64 (f j)
abbrev nA (b n c : Nat) (f : Nat → Nat) : Row := aR 3 b n c fun j => .int .i64 (f j : Nat)
abbrev bA (b n c : Nat) (f : Nat → Bool) : Row := aR 4 b n c fun j => .bool (f j)
def updV (g : Nat → Value) (a : Nat) (x : Value) : Nat → Value := fun i => if i = a then x else g i
theorem aR_congr {e b n c : Nat} {g g' : Nat → Value} (h : ∀ j, j < n → g j = g' j) : aR e b n c g = aR e b n c g' := by
  have : (List.range n).map g = (List.range n).map g' := List.map_congr_left fun j hj => h j (List.mem_range.1 hj)
  unfold aR
  rw [this]
theorem set_range (n : Nat) (g : Nat → Value) (j : Nat) (y : Value) : ((List.range n).map g).set j y = (List.range n).map (updV g j y) := by
  apply List.ext_getElem
  · simp
  · intro i h1 h2
    simp only [List.getElem_set, List.getElem_map, List.getElem_range, updV]
    by_cases h : j = i
    · rw [if_pos h, if_pos h.symm]
    · rw [if_neg h, if_neg (fun e => h e.symm)]
section
variable {w : World} {B : Nat} {R : List Row} {e b n c : Nat} {g : Nat → Value}
theorem Own.aLt (h : Own w B R) {k : Nat} (hk : R[k]? = some (aR e b n c g)) : B ≤ b ∧ b < w.heap.size := (h.pick hk).lt
theorem Own.aAt (h : Own w B R) {k : Nat} (hk : R[k]? = some (aR e b n c g)) {j : Nat} (hj : j < n) : w.cell? ⟨b, j, none⟩ = some (g j) ∧ w.frozen? ⟨b, j, none⟩ = false := by
  have h1 := h.pick hk
  refine ⟨?_, h1.frozenAt j⟩
  rw [h1.cellAt (w' := w) hj]
  simp [hj]
theorem Own.aSet (h : Own w B R) {k : Nat} (hk : R[k]? = some (aR e b n c g)) (j : Nat) (y : Value) : Own (w.setCell ⟨b, j, none⟩ y) B (R.set k (aR e b n c (updV g j y))) := by
  have hkl : k < R.length := (List.getElem?_eq_some_iff.1 hk).1
  have h2 := (h.pick hk).set j y
  rw [set_range] at h2
  exact Own.put h2 hkl
end
theorem Own.iSet {w : World} {B : Nat} {R : List Row} {b n c : Nat} {f : Nat → Int} (h : Own w B R) {k : Nat} (hk : R[k]? = some (iA b n c f)) (j : Nat) (y : Int) : Own (w.setCell ⟨b, j, none⟩ (.int .i64 y)) B (R.set k (iA b n c (updI f j y))) := by
  have h2 := h.aSet hk j (.int .i64 y)
  rw [show iA b n c (updI f j y) = aR 3 b n c (updV (fun j => .int .i64 (f j)) j (.int .i64 y)) from aR_congr fun i _ => by
    show Value.int .i64 (if i = j then y else f i) = if i = j then _ else _
    split <;> rfl]
  exact h2
theorem Own.nSet {w : World} {B : Nat} {R : List Row} {b n c : Nat} {f : Nat → Nat} (h : Own w B R) {k : Nat} (hk : R[k]? = some (nA b n c f)) (j : Nat) (y : Nat) : Own (w.setCell ⟨b, j, none⟩ (.int .i64 y)) B (R.set k (nA b n c (updN f j y))) := by
  have h2 := h.aSet hk j (.int .i64 y)
  rw [show nA b n c (updN f j y) = aR 3 b n c (updV (fun j => .int .i64 (f j : Nat)) j (.int .i64 y)) from aR_congr fun i _ => by
    show Value.int .i64 ((if i = j then y else f i : Nat) : Int) = if i = j then _ else _
    split <;> rfl]
  exact h2
theorem Own.bSet {w : World} {B : Nat} {R : List Row} {b n c : Nat} {f : Nat → Bool} (h : Own w B R) {k : Nat} (hk : R[k]? = some (bA b n c f)) (j : Nat) : Own (w.setCell ⟨b, j, none⟩ (.bool true)) B (R.set k (bA b n c (updB f j))) := by
  have h2 := h.aSet hk j (.bool true)
  rw [show bA b n c (updB f j) = aR 4 b n c (updV (fun j => .bool (f j)) j (.bool true)) from aR_congr fun i _ => by
    show Value.bool (if i = j then true else f i) = if i = j then _ else _
    split <;> rfl]
  exact h2
theorem rep_range (n : Nat) (z : Value) : List.replicate n z = (List.range n).map fun _ => z := by
  apply List.ext_getElem
  · simp
  · intro i h1 h2; simp
section
variable {P : Program} {w : World} {ops : Array Oper} {rest : List Oper} {o : Oper} {a : Act} {Q : Exit → Act → World → Prop}
theorem wpList_makeA (hg : o.guard = none) (l c : Operand) (t : TypeId) (hop : o.op = Op.makeSlice t l c) {e bytes : Nat} {z : Value} (E : Elem P t e z 1 bytes) (n : Nat) (hl : a.eval l = .int .i64 n) (hc : a.eval c = .int .i64 n) (hn : n ≤ 17592186044415) (hb16 : n * bytes ≤ 140737488355328) (hz1 : z.cells = #[z])
    {B : Nat} {R : List Row} (own : Own w B R) (hB : B ≤ w.heap.size)
    (h : ∀ b w', Own w' B (aR e b n n (fun _ => z) :: R) → Ext w w' → Below B w w' → wpList P ops Q rest (a.put o.dst (.slice (some ⟨b, 0, none⟩) n n)) w') : wpList P ops Q (o :: rest) a w := by
  refine wpList_makeOwn hg l c t hop E n hl hc hn hb16 hz1 fun _ => h w.heap.size _ ?_ inferInstance ((Below.refl _ w).alloc hB _)
  have := own.lit e 1 n (Array.replicate n z) hB (by unfold maxLen; omega) (by rw [Array.size_replicate, Nat.mul_one])
  rw [Array.toList_replicate, rep_range] at this
  exact this
theorem stp_makeA {K : Act → World → Prop} {E0 : Prop} (hgd : o.guard = none) (l c : Operand) (t : TypeId) (hop : o.op = Op.makeSlice t l c) {e bytes : Nat} {z : Value} (E : Elem P t e z 1 bytes) (n : Nat) (hl : a.eval l = .int .i64 n) (hc : a.eval c = .int .i64 n) (hn : n ≤ 17592186044415) (hb16 : n * bytes ≤ 140737488355328) (hz1 : z.cells = #[z])
    {B : Nat} {R : List Row} (own : Own w B R) (hB : B ≤ w.heap.size)
    (h : ∀ b w', Own w' B (aR e b n n (fun _ => z) :: R) → Ext w w' → Below B w w' → K (a.put o.dst (.slice (some ⟨b, 0, none⟩) n n)) w') :
    if Region.wanted o (yielded ops a.tmps) = true then Oper.wp P o a w K Q else E0 := by
  have hw : Region.wanted o (yielded ops a.tmps) = true := by simp [Region.wanted, hgd]
  rw [if_pos hw]
  obtain ⟨i, hi, hz, hs, hb⟩ := E.info
  subst hb
  have hbb : i.bytes * n ≤ 140737488355328 := by rw [Nat.mul_comm]; exact hb16
  have h2 : (i.bytes : Int) * (n : Int) ≤ 281474976710656 := by
    have h' : ((i.bytes * n : Nat) : Int) ≤ 281474976710656 := by omega
    rwa [Int.natCast_mul] at h'
  have hr := run_make (P := P) w t e i z E.under hi hz .i64 .i64 n n (by omega) (Int.le_refl _) h2 (by omega)
  have hm : madeCells z.cells ((n : Int).toNat * i.size) = Array.replicate n z := by
    rw [hs, hz1]
    apply Array.toList_inj.1
    rw [toList_madeCells_one]
    rw [Array.toList_replicate, Int.toNat_natCast, Nat.mul_one]
  rw [hm] at hr
  unfold Oper.wp
  simp [execOp, hop, hl, hc, hr, Result.andThen]
  refine h w.heap.size _ ?_ inferInstance ((Below.refl _ w).alloc hB _)
  have := own.lit e 1 n (Array.replicate n z) hB (by unfold maxLen; omega) (by rw [Array.size_replicate, Nat.mul_one])
  rw [Array.toList_replicate, rep_range] at this
  exact this
end
theorem Tryz.infoBool : (Tryz.prog.info? 4).map (fun i => (i.zero, i.size, i.bytes)) = some (some (.bool false), 1, 1) := by kernel_rfl
theorem elemBool : Elem Tryz.prog 74 4 (.bool false) 1 1 := ⟨Tryz.underlying74, info_parts Tryz.infoBool, rfl, by decide⟩
end Go.Proofs.YtllfchcocgdcjaaGreat
