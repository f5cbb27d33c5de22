/- Several texts in one: Base Append LawA LawB LawC Reads Mark. -/
import Derived.WalkKit
import Derived.WalkSpells
import Derived.WalkLawsBesides
import Derived.Deep.QuietTactic
import Derived.BigQuiet
import Derived.Test.YtllfchcocgdcjaaGreatProg
/- Words that serve every walk of this seat: a world that keeps all that another has, values that read as lists of ints, memory of one's own as a list of rows. -/
namespace Go.Proofs.YtllfchcocgdcjaaGreat
open Go.RowKit

theorem hid {p : Prop} (h : p) : Hid p := h

/-- w' has all that w has, unchanged. -/
class Ext (w w' : World) : Prop where
  below : Below w.heap.size w w'

instance Ext.refl (w : World) : Ext w w := ⟨Below.refl _ _⟩
instance Ext.alloc (a w : World) (o : Obj) [h : Ext a w] : Ext a (w.alloc o) := ⟨h.below.alloc h.below.size o⟩
instance Ext.drew (a w : World) [h : Ext a w] : Ext a w.drew := ⟨h.below.drew⟩
instance Ext.drewN (a w : World) (n : Nat) [h : Ext a w] : Ext a (w.drewN n) :=
  ⟨h.below.os, h.below.tape, h.below.output, h.below.size, h.below.block⟩
theorem Ext.trans {a b c : World} (h : Ext a b) (k : Ext b c) : Ext a c :=
  ⟨h.below.trans (k.below.mono h.below.size)⟩
theorem Ext.size {a b : World} (h : Ext a b) : a.heap.size ≤ b.heap.size := h.below.size
theorem Ext.cell {a b : World} (h : Ext a b) {p : Addr} {v : Value} (hv : a.cell? p = some v) : b.cell? p = some v :=
  (h.below.cell (World.block_lt_of_cell? a _ hv)).trans hv
theorem Ext.frozen {a b : World} (h : Ext a b) {p : Addr} {v : Value} (hv : a.cell? p = some v) {x : Bool} (hf : a.frozen? p = x) : b.frozen? p = x :=
  (h.below.frozen (World.block_lt_of_cell? a _ hv)).trans hf
theorem Ext.cells {a b : World} (h : Ext a b) : ∀ k o, k < a.heap.size → b.cell? ⟨k, o, none⟩ = a.cell? ⟨k, o, none⟩ :=
  fun k o hk => h.below.cell (p := ⟨k, o, none⟩) hk
theorem Ext.frozens {a b : World} (h : Ext a b) : ∀ k o, k < a.heap.size → b.frozen? ⟨k, o, none⟩ = a.frozen? ⟨k, o, none⟩ :=
  fun k o hk => h.below.frozen (p := ⟨k, o, none⟩) hk

/-- w' is w behind some draws. -/
def Drew (w w' : World) : Prop := ∃ m, w' = w.drewN m
theorem Drew.refl (w : World) : Drew w w := ⟨0, rfl⟩
theorem Drew.step {a b : World} (h : Drew a b) (n : Nat) : Drew a (b.drewN n) := by
  obtain ⟨m, rfl⟩ := h
  exact ⟨m + n, by rw [World.drewN_drewN]⟩
theorem Drew.trans {a b c : World} (h : Drew a b) (k : Drew b c) : Drew a c := by
  obtain ⟨n, rfl⟩ := k
  exact h.step n
theorem Drew.ext {a b : World} (h : Drew a b) : Ext a b := by
  obtain ⟨m, rfl⟩ := h
  infer_instance

/-- an int of 64 bits -/
def I64 (x : Int) : Prop := -9223372036854775808 ≤ x ∧ x ≤ 9223372036854775807

def nth (xs : List Int) (k : Nat) : Int := xs.getD k 0
def row (xss : List (List Int)) (k : Nat) : List Int := xss.getD k []

theorem nth_mem {xs : List Int} {k : Nat} (h : k < xs.length) : nth xs k ∈ xs := by
  simp [nth, h]
theorem row_mem {xss : List (List Int)} {k : Nat} (h : k < xss.length) : row xss k ∈ xss := by
  simp [row, h]
theorem mem_iff_nth {xs : List Int} {x : Int} : x ∈ xs ↔ ∃ k, k < xs.length ∧ nth xs k = x := by
  rw [List.mem_iff_getElem]
  constructor
  · rintro ⟨k, h, rfl⟩; exact ⟨k, h, by simp [nth, h]⟩
  · rintro ⟨k, h, rfl⟩; exact ⟨k, h, by simp [nth, h]⟩
theorem mem_iff_row {xs : List (List Int)} {x : List Int} : x ∈ xs ↔ ∃ k, k < xs.length ∧ row xs k = x := by
  rw [List.mem_iff_getElem]
  constructor
  · rintro ⟨k, h, rfl⟩; exact ⟨k, h, by simp [row, h]⟩
  · rintro ⟨k, h, rfl⟩; exact ⟨k, h, by simp [row, h]⟩
theorem take_succ_nth {xs : List Int} {k : Nat} (h : k < xs.length) : xs.take (k + 1) = xs.take k ++ [nth xs k] := by
  rw [List.take_succ_eq_append_getElem h]
  simp [nth, h]
theorem take_succ_row {xs : List (List Int)} {k : Nat} (h : k < xs.length) : xs.take (k + 1) = xs.take k ++ [row xs k] := by
  rw [List.take_succ_eq_append_getElem h]
  simp [row, h]
theorem eq_of_nth {xs ys : List Int} (hl : xs.length = ys.length) (h : ∀ j, j < xs.length → nth xs j = nth ys j) : xs = ys := by
  apply List.ext_getElem hl
  intro i h1 h2
  have := h i h1
  simpa [nth, h1, h2] using this
theorem eq_of_row {xs ys : List (List Int)} (hl : xs.length = ys.length) (h : ∀ j, j < xs.length → row xs j = row ys j) : xs = ys := by
  apply List.ext_getElem hl
  intro i h1 h2
  have := h i h1
  simpa [row, h1, h2] using this

/-- the bound on a length: what 2^47 bytes hold of ints -/
def Short (n : Nat) : Prop := n ≤ 17592186044415
def ShortRows (n : Nat) : Prop := n ≤ 5864062014804
theorem Short.le {n : Nat} (h : Short n) : n ≤ 17592186044415 := h

/-- The value v reads as the ints xs in w. -/
def IsInts (w : World) (v : Value) (xs : List Int) : Prop :=
  ∃ a c, v = .slice a xs.length c ∧ (Short xs.length ∧ xs.length ≤ c) ∧ (∀ x ∈ xs, I64 x) ∧
    ∀ j, j < xs.length → ∃ b o, a = some ⟨b, o, none⟩ ∧ w.cell? ⟨b, o + j, none⟩ = some (.int .i64 (nth xs j))

theorem IsInts.ext {w w' : World} {v : Value} {xs : List Int} (h : IsInts w v xs) [e : Ext w w'] : IsInts w' v xs := by
  obtain ⟨a, c, h1, h2, h3, h4⟩ := h
  refine ⟨a, c, h1, h2, h3, fun j hj => ?_⟩
  obtain ⟨b, o, h5, h6⟩ := h4 j hj
  exact ⟨b, o, h5, e.cell h6⟩
theorem IsInts.form {w : World} {v : Value} {xs : List Int} (h : IsInts w v xs) : ∃ a c, v = .slice a xs.length c ∧ xs.length ≤ 17592186044415 := by
  obtain ⟨a, c, h1, h2, _⟩ := h
  exact ⟨a, c, h1, h2.1⟩
theorem IsInts.cap {w : World} {a : Option Addr} {n c : Nat} {xs : List Int} (h : IsInts w (.slice a n c) xs) : xs.length ≤ c := by
  obtain ⟨a', c', h1, h2, _⟩ := h
  cases h1
  exact h2.2
theorem IsInts.at {w w' : World} {a : Option Addr} {n c : Nat} {xs : List Int} (h : IsInts w (.slice a n c) xs) [e : Ext w w'] {k : Nat} (hk : k < xs.length) :
    ∃ b o, a = some ⟨b, o, none⟩ ∧ w'.cell? ⟨b, o + k, none⟩ = some (.int .i64 (nth xs k)) := by
  obtain ⟨a', c', h1, h2, h3, h4⟩ := h
  obtain ⟨b, o, h5, h6⟩ := h4 k hk
  cases h1
  exact ⟨b, o, h5, e.cell h6⟩
theorem IsInts.len {w : World} {a : Option Addr} {n c : Nat} {xs : List Int} (h : IsInts w (.slice a n c) xs) : n = xs.length := by
  obtain ⟨a', c', h1, _⟩ := h; cases h1; rfl
theorem IsInts.i64 {w : World} {v : Value} {xs : List Int} (h : IsInts w v xs) {k : Nat} (hk : k < xs.length) : I64 (nth xs k) := by
  obtain ⟨a', c', _, _, h3, _⟩ := h
  exact h3 _ (nth_mem hk)
theorem IsInts.nil (w : World) : IsInts w (.slice none 0 0) [] := ⟨none, 0, rfl, ⟨Nat.zero_le _, Nat.le_refl _⟩, by simp, fun j hj => by simp at hj⟩

/-- The value v reads as the rows of ints xss in w. -/
def IsRows (w : World) (v : Value) (xss : List (List Int)) : Prop :=
  ∃ a c, v = .slice a xss.length c ∧ ShortRows xss.length ∧
    ∀ j, j < xss.length → ∃ b o u, a = some ⟨b, o, none⟩ ∧ w.cell? ⟨b, o + j, none⟩ = some u ∧ IsInts w u (row xss j)

theorem IsRows.ext {w w' : World} {v : Value} {xss : List (List Int)} (h : IsRows w v xss) [e : Ext w w'] : IsRows w' v xss := by
  obtain ⟨a, c, h1, h2, h4⟩ := h
  refine ⟨a, c, h1, h2, fun j hj => ?_⟩
  obtain ⟨b, o, u, h5, h6, h7⟩ := h4 j hj
  exact ⟨b, o, u, h5, e.cell h6, h7.ext⟩
theorem IsRows.form {w : World} {v : Value} {xss : List (List Int)} (h : IsRows w v xss) : ∃ a c, v = .slice a xss.length c ∧ xss.length ≤ 5864062014804 := by
  obtain ⟨a, c, h1, h2, _⟩ := h
  exact ⟨a, c, h1, h2⟩
theorem IsRows.at {w w' : World} {a : Option Addr} {n c : Nat} {xss : List (List Int)} (h : IsRows w (.slice a n c) xss) [e : Ext w w'] {k : Nat} (hk : k < xss.length) :
    ∃ b o d m, a = some ⟨b, o, none⟩ ∧ w'.cell? ⟨b, o + k, none⟩ = some (.slice d (row xss k).length m) ∧ IsInts w (.slice d (row xss k).length m) (row xss k) ∧ (row xss k).length ≤ 17592186044415 := by
  obtain ⟨a', c', h1, h2, h4⟩ := h
  obtain ⟨b, o, u, h5, h6, h7⟩ := h4 k hk
  cases h1
  obtain ⟨d, m, rfl, hs⟩ := h7.form
  exact ⟨b, o, d, m, h5, e.cell h6, h7, hs⟩
theorem IsRows.nil (w : World) : IsRows w (.slice none 0 0) [] := ⟨none, 0, rfl, Nat.zero_le _, fun j hj => by simp at hj⟩

theorem IsRows.all {w : World} {v : Value} {M : List (List Int)} (h : IsRows w v M) : ShortRows M.length ∧ (∀ r ∈ M, Short r.length) ∧ ∀ r ∈ M, ∀ x ∈ r, I64 x := by
  obtain ⟨a, c, _, h2, h4⟩ := h
  refine ⟨h2, fun r hr => ?_, fun r hr => ?_⟩
  all_goals
    obtain ⟨k, hk, rfl⟩ := mem_iff_row.1 hr
    obtain ⟨_, _, _, _, _, a', c', _, h5, h6, _⟩ := h4 k hk
  · exact h5.1
  · exact h6

/-- A row of one's own: element type, cells of an element, the slice value, its length, its cells. -/
structure Row where
  e : Nat
  z : Nat
  v : Value
  n : Nat
  cs : List Value

/-- The rows lie from block B on in w, each in a block of its own. -/
def Own (w : World) (B : Nat) (R : List Row) : Prop :=
  (∀ r ∈ R, w.ownsRow B r.e r.z r.v r.n r.cs) ∧ R.Pairwise (fun r s => r.v.ownBlock = none ∨ r.v.ownBlock ≠ s.v.ownBlock)

abbrev intRowOf (e : Nat) (v : Value) (xs : List Int) : Row := ⟨e, 1, v, xs.length, xs.map (Value.int .i64)⟩
abbrev valRowOf (e : Nat) (v : Value) (vs : List Value) : Row := ⟨e, 1, v, vs.length, vs⟩

theorem Own.nil (w : World) (B : Nat) : Own w B [] := ⟨by simp, List.Pairwise.nil⟩

theorem ownBlock_lt {w : World} {B e z n : Nat} {v : Value} {cs : List Value} (h : w.ownsRow B e z v n cs) {k : Nat} (hk : v.ownBlock = some k) : B ≤ k ∧ k < w.heap.size :=
  h.lt k hk

theorem ownsRow_same {w w' : World} {B e z n : Nat} {v : Value} {cs : List Value} (h : w.ownsRow B e z v n cs)
    (hs : ∀ k, v.ownBlock = some k → w'.heap[k]? = w.heap[k]?) : w'.ownsRow B e z v n cs := by
  refine ⟨h.1, ?_⟩
  rcases h.2 with hn | ⟨g, cap, cur, rfl, hb, hgg, rest⟩
  · exact .inl hn
  · exact .inr ⟨g, cap, cur, rfl, hb, by rw [hs g rfl]; exact hgg, rest⟩

theorem ownsRow_mono {w : World} {B B' e z n : Nat} {v : Value} {cs : List Value} (h : w.ownsRow B e z v n cs) (hB : B' ≤ B) : w.ownsRow B' e z v n cs := by
  refine ⟨h.1, ?_⟩
  rcases h.2 with hn | ⟨g, cap, cur, rfl, hb, rest⟩
  · exact .inl hn
  · exact .inr ⟨g, cap, cur, rfl, Nat.le_trans hB hb, rest⟩

theorem Own.same {w w' : World} {B : Nat} {R : List Row} (h : Own w B R) (hs : ∀ k, B ≤ k → k < w.heap.size → w'.heap[k]? = w.heap[k]?) : Own w' B R :=
  ⟨fun r hr => ownsRow_same (h.1 r hr) (fun k hk => by
    have := (h.1 r hr).lt k hk
    exact hs k this.1 this.2), h.2⟩

theorem Own.ext {w w' : World} {B : Nat} {R : List Row} (h : Own w B R) [e : Ext w w'] : Own w' B R :=
  h.same fun k _ hk => e.below.block k hk

theorem Own.mono {w : World} {B B' : Nat} {R : List Row} (h : Own w B R) (hB : B' ≤ B) : Own w B' R :=
  ⟨fun r hr => ownsRow_mono (h.1 r hr) hB, h.2⟩

theorem Own.perm {w : World} {B : Nat} {R S : List Row} (h : Own w B R) (p : S.Perm R) : Own w B S :=
  ⟨fun r hr => h.1 r (p.mem_iff.1 hr), by
    refine h.2.perm p.symm (fun {x y} hxy => ?_)
    rcases hxy with hxy | hxy
    · by_cases hy : y.v.ownBlock = none
      · exact .inl hy
      · exact .inr (by rw [hxy]; exact hy)
    · exact .inr (fun e => hxy e.symm)⟩

theorem Own.sub {w : World} {B : Nat} {R S : List Row} (h : Own w B R) (p : S.Sublist R) : Own w B S :=
  ⟨fun r hr => h.1 r (p.subset hr), h.2.sublist p⟩

theorem Own.tail {w : World} {B : Nat} {r : Row} {R : List Row} (h : Own w B (r :: R)) : Own w B R := h.sub (List.sublist_cons_self _ _)
theorem Own.head {w : World} {B : Nat} {r : Row} {R : List Row} (h : Own w B (r :: R)) : w.ownsRow B r.e r.z r.v r.n r.cs := h.1 r (by simp)
theorem Own.left {w : World} {B : Nat} {R S : List Row} (h : Own w B (R ++ S)) : Own w B R := h.sub (List.sublist_append_left _ _)
theorem Own.right {w : World} {B : Nat} {R S : List Row} (h : Own w B (R ++ S)) : Own w B S := h.sub (List.sublist_append_right _ _)
theorem Own.swap {w : World} {B : Nat} {R S : List Row} (h : Own w B (R ++ S)) : Own w B (S ++ R) := h.perm List.perm_append_comm

/-- What a callee has made joins what was owned before. -/
theorem Own.join {w w' : World} {B : Nat} {R S : List Row} (h : Own w B R) (hn : Own w' w.heap.size S) [e : Ext w w'] (hB : B ≤ w.heap.size) : Own w' B (S ++ R) := by
  have h' : Own w' B R := h.ext
  refine ⟨fun r hr => ?_, List.pairwise_append.2 ⟨hn.2, h'.2, fun s hs r hr => ?_⟩⟩
  · rcases List.mem_append.1 hr with hr | hr
    · exact ownsRow_mono (hn.1 r hr) hB
    · exact h'.1 r hr
  · cases hb : s.v.ownBlock with
    | none => exact .inl rfl
    | some k =>
      refine .inr fun e' => ?_
      have h1 := (hn.1 s hs).lt k hb
      have h2 := (h.1 r hr).lt k e'.symm
      omega

/-- A new row, written out. -/
theorem Own.lit {w : World} {B : Nat} {R : List Row} (h : Own w B R) (e z n : Nat) (cs : Array Value) (hB : B ≤ w.heap.size) (hm : n ≤ maxLen) (hs : cs.size = n * z) :
    Own (w.alloc (.cells cs e)) B (⟨e, z, .slice (some ⟨w.heap.size, 0, none⟩) n n, n, cs.toList⟩ :: R) := by
  have h' : Own (w.alloc (.cells cs e)) B R := h.ext
  refine ⟨fun r hr => ?_, List.pairwise_cons.2 ⟨fun r hr => .inr fun e' => ?_, h'.2⟩⟩
  · rcases List.mem_cons.1 hr with rfl | hr
    · exact World.ownsRow_lit w cs n hB hm hs
    · exact h'.1 r hr
  · have := (h.1 r hr).lt w.heap.size e'.symm
    omega

theorem Own.litInts {W : World} {B k e n : Nat} {cs : Array Value} {xs : List Int} (hB : B ≤ W.heap.size) (hk : k = W.heap.size) (h : cs.toList = xs.map (Value.int .i64)) (hs : xs.length ≤ 1000000) (hn : n = xs.length) :
    Own (W.alloc (.cells cs e)) B [intRowOf e (.slice (some ⟨k, 0, none⟩) xs.length n) xs] := by
  subst hk
  subst hn
  have hl : cs.size = xs.length * 1 := by rw [← Array.length_toList, h]; simp
  have := (Own.nil W B).lit e 1 xs.length cs hB (by unfold maxLen; omega) hl
  rw [h] at this
  exact this

theorem Own.cons_nil {w : World} {B : Nat} {R : List Row} (h : Own w B R) (e z : Nat) : Own w B (⟨e, z, .slice none 0 0, 0, []⟩ :: R) :=
  ⟨fun r hr => by
    rcases List.mem_cons.1 hr with rfl | hr
    · exact World.ownsRow_nil w B e z
    · exact h.1 r hr, List.pairwise_cons.2 ⟨fun r _ => .inl rfl, h.2⟩⟩

/-- One row is written anew, or laid elsewhere; the others stay. -/
theorem Own.turn {w w' : World} {B : Nat} {r : Row} {R : List Row} (h : Own w B (r :: R)) {r' : Row} (hr' : w'.ownsRow B r'.e r'.z r'.v r'.n r'.cs)
    (hg : w.grownBy w' r.v.ownBlock) (hb : r'.v.ownBlock = r.v.ownBlock ∨ ∀ k, r'.v.ownBlock = some k → w.heap.size ≤ k) : Own w' B (r' :: R) := by
  have hp := List.pairwise_cons.1 h.2
  have keep : ∀ s ∈ R, w'.ownsRow B s.e s.z s.v s.n s.cs := fun s hs => ownsRow_same (h.1 s (by simp [hs])) fun k hk => by
    have hlt := (h.1 s (by simp [hs])).lt k hk
    refine hg.block k hlt.2 fun e' => ?_
    rcases hp.1 s hs with h1 | h1
    · rw [h1] at e'; cases e'
    · exact h1 (e'.symm.trans hk.symm)
  refine ⟨fun s hs => ?_, List.pairwise_cons.2 ⟨fun s hs => ?_, hp.2⟩⟩
  · rcases List.mem_cons.1 hs with rfl | hs
    · exact hr'
    · exact keep s hs
  · rcases hb with hb | hb
    · rw [hb]; exact hp.1 s hs
    · cases hk : r'.v.ownBlock with
      | none => exact .inl rfl
      | some k =>
        refine .inr fun e' => ?_
        have h1 := hb k hk
        have h2 := (h.1 s (by simp [hs])).lt k e'.symm
        omega

theorem below_of_grown {w w' : World} {B e z n : Nat} {v : Value} {cs : List Value} (h : w.ownsRow B e z v n cs) (hg : w.grownBy w' v.ownBlock) (hB : B ≤ w.heap.size) : Below B w w' :=
  (Below.refl B w).grown hg hB fun k hk => (h.lt k hk).1

/-- The form of an owned value. -/
theorem Own.form {w : World} {B : Nat} {r : Row} {R : List Row} (h : Own w B (r :: R)) : ∃ a c, r.v = .slice a r.n c := by
  rcases h.head.2 with ⟨h1, h2⟩ | ⟨g, cap, cur, hv, _⟩
  · exact ⟨none, 0, by rw [h1, h2]⟩
  · exact ⟨_, cap, hv⟩

theorem Own.reads {w : World} {B e : Nat} {v : Value} {xs : List Int} {R : List Row} (h : Own w B (intRowOf e v xs :: R)) (hs : Short xs.length) (hi : ∀ x ∈ xs, I64 x) : IsInts w v xs := by
  rcases h.head.2 with ⟨h1, h2⟩ | ⟨g, cap, cur, hv, hb, hg, hc, hm, hz, ht⟩
  · have hx : xs = [] := List.eq_nil_of_length_eq_zero h2
    subst hx
    have h1' : v = .slice none 0 0 := h1
    rw [h1']; exact IsInts.nil w
  · have hv' : v = .slice (some ⟨g, 0, none⟩) xs.length cap := hv
    refine ⟨_, cap, hv', ⟨hs, hc⟩, hi, fun j hj => ⟨g, 0, rfl, ?_⟩⟩
    have ho := h.head
    simp only [hv'] at ho
    have := ho.cellAt (0 + j) (by omega)
    rw [this]
    simp [nth, hj]

theorem Own.readsRows {w : World} {B e : Nat} {v : Value} {vs : List Value} {xss : List (List Int)} {R : List Row} (h : Own w B (valRowOf e v vs :: R)) (hs : ShortRows xss.length) (hl : vs.length = xss.length)
    (hi : ∀ j, j < xss.length → IsInts w (vs.getD j undef) (row xss j)) : IsRows w v xss := by
  rcases h.head.2 with ⟨h1, h2⟩ | ⟨g, cap, cur, hv, hb, hg, hc, hm, hz, ht⟩
  · have h2' : vs.length = 0 := h2
    have hx : xss = [] := List.eq_nil_of_length_eq_zero (by omega)
    subst hx
    have h1' : v = .slice none 0 0 := h1
    rw [h1']; exact IsRows.nil w
  · have hv' : v = .slice (some ⟨g, 0, none⟩) vs.length cap := hv
    refine ⟨_, cap, by rw [hv', hl], hs, fun j hj => ⟨g, 0, vs.getD j undef, rfl, ?_, hi j hj⟩⟩
    have ho := h.head
    simp only [hv'] at ho
    have := ho.cellAt (0 + j) (by omega)
    rw [this]
    have hj' : j < vs.length := by omega
    simp [hj']

theorem Own.cellAt {w w' : World} {B e g n c : Nat} {cs : List Value} {R : List Row} (h : Own w B (⟨e, 1, .slice (some ⟨g, 0, none⟩) n c, n, cs⟩ :: R)) [x : Ext w w'] {j : Nat} (hj : j < n) :
    w'.cell? ⟨g, j, none⟩ = some (cs.getD j undef) := by
  have h1 := h.head.cellAt j (by simpa using hj)
  have h2 : cs.length = n * 1 := h.head.1
  refine x.cell ?_
  rw [h1]
  have h3 : j < cs.length := by omega
  simp [h3]
theorem Own.frozenAt {w : World} {B e g n c : Nat} {cs : List Value} {R : List Row} (h : Own w B (⟨e, 1, .slice (some ⟨g, 0, none⟩) n c, n, cs⟩ :: R)) (j : Nat) :
    w.frozen? ⟨g, j, none⟩ = false := h.head.frozenAt j
theorem Own.set {w : World} {B e g n c : Nat} {cs : List Value} {R : List Row} (h : Own w B (⟨e, 1, .slice (some ⟨g, 0, none⟩) n c, n, cs⟩ :: R)) (j : Nat) (u : Value) :
    Own (w.setCell ⟨g, j, none⟩ u) B (⟨e, 1, .slice (some ⟨g, 0, none⟩) n c, n, cs.set j u⟩ :: R) :=
  h.turn (h.head.stored j u).1 (h.head.stored j u).2 (.inl rfl)
theorem Own.lt {w : World} {B e g n c : Nat} {cs : List Value} {R : List Row} (h : Own w B (⟨e, 1, .slice (some ⟨g, 0, none⟩) n c, n, cs⟩ :: R)) : B ≤ g ∧ g < w.heap.size :=
  h.head.lt g rfl
theorem Ext.set {a w : World} [h : Ext a w] {p : Addr} (hp : a.heap.size ≤ p.block) (u : Value) : Ext a (w.setCell p u) := ⟨h.below.setCell hp u⟩
theorem Own.at {w : World} {B e n c : Nat} {a : Option Addr} {cs : List Value} {R : List Row} (h : Own w B (⟨e, 1, .slice a n c, n, cs⟩ :: R)) {j : Nat} (hj : j < n) : ∃ g, a = some ⟨g, 0, none⟩ := by
  rcases h.head.2 with ⟨h1, h2⟩ | ⟨g, cap, cur, hv, _⟩
  · have : n = 0 := h2
    omega
  · have hv' : (Value.slice a n c) = .slice (some ⟨g, 0, none⟩) n cap := hv
    simp only [Value.slice.injEq] at hv'
    exact ⟨g, hv'.1⟩

theorem Own.setBelow {w : World} {B : Nat} {R : List Row} (h : Own w B R) {p : Addr} (hp : p.block < B) (u : Value) : Own (w.setCell p u) B R :=
  h.same fun k hk _ => Below.heap_setCell _ _ _ _ (by omega)
theorem perm_set {α : Type} : ∀ (l : List α) (j : Nat) (x : α), j < l.length → (l.set j x).Perm (x :: l.eraseIdx j)
  | [], j, x, h => by simp at h
  | a :: l, 0, x, _ => by simp
  | a :: l, j + 1, x, h => by
    simp only [List.set_cons_succ, List.eraseIdx_cons_succ]
    exact ((perm_set l j x (by simpa using h)).cons a).trans (List.Perm.swap _ _ _)
theorem Own.pick {w : World} {B : Nat} {R : List Row} (h : Own w B R) {j : Nat} {r : Row} (hr : R[j]? = some r) : Own w B (r :: R.eraseIdx j) := by
  obtain ⟨hj, rfl⟩ := List.getElem?_eq_some_iff.1 hr
  refine h.perm (List.Perm.symm ?_)
  have := perm_set R j R[j] hj
  rwa [List.set_getElem_self] at this
theorem Own.put {w : World} {B : Nat} {R : List Row} {j : Nat} {r : Row} (h : Own w B (r :: R.eraseIdx j)) (hj : j < R.length) : Own w B (R.set j r) :=
  h.perm (perm_set R j r hj)

/-- The rows of a slice of slices of ints. -/
def rowsOf (e1 e2 : Nat) (u : Value) (vs : List Value) (M : List (List Int)) : List Row := valRowOf e1 u vs :: List.zipWith (intRowOf e2) vs M

theorem zipWith_set {α β γ : Type} (f : α → β → γ) : ∀ (l : List α) (m : List β) (j : Nat) (b : β) (a : α), l[j]? = some a → (List.zipWith f l m).set j (f a b) = List.zipWith f l (m.set j b)
  | [], m, j, b, a, h => by simp at h
  | x :: l, [], j, b, a, h => by simp
  | x :: l, y :: m, 0, b, a, h => by simp at h; subst h; simp
  | x :: l, y :: m, j + 1, b, a, h => by
    simp only [List.zipWith_cons_cons, List.set_cons_succ]
    rw [zipWith_set f l m j b a (by simpa using h)]

theorem Own.readsAll {w : World} {B e1 e2 : Nat} {u : Value} {vs : List Value} {M : List (List Int)} {R : List Row} (h : Own w B (rowsOf e1 e2 u vs M ++ R)) (hl : vs.length = M.length)
    (hs : ShortRows M.length) (hr : ∀ r ∈ M, Short r.length) (hi : ∀ r ∈ M, ∀ x ∈ r, I64 x) : IsRows w u M := by
  refine Own.readsRows (e := e1) (vs := vs) (R := List.zipWith (intRowOf e2) vs M ++ R) (by simpa [rowsOf] using h) hs hl fun j hj => ?_
  have h1 : (List.zipWith (intRowOf e2) vs M ++ R)[j]? = some (intRowOf e2 (vs.getD j undef) (row M j)) := by
    have hj' : j < vs.length := by omega
    rw [List.getElem?_append_left (by simp; omega)]
    simp [List.getElem?_zipWith, hj', row, hj]
  have h2 : Own w B (List.zipWith (intRowOf e2) vs M ++ R) := Own.tail (r := valRowOf e1 u vs) (by simpa [rowsOf] using h)
  exact (h2.pick h1).reads (hr _ (row_mem hj)) (hi _ (row_mem hj))

/-- The block behind an append: the old one, or a new one. -/
theorem append_block {P : Program} {w w' : World} {B t ty e : Nat} {i : TypeInfo} {z : Value} {size bytes : Nat} (ht : P.underlying t = some (.slice e)) (hi : P.info? e = some i) (hz : i.zero = some z)
    (hsize : i.size = size) (hby : i.bytes = bytes)
    {v v' : Value} {n : Nat} {xs : List Value} (hown : w.ownsRow B e size v n xs)
    {a : Addr} {m c : Nat} {news : List Value} (hl : news.length = m * size) (hnews : ∀ j u, news[j]? = some u → w.cell? (a.add j) = some u) (h1 : ∀ u ∈ news, u.oneCell' = true)
    (h63 : n + m ≤ maxLen) (hbytes : (n + m) * bytes ≤ 140737488355328)
    (hr : (Builtin.append_ #[t, t] ty #[v, .slice (some a) m c]).run P w = .ok v' w') :
    v'.ownBlock = v.ownBlock ∨ ∀ k, v'.ownBlock = some k → w.heap.size ≤ k := by
  subst hsize
  subst hby
  have hsmall : n + m ≤ 9223372036854775807 := by simp only [maxLen] at h63; omega
  rcases hown.2 with ⟨rfl, rfl⟩ | ⟨g, cap, cur, rfl, hbg, hg, hnc, hcm, hcs, htake⟩
  · by_cases hm : m = 0
    · subst hm
      have hn : news = [] := List.eq_nil_of_length_eq_zero (by simpa using hl)
      subst hn
      have : (Builtin.append_ #[t, t] ty #[.slice none 0 0, .slice (some a) 0 c]).run P w = .ok (.slice none 0 0) w := by
        simp [Builtin.append_, run_underlying ht, sizeOf, typeInfo, hi, Builtin.lenOf, Builtin.firstCells, loadCells, loadCellsFrom]
      rw [this] at hr
      cases hr
      exact .inl rfl
    · have := run_append_nil (P := P) w t ty e i z ht hi hz a m c news hl hnews (by omega) (by omega) (by have hb := hbytes; simp only [Nat.zero_add] at hb; omega)
      rw [this] at hr
      cases hr
      refine .inr fun k hk => ?_
      simp [Value.ownBlock] at hk
      omega
  · by_cases hroom : n + m ≤ cap
    · have hfit : n * i.size + news.length ≤ cur.size := by rw [hl, hcs, ← Nat.add_mul]; exact Nat.mul_le_mul_right _ hroom
      have := run_append_room (P := P) w t ty e i ht hi g n cap cur hg a m c news hl hnews h1 hroom hfit
      rw [this] at hr
      cases hr
      exact .inl rfl
    · have := run_append_grow (P := P) w t ty e i z ht hi hz ⟨g, 0, none⟩ n cap xs hown.1 (hown.cells (g := g) rfl) a m c news hl hnews (by omega) (by omega) (growslice_fits (by omega) hbytes)
      rw [this] at hr
      cases hr
      refine .inr fun k hk => ?_
      simp [Value.ownBlock] at hk
      omega

end Go.Proofs.YtllfchcocgdcjaaGreat

/- Laws for append and make on rows of one's own. -/
namespace Go.Proofs.YtllfchcocgdcjaaGreat
open Go.RowKit

/-- What a program's table says of an element type: zero value, cells, bytes. -/
structure Elem (P : Program) (t e : Nat) (z : Value) (size bytes : Nat) : Prop where
  under : P.underlying t = some (.slice e)
  info : ∃ i, P.info? e = some i ∧ i.zero = some z ∧ i.size = size ∧ i.bytes = bytes
  cells : z.cells.size = size
  pos : 0 < size

section
variable {P : Program} {w : World} {ops : Array Oper} {rest : List Oper} {o : Oper} {a : Act} {Q : Exit → Act → World → Prop}

theorem run_append_Own {t ty e size bytes : Nat} {z : Value} (E : Elem P t e z size bytes) {B : Nat} {R : List Row} {v : Value} {n : Nat} {cs : List Value}
    (own : Own w B (⟨e, size, v, n, cs⟩ :: R)) (hB : B ≤ w.heap.size)
    {ad : Addr} {m c : Nat} {news : List Value} (hl : news.length = m * size) (hnews : ∀ j u, news[j]? = some u → w.cell? (ad.add j) = some u) (h1 : ∀ u ∈ news, u.oneCell' = true)
    (h63 : n + m ≤ maxLen) (hbytes : (n + m) * bytes ≤ 140737488355328) :
    ∃ v' w', (Builtin.append_ #[t, t] ty #[v, .slice (some ad) m c]).run P w = .ok v' w' ∧ Own w' B (⟨e, size, v', n + m, cs ++ news⟩ :: R) ∧ Below B w w' := by
  obtain ⟨i, hi, hz, hs, hb⟩ := E.info
  obtain ⟨v', w', hr, h2, h3, h4⟩ := run_append_own (P := P) w B t ty e i z size bytes E.under hi hz hs hb E.cells E.pos v n cs own.head ad m c news hl hnews h1 h63 hbytes hB
  have hblk := append_block (P := P) (ty := ty) E.under hi hz hs hb own.head hl hnews h1 h63 hbytes hr
  exact ⟨v', w', hr, own.turn h2 h3 hblk, below_of_grown own.head h3 hB⟩

theorem wpList_append_Own (hgd : o.guard = none) {s x : Operand} {t : TypeId}
    (ho : o.op = .call { callee := .builtin .append, args := #[s, x], argTypes := #[t, t] })
    {e size bytes : Nat} {z : Value} (E : Elem P t e z size bytes) {B : Nat} {R : List Row} {v : Value} {n : Nat} {cs : List Value} (hs : a.eval s = v)
    (own : Own w B (⟨e, size, v, n, cs⟩ :: R)) (hB : B ≤ w.heap.size)
    {ad : Addr} {m c : Nat} {news : List Value} (hx : a.eval x = .slice (some ad) m c) (hl : news.length = m * size) (hnews : ∀ j u, news[j]? = some u → w.cell? (ad.add j) = some u) (h1 : ∀ u ∈ news, u.oneCell' = true)
    (h63 : n + m ≤ maxLen) (hbytes : (n + m) * bytes ≤ 140737488355328)
    (h : ∀ v' w', Own w' B (⟨e, size, v', n + m, cs ++ news⟩ :: R) → Below B w w' → wpList P ops Q rest (a.put o.dst v') w') : wpList P ops Q (o :: rest) a w := by
  refine wpList_plain hgd fun K hK => ?_
  obtain ⟨v', w', hr, h2, h3⟩ := run_append_Own (P := P) (ty := o.type) E own hB hl hnews h1 h63 hbytes
  unfold Oper.wp execOp
  simp only [ho, resolve, invoke, builtin, Sem.run_bind, Sem.run_pure, Result.andThen_ok, List.map_toArray, List.map_cons, List.map_nil, hs, hx]
  rw [hr]
  exact hK _ _ (h v' w' h2 h3)

/-- 'append(s, x)': x lies in a new block of one cell. -/
theorem wpList_append1 (hgd : o.guard = none) (s x : Operand) (t : TypeId)
    (ho : o.op = .call { callee := .builtin .append, args := #[s, x], argTypes := #[t, t] })
    {e bytes : Nat} {z : Value} (E : Elem P t e z 1 bytes) {B : Nat} {R : List Row} {v : Value} {n : Nat} {cs : List Value} (hs : a.eval s = v)
    (own : Own w B (⟨e, 1, v, n, cs⟩ :: R)) (hB : B ≤ w.heap.size) {u : Value}
    (hx : a.eval x = .slice (some ⟨w.heap.size, 0, none⟩) 1 1) (h1 : u.oneCell' = true) (h63 : n ≤ 17592186044415) (hb16 : (n + 1) * bytes ≤ 140737488355328)
    (h : ∀ v' w', Own w' B (⟨e, 1, v', n + 1, cs ++ [u]⟩ :: R) → Below B w w' → wpList P ops Q rest (a.put o.dst v') w') : wpList P ops Q (o :: rest) a (w.alloc (.cells #[u] e)) := by
  refine wpList_append_Own (w := w.alloc (.cells #[u] e)) hgd ho E hs own.ext (by simp; omega) hx (news := [u]) (by simp) ?_ (by intro y hy; simp at hy; subst hy; exact h1) (by unfold maxLen; omega) hb16 ?_
  · intro j y hj
    match j, hj with
    | 0, hj =>
      simp at hj; subst hj
      simp [Addr.add]
  · intro v' w' h2 h3
    exact h v' w' h2 (((Below.refl B w).alloc hB _).trans h3)

theorem run_append_none {t ty e size bytes : Nat} {z : Value} (E : Elem P t e z size bytes) {B : Nat} {v : Value} {n : Nat} {cs : List Value}
    (own : w.ownsRow B e size v n cs) (c : Nat) : (Builtin.append_ #[t, t] ty #[v, .slice none 0 c]).run P w = .ok v w := by
  obtain ⟨i, hi, hz, hs, hb⟩ := E.info
  have ht := E.under
  rcases own.2 with ⟨rfl, rfl⟩ | ⟨g, cap, cur, rfl, _, _, hnc, _⟩
  · simp [Builtin.append_, run_underlying ht, sizeOf, typeInfo, hi, Builtin.lenOf, Builtin.firstCells]
  · simp [Builtin.append_, run_underlying ht, sizeOf, typeInfo, hi, Builtin.lenOf, Builtin.firstCells, hnc, storeCells]

theorem cells_of_ints {w : World} {ad : Addr} {n c : Nat} {ys : List Int} (hy : IsInts w (.slice (some ad) n c) ys) :
    ∀ j u, (ys.map (Value.int .i64))[j]? = some u → w.cell? (ad.add j) = some u := by
  intro j u hj
  have hl : j < ys.length := by
    by_cases hl : j < ys.length
    · exact hl
    · rw [List.getElem?_eq_none (by simp; omega)] at hj; cases hj
  obtain ⟨b, o, h1, h2⟩ := hy.at (w' := w) hl
  cases h1
  have : (⟨b, o, none⟩ : Addr).add j = ⟨b, o + j, none⟩ := by
    unfold Addr.add; split <;> simp_all
  rw [this, h2, ← hj]
  simp [nth, hl]

/-- 'append(s, xs...)': the ints of another slice. -/
theorem wpList_appendInts (hgd : o.guard = none) (s x : Operand) (t : TypeId)
    (ho : o.op = .call { callee := .builtin .append, args := #[s, x], argTypes := #[t, t] })
    {e : Nat} (E : Elem P t e (.int .i64 0) 1 8) {B : Nat} {R : List Row} {v u : Value} {n : Nat} {cs : List Value} (hs : a.eval s = v)
    (own : Own w B (⟨e, 1, v, n, cs⟩ :: R)) (hB : B ≤ w.heap.size) {ys : List Int} (hx : a.eval x = u) (hy : IsInts w u ys)
    (h63 : n + ys.length ≤ 17592186044415)
    (h : ∀ v' w', Own w' B (⟨e, 1, v', n + ys.length, cs ++ ys.map (Value.int .i64)⟩ :: R) → Below B w w' → wpList P ops Q rest (a.put o.dst v') w') : wpList P ops Q (o :: rest) a w := by
  obtain ⟨d, c, rfl, hl⟩ := hy.form
  cases d with
  | some ad =>
    exact wpList_append_Own hgd ho E hs own hB hx (by simp) (cells_of_ints hy) (by intro y hy'; simp at hy'; obtain ⟨k, _, rfl⟩ := hy'; rfl) (by unfold maxLen; omega) (by omega) h
  | none =>
    have hy0 : ys = [] := by
      cases ys with
      | nil => rfl
      | cons y ys =>
        obtain ⟨b, o, h1, _⟩ := hy.at (w' := w) (k := 0) (by simp)
        cases h1
    subst hy0
    refine wpList_plain hgd fun K hK => ?_
    have hr := run_append_none (P := P) (ty := o.type) E own.head c
    unfold Oper.wp execOp
    simp only [ho, resolve, invoke, builtin, Sem.run_bind, Sem.run_pure, Result.andThen_ok, List.map_toArray, List.map_cons, List.map_nil, hs, hx, List.length_nil]
    rw [hr]
    exact hK _ _ (h v w (by rw [List.length_nil, Nat.add_zero, List.map_nil, List.append_nil]; exact own) (Below.refl _ _))

/-- 'make([]T, n)'. -/
theorem wpList_makeOwn (hg : o.guard = none) (l c : Operand) (t : TypeId) (hop : o.op = Op.makeSlice t l c)
    {e bytes : Nat} {z : Value} (E : Elem P t e z 1 bytes) (n : Nat) (hl : a.eval l = .int .i64 n) (hc : a.eval c = .int .i64 n) (hn : n ≤ 17592186044415) (hb16 : n * bytes ≤ 140737488355328) (hz1 : z.cells = #[z])
    (h : Own (w.alloc (.cells (Array.replicate n z) e)) w.heap.size [⟨e, 1, .slice (some ⟨w.heap.size, 0, none⟩) n n, n, List.replicate n z⟩] →
      wpList P ops Q rest (a.put o.dst (.slice (some ⟨w.heap.size, 0, none⟩) n n)) (w.alloc (.cells (Array.replicate n z) e))) : wpList P ops Q (o :: rest) a w := by
  refine wpList_plain hg fun K hK => ?_
  obtain ⟨i, hi, hz, hs, hb⟩ := E.info
  subst hb
  have hbb : i.bytes * n ≤ 140737488355328 := by rw [Nat.mul_comm]; exact hb16
  have h2 : (i.bytes : Int) * (n : Int) ≤ 281474976710656 := by
    have h' : ((i.bytes * n : Nat) : Int) ≤ 281474976710656 := by omega
    rwa [Int.natCast_mul] at h'
  have hr := run_make (P := P) w t e i z E.under hi hz .i64 .i64 n n (by omega) (Int.le_refl _) h2 (by omega)
  have hm : madeCells z.cells ((n : Int).toNat * i.size) = Array.replicate n z := by
    rw [hs, hz1]
    apply Array.toList_inj.1
    rw [toList_madeCells_one]
    rw [Array.toList_replicate, Int.toNat_natCast, Nat.mul_one]
  rw [hm] at hr
  unfold Oper.wp
  simp [execOp, hop, hl, hc, hr, Result.andThen]
  refine hK _ _ (h ?_)
  have := (Own.nil w w.heap.size).lit e 1 n (Array.replicate n z) (Nat.le_refl _) (by unfold maxLen; omega) (by rw [Array.size_replicate, Nat.mul_one])
  rw [Array.toList_replicate] at this
  exact this
end
end Go.Proofs.YtllfchcocgdcjaaGreat

/- The laws' own helpers on lists of ints. -/
namespace Go.Proofs.YtllfchcocgdcjaaGreat
open Go.RowKit

theorem Tryz.infoInt : (Tryz.prog.info? 3).map (fun i => (i.zero, i.size, i.bytes)) = some (some (.int .i64 0), 1, 8) := by kernel_rfl
theorem elemInt : Elem Tryz.prog 27 3 (.int .i64 0) 1 8 := ⟨Tryz.underlying27, info_parts Tryz.infoInt, rfl, by decide⟩

/-- whether two lists are the same -/
def eqL (xs ys : List Int) : Bool := decide (xs = ys)
theorem eqL_iff {xs ys : List Int} : eqL xs ys = true ↔ xs = ys := by simp [eqL]

theorem ret_bool {a b : Bool} (h : a = b) : Ending.returned (.bool a) = .returned (.bool b) := by rw [h]
theorem ret_int {a b : Int} (h : a = b) : Ending.returned (.int .i64 a) = .returned (.int .i64 b) := by rw [h]

theorem toIntS_step {xs : List Int} {k : Nat} (h : k < xs.length) :
    ((xs.take k ++ List.replicate (xs.length - k) 0).map (Value.int .i64)).set k (.int .i64 (nth xs k)) = (xs.take (k + 1) ++ List.replicate (xs.length - (k + 1)) 0).map (Value.int .i64) := by
  rw [take_succ_nth h, ← List.map_set]
  congr 1
  have h1 : xs.length - k = (xs.length - (k + 1)) + 1 := by omega
  have h2 : (xs.take k).length = k := by simp; omega
  rw [h1, List.replicate_succ, List.set_append, if_neg (by omega), h2]
  simp

def iota (k : Int) (n : Nat) : List Int := (List.range n).map fun i : Nat => k + (i : Int)
theorem iota_length (k : Int) (n : Nat) : (iota k n).length = n := by simp [iota]
theorem iota_succ (k : Int) (n : Nat) : iota k (n + 1) = iota k n ++ [k + n] := by simp [iota, List.range_succ]
theorem nth_iota {k : Int} {n j : Nat} (h : j < n) : nth (iota k n) j = k + j := by simp [iota, nth, h]
theorem mark_step {xs : List Int} {k : Int} {i : Nat} (h : i < xs.length) :
    ((iota k i ++ xs.drop i).map (Value.int .i64)).set i (.int .i64 (k + i)) = (iota k (i + 1) ++ xs.drop (i + 1)).map (Value.int .i64) := by
  rw [iota_succ, ← List.map_set]
  congr 1
  have h1 : xs.drop i = xs[i] :: xs.drop (i + 1) := List.drop_eq_getElem_cons h
  rw [h1, List.set_append, if_neg (by rw [iota_length]; omega), iota_length]
  simp only [Nat.sub_self, List.set_cons_zero, List.append_assoc, List.singleton_append]

/-- what heldIntS answers -/
def heldK (xs : List Int) (k : Int) : Int := if xs = iota k xs.length then k + xs.length else -1

end Go.Proofs.YtllfchcocgdcjaaGreat

/- The laws' own helpers on rows of ints and on problems. -/
namespace Go.Proofs.YtllfchcocgdcjaaGreat
open Go.RowKit

theorem Tryz.infoInts : (Tryz.prog.info? 27).map (fun i => (i.zero, i.size, i.bytes)) = some (some (.slice none 0 0), 1, 24) := by kernel_rfl
theorem elemInts : Elem Tryz.prog 24 27 (.slice none 0 0) 1 24 := ⟨Tryz.underlying24, info_parts Tryz.infoInts, rfl, by decide⟩

def sumLen : List (List Int) → Nat
  | [] => 0
  | r :: M => r.length + sumLen M
theorem sumLen_take {M : List (List Int)} {k : Nat} (h : k < M.length) : sumLen (M.take (k + 1)) = sumLen (M.take k) + (row M k).length := by
  induction M generalizing k with
  | nil => simp at h
  | cons r M ih =>
    cases k with
    | zero => simp [sumLen, row]
    | succ k =>
      have := ih (k := k) (by simpa using h)
      simp only [List.take_succ_cons, sumLen] at this ⊢
      rw [this]
      simp [row, Nat.add_assoc]
theorem sumLen_take_le (M : List (List Int)) (k : Nat) : sumLen (M.take k) ≤ sumLen M := by
  induction M generalizing k with
  | nil => simp [sumLen]
  | cons r M ih =>
    cases k with
    | zero => simp [sumLen]
    | succ k => simp only [List.take_succ_cons, sumLen]; have := ih k; omega
theorem sumLen_row_le {M : List (List Int)} {k : Nat} (h : k < M.length) : (row M k).length ≤ sumLen M := by
  have := sumLen_take h
  have := sumLen_take_le M (k + 1)
  omega

/-- what is left of a count -/
def leftOf (left : Int) (n : Nat) : Int := if left - n < 0 then -1 else left - n

theorem toIntSS_step {e1 e2 : Nat} {g c n : Nat} {M : List (List Int)} {vs : List Value} {k : Nat} (h : k < M.length) (hv : vs.length = k) (u : Value) :
    (⟨e1, 1, .slice (some ⟨g, 0, none⟩) n c, n, (vs ++ List.replicate (M.length - k) (Value.slice none 0 0)).set k u⟩ :: (List.zipWith (intRowOf e2) vs (M.take k) ++ [intRowOf e2 u (row M k)]) : List Row)
      = ⟨e1, 1, .slice (some ⟨g, 0, none⟩) n c, n, (vs ++ [u]) ++ List.replicate (M.length - (k + 1)) (Value.slice none 0 0)⟩ :: List.zipWith (intRowOf e2) (vs ++ [u]) (M.take (k + 1)) := by
  have h1 : M.length - k = (M.length - (k + 1)) + 1 := by omega
  rw [h1, List.replicate_succ, List.set_append, if_neg (by omega), hv, take_succ_row h, List.zipWith_append (by simp; omega)]
  simp

def eqR (xs ys : List (List Int)) : Bool := decide (xs = ys)
theorem eqR_iff {xs ys : List (List Int)} : eqR xs ys = true ↔ xs = ys := by simp [eqR]

/-- the marks of rows, from k on -/
def markR : List (List Int) → Int → List (List Int)
  | [], _ => []
  | r :: M, k => iota k r.length :: markR M (k + r.length)
theorem markR_length (M : List (List Int)) (k : Int) : (markR M k).length = M.length := by
  induction M generalizing k with
  | nil => rfl
  | cons r M ih => simp [markR, ih]
theorem markR_row {M : List (List Int)} {k : Int} {j : Nat} (h : j < M.length) : row (markR M k) j = iota (k + sumLen (M.take j)) (row M j).length := by
  induction M generalizing k j with
  | nil => simp at h
  | cons r M ih =>
    cases j with
    | zero => simp [markR, row, sumLen]
    | succ j =>
      have := ih (k := k + r.length) (j := j) (by simpa using h)
      simp only [markR, row, List.getD_cons_succ, List.take_succ_cons, sumLen] at this ⊢
      rw [this]
      congr 1
      omega
theorem markR_sumLen (M : List (List Int)) (k : Int) : sumLen (markR M k) = sumLen M := by
  induction M generalizing k with
  | nil => rfl
  | cons r M ih => simp [markR, sumLen, ih, iota_length]
theorem mark_set {M : List (List Int)} {k : Int} {j : Nat} (h : j < M.length) :
    ((markR M k).take j ++ M.drop j).set j (iota (k + sumLen (M.take j)) (row M j).length) = (markR M k).take (j + 1) ++ M.drop (j + 1) := by
  have h1 : M.drop j = M[j] :: M.drop (j + 1) := List.drop_eq_getElem_cons h
  have h2 : ((markR M k).take j).length = j := by simp [markR_length]; omega
  rw [h1, List.set_append, if_neg (by omega), h2, take_succ_row (by rw [markR_length]; exact h), markR_row h]
  simp only [Nat.sub_self, List.set_cons_zero, List.append_assoc, List.singleton_append]
theorem mark_get {M : List (List Int)} {k : Int} {j : Nat} (h : j < M.length) : ((markR M k).take j ++ M.drop j)[j]? = some (row M j) := by
  have h2 : ((markR M k).take j).length = j := by simp [markR_length]; omega
  rw [List.getElem?_append_right (by omega), h2]
  simp [row, h]

/-- the j-th of rows that are owned -/
theorem Own.rowAt {w : World} {B e1 e2 : Nat} {v : Value} {vs : List Value} {M : List (List Int)} {R : List Row} (_h : Own w B (rowsOf e1 e2 v vs M ++ R)) {j : Nat} {r : List Int} {u : Value} (hr : M[j]? = some r) (hu : vs[j]? = some u) :
    (rowsOf e1 e2 v vs M ++ R)[j + 1]? = some (intRowOf e2 u r) := by
  have h1 : j < M.length := (List.getElem?_eq_some_iff.1 hr).1
  have h2 : j < vs.length := (List.getElem?_eq_some_iff.1 hu).1
  simp only [rowsOf, List.cons_append, List.getElem?_cons_succ]
  rw [List.getElem?_append_left (by simp; omega), List.getElem?_zipWith, hu, hr]
theorem rowsOf_set {e1 e2 : Nat} {v : Value} {vs : List Value} {M : List (List Int)} {R : List Row} {j : Nat} {r : List Int} {u : Value} (hj : j < M.length) (hu : vs[j]? = some u) :
    (rowsOf e1 e2 v vs M ++ R).set (j + 1) (intRowOf e2 u r) = rowsOf e1 e2 v vs (M.set j r) ++ R := by
  have h2 : j < vs.length := (List.getElem?_eq_some_iff.1 hu).1
  simp only [rowsOf, List.cons_append, List.set_cons_succ]
  rw [List.set_append, if_pos (by simp; omega), zipWith_set _ _ _ _ _ _ hu]

end Go.Proofs.YtllfchcocgdcjaaGreat

/- eqIntSS -/
namespace Go.Proofs.YtllfchcocgdcjaaGreat
open Go.RowKit

/-- what heldIntSS answers -/
def heldR (M : List (List Int)) (k : Int) : Int := if M = markR M k then k + sumLen M else -1

/-- A value that reads as a problem of moves M and serves S. -/
def IsProb (w : World) (v : Value) (M S : List (List Int)) : Prop := ∃ v1 v2, v = .agg #[v1, v2] ∧ IsRows w v1 M ∧ IsRows w v2 S

theorem IsProb.ext {w w' : World} {v : Value} {M S : List (List Int)} (h : IsProb w v M S) [e : Ext w w'] : IsProb w' v M S := by
  obtain ⟨v1, v2, h0, h1, h2⟩ := h
  exact ⟨v1, v2, h0, h1.ext, h2.ext⟩
theorem Own.prob {w w0 : World} {B e1 e2 : Nat} {u1 u2 v0 : Value} {vs1 vs2 : List Value} {M S : List (List Int)} {R : List Row} (h : Own w B (rowsOf e1 e2 u1 vs1 M ++ (rowsOf e1 e2 u2 vs2 S ++ R))) (h1 : vs1.length = M.length) (h2 : vs2.length = S.length) (hp : IsProb w0 v0 M S) :
    IsProb w (.agg #[u1, u2]) M S := by
  obtain ⟨_, _, _, hM, hS⟩ := hp
  exact ⟨u1, u2, rfl, h.readsAll h1 hM.all.1 hM.all.2.1 hM.all.2.2, h.right.readsAll h2 hS.all.1 hS.all.2.1 hS.all.2.2⟩

theorem Own.prob' {w w0 : World} {B e1 e2 : Nat} {u1 u2 v0 : Value} {vs1 vs2 : List Value} {M S : List (List Int)} (h : Own w B (rowsOf e1 e2 u1 vs1 M ++ rowsOf e1 e2 u2 vs2 S)) (h1 : vs1.length = M.length) (h2 : vs2.length = S.length) (hp : IsProb w0 v0 M S) :
    IsProb w (.agg #[u1, u2]) M S := by
  have h' : Own w B (rowsOf e1 e2 u1 vs1 M ++ (rowsOf e1 e2 u2 vs2 S ++ [])) := by rw [List.append_nil]; exact h
  exact h'.prob h1 h2 hp

theorem perm_a {α : Type} (x : α) (A S R : List α) : (S ++ (x :: (A ++ R))).Perm (x :: (A ++ (S ++ R))) := by
  classical
  refine List.perm_iff_count.2 fun y => ?_
  simp only [List.count_append, List.count_cons]
  omega
theorem perm_b {α : Type} (x : α) (A S R : List α) : (x :: (A ++ (S ++ R))).Perm (S ++ (x :: (A ++ R))) := (perm_a x A S R).symm

def eqP (M S M' S' : List (List Int)) : Bool := eqR M M' && eqR S S'
theorem eqP_iff {M S M' S' : List (List Int)} : eqP M S M' S' = true ↔ M = M' ∧ S = S' := by simp [eqP, eqR_iff]

end Go.Proofs.YtllfchcocgdcjaaGreat

/- What owned memory reads as, by the reading of what it was copied from. -/
namespace Go.Proofs.YtllfchcocgdcjaaGreat
open Go.RowKit

theorem IsInts.all {w : World} {v : Value} {xs : List Int} (h : IsInts w v xs) : Short xs.length ∧ ∀ x ∈ xs, I64 x := by
  obtain ⟨a, c, _, h2, h3, _⟩ := h
  exact ⟨h2.1, h3⟩
theorem Own.reads' {w w0 : World} {B e : Nat} {v v0 : Value} {xs : List Int} {R : List Row} (h : Own w B (intRowOf e v xs :: R)) (h0 : IsInts w0 v0 xs) : IsInts w v xs :=
  h.reads h0.all.1 h0.all.2
theorem Own.readsAll' {w w0 : World} {B e1 e2 : Nat} {u v0 : Value} {vs : List Value} {M : List (List Int)} (h : Own w B (rowsOf e1 e2 u vs M)) (hl : vs.length = M.length) (h0 : IsRows w0 v0 M) : IsRows w u M := by
  have h' : Own w B (rowsOf e1 e2 u vs M ++ []) := by rw [List.append_nil]; exact h
  exact h'.readsAll hl h0.all.1 h0.all.2.1 h0.all.2.2

end Go.Proofs.YtllfchcocgdcjaaGreat

/- The marks that a law lays into what it owns, and their reading. -/
namespace Go.Proofs.YtllfchcocgdcjaaGreat
open Go.RowKit

theorem Ext.mark {a b c : World} (h : Ext a b) (k : Below a.heap.size b c) : Ext a c := ⟨h.below.trans k⟩
theorem Own.add {w u w' : World} {B : Nat} {R S : List Row} (hn : Own w' u.heap.size S) (h : Own w B R) [e : Ext w u] (e' : Ext u w') (hB : B ≤ w.heap.size) : Own w' B (S ++ R) :=
  Own.join (h.ext (w' := u)) hn (hB := Nat.le_trans hB e.size)
theorem Own.rot {w : World} {B : Nat} {A L : List Row} (h : Own w B (A ++ L)) : Own w B (L ++ A) := h.swap
theorem Own.nilr {w : World} {B : Nat} {A : List Row} (h : Own w B A) : Own w B (A ++ []) := by rw [List.append_nil]; exact h
theorem Own.one {w : World} {B : Nat} {r : Row} {L : List Row} (h : Own w B ([r] ++ L)) : Own w B (r :: L) := h
theorem Own.eno {w : World} {B : Nat} {r : Row} {L : List Row} (h : Own w B (r :: L)) : Own w B ([r] ++ L) := h
theorem Own.readsAll2 {w w0 : World} {B e1 e2 : Nat} {u v0 : Value} {vs : List Value} {M : List (List Int)} {R : List Row} (h : Own w B (rowsOf e1 e2 u vs M ++ R)) (hl : vs.length = M.length) (h0 : IsRows w0 v0 M) : IsRows w u M :=
  h.readsAll hl h0.all.1 h0.all.2.1 h0.all.2.2

theorem iota_i64 {k : Int} {n : Nat} (h0 : 0 ≤ k) (h1 : k + n ≤ 17592186044415) : ∀ x ∈ iota k n, I64 x := by
  intro x hx
  obtain ⟨i, hi, rfl⟩ := List.mem_map.1 hx
  have := List.mem_range.1 hi
  unfold I64
  omega
theorem heldK_iota {k : Int} {n : Nat} : heldK (iota k n) k = k + n := by rw [heldK, iota_length, if_pos rfl]
theorem Own.readsIota {w : World} {B e : Nat} {v : Value} {k : Int} {n : Nat} {R : List Row} (h : Own w B (intRowOf e v (iota k n) :: R)) (h0 : 0 ≤ k) (hk : k ≤ 4000000) (hn : n ≤ 4000000) : IsInts w v (iota k n) :=
  h.reads (by rw [iota_length]; unfold Short; omega) (iota_i64 h0 (by omega))

theorem sumLen_take_mark : ∀ (M : List (List Int)) (k : Int) (n : Nat), sumLen ((markR M k).take n) = sumLen (M.take n)
  | [], _, _ => rfl
  | _ :: _, _, 0 => rfl
  | r :: M, k, n + 1 => by
    simp only [markR, List.take_succ_cons, sumLen, iota_length]
    rw [sumLen_take_mark M _ n]
theorem markR_idem (M : List (List Int)) (k : Int) : markR (markR M k) k = markR M k := by
  refine eq_of_row (by simp [markR_length]) fun j hj => ?_
  rw [markR_length, markR_length] at hj
  rw [markR_row (by rw [markR_length]; exact hj), markR_row hj, iota_length, sumLen_take_mark]
theorem heldR_mark {M : List (List Int)} {k : Int} : heldR (markR M k) k = k + sumLen M := by rw [heldR, if_pos (markR_idem M k).symm, markR_sumLen]
theorem Own.readsMark {w : World} {B e1 e2 : Nat} {v : Value} {vs : List Value} {M : List (List Int)} {k : Int} {R : List Row} (h : Own w B (rowsOf e1 e2 v vs (markR M k) ++ R)) (hl : vs.length = M.length) (h0 : 0 ≤ k) (hk : k ≤ 4000000) (hm : M.length ≤ 4000000) (hs : sumLen M ≤ 4000000) : IsRows w v (markR M k) := by
  have hr : ∀ r ∈ markR M k, Short r.length ∧ ∀ x ∈ r, I64 x := by
    intro r hr
    obtain ⟨j, hj, rfl⟩ := mem_iff_row.1 hr
    rw [markR_length] at hj
    have h1 := sumLen_row_le hj
    have h2 := sumLen_take_le M j
    rw [markR_row hj, iota_length]
    exact ⟨by unfold Short; omega, iota_i64 (by omega) (by omega)⟩
  exact h.readsAll (by rw [hl, markR_length]) (by rw [markR_length]; unfold ShortRows; omega) (fun r h => (hr r h).1) (fun r h => (hr r h).2)

theorem sumLen_le {n : Nat} : ∀ {l : List (List Int)}, (∀ x ∈ l, x.length ≤ n) → sumLen l ≤ l.length * n
  | [], _ => by simp [sumLen]
  | x :: l, h => by
    have h1 := h x (by simp)
    have h2 := sumLen_le (l := l) (fun y hy => h y (by simp [hy]))
    simp only [sumLen, List.length_cons, Nat.add_mul, Nat.one_mul]
    omega


end Go.Proofs.YtllfchcocgdcjaaGreat

