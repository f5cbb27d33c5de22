/- Words that serve every walk of this seat: a world that keeps all that another has, values that read as lists of ints, memory of one's own as a list of rows. -/
import Derived.WalkKit
import Derived.WalkSpells
import Derived.WalkLawsBesides
import Derived.Deep.QuietTactic
import Derived.BigQuiet
namespace Go.Proofs.Ytohjbabjkjcddaa
open Go.RowKit

theorem hid {p : Prop} (h : p) : Hid p := h

/-- w' has all that w has, unchanged. -/
class Ext (w w' : World) : Prop where
  below : Below w.heap.size w w'

instance Ext.refl (w : World) : Ext w w := ⟨Below.refl _ _⟩
instance Ext.alloc (a w : World) (o : Obj) [h : Ext a w] : Ext a (w.alloc o) := ⟨h.below.alloc h.below.size o⟩
instance Ext.drew (a w : World) [h : Ext a w] : Ext a w.drew := ⟨h.below.drew⟩
instance Ext.drewN (a w : World) (n : Nat) [h : Ext a w] : Ext a (w.drewN n) :=
  ⟨h.below.os, h.below.tape, h.below.output, h.below.size, h.below.block⟩
theorem Ext.trans {a b c : World} (h : Ext a b) (k : Ext b c) : Ext a c :=
  ⟨h.below.trans (k.below.mono h.below.size)⟩
theorem Ext.size {a b : World} (h : Ext a b) : a.heap.size ≤ b.heap.size := h.below.size
theorem Ext.cell {a b : World} (h : Ext a b) {p : Addr} {v : Value} (hv : a.cell? p = some v) : b.cell? p = some v :=
  (h.below.cell (World.block_lt_of_cell? a _ hv)).trans hv
theorem Ext.frozen {a b : World} (h : Ext a b) {p : Addr} {v : Value} (hv : a.cell? p = some v) {x : Bool} (hf : a.frozen? p = x) : b.frozen? p = x :=
  (h.below.frozen (World.block_lt_of_cell? a _ hv)).trans hf
theorem Ext.cells {a b : World} (h : Ext a b) : ∀ k o, k < a.heap.size → b.cell? ⟨k, o, none⟩ = a.cell? ⟨k, o, none⟩ :=
  fun k o hk => h.below.cell (p := ⟨k, o, none⟩) hk
theorem Ext.frozens {a b : World} (h : Ext a b) : ∀ k o, k < a.heap.size → b.frozen? ⟨k, o, none⟩ = a.frozen? ⟨k, o, none⟩ :=
  fun k o hk => h.below.frozen (p := ⟨k, o, none⟩) hk

/-- w' is w behind some draws. -/
def Drew (w w' : World) : Prop := ∃ m, w' = w.drewN m
theorem Drew.refl (w : World) : Drew w w := ⟨0, rfl⟩
theorem Drew.step {a b : World} (h : Drew a b) (n : Nat) : Drew a (b.drewN n) := by
  obtain ⟨m, rfl⟩ := h
  exact ⟨m + n, by rw [World.drewN_drewN]⟩
theorem Drew.trans {a b c : World} (h : Drew a b) (k : Drew b c) : Drew a c := by
  obtain ⟨n, rfl⟩ := k
  exact h.step n
theorem Drew.ext {a b : World} (h : Drew a b) : Ext a b := by
  obtain ⟨m, rfl⟩ := h
  infer_instance

/-- an int of 64 bits -/
def I64 (x : Int) : Prop := -9223372036854775808 ≤ x ∧ x ≤ 9223372036854775807

def nth (xs : List Int) (k : Nat) : Int := xs.getD k 0
def row (xss : List (List Int)) (k : Nat) : List Int := xss.getD k []

theorem nth_mem {xs : List Int} {k : Nat} (h : k < xs.length) : nth xs k ∈ xs := by
  simp [nth, h]
theorem row_mem {xss : List (List Int)} {k : Nat} (h : k < xss.length) : row xss k ∈ xss := by
  simp [row, h]
theorem mem_iff_nth {xs : List Int} {x : Int} : x ∈ xs ↔ ∃ k, k < xs.length ∧ nth xs k = x := by
  rw [List.mem_iff_getElem]
  constructor
  · rintro ⟨k, h, rfl⟩; exact ⟨k, h, by simp [nth, h]⟩
  · rintro ⟨k, h, rfl⟩; exact ⟨k, h, by simp [nth, h]⟩
theorem mem_iff_row {xs : List (List Int)} {x : List Int} : x ∈ xs ↔ ∃ k, k < xs.length ∧ row xs k = x := by
  rw [List.mem_iff_getElem]
  constructor
  · rintro ⟨k, h, rfl⟩; exact ⟨k, h, by simp [row, h]⟩
  · rintro ⟨k, h, rfl⟩; exact ⟨k, h, by simp [row, h]⟩
theorem take_succ_nth {xs : List Int} {k : Nat} (h : k < xs.length) : xs.take (k + 1) = xs.take k ++ [nth xs k] := by
  rw [List.take_succ_eq_append_getElem h]
  simp [nth, h]
theorem take_succ_row {xs : List (List Int)} {k : Nat} (h : k < xs.length) : xs.take (k + 1) = xs.take k ++ [row xs k] := by
  rw [List.take_succ_eq_append_getElem h]
  simp [row, h]
theorem eq_of_nth {xs ys : List Int} (hl : xs.length = ys.length) (h : ∀ j, j < xs.length → nth xs j = nth ys j) : xs = ys := by
  apply List.ext_getElem hl
  intro i h1 h2
  have := h i h1
  simpa [nth, h1, h2] using this
theorem eq_of_row {xs ys : List (List Int)} (hl : xs.length = ys.length) (h : ∀ j, j < xs.length → row xs j = row ys j) : xs = ys := by
  apply List.ext_getElem hl
  intro i h1 h2
  have := h i h1
  simpa [row, h1, h2] using this

/-- the bound on a length: what 2^47 bytes hold of ints -/
def Short (n : Nat) : Prop := n ≤ 17592186044415
def ShortRows (n : Nat) : Prop := n ≤ 5864062014804
theorem Short.le {n : Nat} (h : Short n) : n ≤ 17592186044415 := h

/-- The value v reads as the ints xs in w. -/
def IsInts (w : World) (v : Value) (xs : List Int) : Prop :=
  ∃ a c, v = .slice a xs.length c ∧ (Short xs.length ∧ xs.length ≤ c) ∧ (∀ x ∈ xs, I64 x) ∧
    ∀ j, j < xs.length → ∃ b o, a = some ⟨b, o, none⟩ ∧ w.cell? ⟨b, o + j, none⟩ = some (.int .i64 (nth xs j))

theorem IsInts.ext {w w' : World} {v : Value} {xs : List Int} (h : IsInts w v xs) [e : Ext w w'] : IsInts w' v xs := by
  obtain ⟨a, c, h1, h2, h3, h4⟩ := h
  refine ⟨a, c, h1, h2, h3, fun j hj => ?_⟩
  obtain ⟨b, o, h5, h6⟩ := h4 j hj
  exact ⟨b, o, h5, e.cell h6⟩
theorem IsInts.form {w : World} {v : Value} {xs : List Int} (h : IsInts w v xs) : ∃ a c, v = .slice a xs.length c ∧ xs.length ≤ 17592186044415 := by
  obtain ⟨a, c, h1, h2, _⟩ := h
  exact ⟨a, c, h1, h2.1⟩
theorem IsInts.cap {w : World} {a : Option Addr} {n c : Nat} {xs : List Int} (h : IsInts w (.slice a n c) xs) : xs.length ≤ c := by
  obtain ⟨a', c', h1, h2, _⟩ := h
  cases h1
  exact h2.2
theorem IsInts.at {w w' : World} {a : Option Addr} {n c : Nat} {xs : List Int} (h : IsInts w (.slice a n c) xs) [e : Ext w w'] {k : Nat} (hk : k < xs.length) :
    ∃ b o, a = some ⟨b, o, none⟩ ∧ w'.cell? ⟨b, o + k, none⟩ = some (.int .i64 (nth xs k)) := by
  obtain ⟨a', c', h1, h2, h3, h4⟩ := h
  obtain ⟨b, o, h5, h6⟩ := h4 k hk
  cases h1
  exact ⟨b, o, h5, e.cell h6⟩
theorem IsInts.len {w : World} {a : Option Addr} {n c : Nat} {xs : List Int} (h : IsInts w (.slice a n c) xs) : n = xs.length := by
  obtain ⟨a', c', h1, _⟩ := h; cases h1; rfl
theorem IsInts.i64 {w : World} {v : Value} {xs : List Int} (h : IsInts w v xs) {k : Nat} (hk : k < xs.length) : I64 (nth xs k) := by
  obtain ⟨a', c', _, _, h3, _⟩ := h
  exact h3 _ (nth_mem hk)
theorem IsInts.nil (w : World) : IsInts w (.slice none 0 0) [] := ⟨none, 0, rfl, ⟨Nat.zero_le _, Nat.le_refl _⟩, by simp, fun j hj => by simp at hj⟩

/-- The value v reads as the rows of ints xss in w. -/
def IsRows (w : World) (v : Value) (xss : List (List Int)) : Prop :=
  ∃ a c, v = .slice a xss.length c ∧ ShortRows xss.length ∧
    ∀ j, j < xss.length → ∃ b o u, a = some ⟨b, o, none⟩ ∧ w.cell? ⟨b, o + j, none⟩ = some u ∧ IsInts w u (row xss j)

theorem IsRows.ext {w w' : World} {v : Value} {xss : List (List Int)} (h : IsRows w v xss) [e : Ext w w'] : IsRows w' v xss := by
  obtain ⟨a, c, h1, h2, h4⟩ := h
  refine ⟨a, c, h1, h2, fun j hj => ?_⟩
  obtain ⟨b, o, u, h5, h6, h7⟩ := h4 j hj
  exact ⟨b, o, u, h5, e.cell h6, h7.ext⟩
theorem IsRows.form {w : World} {v : Value} {xss : List (List Int)} (h : IsRows w v xss) : ∃ a c, v = .slice a xss.length c ∧ xss.length ≤ 5864062014804 := by
  obtain ⟨a, c, h1, h2, _⟩ := h
  exact ⟨a, c, h1, h2⟩
theorem IsRows.at {w w' : World} {a : Option Addr} {n c : Nat} {xss : List (List Int)} (h : IsRows w (.slice a n c) xss) [e : Ext w w'] {k : Nat} (hk : k < xss.length) :
    ∃ b o d m, a = some ⟨b, o, none⟩ ∧ w'.cell? ⟨b, o + k, none⟩ = some (.slice d (row xss k).length m) ∧ IsInts w (.slice d (row xss k).length m) (row xss k) ∧ (row xss k).length ≤ 17592186044415 := by
  obtain ⟨a', c', h1, h2, h4⟩ := h
  obtain ⟨b, o, u, h5, h6, h7⟩ := h4 k hk
  cases h1
  obtain ⟨d, m, rfl, hs⟩ := h7.form
  exact ⟨b, o, d, m, h5, e.cell h6, h7, hs⟩
theorem IsRows.nil (w : World) : IsRows w (.slice none 0 0) [] := ⟨none, 0, rfl, Nat.zero_le _, fun j hj => by simp at hj⟩

theorem IsRows.all {w : World} {v : Value} {M : List (List Int)} (h : IsRows w v M) : ShortRows M.length ∧ (∀ r ∈ M, Short r.length) ∧ ∀ r ∈ M, ∀ x ∈ r, I64 x := by
  obtain ⟨a, c, _, h2, h4⟩ := h
  refine ⟨h2, fun r hr => ?_, fun r hr => ?_⟩
  all_goals
    obtain ⟨k, hk, rfl⟩ := mem_iff_row.1 hr
    obtain ⟨_, _, _, _, _, a', c', _, h5, h6, _⟩ := h4 k hk
  · exact h5.1
  · exact h6

/-- A row of one's own: element type, cells of an element, the slice value, its length, its cells. -/
structure Row where
  e : Nat
  z : Nat
  v : Value
  n : Nat
  cs : List Value

/-- The rows lie from block B on in w, each in a block of its own. -/
def Own (w : World) (B : Nat) (R : List Row) : Prop :=
  (∀ r ∈ R, w.ownsRow B r.e r.z r.v r.n r.cs) ∧ R.Pairwise (fun r s => r.v.ownBlock = none ∨ r.v.ownBlock ≠ s.v.ownBlock)

abbrev intRowOf (e : Nat) (v : Value) (xs : List Int) : Row := ⟨e, 1, v, xs.length, xs.map (Value.int .i64)⟩
abbrev valRowOf (e : Nat) (v : Value) (vs : List Value) : Row := ⟨e, 1, v, vs.length, vs⟩

theorem Own.nil (w : World) (B : Nat) : Own w B [] := ⟨by simp, List.Pairwise.nil⟩

theorem ownBlock_lt {w : World} {B e z n : Nat} {v : Value} {cs : List Value} (h : w.ownsRow B e z v n cs) {k : Nat} (hk : v.ownBlock = some k) : B ≤ k ∧ k < w.heap.size :=
  h.lt k hk

theorem ownsRow_same {w w' : World} {B e z n : Nat} {v : Value} {cs : List Value} (h : w.ownsRow B e z v n cs)
    (hs : ∀ k, v.ownBlock = some k → w'.heap[k]? = w.heap[k]?) : w'.ownsRow B e z v n cs := by
  refine ⟨h.1, ?_⟩
  rcases h.2 with hn | ⟨g, cap, cur, rfl, hb, hgg, rest⟩
  · exact .inl hn
  · exact .inr ⟨g, cap, cur, rfl, hb, by rw [hs g rfl]; exact hgg, rest⟩

theorem ownsRow_mono {w : World} {B B' e z n : Nat} {v : Value} {cs : List Value} (h : w.ownsRow B e z v n cs) (hB : B' ≤ B) : w.ownsRow B' e z v n cs := by
  refine ⟨h.1, ?_⟩
  rcases h.2 with hn | ⟨g, cap, cur, rfl, hb, rest⟩
  · exact .inl hn
  · exact .inr ⟨g, cap, cur, rfl, Nat.le_trans hB hb, rest⟩

theorem Own.same {w w' : World} {B : Nat} {R : List Row} (h : Own w B R) (hs : ∀ k, B ≤ k → k < w.heap.size → w'.heap[k]? = w.heap[k]?) : Own w' B R :=
  ⟨fun r hr => ownsRow_same (h.1 r hr) (fun k hk => by
    have := (h.1 r hr).lt k hk
    exact hs k this.1 this.2), h.2⟩

theorem Own.ext {w w' : World} {B : Nat} {R : List Row} (h : Own w B R) [e : Ext w w'] : Own w' B R :=
  h.same fun k _ hk => e.below.block k hk

theorem Own.mono {w : World} {B B' : Nat} {R : List Row} (h : Own w B R) (hB : B' ≤ B) : Own w B' R :=
  ⟨fun r hr => ownsRow_mono (h.1 r hr) hB, h.2⟩

theorem Own.perm {w : World} {B : Nat} {R S : List Row} (h : Own w B R) (p : S.Perm R) : Own w B S :=
  ⟨fun r hr => h.1 r (p.mem_iff.1 hr), by
    refine h.2.perm p.symm (fun {x y} hxy => ?_)
    rcases hxy with hxy | hxy
    · by_cases hy : y.v.ownBlock = none
      · exact .inl hy
      · exact .inr (by rw [hxy]; exact hy)
    · exact .inr (fun e => hxy e.symm)⟩

theorem Own.sub {w : World} {B : Nat} {R S : List Row} (h : Own w B R) (p : S.Sublist R) : Own w B S :=
  ⟨fun r hr => h.1 r (p.subset hr), h.2.sublist p⟩

theorem Own.tail {w : World} {B : Nat} {r : Row} {R : List Row} (h : Own w B (r :: R)) : Own w B R := h.sub (List.sublist_cons_self _ _)
theorem Own.head {w : World} {B : Nat} {r : Row} {R : List Row} (h : Own w B (r :: R)) : w.ownsRow B r.e r.z r.v r.n r.cs := h.1 r (by simp)
theorem Own.left {w : World} {B : Nat} {R S : List Row} (h : Own w B (R ++ S)) : Own w B R := h.sub (List.sublist_append_left _ _)
theorem Own.right {w : World} {B : Nat} {R S : List Row} (h : Own w B (R ++ S)) : Own w B S := h.sub (List.sublist_append_right _ _)
theorem Own.swap {w : World} {B : Nat} {R S : List Row} (h : Own w B (R ++ S)) : Own w B (S ++ R) := h.perm List.perm_append_comm

/-- What a callee has made joins what was owned before. -/
theorem Own.join {w w' : World} {B : Nat} {R S : List Row} (h : Own w B R) (hn : Own w' w.heap.size S) [e : Ext w w'] (hB : B ≤ w.heap.size) : Own w' B (S ++ R) := by
  have h' : Own w' B R := h.ext
  refine ⟨fun r hr => ?_, List.pairwise_append.2 ⟨hn.2, h'.2, fun s hs r hr => ?_⟩⟩
  · rcases List.mem_append.1 hr with hr | hr
    · exact ownsRow_mono (hn.1 r hr) hB
    · exact h'.1 r hr
  · cases hb : s.v.ownBlock with
    | none => exact .inl rfl
    | some k =>
      refine .inr fun e' => ?_
      have h1 := (hn.1 s hs).lt k hb
      have h2 := (h.1 r hr).lt k e'.symm
      omega

/-- A new row, written out. -/
theorem Own.lit {w : World} {B : Nat} {R : List Row} (h : Own w B R) (e z n : Nat) (cs : Array Value) (hB : B ≤ w.heap.size) (hm : n ≤ maxLen) (hs : cs.size = n * z) :
    Own (w.alloc (.cells cs e)) B (⟨e, z, .slice (some ⟨w.heap.size, 0, none⟩) n n, n, cs.toList⟩ :: R) := by
  have h' : Own (w.alloc (.cells cs e)) B R := h.ext
  refine ⟨fun r hr => ?_, List.pairwise_cons.2 ⟨fun r hr => .inr fun e' => ?_, h'.2⟩⟩
  · rcases List.mem_cons.1 hr with rfl | hr
    · exact World.ownsRow_lit w cs n hB hm hs
    · exact h'.1 r hr
  · have := (h.1 r hr).lt w.heap.size e'.symm
    omega

theorem Own.litInts {W : World} {B k e n : Nat} {cs : Array Value} {xs : List Int} (hB : B ≤ W.heap.size) (hk : k = W.heap.size) (h : cs.toList = xs.map (Value.int .i64)) (hs : xs.length ≤ 1000000) (hn : n = xs.length) :
    Own (W.alloc (.cells cs e)) B [intRowOf e (.slice (some ⟨k, 0, none⟩) xs.length n) xs] := by
  subst hk
  subst hn
  have hl : cs.size = xs.length * 1 := by rw [← Array.length_toList, h]; simp
  have := (Own.nil W B).lit e 1 xs.length cs hB (by unfold maxLen; omega) hl
  rw [h] at this
  exact this

theorem Own.cons_nil {w : World} {B : Nat} {R : List Row} (h : Own w B R) (e z : Nat) : Own w B (⟨e, z, .slice none 0 0, 0, []⟩ :: R) :=
  ⟨fun r hr => by
    rcases List.mem_cons.1 hr with rfl | hr
    · exact World.ownsRow_nil w B e z
    · exact h.1 r hr, List.pairwise_cons.2 ⟨fun r _ => .inl rfl, h.2⟩⟩

/-- One row is written anew, or laid elsewhere; the others stay. -/
theorem Own.turn {w w' : World} {B : Nat} {r : Row} {R : List Row} (h : Own w B (r :: R)) {r' : Row} (hr' : w'.ownsRow B r'.e r'.z r'.v r'.n r'.cs)
    (hg : w.grownBy w' r.v.ownBlock) (hb : r'.v.ownBlock = r.v.ownBlock ∨ ∀ k, r'.v.ownBlock = some k → w.heap.size ≤ k) : Own w' B (r' :: R) := by
  have hp := List.pairwise_cons.1 h.2
  have keep : ∀ s ∈ R, w'.ownsRow B s.e s.z s.v s.n s.cs := fun s hs => ownsRow_same (h.1 s (by simp [hs])) fun k hk => by
    have hlt := (h.1 s (by simp [hs])).lt k hk
    refine hg.block k hlt.2 fun e' => ?_
    rcases hp.1 s hs with h1 | h1
    · rw [h1] at e'; cases e'
    · exact h1 (e'.symm.trans hk.symm)
  refine ⟨fun s hs => ?_, List.pairwise_cons.2 ⟨fun s hs => ?_, hp.2⟩⟩
  · rcases List.mem_cons.1 hs with rfl | hs
    · exact hr'
    · exact keep s hs
  · rcases hb with hb | hb
    · rw [hb]; exact hp.1 s hs
    · cases hk : r'.v.ownBlock with
      | none => exact .inl rfl
      | some k =>
        refine .inr fun e' => ?_
        have h1 := hb k hk
        have h2 := (h.1 s (by simp [hs])).lt k e'.symm
        omega

theorem below_of_grown {w w' : World} {B e z n : Nat} {v : Value} {cs : List Value} (h : w.ownsRow B e z v n cs) (hg : w.grownBy w' v.ownBlock) (hB : B ≤ w.heap.size) : Below B w w' :=
  (Below.refl B w).grown hg hB fun k hk => (h.lt k hk).1

/-- The form of an owned value. -/
theorem Own.form {w : World} {B : Nat} {r : Row} {R : List Row} (h : Own w B (r :: R)) : ∃ a c, r.v = .slice a r.n c := by
  rcases h.head.2 with ⟨h1, h2⟩ | ⟨g, cap, cur, hv, _⟩
  · exact ⟨none, 0, by rw [h1, h2]⟩
  · exact ⟨_, cap, hv⟩

theorem Own.reads {w : World} {B e : Nat} {v : Value} {xs : List Int} {R : List Row} (h : Own w B (intRowOf e v xs :: R)) (hs : Short xs.length) (hi : ∀ x ∈ xs, I64 x) : IsInts w v xs := by
  rcases h.head.2 with ⟨h1, h2⟩ | ⟨g, cap, cur, hv, hb, hg, hc, hm, hz, ht⟩
  · have hx : xs = [] := List.eq_nil_of_length_eq_zero h2
    subst hx
    have h1' : v = .slice none 0 0 := h1
    rw [h1']; exact IsInts.nil w
  · have hv' : v = .slice (some ⟨g, 0, none⟩) xs.length cap := hv
    refine ⟨_, cap, hv', ⟨hs, hc⟩, hi, fun j hj => ⟨g, 0, rfl, ?_⟩⟩
    have ho := h.head
    simp only [hv'] at ho
    have := ho.cellAt (0 + j) (by omega)
    rw [this]
    simp [nth, hj]

theorem Own.readsRows {w : World} {B e : Nat} {v : Value} {vs : List Value} {xss : List (List Int)} {R : List Row} (h : Own w B (valRowOf e v vs :: R)) (hs : ShortRows xss.length) (hl : vs.length = xss.length)
    (hi : ∀ j, j < xss.length → IsInts w (vs.getD j undef) (row xss j)) : IsRows w v xss := by
  rcases h.head.2 with ⟨h1, h2⟩ | ⟨g, cap, cur, hv, hb, hg, hc, hm, hz, ht⟩
  · have h2' : vs.length = 0 := h2
    have hx : xss = [] := List.eq_nil_of_length_eq_zero (by omega)
    subst hx
    have h1' : v = .slice none 0 0 := h1
    rw [h1']; exact IsRows.nil w
  · have hv' : v = .slice (some ⟨g, 0, none⟩) vs.length cap := hv
    refine ⟨_, cap, by rw [hv', hl], hs, fun j hj => ⟨g, 0, vs.getD j undef, rfl, ?_, hi j hj⟩⟩
    have ho := h.head
    simp only [hv'] at ho
    have := ho.cellAt (0 + j) (by omega)
    rw [this]
    have hj' : j < vs.length := by omega
    simp [hj']

theorem Own.cellAt {w w' : World} {B e g n c : Nat} {cs : List Value} {R : List Row} (h : Own w B (⟨e, 1, .slice (some ⟨g, 0, none⟩) n c, n, cs⟩ :: R)) [x : Ext w w'] {j : Nat} (hj : j < n) :
    w'.cell? ⟨g, j, none⟩ = some (cs.getD j undef) := by
  have h1 := h.head.cellAt j (by simpa using hj)
  have h2 : cs.length = n * 1 := h.head.1
  refine x.cell ?_
  rw [h1]
  have h3 : j < cs.length := by omega
  simp [h3]
theorem Own.frozenAt {w : World} {B e g n c : Nat} {cs : List Value} {R : List Row} (h : Own w B (⟨e, 1, .slice (some ⟨g, 0, none⟩) n c, n, cs⟩ :: R)) (j : Nat) :
    w.frozen? ⟨g, j, none⟩ = false := h.head.frozenAt j
theorem Own.set {w : World} {B e g n c : Nat} {cs : List Value} {R : List Row} (h : Own w B (⟨e, 1, .slice (some ⟨g, 0, none⟩) n c, n, cs⟩ :: R)) (j : Nat) (u : Value) :
    Own (w.setCell ⟨g, j, none⟩ u) B (⟨e, 1, .slice (some ⟨g, 0, none⟩) n c, n, cs.set j u⟩ :: R) :=
  h.turn (h.head.stored j u).1 (h.head.stored j u).2 (.inl rfl)
theorem Own.lt {w : World} {B e g n c : Nat} {cs : List Value} {R : List Row} (h : Own w B (⟨e, 1, .slice (some ⟨g, 0, none⟩) n c, n, cs⟩ :: R)) : B ≤ g ∧ g < w.heap.size :=
  h.head.lt g rfl
theorem Ext.set {a w : World} [h : Ext a w] {p : Addr} (hp : a.heap.size ≤ p.block) (u : Value) : Ext a (w.setCell p u) := ⟨h.below.setCell hp u⟩
theorem Own.at {w : World} {B e n c : Nat} {a : Option Addr} {cs : List Value} {R : List Row} (h : Own w B (⟨e, 1, .slice a n c, n, cs⟩ :: R)) {j : Nat} (hj : j < n) : ∃ g, a = some ⟨g, 0, none⟩ := by
  rcases h.head.2 with ⟨h1, h2⟩ | ⟨g, cap, cur, hv, _⟩
  · have : n = 0 := h2
    omega
  · have hv' : (Value.slice a n c) = .slice (some ⟨g, 0, none⟩) n cap := hv
    simp only [Value.slice.injEq] at hv'
    exact ⟨g, hv'.1⟩

theorem Own.setBelow {w : World} {B : Nat} {R : List Row} (h : Own w B R) {p : Addr} (hp : p.block < B) (u : Value) : Own (w.setCell p u) B R :=
  h.same fun k hk _ => Below.heap_setCell _ _ _ _ (by omega)
theorem perm_set {α : Type} : ∀ (l : List α) (j : Nat) (x : α), j < l.length → (l.set j x).Perm (x :: l.eraseIdx j)
  | [], j, x, h => by simp at h
  | a :: l, 0, x, _ => by simp
  | a :: l, j + 1, x, h => by
    simp only [List.set_cons_succ, List.eraseIdx_cons_succ]
    exact ((perm_set l j x (by simpa using h)).cons a).trans (List.Perm.swap _ _ _)
theorem Own.pick {w : World} {B : Nat} {R : List Row} (h : Own w B R) {j : Nat} {r : Row} (hr : R[j]? = some r) : Own w B (r :: R.eraseIdx j) := by
  obtain ⟨hj, rfl⟩ := List.getElem?_eq_some_iff.1 hr
  refine h.perm (List.Perm.symm ?_)
  have := perm_set R j R[j] hj
  rwa [List.set_getElem_self] at this
theorem Own.put {w : World} {B : Nat} {R : List Row} {j : Nat} {r : Row} (h : Own w B (r :: R.eraseIdx j)) (hj : j < R.length) : Own w B (R.set j r) :=
  h.perm (perm_set R j r hj)

/-- The rows of a slice of slices of ints. -/
def rowsOf (e1 e2 : Nat) (u : Value) (vs : List Value) (M : List (List Int)) : List Row := valRowOf e1 u vs :: List.zipWith (intRowOf e2) vs M

theorem zipWith_set {α β γ : Type} (f : α → β → γ) : ∀ (l : List α) (m : List β) (j : Nat) (b : β) (a : α), l[j]? = some a → (List.zipWith f l m).set j (f a b) = List.zipWith f l (m.set j b)
  | [], m, j, b, a, h => by simp at h
  | x :: l, [], j, b, a, h => by simp
  | x :: l, y :: m, 0, b, a, h => by simp at h; subst h; simp
  | x :: l, y :: m, j + 1, b, a, h => by
    simp only [List.zipWith_cons_cons, List.set_cons_succ]
    rw [zipWith_set f l m j b a (by simpa using h)]

theorem Own.readsAll {w : World} {B e1 e2 : Nat} {u : Value} {vs : List Value} {M : List (List Int)} {R : List Row} (h : Own w B (rowsOf e1 e2 u vs M ++ R)) (hl : vs.length = M.length)
    (hs : ShortRows M.length) (hr : ∀ r ∈ M, Short r.length) (hi : ∀ r ∈ M, ∀ x ∈ r, I64 x) : IsRows w u M := by
  refine Own.readsRows (e := e1) (vs := vs) (R := List.zipWith (intRowOf e2) vs M ++ R) (by simpa [rowsOf] using h) hs hl fun j hj => ?_
  have h1 : (List.zipWith (intRowOf e2) vs M ++ R)[j]? = some (intRowOf e2 (vs.getD j undef) (row M j)) := by
    have hj' : j < vs.length := by omega
    rw [List.getElem?_append_left (by simp; omega)]
    simp [List.getElem?_zipWith, hj', row, hj]
  have h2 : Own w B (List.zipWith (intRowOf e2) vs M ++ R) := Own.tail (r := valRowOf e1 u vs) (by simpa [rowsOf] using h)
  exact (h2.pick h1).reads (hr _ (row_mem hj)) (hi _ (row_mem hj))

/-- The block behind an append: the old one, or a new one. -/
theorem append_block {P : Program} {w w' : World} {B t ty e : Nat} {i : TypeInfo} {z : Value} {size bytes : Nat} (ht : P.underlying t = some (.slice e)) (hi : P.info? e = some i) (hz : i.zero = some z)
    (hsize : i.size = size) (hby : i.bytes = bytes)
    {v v' : Value} {n : Nat} {xs : List Value} (hown : w.ownsRow B e size v n xs)
    {a : Addr} {m c : Nat} {news : List Value} (hl : news.length = m * size) (hnews : ∀ j u, news[j]? = some u → w.cell? (a.add j) = some u) (h1 : ∀ u ∈ news, u.oneCell' = true)
    (h63 : n + m ≤ maxLen) (hbytes : (n + m) * bytes ≤ 140737488355328)
    (hr : (Builtin.append_ #[t, t] ty #[v, .slice (some a) m c]).run P w = .ok v' w') :
    v'.ownBlock = v.ownBlock ∨ ∀ k, v'.ownBlock = some k → w.heap.size ≤ k := by
  subst hsize
  subst hby
  have hsmall : n + m ≤ 9223372036854775807 := by simp only [maxLen] at h63; omega
  rcases hown.2 with ⟨rfl, rfl⟩ | ⟨g, cap, cur, rfl, hbg, hg, hnc, hcm, hcs, htake⟩
  · by_cases hm : m = 0
    · subst hm
      have hn : news = [] := List.eq_nil_of_length_eq_zero (by simpa using hl)
      subst hn
      have : (Builtin.append_ #[t, t] ty #[.slice none 0 0, .slice (some a) 0 c]).run P w = .ok (.slice none 0 0) w := by
        simp [Builtin.append_, run_underlying ht, sizeOf, typeInfo, hi, Builtin.lenOf, Builtin.firstCells, loadCells, loadCellsFrom]
      rw [this] at hr
      cases hr
      exact .inl rfl
    · have := run_append_nil (P := P) w t ty e i z ht hi hz a m c news hl hnews (by omega) (by omega) (by have hb := hbytes; simp only [Nat.zero_add] at hb; omega)
      rw [this] at hr
      cases hr
      refine .inr fun k hk => ?_
      simp [Value.ownBlock] at hk
      omega
  · by_cases hroom : n + m ≤ cap
    · have hfit : n * i.size + news.length ≤ cur.size := by rw [hl, hcs, ← Nat.add_mul]; exact Nat.mul_le_mul_right _ hroom
      have := run_append_room (P := P) w t ty e i ht hi g n cap cur hg a m c news hl hnews h1 hroom hfit
      rw [this] at hr
      cases hr
      exact .inl rfl
    · have := run_append_grow (P := P) w t ty e i z ht hi hz ⟨g, 0, none⟩ n cap xs hown.1 (hown.cells (g := g) rfl) a m c news hl hnews (by omega) (by omega) (growslice_fits (by omega) hbytes)
      rw [this] at hr
      cases hr
      refine .inr fun k hk => ?_
      simp [Value.ownBlock] at hk
      omega

end Go.Proofs.Ytohjbabjkjcddaa
