/- Several texts in one: Srv SrvB Lex Idx Srt Wks Wkt. -/
import Derived.Test.YtkibmjenjgijmabGrB
import Derived.Test.YtkibmjenjgijmabGrD
import Derived.Test.YtkibmjenjgijmabGrE
import Derived.Test.YtkibmjenjgijmabGrC
import Derived.Laws.Bits64b
import Derived.IntWalk
import Derived.Test.YtkibmjenjgijmabShelf
import Derived.Sort.OwnSortedInts
import Derived.Lib.OwnBridge
import Derived.Deep.RegionHeld3
/- Tests on configurations and sequences of servers, of the program and of the reference. Written by srv.py. -/
namespace Go.Proofs.Ytkibmjenjgijmab
open Go.RowKit

def ascB (xs : List Int) : Bool := decide (∀ i, i < xs.length - 1 → nth xs i ≤ nth xs (i + 1))
theorem ascB_of {xs : List Int} (h : ∀ i, i + 1 < xs.length → nth xs i ≤ nth xs (i + 1)) : ascB xs = true := by
  simp only [ascB, decide_eq_true_eq]
  exact fun i hi => h i (by omega)
theorem ascB_not {xs : List Int} {i : Nat} (hi : i + 1 < xs.length) (h : nth xs (i + 1) < nth xs i) : ascB xs = false := by
  rw [ascB, decide_eq_false_iff_not]
  intro h'
  have := h' i (by omega)
  omega
def cfgB (n : Int) (a : List Int) : Bool := inB a.length 1 3 && (belowB n a && ascB a)
def srvB (M : List (List Int)) (a X : List Int) : Bool := metB M && (cfgB M.length a && (decide (X.length ≤ 60) && belowB M.length X))
theorem asc_chain {xs : List Int} (h : ascB xs = true) {i : Nat} : ∀ {d : Nat}, i + d < xs.length → nth xs i ≤ nth xs (i + d)
  | 0, _ => Int.le_refl _
  | d + 1, hd => by
    have h1 := asc_chain h (i := i) (d := d) (by omega)
    simp only [ascB, decide_eq_true_eq] at h
    have h2 := h (i + d) (by omega)
    exact Int.le_trans h1 h2
theorem ascB_asc {xs : List Int} : ascB xs = true ↔ Asc xs := by
  constructor
  · intro h
    rw [Asc, List.pairwise_iff_getElem]
    intro i j hi hj hij
    have := asc_chain h (i := i) (d := j - i) (by omega)
    rw [show i + (j - i) = j by omega] at this
    simpa [nth, hi, hj] using this
  · intro h
    rw [Asc, List.pairwise_iff_getElem] at h
    refine ascB_of fun i hi => ?_
    have := h i (i + 1) (by omega) hi (by omega)
    simpa [nth, hi, show i < xs.length by omega] using this
theorem cfgB_iff {n : Nat} {a : List Int} : cfgB n a = true ↔ (1 ≤ a.length ∧ a.length ≤ 3) ∧ Pts n a ∧ Asc a := by
  simp only [cfgB, Bool.and_eq_true]
  rw [ascB_asc]
  constructor
  · rintro ⟨h1, h2, h3⟩
    have := inB_true.1 h1
    refine ⟨by omega, fun x hx => ?_, h3⟩
    obtain ⟨k, hk, rfl⟩ := mem_iff_nth.1 hx
    exact belowB_at h2 hk
  · rintro ⟨h1, h2, h3⟩
    refine ⟨inB_true.2 (by omega), belowB_of fun k hk => ?_, h3⟩
    have := h2 _ (nth_mem hk)
    exact inB_true.2 (by omega)
theorem srvB_iff {M : List (List Int)} {a X : List Int} : srvB M a X = true ↔ metB M = true ∧ cfgB M.length a = true ∧ X.length ≤ 60 ∧ belowB M.length X = true := by
  simp [srvB]

set_option maxHeartbeats 400000 in
theorem isNaN_any (x : Int) (w : World) : Calls Try.prog 115 #[.int .i64 x] w fun e w' => e = .returned (.bool false) ∧ w = w' := by
  have h : (x != x) = false := by simp
  go_enter Try.func115, Try.ntmps115
  go_wp2
  go_ret
  exact ⟨rfl, rfl⟩
set_option maxHeartbeats 400000 in
theorem less_any (x y : Int) (w : World) : Calls Try.prog 104 #[.int .i64 x, .int .i64 y] w fun e w' => e = .returned (.bool (decide (x < y))) ∧ w = w' := by
  go_enter Try.func104, Try.ntmps104
  go_wp2_with (go_at_call 115; refine (isNaN_any _ _).mono ?_; rintro e w' ⟨rfl, rfl⟩)
  go_ret
  exact ⟨rfl, rfl⟩
end Go.Proofs.Ytkibmjenjgijmab

/- Tests on configurations and sequences of servers, the reference's; costs of moves. Written by srv.py. -/
namespace Go.Proofs.Ytkibmjenjgijmab
open Go.RowKit

end Go.Proofs.Ytkibmjenjgijmab

/- Comparing lists of numbers; the place of a configuration. -/
namespace Go.Proofs.Ytkibmjenjgijmab
open Go.RowKit

--PURE
def lexC : List Int → List Int → Int
  | [], [] => 0
  | [], _ :: _ => -1
  | _ :: _, [] => 1
  | x :: a, y :: b => if x < y then -1 else if y < x then 1 else lexC a b
theorem lexC_self : ∀ a : List Int, lexC a a = 0
  | [] => rfl
  | x :: a => by simp [lexC, lexC_self a]
theorem lexC_in : ∀ a b : List Int, -1 ≤ lexC a b ∧ lexC a b ≤ 1
  | [], [] => by simp [lexC]
  | [], _ :: _ => by simp [lexC]
  | _ :: _, [] => by simp [lexC]
  | x :: a, y :: b => by
    rw [lexC]
    split
    · omega
    · split
      · omega
      · exact lexC_in a b
theorem lexC_zero : ∀ {a b : List Int}, lexC a b = 0 → a = b
  | [], [], _ => rfl
  | [], _ :: _, h => by simp [lexC] at h
  | _ :: _, [], h => by simp [lexC] at h
  | x :: a, y :: b, h => by
    rw [lexC] at h
    split at h
    · omega
    · split at h
      · omega
      · rw [show x = y by omega, lexC_zero h]
theorem lexC_anti : ∀ a b : List Int, lexC b a = - lexC a b
  | [], [] => rfl
  | [], _ :: _ => rfl
  | _ :: _, [] => rfl
  | x :: a, y :: b => by
    rw [lexC, lexC]
    by_cases h1 : x < y
    · rw [if_neg (by omega), if_pos h1, if_pos h1]; rfl
    · by_cases h2 : y < x
      · rw [if_pos h2, if_neg h1, if_pos h2]
      · rw [if_neg h2, if_neg h1, if_neg h1, if_neg h2]; exact lexC_anti a b
theorem lexC_trans : ∀ {a b c : List Int}, lexC a b < 0 → lexC b c < 0 → lexC a c < 0
  | [], [], _, h, _ => by simp [lexC] at h
  | [], _ :: _, [], _, h => by simp [lexC] at h
  | [], _ :: _, _ :: _, _, _ => by simp [lexC]
  | _ :: _, [], _, h, _ => by simp [lexC] at h
  | _ :: _, _ :: _, [], _, h => by simp [lexC] at h
  | x :: a, y :: b, z :: c, h1, h2 => by
    rw [lexC] at h1 h2 ⊢
    split at h1
    · split at h2
      · rw [if_pos (by omega)]; omega
      · split at h2
        · omega
        · rw [if_pos (by omega)]; omega
    · split at h1
      · omega
      · split at h2
        · rw [if_pos (by omega)]; omega
        · split at h2
          · omega
          · rw [if_neg (by omega), if_neg (by omega)]
            exact lexC_trans h1 h2
/-- the configurations ascend -/
theorem confs_asc (n : Nat) : ∀ k f, (confs n k f).Pairwise (fun a b => lexC a b < 0)
  | 0, _ => by simp [confs]
  | k + 1, f => by
    rw [confs]
    refine pairwise_flat (fun x _ => ?_) ?_
    · rw [List.pairwise_map]
      exact (confs_asc n k x).imp (fun h => by simpa [lexC] using h)
    · refine (List.pairwise_lt_range' (step := 1)).imp (fun {x y} hxy u hu v hv => ?_)
      obtain ⟨c, _, rfl⟩ := List.mem_map.1 hu
      obtain ⟨d, _, rfl⟩ := List.mem_map.1 hv
      rw [lexC, if_pos (by omega)]
      omega
/-- the place of a list in a list of them -/
def atR (P : List (List Int)) (c : List Int) : Nat := P.idxOf c
theorem atR_lt {P : List (List Int)} {c : List Int} (h : c ∈ P) : atR P c < P.length ∧ row P (atR P c) = c := by
  have hlt : P.idxOf c < P.length := List.idxOf_lt_length_of_mem h
  exact ⟨hlt, by simp [row, atR, hlt]⟩
theorem row_get {P : List (List Int)} {q : Nat} (hq : q < P.length) : row P q = P[q] := by simp [row, hq]
theorem atR_row {n k f j : Nat} (h : j < (confs n k f).length) : atR (confs n k f) (row (confs n k f) j) = j := by
  obtain ⟨h1, h2⟩ := atR_lt (row_mem h)
  have hn := confs_nodup n k f
  rw [List.nodup_iff_pairwise_ne, List.pairwise_iff_getElem] at hn
  generalize atR (confs n k f) (row (confs n k f) j) = q at *
  rw [row_get h1, row_get h] at h2
  rcases Nat.lt_trichotomy q j with h3 | h3 | h3
  · exact absurd h2 (hn _ _ h1 h h3)
  · exact h3
  · exact absurd h2.symm (hn _ _ h h1 h3)
theorem asc_row {P : List (List Int)} (h : P.Pairwise (fun a b => lexC a b < 0)) {i j : Nat} (hij : i < j) (hj : j < P.length) : lexC (row P i) (row P j) < 0 := by
  rw [List.pairwise_iff_getElem] at h
  have := h i j (by omega) hj hij
  simpa [row, hj, show i < P.length by omega] using this
theorem drop_nth {X : List Int} {k : Nat} (h : k < X.length) : X.drop k = nth X k :: X.drop (k + 1) := by
  rw [List.drop_eq_getElem_cons h]; simp [nth, h]
def cmpI (x y : Int) : Int := if x < y then -1 else if y < x then 1 else 0
theorem lexC_step {a b : List Int} {k : Nat} (ha : k < a.length) (hb : k < b.length) : lexC (a.drop k) (b.drop k) = if cmpI (nth a k) (nth b k) ≠ 0 then cmpI (nth a k) (nth b k) else lexC (a.drop (k + 1)) (b.drop (k + 1)) := by
  rw [drop_nth ha, drop_nth hb, lexC, cmpI]
  by_cases h1 : nth a k < nth b k
  · simp [h1]
  · by_cases h2 : nth b k < nth a k
    · simp [h1, h2]
    · simp [h1, h2]

end Go.Proofs.Ytkibmjenjgijmab

/- The place of a configuration among all: the program's search and the reference's. -/
namespace Go.Proofs.Ytkibmjenjgijmab
open Go.RowKit

theorem lex_at {P : List (List Int)} (h : P.Pairwise (fun a b => lexC a b < 0)) {c : List Int} {t q : Nat} (ht : t < P.length) (hc : row P t = c) (hq : q < P.length) : (q < t → lexC (row P q) c < 0) ∧ (¬ q < t → ¬ lexC (row P q) c < 0) ∧ (q = t → lexC (row P q) c = 0) := by
  subst hc
  refine ⟨fun h1 => asc_row h h1 ht, fun h1 h2 => ?_, fun h1 => by rw [h1, lexC_self]⟩
  rcases Nat.eq_or_lt_of_le (Nat.le_of_not_lt h1) with e | e
  · subst e; rw [lexC_self] at h2; omega
  · have := asc_row h e hq
    rw [lexC_anti] at this
    omega

/-- the program's configurations and costs: a struct in a block of its own -/
def cosL (M : List (List Int)) (P : List (List Int)) : List (List Int) := P.map fun a => P.map fun b => mvC M a b
/-- the pointer points to the configurations of k servers and their costs -/
def IsWorks (w : World) (v : Value) (M : List (List Int)) (P : List (List Int)) : Prop := ∃ b mv pv cv, v = .pointer (some ⟨b, 0, none⟩) ∧ w.cell? ⟨b, 0, none⟩ = some mv ∧ w.cell? ⟨b, 1, none⟩ = some pv ∧ w.cell? ⟨b, 2, none⟩ = some cv ∧ IsRows w mv M ∧ IsRows w pv P ∧ IsRows w cv (cosL M P)
theorem IsWorks.ext {w w' : World} {v : Value} {M P : List (List Int)} (h : IsWorks w v M P) [e : Ext w w'] : IsWorks w' v M P := by
  obtain ⟨b, mv, pv, cv, h1, h2, h3, h4, h5, h6, h7⟩ := h
  exact ⟨b, mv, pv, cv, h1, e.cell h2, e.cell h3, e.cell h4, h5.ext, h6.ext, h7.ext⟩

end Go.Proofs.Ytkibmjenjgijmab

/- Sorting and compacting a list of one's own; the numbers of a list in ascending order; one point moved. -/
namespace Go.Proofs.Ytkibmjenjgijmab
open Go.RowKit

def sortL (xs : List Int) : List Int := xs.mergeSort fun x y => decide (x ≤ y)
theorem sortL_perm (xs : List Int) : (sortL xs).Perm xs := List.mergeSort_perm _ _
theorem sortL_len (xs : List Int) : (sortL xs).length = xs.length := (sortL_perm xs).length_eq
theorem sortL_asc (xs : List Int) : Asc (sortL xs) := by
  have h := List.pairwise_mergeSort (le := fun x y : Int => decide (x ≤ y)) (fun a b c h1 h2 => by simp at *; omega) (fun a b => by simp; omega) xs
  exact h.imp (fun h => by simpa using h)
theorem asc_uniq : ∀ {a b : List Int}, Asc a → Asc b → a.Perm b → a = b
  | [], b, _, _, p => (List.eq_nil_of_length_eq_zero (by simpa using p.length_eq.symm)).symm
  | x :: a, [], _, _, p => by simpa using p.length_eq
  | x :: a, y :: b, h1, h2, p => by
    have h1' := List.pairwise_cons.1 h1
    have h2' := List.pairwise_cons.1 h2
    have hx : x ∈ y :: b := p.mem_iff.1 (by simp)
    have hy : y ∈ x :: a := p.mem_iff.2 (by simp)
    have e : x = y := by
      rcases List.mem_cons.1 hx with e | hx
      · exact e
      · rcases List.mem_cons.1 hy with e | hy
        · exact e.symm
        · have := h1'.1 y hy
          have := h2'.1 x hx
          omega
    subst e
    rw [asc_uniq h1'.2 h2'.2 (p.cons_inv)]
theorem sortL_of_asc {xs : List Int} (h : Asc xs) : sortL xs = xs := asc_uniq (sortL_asc xs) h (sortL_perm xs)

set_option maxHeartbeats 400000 in
theorem sort_any {w : World} {B e : Nat} {v : Value} {xs : List Int} {R : List Row} (own : Own w B (intRowOf e v xs :: R)) (hB : B ≤ w.heap.size) (hl : xs.length ≤ 17592186044415) :
    Calls Try.prog 81 #[v] w fun ee w' => ee = .returned (.tuple #[]) ∧ Own w' B (intRowOf e v (sortL xs) :: R) ∧ Below B w w' := by
  rcases own.head.2 with ⟨h1, h2⟩ | ⟨g, cap, cur, hv, hb, hg, hc, hm, hz, ht⟩
  · have hx : xs = [] := List.eq_nil_of_length_eq_zero h2
    subst hx
    have h1' : v = .slice none 0 0 := h1
    subst h1'
    refine (Try.slices_Sort_int_none none 0 w).mono ?_
    rintro ee w' ⟨rfl, rfl⟩
    have e0 : sortL [] = [] := by simp [sortL]
    rw [e0]
    exact ⟨rfl, own, Below.refl _ _⟩
  · have hv' : v = .slice (some ⟨g, 0, none⟩) xs.length cap := hv
    subst hv'
    have ht' : cur.toList.take xs.length = xs.map (Value.int .i64) := by rw [← Nat.mul_one xs.length]; exact ht
    have hgl := (own.head.lt g rfl).2
    refine (Try.slices_Sort_int g 0 cap xs w (holds_of_blockI hg ht') hgl (by omega)).mono ?_
    rintro ee w' ⟨rfl, n, os, rfl⟩
    have hgr := grownBy_sortedI (w := w) (g := g) (n := n) (os := os) (sortL xs).toArray
    have ho := ownsRow_sortedI (w := w) (base := B) (n := n) (os := os) (ss := xs) (ts := sortL xs) (sortL_len xs) hb hg hc hm hz
    refine ⟨rfl, own.turn (r' := intRowOf e (.slice (some ⟨g, 0, none⟩) xs.length cap) (sortL xs)) ?_ hgr (.inl rfl), below_of_grown own.head hgr hB⟩
    show World.ownsRow _ B e 1 (.slice (some ⟨g, 0, none⟩) xs.length cap) (sortL xs).length ((sortL xs).map (Value.int .i64))
    rw [sortL_len]
    exact ho

/-- a configuration with one point in the place of another one -/
def movL (a : List Int) (p r : Int) : List Int := sortL (a.set (ixOf a p).toNat r)
theorem movL_len (a : List Int) (p r : Int) : (movL a p r).length = a.length := by rw [movL, sortL_len, List.length_set]

end Go.Proofs.Ytkibmjenjgijmab

/- The configurations of k servers and the costs of moves between them: made by the program. -/
namespace Go.Proofs.Ytkibmjenjgijmab
open Go.RowKit

theorem IsMet.ext {w w' : World} {v : Value} {M : List (List Int)} (h : IsMet w v M) [e : Ext w w'] : IsMet w' v M := by
  obtain ⟨v1, h1, h2⟩ := h
  exact ⟨v1, h1, h2.ext⟩
theorem Tab.setBox {w : World} {B e z b : Nat} {v : Value} {M : List (List Int)} {cs : List Value} {R : List Row} (h : Tab w B v M (⟨e, z, .slice (some ⟨b, 0, none⟩) 1 1, 1, cs⟩ :: R)) (j : Nat) (u : Value) :
    Tab (w.setCell ⟨b, j, none⟩ u) B v M (⟨e, z, .slice (some ⟨b, 0, none⟩) 1 1, 1, cs.set j u⟩ :: R) ∧ B ≤ b := by
  obtain ⟨vs, h1, h2⟩ := h
  have h3 := h2.perm (List.perm_middle.symm)
  exact ⟨⟨vs, h1, (h3.turn (r' := ⟨e, z, .slice (some ⟨b, 0, none⟩) 1 1, 1, cs.set j u⟩) (h3.head.stored j u).1 (h3.head.stored j u).2 (.inl rfl)).perm List.perm_middle⟩, (h3.head.lt b rfl).1⟩
theorem Tab.boxAt {w : World} {B e z b : Nat} {v : Value} {M : List (List Int)} {cs : List Value} {R : List Row} (h : Tab w B v M (⟨e, z, .slice (some ⟨b, 0, none⟩) 1 1, 1, cs⟩ :: R)) {j : Nat} (hj : j < z) :
    w.cell? ⟨b, j, none⟩ = some (cs.getD j undef) ∧ w.frozen? ⟨b, j, none⟩ = false := by
  have h3 := h.rest
  have h1 := h3.head.cellAt j (show j < 1 * z by omega)
  have h2 : cs.length = 1 * z := h3.head.1
  refine ⟨?_, h3.head.frozenAt j⟩
  rw [h1]
  simp [show j < cs.length by omega]

end Go.Proofs.Ytkibmjenjgijmab

/- Whether a list is a work list: the program's test. -/
namespace Go.Proofs.Ytkibmjenjgijmab
open Go.RowKit

def lipB (M P : List (List Int)) (ws : List Int) : Bool := decide (∀ i, i < ws.length → ∀ j, j < ws.length → nth ws i - nth ws j ≤ mvC M (row P i) (row P j))
def workB (M P : List (List Int)) (ws : List Int) : Bool := decide (ws.length = P.length) && (belowB 100000 ws && lipB M P ws)
theorem lipB_not {M P : List (List Int)} {ws : List Int} {i j : Nat} (hi : i < ws.length) (hj : j < ws.length) (h : mvC M (row P i) (row P j) < nth ws i - nth ws j) : lipB M P ws = false := by
  rw [lipB, decide_eq_false_iff_not]
  intro h'
  have := h' i hi j hj
  omega
theorem lipB_of {M P : List (List Int)} {ws : List Int} (h : ∀ i, i < ws.length → ∀ j, j < ws.length → nth ws i - nth ws j ≤ mvC M (row P i) (row P j)) : lipB M P ws = true := decide_eq_true h
theorem cosL_at {M P : List (List Int)} {i j : Nat} (hi : i < P.length) (hj : j < P.length) : (row (cosL M P) i).length = P.length ∧ nth (row (cosL M P) i) j = mvC M (row P i) (row P j) := by
  have e : row (cosL M P) i = P.map fun b => mvC M (row P i) b := by simp [row, cosL, hi]
  rw [e]
  refine ⟨by simp, ?_⟩
  simp [nth, row, hj]

end Go.Proofs.Ytkibmjenjgijmab

