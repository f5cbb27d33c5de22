/- Several texts in one: Sched SchedB Run Min Sl RunW AlgS WorkP Arg OffsP Next Rep NextI WorkW OffsW. -/
import Derived.Test.YtllfchcocgdcjaaGreatGrB
import Derived.Deep.Cut
import Derived.Deep.RegionWith
import Derived.Deep.DeepCutAuto
import Derived.Test.YtllfchcocgdcjaaGreatGrA
import Derived.Laws.CopyOwn
import Derived.IntWalk
import Derived.Deep.RegionLaw
import Derived.Deep.RegionHeld3
import Derived.StillTailTactics
/- The cost of a schedule. -/
namespace Go.Proofs.YtllfchcocgdcjaaGreat
open Go.RowKit

/-- what a request r costs in the state s, coming from another one -/
def stepC (M S : List (List Int)) (r at_ s : Int) : Int := cell M at_.toNat s.toNat + cell S r.toNat s.toNat
/-- the state before the k-th request -/
def atOf (start : Int) (states : List Int) : Nat → Int
  | 0 => start
  | k + 1 => nth states k
def sumTo (M S : List (List Int)) (start : Int) (reqs states : List Int) : Nat → Int
  | 0 => 0
  | k + 1 => sumTo M S start reqs states k + stepC M S (nth reqs k) (atOf start states k) (nth states k)
def okTo (M S : List (List Int)) (reqs states : List Int) (k : Nat) : Prop := ∀ i, i < k → stOk M S (nth reqs i).toNat (nth states i) = true
instance (M S : List (List Int)) (reqs states : List Int) (k : Nat) : Decidable (okTo M S reqs states k) := by unfold okTo; infer_instance
def schedB (M S : List (List Int)) (start : Int) (reqs states : List Int) : Bool := startB M S start reqs && decide (states.length = reqs.length) && decide (okTo M S reqs states states.length)
def schedR (M S : List (List Int)) (start : Int) (reqs states : List Int) : Int := if schedB M S start reqs states = true then sumTo M S start reqs states states.length else 0

theorem startB_prob {M S : List (List Int)} {start : Int} {reqs : List Int} (h : startB M S start reqs = true) : probB M S = true := by
  simp only [startB, Bool.and_eq_true] at h; exact h.1.1
theorem startB_state {M S : List (List Int)} {start : Int} {reqs : List Int} (h : startB M S start reqs = true) : 0 ≤ start ∧ start < M.length := by
  simp only [startB, Bool.and_eq_true] at h
  have := inB_true.1 h.1.2
  omega
theorem startB_len {M S : List (List Int)} {start : Int} {reqs : List Int} (h : startB M S start reqs = true) : reqs.length ≤ 60 := by
  simp only [startB, seqB, Bool.and_eq_true, decide_eq_true_eq] at h; exact h.2.1
theorem startB_req {M S : List (List Int)} {start : Int} {reqs : List Int} (h : startB M S start reqs = true) {k : Nat} (hk : k < reqs.length) : 0 ≤ nth reqs k ∧ nth reqs k < S.length := by
  simp only [startB, seqB, Bool.and_eq_true] at h
  exact belowB_at h.2.2 hk
theorem stOk_in {M S : List (List Int)} {r : Nat} {s : Int} (h : stOk M S r s = true) : 0 ≤ s ∧ s < M.length ∧ 0 ≤ cell S r s.toNat := by
  simp only [stOk, Bool.and_eq_true, decide_eq_true_eq] at h
  have := inB_true.1 h.1
  omega
theorem atOf_in {M S : List (List Int)} {start : Int} {reqs states : List Int} (h0 : 0 ≤ start) (h1 : start < M.length) {k : Nat} (hok : okTo M S reqs states k) : 0 ≤ atOf start states k ∧ atOf start states k < M.length := by
  cases k with
  | zero => exact ⟨h0, h1⟩
  | succ k =>
    have := stOk_in (hok k (by omega))
    exact ⟨this.1, this.2.1⟩
theorem stepC_le {M S : List (List Int)} (hp : probB M S = true) {r a s : Int} (hr0 : 0 ≤ r) (hr1 : r < S.length) (_ha0 : 0 ≤ a) (ha1 : a < M.length) (hs0 : 0 ≤ s) (hs1 : s < M.length) :
    -1 ≤ stepC M S r a s ∧ stepC M S r a s ≤ 119 := by
  have h1 := probB_move hp (x := a.toNat) (y := s.toNat) (by omega) (by omega)
  have h2 := probB_serve hp (k := r.toNat) (x := s.toNat) (by omega) (by omega)
  unfold stepC
  omega
theorem sumTo_le {M S : List (List Int)} {start : Int} {reqs states : List Int} (h : startB M S start reqs = true) (hl : states.length = reqs.length) :
    ∀ k, k ≤ states.length → okTo M S reqs states k → -(k : Int) ≤ sumTo M S start reqs states k ∧ sumTo M S start reqs states k ≤ 119 * k
  | 0, _, _ => by simp [sumTo]
  | k + 1, hk, hok => by
    have ih := sumTo_le h hl k (by omega) (fun i hi => hok i (by omega))
    have h1 := startB_req h (k := k) (by omega)
    have h2 := stOk_in (hok k (by omega))
    have h3 := startB_state h
    have h4 := atOf_in h3.1 h3.2 (fun i (hi : i < k) => hok i (by omega))
    have h5 := stepC_le (startB_prob h) h1.1 h1.2 h4.1 h4.2 h2.1 h2.2.1
    simp only [sumTo]
    omega

end Go.Proofs.YtllfchcocgdcjaaGreat

/- ScheduleCost of the reference and of the program. -/
namespace Go.Proofs.YtllfchcocgdcjaaGreat
open Go.RowKit

theorem schedB_start {M S : List (List Int)} {start : Int} {reqs states : List Int} (h : startB M S start reqs = false) : schedB M S start reqs states = false := by rw [schedB, h]; rfl
theorem schedB_len {M S : List (List Int)} {start : Int} {reqs states : List Int} (h : ¬ states.length = reqs.length) : schedB M S start reqs states = false := by simp [schedB, h]
theorem schedB_at {M S : List (List Int)} {start : Int} {reqs states : List Int} {k : Nat} (hk : k < states.length) (h : stOk M S (nth reqs k).toNat (nth states k) = false) : schedB M S start reqs states = false := by
  have : ¬ okTo M S reqs states states.length := fun h' => by rw [h' k hk] at h; cases h
  simp [schedB, this]
theorem schedB_true {M S : List (List Int)} {start : Int} {reqs states : List Int} (h : startB M S start reqs = true) (hl : states.length = reqs.length) (hok : okTo M S reqs states states.length) : schedB M S start reqs states = true := by
  simp [schedB, h, hl]; rw [← hl]; exact hok
theorem schedR_false {M S : List (List Int)} {start : Int} {reqs states : List Int} (h : schedB M S start reqs states = false) : schedR M S start reqs states = 0 := by simp [schedR, h]
theorem schedR_true {M S : List (List Int)} {start : Int} {reqs states : List Int} (h : schedB M S start reqs states = true) : schedR M S start reqs states = sumTo M S start reqs states states.length := by simp [schedR, h]
theorem ret_ib {a c : Int} {b d : Bool} (h1 : a = c) (h2 : b = d) : Ending.returned (.tuple #[.int .i64 a, .bool b]) = .returned (.tuple #[.int .i64 c, .bool d]) := by rw [h1, h2]

end Go.Proofs.YtllfchcocgdcjaaGreat

/- The run of an algorithm on a sequence: its states and its cost. -/
namespace Go.Proofs.YtllfchcocgdcjaaGreat
open Go.RowKit

/-- the state before the k-th request -/
def stAt (N : List (List Int)) (s : Int) (X : List Int) : Nat → Int
  | 0 => s
  | k + 1 => cell N (stAt N s X k).toNat (nth X k).toNat
def statesTo (N : List (List Int)) (s : Int) (X : List Int) (k : Nat) : List Int := (List.range k).map fun i => stAt N s X (i + 1)
def sumA (M S N : List (List Int)) (s : Int) (X : List Int) : Nat → Int
  | 0 => 0
  | k + 1 => sumA M S N s X k + stepC M S (nth X k) (stAt N s X k) (stAt N s X (k + 1))
def algOk (M S N : List (List Int)) (s : Int) (X : List Int) : Bool := startB M S s X && algB M S N
def costA (M S N : List (List Int)) (s : Int) (X : List Int) : Int := if algOk M S N s X = true then sumA M S N s X X.length else 0
def statesA (M S N : List (List Int)) (s : Int) (X : List Int) : List Int := if algOk M S N s X = true then statesTo N s X X.length else []

theorem statesTo_succ (N : List (List Int)) (s : Int) (X : List Int) (k : Nat) : statesTo N s X (k + 1) = statesTo N s X k ++ [stAt N s X (k + 1)] := by simp [statesTo, List.range_succ]
theorem statesTo_length (N : List (List Int)) (s : Int) (X : List Int) (k : Nat) : (statesTo N s X k).length = k := by simp [statesTo]
theorem nth_statesTo {N : List (List Int)} {s : Int} {X : List Int} {k j : Nat} (h : j < k) : nth (statesTo N s X k) j = stAt N s X (j + 1) := by simp [statesTo, nth, h]
theorem atOf_statesTo {N : List (List Int)} {s : Int} {X : List Int} {k : Nat} : ∀ {j : Nat}, j ≤ k → atOf s (statesTo N s X k) j = stAt N s X j
  | 0, _ => rfl
  | j + 1, h => nth_statesTo (by omega)
theorem sumTo_statesTo {M S N : List (List Int)} {s : Int} {X : List Int} {k : Nat} : ∀ {j : Nat}, j ≤ k → sumTo M S s X (statesTo N s X k) j = sumA M S N s X j
  | 0, _ => rfl
  | j + 1, h => by rw [sumTo, sumA, sumTo_statesTo (j := j) (by omega), atOf_statesTo (j := j) (by omega), nth_statesTo (by omega)]
theorem algB_len {M S N : List (List Int)} (h : algB M S N = true) : N.length = M.length := by
  simp only [algB, Bool.and_eq_true, decide_eq_true_eq] at h; exact h.1
theorem algB_row {M S N : List (List Int)} (h : algB M S N = true) {k : Nat} (hk : k < M.length) : (row N k).length = S.length := by
  have hl := algB_len h
  simp only [algB, Bool.and_eq_true, decide_eq_true_eq] at h
  have := h.2 _ (row_mem (xss := N) (k := k) (by omega))
  simp only [rowOk, Bool.and_eq_true, decide_eq_true_eq] at this
  exact this.1
theorem algB_at {M S N : List (List Int)} (h : algB M S N = true) {k r : Nat} (hk : k < M.length) (hr : r < S.length) : stOk M S r (cell N k r) = true := by
  have hl := algB_len h
  have hrow := algB_row h hk
  simp only [algB, Bool.and_eq_true, decide_eq_true_eq] at h
  have := h.2 _ (row_mem (xss := N) (k := k) (by omega))
  simp only [rowOk, Bool.and_eq_true, decide_eq_true_eq] at this
  exact this.2 r (by omega)
theorem stAt_in {M S N : List (List Int)} {s : Int} {X : List Int} (h : startB M S s X = true) (ha : algB M S N = true) : ∀ {k : Nat}, k ≤ X.length → 0 ≤ stAt N s X k ∧ stAt N s X k < M.length
  | 0, _ => startB_state h
  | k + 1, hk => by
    have ih := stAt_in h ha (k := k) (by omega)
    have hr := startB_req h (k := k) (by omega)
    have := stOk_in (algB_at ha (k := (stAt N s X k).toNat) (r := (nth X k).toNat) (by omega) (by omega))
    exact ⟨this.1, this.2.1⟩
theorem okTo_statesTo {M S N : List (List Int)} {s : Int} {X : List Int} (h : startB M S s X = true) (ha : algB M S N = true) {k : Nat} (hk : k ≤ X.length) : okTo M S X (statesTo N s X X.length) k := by
  intro i hi
  have h1 := stAt_in h ha (k := i) (by omega)
  have h2 := startB_req h (k := i) (by omega)
  rw [nth_statesTo (by omega)]
  exact algB_at ha (by omega) (by omega)
theorem sumA_le {M S N : List (List Int)} {s : Int} {X : List Int} (h : startB M S s X = true) (ha : algB M S N = true) {k : Nat} (hk : k ≤ X.length) : -(k : Int) ≤ sumA M S N s X k ∧ sumA M S N s X k ≤ 119 * k := by
  have := sumTo_le h (states := statesTo N s X X.length) (statesTo_length _ _ _ _) k (by rw [statesTo_length]; exact hk) (okTo_statesTo h ha hk)
  rwa [sumTo_statesTo hk] at this
theorem statesTo_i64 {M S N : List (List Int)} {s : Int} {X : List Int} (h : startB M S s X = true) (ha : algB M S N = true) {k : Nat} (hk : k ≤ X.length) (hM : M.length ≤ 17592186044415) : ∀ x ∈ statesTo N s X k, I64 x := by
  intro x hx
  obtain ⟨i, hi, rfl⟩ := List.mem_map.1 hx
  have hi' := List.mem_range.1 hi
  have := stAt_in h ha (k := i + 1) (by omega)
  unfold I64
  omega
theorem algOk_start {M S N : List (List Int)} {s : Int} {X : List Int} (h : startB M S s X = false) : algOk M S N s X = false := by simp [algOk, h]
theorem algOk_alg {M S N : List (List Int)} {s : Int} {X : List Int} (h : algB M S N = false) : algOk M S N s X = false := by simp [algOk, h]
theorem algOk_true {M S N : List (List Int)} {s : Int} {X : List Int} (h : startB M S s X = true) (ha : algB M S N = true) : algOk M S N s X = true := by simp [algOk, h, ha]
theorem costA_false {M S N : List (List Int)} {s : Int} {X : List Int} (h : algOk M S N s X = false) : costA M S N s X = 0 := by simp [costA, h]
theorem costA_true {M S N : List (List Int)} {s : Int} {X : List Int} (h : algOk M S N s X = true) : costA M S N s X = sumA M S N s X X.length := by simp [costA, h]
theorem statesA_false {M S N : List (List Int)} {s : Int} {X : List Int} (h : algOk M S N s X = false) : statesA M S N s X = [] := by simp [statesA, h]
theorem statesA_true {M S N : List (List Int)} {s : Int} {X : List Int} (h : algOk M S N s X = true) : statesA M S N s X = statesTo N s X X.length := by simp [statesA, h]
theorem statesA_len {M S N : List (List Int)} {s : Int} {X : List Int} : (statesA M S N s X).length ≤ 4000000 := by
  unfold statesA
  split
  · rename_i h
    rw [statesTo_length]
    simp only [algOk, Bool.and_eq_true] at h
    have := startB_len h.1
    omega
  · simp

end Go.Proofs.YtllfchcocgdcjaaGreat

/- Least values over lists: what loops compute and what they are. -/
namespace Go.Proofs.YtllfchcocgdcjaaGreat
open Go.RowKit

/-- a least value, kept with a first one that counts as none -/
def minA (f : Int → Int) (b s : Int) : Int := if b < 0 ∨ f s < b then f s else b
def minB (f : Int → Int) (a s : Int) : Int := if f s < a then f s else a
/-- v is the least of f on l -/
def IsMin (v : Int) (l : List Int) (f : Int → Int) : Prop := (∃ s ∈ l, v = f s) ∧ ∀ s ∈ l, v ≤ f s
theorem IsMin.uniq {u v : Int} {l : List Int} {f : Int → Int} (h : IsMin u l f) (k : IsMin v l f) : u = v := by
  obtain ⟨⟨s, hs, h1⟩, h2⟩ := h
  obtain ⟨⟨t, ht, k1⟩, k2⟩ := k
  have := h2 t ht
  have := k2 s hs
  omega
theorem foldA_of {f : Int → Int} : ∀ {l : List Int} {b : Int}, 0 ≤ b → (∀ s ∈ l, 0 ≤ f s) → l.foldl (minA f) b = l.foldl (minB f) b
  | [], _, _, _ => rfl
  | s :: l, b, hb, h => by
    have hs := h s (by simp)
    have e : minA f b s = minB f b s := by
      unfold minA minB
      by_cases hlt : f s < b
      · rw [if_pos (.inr hlt), if_pos hlt]
      · rw [if_neg (by omega), if_neg hlt]
    rw [List.foldl_cons, List.foldl_cons, e]
    refine foldA_of ?_ (fun t ht => h t (by simp [ht]))
    unfold minB
    split <;> omega
theorem foldA_eq {f : Int → Int} {l : List Int} {F : Int} (hne : l ≠ []) (h0 : ∀ s ∈ l, 0 ≤ f s) (h1 : ∀ s ∈ l, f s < F) : l.foldl (minA f) (-1) = l.foldl (minB f) F := by
  cases l with
  | nil => exact absurd rfl hne
  | cons s l =>
    have e1 : minA f (-1) s = f s := by unfold minA; rw [if_pos (.inl (by omega))]
    have e2 : minB f F s = f s := by unfold minB; rw [if_pos (h1 s (by simp))]
    rw [List.foldl_cons, List.foldl_cons, e1, e2]
    exact foldA_of (h0 s (by simp)) (fun t ht => h0 t (by simp [ht]))
theorem foldB_le {f : Int → Int} : ∀ (l : List Int) (b : Int), l.foldl (minB f) b ≤ b ∧ (∀ s ∈ l, l.foldl (minB f) b ≤ f s) ∧ (l.foldl (minB f) b = b ∨ ∃ s ∈ l, l.foldl (minB f) b = f s)
  | [], b => ⟨by simp, by simp, by simp⟩
  | s :: l, b => by
    obtain ⟨h1, h2, h3⟩ := foldB_le (f := f) l (minB f b s)
    have e : minB f b s ≤ b ∧ minB f b s ≤ f s ∧ (minB f b s = b ∨ minB f b s = f s) := by
      unfold minB
      split <;> omega
    rw [List.foldl_cons]
    generalize minB f b s = m at *
    refine ⟨by omega, fun t ht => ?_, ?_⟩
    · rcases List.mem_cons.1 ht with rfl | ht
      · omega
      · exact h2 t ht
    · rcases h3 with h3 | ⟨t, ht, h3⟩
      · rcases e.2.2 with e3 | e3
        · exact .inl (by omega)
        · exact .inr ⟨s, by simp, by omega⟩
      · exact .inr ⟨t, by simp [ht], h3⟩
theorem foldB_min {f : Int → Int} {l : List Int} {F : Int} (hne : l ≠ []) (h1 : ∀ s ∈ l, f s < F) : IsMin (l.foldl (minB f) F) l f := by
  obtain ⟨_, h2, h3⟩ := foldB_le (f := f) l F
  refine ⟨?_, h2⟩
  rcases h3 with h3 | ⟨t, ht, h3⟩
  · cases l with
    | nil => exact absurd rfl hne
    | cons s l =>
      have := h2 s (by simp)
      have := h1 s (by simp)
      omega
  · exact ⟨t, ht, h3⟩

/-- the least of some numbers -/
def leastL (w : List Int) : Int := (w.drop 1).foldl (minB id) (nth w 0)
theorem leastL_min {w : List Int} (h : w ≠ []) : IsMin (leastL w) w id := by
  cases w with
  | nil => exact absurd rfl h
  | cons x l =>
    obtain ⟨h1, h2, h3⟩ := foldB_le (f := id) l x
    refine ⟨?_, fun s hs => ?_⟩
    · rcases h3 with h3 | ⟨t, ht, h3⟩
      · exact ⟨x, by simp, h3⟩
      · exact ⟨t, by simp [ht], h3⟩
    · rcases List.mem_cons.1 hs with rfl | hs
      · exact h1
      · exact h2 s hs

/-- the sum of a way over s -/
def wsum (M S : List (List Int)) (w : List Int) (r t : Nat) (s : Int) : Int := nth w s.toNat + cell S r s.toNat + cell M s.toNat t
def nextAt (M S : List (List Int)) (w : List Int) (r t : Nat) : Int := (servedL (row S r)).foldl (minB (wsum M S w r t)) 1073741824
/-- the work function after one more request -/
def nextL (M S : List (List Int)) (w : List Int) (r : Nat) : List Int := (List.range w.length).map fun t => nextAt M S w r t
/-- w has a number in 0..B for each state -/
def wOk (M : List (List Int)) (w : List Int) (B : Int) : Prop := w.length = M.length ∧ ∀ s, s < M.length → 0 ≤ nth w s ∧ nth w s ≤ B
theorem nextL_length (M S : List (List Int)) (w : List Int) (r : Nat) : (nextL M S w r).length = w.length := by simp [nextL]
theorem nth_nextL {M S : List (List Int)} {w : List Int} {r t : Nat} (h : t < w.length) : nth (nextL M S w r) t = nextAt M S w r t := by simp [nextL, nth, h]
theorem servedL_lt {cs : List Int} {s : Int} (h : s ∈ servedL cs) : 0 ≤ s ∧ s.toNat < cs.length ∧ 0 ≤ nth cs s.toNat := by
  obtain ⟨i, h1, h2, rfl⟩ := servedTo_mem.1 h
  rw [Int.toNat_natCast]
  exact ⟨by omega, h1, h2⟩
theorem servedL_ne {cs : List Int} (h : ∃ c ∈ cs, 0 ≤ c) : servedL cs ≠ [] := by
  obtain ⟨c, hc, h0⟩ := h
  obtain ⟨k, hk, rfl⟩ := mem_iff_nth.1 hc
  intro e
  have : (k : Int) ∈ servedL cs := servedTo_mem.2 ⟨k, hk, h0, rfl⟩
  rw [e] at this
  cases this
theorem foldServed {β : Type} (f : β → Int → β) (a : β) (cs : List Int) (k : Nat) :
    (servedTo cs (k + 1)).foldl f a = if 0 ≤ nth cs k then f ((servedTo cs k).foldl f a) k else (servedTo cs k).foldl f a := by
  by_cases h : 0 ≤ nth cs k
  · rw [servedTo_succ_yes h, List.foldl_append, if_pos h]; rfl
  · rw [servedTo_succ_no h, if_neg h]
theorem foldTake {β : Type} (f : β → Int → β) (a : β) {l : List Int} {j : Nat} (h : j < l.length) : (l.take (j + 1)).foldl f a = f ((l.take j).foldl f a) (nth l j) := by
  rw [take_succ_nth h, List.foldl_append]; rfl

end Go.Proofs.YtllfchcocgdcjaaGreat

/- The library's functions on slices of ints: Clone, Min, Repeat; the reference's least. -/
namespace Go.Proofs.YtllfchcocgdcjaaGreat
open Go.RowKit

theorem nilRow (w : World) (B e : Nat) : Own w B [intRowOf e (.slice none ([] : List Int).length 0) []] := (Own.nil w B).cons_nil _ _

theorem eqlNilInts (c : Nat) (w : World) : (binOp .eql 27 (.slice none 0 c) (.slice none 0 0)).run Tryz.prog w = .ok (.bool true) w := by kernel_rfl
theorem eqlSomeInts (ad : Addr) (n c : Nat) (w : World) : (binOp .eql 27 (.slice (some ad) n c) (.slice none 0 0)).run Tryz.prog w = .ok (.bool false) w := by kernel_rfl

set_option maxHeartbeats 400000 in
set_option maxRecDepth 100000 in
theorem cloneInts_any {v : Value} {xs : List Int} {w0 w : World} [Ext w0 w] (hx : IsInts w0 v xs) :
    Calls Tryz.prog 73 #[v] w fun e w' => ∃ d m, e = .returned (.slice d xs.length m) ∧ Own w' w.heap.size [intRowOf 3 (.slice d xs.length m) xs] ∧ Ext w w' := by
  have hx' := hx
  obtain ⟨a, c, rfl, la⟩ := hx.form
  cases a with
  | none =>
    have hz : xs = [] := by
      cases xs with
      | nil => rfl
      | cons x xs =>
        obtain ⟨b, o, h, _⟩ := hx.at (w' := w) (k := 0) (by simp)
        cases h
    subst hz
    have hnil := eqlNilInts c
    go_enter Tryz.func73, Tryz.ntmps73
    go_wp2
    go_ret
    exact ⟨none, 0, rfl, nilRow _ _ _, inferInstance⟩
  | some ad =>
    have own0 : Own (w.alloc (.cells #[] 3)) w.heap.size [⟨3, 1, .slice (some ⟨w.heap.size, 0, none⟩) 0 0, 0, []⟩] := Own.litInts (xs := []) (Nat.le_refl _) rfl rfl (by simp) rfl
    have hB : w.heap.size ≤ (w.alloc (.cells #[] 3)).heap.size := by simp
    have e0 : Ext w0 (w.alloc (.cells #[] 3)) := Ext.trans ‹Ext w0 w› inferInstance
    have hnil := eqlSomeInts ad xs.length c
    go_enter Tryz.func73, Tryz.ntmps73
    go_wp2_with (at_builtin; refine wpList_appendInts rfl _ _ _ rfl elemInt rfl own0 hB rfl (hx'.ext (w' := w.alloc (.cells #[] 3))) (by omega) ?_; intro v1 w1 ho hb1)
    go_ret
    rw [Nat.zero_add, List.nil_append] at ho
    obtain ⟨d, m, rfl⟩ := Own.formInts (e := 3) (xs := xs) ho
    exact ⟨d, m, rfl, ho, ⟨((Below.refl _ w).alloc (Nat.le_refl _) _).trans hb1⟩⟩

/-- the least of the first numbers -/
def leastTo (w : List Int) (k : Nat) : Int := ((w.drop 1).take k).foldl (minB id) (nth w 0)
theorem leastTo_succ {w : List Int} {k : Nat} (h : k + 1 < w.length) : leastTo w (k + 1) = minB id (leastTo w k) (nth w (k + 1)) := by
  rw [leastTo, foldTake _ _ (by rw [List.length_drop]; omega)]
  have : nth (w.drop 1) k = nth w (k + 1) := by simp [nth]
  rw [this]; rfl
theorem leastTo_all {w : List Int} {k : Nat} (h : k + 1 = w.length) : leastTo w k = leastL w := by
  rw [leastTo, List.take_of_length_le (by rw [List.length_drop]; omega)]; rfl
theorem leastTo_mem {w : List Int} (h : 0 < w.length) : ∀ k, k < w.length → leastTo w k ∈ w
  | 0, _ => nth_mem h
  | k + 1, hk => by
    rw [leastTo_succ hk]
    unfold minB
    split
    · exact nth_mem hk
    · exact leastTo_mem h k (by omega)

set_option maxHeartbeats 400000 in
theorem sMin_any {v : Value} {xs : List Int} {w0 w : World} [Ext w0 w] (hx : IsInts w0 v xs) (h0 : 0 < xs.length) :
    Calls Tryz.prog 57 #[v] w fun e w' => e = .returned (.int .i64 (leastL xs)) ∧ w = w' := by
  obtain ⟨a, c, rfl, la⟩ := hx.form
  obtain ⟨b, o, rfl, hc0⟩ := hx.at (w' := w) h0
  have h1 : decide ((xs.length : Int) < 1) = false := by simp; omega
  rw [Nat.add_zero] at hc0
  go_enter Tryz.func57, Tryz.ntmps57
  go_wp2
  go_loop [3, 4] (fun q i => ∃ k : Nat, k < xs.length ∧ i = .int .i64 ((k : Int) + 1) ∧ q = .int .i64 (leastTo xs k)) (fun _ i => xs.length - (intOf i).toNat)
  case atStart => exact ⟨0, by omega, rfl, rfl⟩
  case round =>
    obtain ⟨k, hk, rfl, rfl⟩ := hrel
    by_cases hlt : k + 1 < xs.length
    · obtain ⟨b', o', hq, hc⟩ := hx.at (w' := w) hlt
      cases hq
      have hs := hid (leastTo_succ hlt)
      have hlt' : (k : Int) + 1 < (xs.length : Int) := by omega
      generalize leastTo xs k = lt at *
      by_cases hg : nth xs (k + 1) < lt
      · have hm := hid (show minB id lt (nth xs (k + 1)) = nth xs (k + 1) from if_pos hg)
        go_wp2
        go_round
        case rel => exact ⟨k + 1, hlt, by go_num, by rw [hs.out, hm.out]⟩
        case measure => simp [intOf]; omega
      · have hm := hid (show minB id lt (nth xs (k + 1)) = lt from if_neg hg)
        go_wp2
        go_round
        case rel => exact ⟨k + 1, hlt, by go_num, by rw [hs.out, hm.out]⟩
        case measure => simp [intOf]; omega
    · have hlt' : ¬ (k : Int) + 1 < (xs.length : Int) := by omega
      go_wp2
      go_ret
      exact ⟨ret_int (leastTo_all (by omega)), rfl⟩

end Go.Proofs.YtllfchcocgdcjaaGreat

/- The run of an algorithm: the reference's states and cost, the program's run. -/
namespace Go.Proofs.YtllfchcocgdcjaaGreat
open Go.RowKit

end Go.Proofs.YtllfchcocgdcjaaGreat

/- AlgorithmStates and AlgorithmCost of the reference and of the program. Written by algs.py. -/
namespace Go.Proofs.YtllfchcocgdcjaaGreat
open Go.RowKit

theorem isInts_zero (w : World) (d : Option Addr) (c : Nat) : IsInts w (.slice d ([] : List Int).length c) [] := ⟨d, c, rfl, ⟨Nat.zero_le _, Nat.zero_le _⟩, by simp, fun j hj => by simp at hj⟩
theorem isRows_zero (w : World) (d : Option Addr) (c : Nat) : IsRows w (.slice d ([] : List (List Int)).length c) [] := ⟨d, c, rfl, Nat.zero_le _, fun j hj => by simp at hj⟩
theorem own_nils_i (w : World) (B : Nat) : Own w B [intRowOf 3 (.slice none ([] : List Int).length 0) []] := (Own.nil w B).cons_nil _ _
theorem own_nils_r (w : World) (B : Nat) : Own w B (rowsOf 27 3 (.slice none ([] : List (List Int)).length 0) [] []) := (Own.nil w B).cons_nil _ _
theorem own_nils_rr (w : World) (B : Nat) : Own w B (rowsOf 27 3 (.slice none ([] : List (List Int)).length 0) [] [] ++ rowsOf 27 3 (.slice none ([] : List (List Int)).length 0) [] []) := ((Own.nil w B).cons_nil _ _).cons_nil _ _

end Go.Proofs.YtllfchcocgdcjaaGreat

/- Work functions as lists: their bounds, the least cost, the best schedule. -/
namespace Go.Proofs.YtllfchcocgdcjaaGreat
open Go.RowKit

theorem probB_sq {M S : List (List Int)} (h : probB M S = true) {x : Nat} (hx : x < M.length) : (row M x).length = M.length := square_row (tableB_square (probB_table h)) hx
theorem probB_diag {M S : List (List Int)} (h : probB M S = true) {x : Nat} (hx : x < M.length) : cell M x x = 0 := by
  have h' := probB_table h
  simp only [tableB, Bool.and_eq_true, cellsOk, decide_eq_true_eq] at h'
  have h1 := h'.2 x hx x hx
  simp only [cellOk, Bool.and_eq_true, decide_eq_true_eq, if_pos] at h1
  exact h1.2
--PURE
theorem wsum_in {M S : List (List Int)} (hp : probB M S = true) {w : List Int} {B : Int} (hw : wOk M w B) {r t : Nat} (hr : r < S.length) (ht : t < M.length) {s : Int} (hs : s ∈ servedL (row S r)) :
    0 ≤ wsum M S w r t s ∧ wsum M S w r t s ≤ B + 119 := by
  obtain ⟨h0, h1, h2⟩ := servedL_lt hs
  rw [(probB_row hp hr).1] at h1
  have a := hw.2 s.toNat h1
  have b := probB_serve hp hr h1
  have c := probB_move hp h1 ht
  have h2' : 0 ≤ cell S r s.toNat := h2
  unfold wsum
  omega
theorem nextAt_min {M S : List (List Int)} (hp : probB M S = true) {w : List Int} {B : Int} (hw : wOk M w B) (hB : B ≤ 100000) {r t : Nat} (hr : r < S.length) (ht : t < M.length) :
    IsMin (nextAt M S w r t) (servedL (row S r)) (wsum M S w r t) :=
  foldB_min (servedL_ne (probB_row hp hr).2.2) fun s hs => by have := wsum_in hp hw hr ht hs; omega
theorem nextAt_A {M S : List (List Int)} (hp : probB M S = true) {w : List Int} {B : Int} (hw : wOk M w B) (hB : B ≤ 100000) {r t : Nat} (hr : r < S.length) (ht : t < M.length) :
    (servedL (row S r)).foldl (minA (wsum M S w r t)) (-1) = nextAt M S w r t :=
  foldA_eq (servedL_ne (probB_row hp hr).2.2) (fun s hs => (wsum_in hp hw hr ht hs).1) fun s hs => by have := wsum_in hp hw hr ht hs; omega
theorem nextL_ok {M S : List (List Int)} (hp : probB M S = true) {w : List Int} {B : Int} (hw : wOk M w B) (hB : B ≤ 100000) {r : Nat} (hr : r < S.length) : wOk M (nextL M S w r) (B + 119) := by
  refine ⟨by rw [nextL_length, hw.1], fun t ht => ?_⟩
  rw [nth_nextL (by rw [hw.1]; exact ht)]
  obtain ⟨⟨s, hs, e⟩, _⟩ := nextAt_min hp hw hB hr ht
  rw [e]
  exact wsum_in hp hw hr ht hs

def workTo (M S : List (List Int)) (w : List Int) (X : List Int) : Nat → List Int
  | 0 => w
  | k + 1 => nextL M S (workTo M S w X k) (nth X k).toNat
theorem workTo_ok {M S : List (List Int)} (hp : probB M S = true) {w X : List Int} {B : Int} (hw : wOk M w B) (hX : ∀ k, k < X.length → (nth X k).toNat < S.length) :
    ∀ {k : Nat}, k ≤ X.length → B + 119 * k ≤ 100000 → wOk M (workTo M S w X k) (B + 119 * k)
  | 0, _, _ => by
    have : B + 119 * ((0 : Nat) : Int) = B := by omega
    rw [this]; exact hw
  | k + 1, hk, hb => by
    have ih := workTo_ok hp hw hX (k := k) (by omega) (by omega)
    have := nextL_ok hp ih (by omega) (hX k (by omega))
    have e : B + 119 * ((k + 1 : Nat) : Int) = B + 119 * (k : Int) + 119 := by omega
    rw [e]
    exact this
theorem workTo_cons (M S : List (List Int)) (w : List Int) (r : Int) (X : List Int) : ∀ k, workTo M S w (r :: X) (k + 1) = workTo M S (nextL M S w r.toNat) X k
  | 0 => rfl
  | k + 1 => by rw [workTo, workTo_cons M S w r X k]; rfl
def workL (M S : List (List Int)) (w X : List Int) : List Int := workTo M S w X X.length
theorem workL_cons (M S : List (List Int)) (w : List Int) (r : Int) (X : List Int) : workL M S w (r :: X) = workL M S (nextL M S w r.toNat) X := workTo_cons M S w r X X.length
theorem row_ok {M S : List (List Int)} (hp : probB M S = true) {s : Nat} (hs : s < M.length) : wOk M (row M s) 99 := ⟨probB_sq hp hs, fun _ ht => probB_move hp hs ht⟩
def optL (M S : List (List Int)) (w X : List Int) : Int := leastL (workL M S w X)
theorem optL_nil {M S : List (List Int)} (hp : probB M S = true) {s : Nat} (hs : s < M.length) : optL M S (row M s) [] = 0 := by
  have hl := probB_sq hp hs
  have hne : row M s ≠ [] := by
    intro e
    rw [e] at hl
    have := (probB_len hp).1
    simp at hl
    omega
  have hm := leastL_min hne
  obtain ⟨⟨t, ht, e⟩, h⟩ := hm
  have h0 := h (cell M s s) (nth_mem (by rw [hl]; exact hs))
  rw [probB_diag hp hs] at h0
  obtain ⟨k, hk, rfl⟩ := mem_iff_nth.1 ht
  have h1 : 0 ≤ cell M s k := (probB_move hp hs (by rw [hl] at hk; exact hk)).1
  have e' : leastL (row M s) = cell M s k := e
  have h2 : leastL (row M s) ≤ 0 := h0
  show leastL (row M s) = 0
  omega

/-- least values of least values -/
theorem IsMin.lin {M S : List (List Int)} (hp : probB M S = true) {l : List Int} {a : Int → Int} {v : Int → List Int} :
    ∀ (X : List Int) (w : List Int) (B : Int), wOk M w B → (∀ s ∈ l, wOk M (v s) B) → B + 119 * X.length ≤ 100000 → (∀ x ∈ X, 0 ≤ x ∧ x < S.length) → (∀ x, x < M.length → IsMin (nth w x) l fun s => a s + nth (v s) x) →
      IsMin (optL M S w X) l fun s => a s + optL M S (v s) X
  | [], w, B, hw, hv, _, _, h => by
    have hn := probB_len hp
    have ne : ∀ u : List Int, u.length = M.length → u ≠ [] := by
      intro u hu e
      rw [e] at hu
      simp at hu
      omega
    obtain ⟨⟨c, hc, e1⟩, h1⟩ := leastL_min (ne w hw.1)
    obtain ⟨k, hk, rfl⟩ := mem_iff_nth.1 hc
    rw [hw.1] at hk
    obtain ⟨⟨s, hs, e2⟩, h2⟩ := h k hk
    have e1' : leastL w = nth w k := e1
    have hle : ∀ t ∈ l, leastL w ≤ a t + leastL (v t) := by
      intro t ht
      obtain ⟨⟨d, hd, e3⟩, h3⟩ := leastL_min (ne (v t) (hv t ht).1)
      obtain ⟨j, hj, rfl⟩ := mem_iff_nth.1 hd
      rw [(hv t ht).1] at hj
      have q1 := (h j hj).2 t ht
      have q2 := h1 (nth w j) (nth_mem (by rw [hw.1]; exact hj))
      have e3' : leastL (v t) = nth (v t) j := e3
      have q2' : leastL w ≤ nth w j := q2
      have q1' : nth w j ≤ a t + nth (v t) j := q1
      omega
    refine ⟨⟨s, hs, ?_⟩, hle⟩
    have q := hle s hs
    have q2 : leastL (v s) ≤ nth (v s) k := (leastL_min (ne (v s) (hv s hs).1)).2 _ (nth_mem (by rw [(hv s hs).1]; exact hk))
    have e2' : nth w k = a s + nth (v s) k := e2
    show leastL w = a s + leastL (v s)
    omega
  | r :: X, w, B, hw, hv, hB, hX, h => by
    have hl : B + 119 * ((X.length + 1 : Nat) : Int) ≤ 100000 := by simpa using hB
    have hr := hX r (by simp)
    have hrn : r.toNat < S.length := by omega
    have hg : (fun s => a s + optL M S (v s) (r :: X)) = fun s => a s + optL M S (nextL M S (v s) r.toNat) X := by
      funext s
      rw [optL, workL_cons]; rfl
    have hw' : optL M S w (r :: X) = optL M S (nextL M S w r.toNat) X := by rw [optL, workL_cons]; rfl
    rw [hg, hw']
    refine IsMin.lin hp X (nextL M S w r.toNat) (B + 119) (nextL_ok hp hw (by omega) hrn) (fun s hs => nextL_ok hp (hv s hs) (by omega) hrn) (by omega) (fun x hx => hX x (by simp [hx])) ?_
    intro t ht
    rw [nth_nextL (by rw [hw.1]; exact ht)]
    obtain ⟨⟨q, hq, e1⟩, h1⟩ := nextAt_min hp hw (by omega) hrn ht
    have hqs := servedL_lt hq
    rw [(probB_row hp hrn).1] at hqs
    obtain ⟨⟨s, hs, e2⟩, h2⟩ := h q.toNat hqs.2.1
    have e2' : nth w q.toNat = a s + nth (v s) q.toNat := e2
    have hle : ∀ u ∈ l, nextAt M S w r.toNat t ≤ a u + nextAt M S (v u) r.toNat t := by
      intro u hu
      obtain ⟨⟨p, hpq, e3⟩, h3⟩ := nextAt_min hp (hv u hu) (by omega) hrn ht
      have hps := servedL_lt hpq
      rw [(probB_row hp hrn).1] at hps
      have q1 : nth w p.toNat ≤ a u + nth (v u) p.toNat := (h p.toNat hps.2.1).2 u hu
      have q2 := h1 p hpq
      unfold wsum at q2 e3
      omega
    refine ⟨⟨s, hs, ?_⟩, fun u hu => ?_⟩
    · have q1 := hle s hs
      have q2 := (nextAt_min hp (hv s hs) (by omega) hrn ht).2 q hq
      show _ = a s + nth (nextL M S (v s) r.toNat) t
      rw [nth_nextL (by rw [(hv s hs).1]; exact ht)]
      unfold wsum at q2 e1
      omega
    · have := hle u hu
      show _ ≤ a u + nth (nextL M S (v u) r.toNat) t
      rwa [nth_nextL (by rw [(hv u hu).1]; exact ht)]

/-- the least cost of a sequence, by the state of its first request -/
theorem opt_step {M S : List (List Int)} (hp : probB M S = true) {X : List Int} {r : Int} {s : Nat} (hs : s < M.length) (hr : 0 ≤ r ∧ r < S.length) (hX : ∀ x ∈ X, 0 ≤ x ∧ x < S.length) (hl : X.length ≤ 60) :
    IsMin (optL M S (row M s) (r :: X)) (servedL (row S r.toNat)) fun t => stepC M S r s t + optL M S (row M t.toNat) X := by
  have hrn : r.toNat < S.length := by omega
  have hw' : optL M S (row M s) (r :: X) = optL M S (nextL M S (row M s) r.toNat) X := by rw [optL, workL_cons]; rfl
  rw [hw']
  have hok := row_ok hp hs
  refine IsMin.lin hp (a := fun t => stepC M S r s t) (v := fun t => row M t.toNat) X _ 218 (nextL_ok hp hok (by omega) hrn) (fun t ht => ?_) (by omega) hX ?_
  · have h := servedL_lt ht
    rw [(probB_row hp hrn).1] at h
    have h2 := row_ok hp h.2.1
    exact ⟨h2.1, fun x hx => by have := h2.2 x hx; omega⟩
  · intro x hx
    rw [nth_nextL (by rw [hok.1]; exact hx)]
    have h := nextAt_min hp hok (by omega) hrn hx
    have e : (wsum M S (row M s) r.toNat x) = fun t => stepC M S r s t + nth (row M t.toNat) x := by
      funext t
      unfold wsum stepC cell
      rw [Int.toNat_natCast]
    rwa [e] at h

end Go.Proofs.YtllfchcocgdcjaaGreat

/- First least places: the greedy state, the best schedule. -/
namespace Go.Proofs.YtllfchcocgdcjaaGreat
open Go.RowKit

--PURE
/-- the better of a place so far (a negative one is none) and a new one -/
def argStep (c : Int → Int) (g t : Int) : Int := if g < 0 ∨ c t < c g then t else g
theorem arg_mem {c : Int → Int} : ∀ (l : List Int) (g : Int), l.foldl (argStep c) g = g ∨ l.foldl (argStep c) g ∈ l
  | [], g => .inl rfl
  | t :: l, g => by
    rw [List.foldl_cons]
    rcases arg_mem (c := c) l (argStep c g t) with h | h
    · unfold argStep at h ⊢
      split at h
      · rename_i h'; rw [if_pos h']; right; rw [h]; simp
      · rename_i h'; rw [if_neg h']; left; exact h
    · right; simp [h]
theorem arg_first {c : Int → Int} {l : List Int} (h0 : ∀ s ∈ l, 0 ≤ s) : ∀ {j : Nat}, 0 < j → j ≤ l.length →
    ∃ i, i < j ∧ (l.take j).foldl (argStep c) (-1) = nth l i ∧ (∀ q, q < i → c (nth l i) < c (nth l q)) ∧ ∀ q, q < j → c (nth l i) ≤ c (nth l q)
  | 0, h, _ => by omega
  | 1, _, hl => by
    refine ⟨0, by omega, ?_, fun q hq => by omega, fun q hq => ?_⟩
    · rw [foldTake _ _ (by omega)]
      show argStep c (-1) _ = _
      unfold argStep
      rw [if_pos (.inl (by omega))]
    · have : q = 0 := by omega
      subst this
      exact Int.le_refl _
  | j + 2, _, hl => by
    obtain ⟨i, hi, h1, h2, h3⟩ := arg_first (c := c) h0 (j := j + 1) (by omega) (by omega)
    rw [foldTake _ _ (by omega), h1]
    have hn := h0 _ (nth_mem (xs := l) (k := i) (by omega))
    unfold argStep
    by_cases hc : c (nth l (j + 1)) < c (nth l i)
    · rw [if_pos (.inr hc)]
      refine ⟨j + 1, by omega, rfl, fun q hq => ?_, fun q hq => ?_⟩
      · have := h3 q (by omega); omega
      · by_cases hq' : q = j + 1
        · subst hq'; exact Int.le_refl _
        · have := h3 q (by omega); omega
    · rw [if_neg (by omega)]
      refine ⟨i, by omega, rfl, h2, fun q hq => ?_⟩
      by_cases hq' : q = j + 1
      · subst hq'; omega
      · exact h3 q (by omega)
theorem arg_all {c : Int → Int} {l : List Int} (h0 : ∀ s ∈ l, 0 ≤ s) (hne : l ≠ []) :
    ∃ i, i < l.length ∧ l.foldl (argStep c) (-1) = nth l i ∧ (∀ q, q < i → c (nth l i) < c (nth l q)) ∧ ∀ q, q < l.length → c (nth l i) ≤ c (nth l q) := by
  have hl : 0 < l.length := by
    cases l with
    | nil => exact absurd rfl hne
    | cons x l => simp
  have := arg_first (c := c) h0 hl (Nat.le_refl _)
  rwa [List.take_length] at this
/-- what the reference keeps: a place and its value -/
def argP (g : Int) : Int := if g < 0 then 0 else g
def argV (c : Int → Int) (g : Int) : Int := if g < 0 then -1 else c g
theorem argP_step {c : Int → Int} {g t : Int} (ht : 0 ≤ t) (hg : 0 ≤ g → 0 ≤ c g) :
    (argV c g < 0 ∨ c t < argV c g → argP (argStep c g t) = t ∧ argV c (argStep c g t) = c t) ∧
    (¬ (argV c g < 0 ∨ c t < argV c g) → argP (argStep c g t) = argP g ∧ argV c (argStep c g t) = argV c g) := by
  by_cases h : g < 0
  · have e : argStep c g t = t := if_pos (.inl h)
    have e2 : argV c g = -1 := if_pos h
    rw [e, e2]
    exact ⟨fun _ => ⟨if_neg (by omega), if_neg (by omega)⟩, fun h' => absurd (.inl (by omega)) h'⟩
  · have hc := hg (by omega)
    have e2 : argV c g = c g := if_neg h
    rw [e2]
    by_cases h2 : c t < c g
    · have e : argStep c g t = t := if_pos (.inr h2)
      rw [e]
      exact ⟨fun _ => ⟨if_neg (by omega), if_neg (by omega)⟩, fun h' => absurd (.inr h2) h'⟩
    · have e : argStep c g t = g := if_neg (by omega)
      rw [e]
      exact ⟨fun h' => by omega, fun _ => ⟨rfl, e2⟩⟩

/-- the greedy state for a request r in the state s -/
def greedyAt (M S : List (List Int)) (s r : Int) : Int := (servedL (row S r.toNat)).foldl (argStep (stepC M S r s)) (-1)
def greedyL (M S : List (List Int)) : List (List Int) := (List.range M.length).map fun s : Nat => (List.range S.length).map fun r : Nat => greedyAt M S s r
def lazyAt (M S : List (List Int)) (s r : Int) : Int := if 0 ≤ cell S r.toNat s.toNat then s else greedyAt M S s r
def lazyL (M S : List (List Int)) : List (List Int) := (List.range M.length).map fun s : Nat => (List.range S.length).map fun r : Nat => lazyAt M S s r
theorem arg_in {M S : List (List Int)} (hp : probB M S = true) {c : Int → Int} {r : Nat} (hr : r < S.length) :
    let g := (servedL (row S r)).foldl (argStep c) (-1)
    0 ≤ g ∧ g.toNat < M.length ∧ 0 ≤ cell S r g.toNat := by
  have hne := servedL_ne (probB_row hp hr).2.2
  obtain ⟨i, hi, e, _⟩ := arg_all (c := c) (fun s hs => (servedL_lt hs).1) hne
  show 0 ≤ (servedL (row S r)).foldl (argStep c) (-1) ∧ _
  rw [e]
  have := servedL_lt (nth_mem hi)
  rw [(probB_row hp hr).1] at this
  exact this

/-- the value of a state for the requests from a place on -/
def bestC (M S : List (List Int)) (at_ r : Int) (rest : List Int) (t : Int) : Int := stepC M S r at_ t + optL M S (row M t.toNat) rest
def bestAt (M S : List (List Int)) (at_ r : Int) (rest : List Int) : Int := (servedL (row S r.toNat)).foldl (argStep (bestC M S at_ r rest)) (-1)
def bsAt (M S : List (List Int)) (s : Int) (X : List Int) : Nat → Int
  | 0 => s
  | k + 1 => bestAt M S (bsAt M S s X k) (nth X k) (X.drop (k + 1))
def bsTo (M S : List (List Int)) (s : Int) (X : List Int) (k : Nat) : List Int := (List.range k).map fun i => bsAt M S s X (i + 1)
def bestS (M S : List (List Int)) (s : Int) (X : List Int) : List Int := if startB M S s X = true then bsTo M S s X X.length else []
theorem bsTo_succ (M S : List (List Int)) (s : Int) (X : List Int) (k : Nat) : bsTo M S s X (k + 1) = bsTo M S s X k ++ [bsAt M S s X (k + 1)] := by simp [bsTo, List.range_succ]
theorem bsTo_length (M S : List (List Int)) (s : Int) (X : List Int) (k : Nat) : (bsTo M S s X k).length = k := by simp [bsTo]
theorem bsAt_in {M S : List (List Int)} {s : Int} {X : List Int} (h : startB M S s X = true) : ∀ {k : Nat}, k ≤ X.length → 0 ≤ bsAt M S s X k ∧ bsAt M S s X k < M.length
  | 0, _ => startB_state h
  | k + 1, hk => by
    have hr := startB_req h (k := k) (by omega)
    have := arg_in (startB_prob h) (c := bestC M S (bsAt M S s X k) (nth X k) (X.drop (k + 1))) (r := (nth X k).toNat) (by omega)
    have h2 : 0 ≤ bsAt M S s X (k + 1) ∧ (bsAt M S s X (k + 1)).toNat < M.length := ⟨this.1, this.2.1⟩
    omega
theorem drop_cons_nth {X : List Int} {k : Nat} (h : k < X.length) : X.drop k = nth X k :: X.drop (k + 1) := by
  rw [List.drop_eq_getElem_cons h]
  simp [nth, h]
theorem mem_drop_in {M S : List (List Int)} {s : Int} {X : List Int} (h : startB M S s X = true) (k : Nat) : ∀ x ∈ X.drop k, 0 ≤ x ∧ x < S.length := by
  intro x hx
  obtain ⟨j, hj, rfl⟩ := mem_iff_nth.1 (List.mem_of_mem_drop hx)
  exact startB_req h hj
/-- the least cost of the requests from k on, from a state on, is what the program's table has -/
theorem left_eq {M S : List (List Int)} {s : Int} {X : List Int} (h : startB M S s X = true) {k : Nat} (hk : k < X.length) {from_ : Nat} (hf : from_ < M.length) :
    (servedL (row S (nth X k).toNat)).foldl (minB (bestC M S from_ (nth X k) (X.drop (k + 1)))) 1073741824 = optL M S (row M from_) (X.drop k) := by
  have hp := startB_prob h
  have hl := startB_len h
  have hr := startB_req h hk
  rw [drop_cons_nth hk]
  have h1 := opt_step hp hf hr (mem_drop_in h (k + 1)) (by rw [List.length_drop]; omega)
  have hne := servedL_ne (probB_row hp (k := (nth X k).toNat) (by omega)).2.2
  refine (IsMin.uniq (l := servedL (row S (nth X k).toNat)) (f := bestC M S from_ (nth X k) (X.drop (k + 1))) ?_ h1)
  refine foldB_min hne fun t ht => ?_
  have ht' := servedL_lt ht
  rw [(probB_row hp (by omega)).1] at ht'
  have b1 := probB_move hp hf ht'.2.1
  have b2 := probB_serve hp (k := (nth X k).toNat) (by omega) ht'.2.1
  have hok := workTo_ok hp (row_ok hp ht'.2.1) (X := X.drop (k + 1)) (k := (X.drop (k + 1)).length) (fun j hj => by
    have := mem_drop_in h (k + 1) _ (nth_mem hj)
    omega) (Nat.le_refl _) (by rw [List.length_drop]; omega)
  have hn := probB_len hp
  have hne2 : workL M S (row M t.toNat) (X.drop (k + 1)) ≠ [] := by
    intro e
    have := hok.1
    rw [show workTo M S (row M t.toNat) (X.drop (k + 1)) (X.drop (k + 1)).length = [] from e] at this
    simp at this
    omega
  obtain ⟨⟨c, hc, e⟩, _⟩ := leastL_min hne2
  obtain ⟨j, hj, rfl⟩ := mem_iff_nth.1 hc
  have hj' : j < M.length := by rw [← hok.1]; exact hj
  have h3 := hok.2 j hj'
  have e' : optL M S (row M t.toNat) (X.drop (k + 1)) = nth (workTo M S (row M t.toNat) (X.drop (k + 1)) (X.drop (k + 1)).length) j := e
  unfold bestC stepC
  rw [e', Int.toNat_natCast]
  rw [List.length_drop] at h3 ⊢
  omega

end Go.Proofs.YtllfchcocgdcjaaGreat

/- Offsets: the lists that the loops make. -/
namespace Go.Proofs.YtllfchcocgdcjaaGreat
open Go.RowKit

--PURE
/-- the index of the first list with a property, from i on; or -1 -/
def ixL (p : List Int → Bool) : List (List Int) → Nat → Int
  | [], _ => -1
  | x :: xs, i => if p x = true then (i : Int) else ixL p xs (i + 1)
theorem ixL_none {p : List Int → Bool} : ∀ {xs : List (List Int)} {i : Nat}, (∀ j, j < xs.length → p (row xs j) = false) → ixL p xs i = -1
  | [], _, _ => rfl
  | x :: xs, i, h => by
    have h0 : p x = false := h 0 (by simp)
    rw [ixL, h0]
    exact ixL_none (xs := xs) fun j hj => h (j + 1) (by simpa using hj)
theorem ixL_some {p : List Int → Bool} : ∀ {xs : List (List Int)} {i k : Nat}, k < xs.length → p (row xs k) = true → (∀ j, j < k → p (row xs j) = false) → ixL p xs i = ((i + k : Nat) : Int)
  | [], _, _, h, _, _ => by simp at h
  | x :: xs, i, 0, _, h, _ => by
    have h0 : p x = true := h
    rw [ixL, if_pos h0, Nat.add_zero]
  | x :: xs, i, k + 1, hk, h, hj => by
    have h0 : p x = false := hj 0 (by omega)
    rw [ixL, h0]
    show ixL p xs (i + 1) = _
    rw [ixL_some (xs := xs) (i := i + 1) (k := k) (by simpa using hk) h (fun j h' => hj (j + 1) (by omega))]
    congr 1
    omega
theorem ixL_in {p : List Int → Bool} (xs : List (List Int)) : ∀ i : Nat, ixL p xs i = -1 ∨ ((i : Int) ≤ ixL p xs i ∧ ixL p xs i < i + xs.length) := by
  induction xs with
  | nil => intro i; left; rfl
  | cons x xs ih =>
    intro i
    rw [ixL]
    split
    · right; simp only [List.length_cons]; omega
    · rcases ih (i + 1) with h | h
      · left; exact h
      · right; simp only [List.length_cons]; omega

def normL (w : List Int) : List Int := w.map fun x => x - leastL w
theorem normL_length (w : List Int) : (normL w).length = w.length := by simp [normL]
theorem nth_normL {w : List Int} {k : Nat} (h : k < w.length) : nth (normL w) k = nth w k - leastL w := by simp [normL, nth, h]
theorem len_ne {M S : List (List Int)} (hp : probB M S = true) {w : List Int} (h : w.length = M.length) : w ≠ [] := by
  intro e
  have := (probB_len hp).1
  rw [e] at h
  simp at h
  omega
theorem norm_ok {M S : List (List Int)} (hp : probB M S = true) {w : List Int} (hw : wOk M w 99) {r : Nat} (hr : r < S.length) : wOk M (normL (nextL M S w r)) 99 ∧ 0 ≤ leastL (nextL M S w r) ∧ leastL (nextL M S w r) ≤ 218 := by
  have hn := nextL_ok hp hw (by omega) hr
  obtain ⟨⟨c, hc, e⟩, h⟩ := leastL_min (len_ne hp hn.1)
  obtain ⟨j, hj, rfl⟩ := mem_iff_nth.1 hc
  rw [hn.1] at hj
  have e' : leastL (nextL M S w r) = nth (nextL M S w r) j := e
  have h1 := hn.2 j hj
  refine ⟨⟨by rw [normL_length, hn.1], fun t ht => ?_⟩, by omega, by omega⟩
  rw [nth_normL (by rw [hn.1]; exact ht)]
  have h2 : leastL (nextL M S w r) ≤ nth (nextL M S w r) t := h _ (nth_mem (by rw [hn.1]; exact ht))
  refine ⟨by omega, ?_⟩
  rw [nth_nextL (by rw [hw.1]; exact ht)]
  rw [nth_nextL (by rw [hw.1]; exact hj)] at e'
  obtain ⟨⟨s, hs, e2⟩, _⟩ := nextAt_min hp hw (by omega) hr hj
  have h3 := (nextAt_min hp hw (by omega) hr ht).2 s hs
  have hs' := servedL_lt hs
  rw [(probB_row hp hr).1] at hs'
  have b1 := probB_move hp hs'.2.1 hj
  have b2 := probB_move hp hs'.2.1 ht
  unfold wsum at e2 h3
  omega

/-- the lists behind r requests in the i-th row -/
def rowLst (M S : List (List Int)) (l : List (List Int)) (i : Nat) : Nat → List (List Int)
  | 0 => l
  | r + 1 => if ixL (fun o => decide (o = normL (nextL M S (row l i) r))) (rowLst M S l i r) 0 < 0 then rowLst M S l i r ++ [normL (nextL M S (row l i) r)] else rowLst M S l i r
def ixAt (M S : List (List Int)) (l : List (List Int)) (i r : Nat) : Int := ixL (fun o => decide (o = normL (nextL M S (row l i) r))) (rowLst M S l i r) 0
def rowStp (M S : List (List Int)) (l : List (List Int)) (i : Nat) (r : Nat) : List Int := (List.range r).map fun r => if ixAt M S l i r < 0 then ((rowLst M S l i r).length : Int) else ixAt M S l i r
def rowGrw (M S : List (List Int)) (l : List (List Int)) (i : Nat) (r : Nat) : List Int := (List.range r).map fun r => leastL (nextL M S (row l i) r)
theorem rowStp_succ (M S : List (List Int)) (l : List (List Int)) (i r : Nat) : rowStp M S l i (r + 1) = rowStp M S l i r ++ [if ixAt M S l i r < 0 then ((rowLst M S l i r).length : Int) else ixAt M S l i r] := by simp [rowStp, List.range_succ]
theorem rowGrw_succ (M S : List (List Int)) (l : List (List Int)) (i r : Nat) : rowGrw M S l i (r + 1) = rowGrw M S l i r ++ [leastL (nextL M S (row l i) r)] := by simp [rowGrw, List.range_succ]
theorem rowStp_length (M S : List (List Int)) (l : List (List Int)) (i r : Nat) : (rowStp M S l i r).length = r := by simp [rowStp]
theorem rowGrw_length (M S : List (List Int)) (l : List (List Int)) (i r : Nat) : (rowGrw M S l i r).length = r := by simp [rowGrw]
theorem rowLst_pre (M S : List (List Int)) (l : List (List Int)) (i : Nat) : ∀ r, ∃ t, rowLst M S l i r = l ++ t ∧ t.length ≤ r
  | 0 => ⟨[], by simp [rowLst], by simp⟩
  | r + 1 => by
    obtain ⟨t, h1, h2⟩ := rowLst_pre M S l i r
    rw [rowLst]
    split
    · exact ⟨t ++ [normL (nextL M S (row l i) r)], by rw [h1, List.append_assoc], by simp; omega⟩
    · exact ⟨t, h1, by omega⟩
theorem rowLst_row {M S : List (List Int)} {l : List (List Int)} {i j : Nat} (hj : j < l.length) (r : Nat) : row (rowLst M S l i r) j = row l j := by
  obtain ⟨t, h1, _⟩ := rowLst_pre M S l i r
  rw [h1]
  simp [row, hj, List.getElem?_append_left]
theorem rowLst_len {M S : List (List Int)} (l : List (List Int)) (i r : Nat) : l.length ≤ (rowLst M S l i r).length ∧ (rowLst M S l i r).length ≤ l.length + r := by
  obtain ⟨t, h1, h2⟩ := rowLst_pre M S l i r
  rw [h1]
  simp
  omega
/-- all rows of a list are offsets -/
def offOk (M : List (List Int)) (l : List (List Int)) : Prop := ∀ x ∈ l, wOk M x 99
theorem rowLst_ok {M S : List (List Int)} (hp : probB M S = true) {l : List (List Int)} (hl : offOk M l) {i : Nat} (hi : i < l.length) : ∀ {r : Nat}, r ≤ S.length → offOk M (rowLst M S l i r)
  | 0, _ => hl
  | r + 1, hr => by
    have ih := rowLst_ok hp hl hi (r := r) (by omega)
    rw [rowLst]
    split
    · intro x hx
      rcases List.mem_append.1 hx with hx | hx
      · exact ih x hx
      · rw [List.mem_singleton.1 hx]
        exact (norm_ok hp (hl _ (row_mem hi)) (by omega)).1
    · exact ih

def offLst (M S : List (List Int)) (s : Nat) : Nat → List (List Int)
  | 0 => [row M s]
  | i + 1 => rowLst M S (offLst M S s i) i S.length
def offStp (M S : List (List Int)) (s : Nat) (i : Nat) : List (List Int) := (List.range i).map fun i => rowStp M S (offLst M S s i) i S.length
def offGrw (M S : List (List Int)) (s : Nat) (i : Nat) : List (List Int) := (List.range i).map fun i => rowGrw M S (offLst M S s i) i S.length
theorem offStp_succ (M S : List (List Int)) (s i : Nat) : offStp M S s (i + 1) = offStp M S s i ++ [rowStp M S (offLst M S s i) i S.length] := by simp [offStp, List.range_succ]
theorem offGrw_succ (M S : List (List Int)) (s i : Nat) : offGrw M S s (i + 1) = offGrw M S s i ++ [rowGrw M S (offLst M S s i) i S.length] := by simp [offGrw, List.range_succ]
theorem offStp_length (M S : List (List Int)) (s i : Nat) : (offStp M S s i).length = i := by simp [offStp]
theorem offGrw_length (M S : List (List Int)) (s i : Nat) : (offGrw M S s i).length = i := by simp [offGrw]
/-- the round at which the loop ends well -/
def offGo (M S : List (List Int)) (s : Nat) : Nat → Nat → Option Nat
  | 0, _ => none
  | f + 1, i => if i < (offLst M S s i).length then (if 400 < (offLst M S s (i + 1)).length then none else offGo M S s f (i + 1)) else some i
def offEnd (M S : List (List Int)) (s : Nat) : Option Nat := offGo M S s 500 0
def offB (M S : List (List Int)) (s : Int) : Bool := startB M S s [] && (offEnd M S s.toNat).isSome
def offN (M S : List (List Int)) (s : Int) : Nat := (offEnd M S s.toNat).getD 0
def offsL (M S : List (List Int)) (s : Int) : List (List Int) := if offB M S s = true then offLst M S s.toNat (offN M S s) else []
def stepsL (M S : List (List Int)) (s : Int) : List (List Int) := if offB M S s = true then offStp M S s.toNat (offN M S s) else []
def growsL (M S : List (List Int)) (s : Int) : List (List Int) := if offB M S s = true then offGrw M S s.toNat (offN M S s) else []
theorem offGo_more {M S : List (List Int)} {s f i : Nat} (h : i < (offLst M S s i).length) (h4 : ¬ 400 < (offLst M S s (i + 1)).length) : offGo M S s (f + 1) i = offGo M S s f (i + 1) := by rw [offGo, if_pos h, if_neg h4]
theorem offGo_big {M S : List (List Int)} {s f i : Nat} (h : i < (offLst M S s i).length) (h4 : 400 < (offLst M S s (i + 1)).length) : offGo M S s (f + 1) i = none := by rw [offGo, if_pos h, if_pos h4]
theorem offGo_done {M S : List (List Int)} {s f i : Nat} (h : ¬ i < (offLst M S s i).length) : offGo M S s (f + 1) i = some i := by rw [offGo, if_neg h]
end Go.Proofs.YtllfchcocgdcjaaGreat

/- The work function after one more request, as the reference makes it. -/
namespace Go.Proofs.YtllfchcocgdcjaaGreat
open Go.RowKit

def nextTo (M S : List (List Int)) (w : List Int) (r t : Nat) : List Int := (List.range t).map fun t => nextAt M S w r t
theorem nextTo_succ (M S : List (List Int)) (w : List Int) (r t : Nat) : nextTo M S w r (t + 1) = nextTo M S w r t ++ [nextAt M S w r t] := by simp [nextTo, List.range_succ]
theorem nextTo_length (M S : List (List Int)) (w : List Int) (r t : Nat) : (nextTo M S w r t).length = t := by simp [nextTo]
theorem nextTo_all (M S : List (List Int)) (w : List Int) (r : Nat) : nextTo M S w r w.length = nextL M S w r := rfl

end Go.Proofs.YtllfchcocgdcjaaGreat

/- slices.Repeat of one int. -/
namespace Go.Proofs.YtllfchcocgdcjaaGreat
open Go.RowKit

theorem mul64_1 {n : Nat} (h : n ≤ 4) (w : World) :
    Calls Tryz.prog 81 #[.int .u64 1, .int .u64 n] w fun e w' => e = .returned (.tuple #[.int .u64 0, .int .u64 n]) ∧ w = w' := by
  have hn : n = 0 ∨ n = 1 ∨ n = 2 ∨ n = 3 ∨ n = 4 := by omega
  rcases hn with rfl | rfl | rfl | rfl | rfl
  all_goals
    go_enter Tryz.func81, Tryz.ntmps81
    go_wp2
    go_ret2
    exact ⟨rfl, rfl⟩

theorem mul_1 {n : Nat} (h : n ≤ 4) (w : World) :
    Calls Tryz.prog 52 #[.int .u64 1, .int .u64 n] w fun e w' => e = .returned (.tuple #[.int .u64 0, .int .u64 n]) ∧ w = w' := by
  go_enter Tryz.func52, Tryz.ntmps52
  go_wp2_with fail
  refine (mul64_1 h _).mono ?_
  rintro e w1 ⟨rfl, rfl⟩
  go_wp2_with fail
  go_ret2
  exact ⟨rfl, rfl⟩

/-- the row of a Repeat when k of its n cells are laid -/
def repL (c : Int) (n k : Nat) : List Value := (List.replicate k c ++ List.replicate (n - k) 0).map (Value.int .i64)
theorem repL_length {c : Int} {n k : Nat} (h : k ≤ n) : (repL c n k).length = n := by simp [repL]; omega
theorem rep_make (w : World) (c : Int) (n : Nat) (t : TypeId) : (w.alloc (.cells (Array.replicate n (.int .i64 0)) t)).heap[w.heap.size]? = some (.cells (repL c n 0).toArray t (0, 0)) := by
  have e : (repL c n 0).toArray = Array.replicate n (.int .i64 0) := by
    apply Array.toList_inj.1
    simp [repL]
  rw [e]
  exact Array.getElem?_push_size
theorem rep_splice {c : Int} {n k m : Nat} (_h : k + m ≤ n) : splice (repL c n k) k (List.replicate m (Value.int .i64 c)) = repL c n (k + m) := by
  have e1 : (repL c n k).take k = List.replicate k (Value.int .i64 c) := by
    rw [repL, List.map_append, List.take_append_of_le_length (by simp)]
    simp
  have e2 : (repL c n k).drop (k + m) = List.replicate (n - (k + m)) (Value.int .i64 0) := by
    rw [repL, List.map_append, List.drop_append]
    simp
    omega
  rw [splice, e1, List.length_replicate, e2, repL, List.map_append, List.map_replicate, List.map_replicate, ← List.append_assoc, List.replicate_append_replicate]
theorem rep_cell {w : World} {g n k j : Nat} {c : Int} {t : TypeId} (h : w.heap[g]? = some (.cells (repL c n k).toArray t (0, 0))) (hj : j < k) (hk : k ≤ n) : w.cell? ⟨g, j, none⟩ = some (.int .i64 c) := by
  have hl := repL_length (c := c) hk
  have : (repL c n k)[j]? = some (.int .i64 c) := by
    rw [repL, List.getElem?_map, List.getElem?_append_left (by simpa using hj)]
    simp [hj]
  simp [World.cell?, h, this]
theorem rep_own {w : World} {B g n : Nat} {c : Int} {t : TypeId} (h : w.heap[g]? = some (.cells (repL c n n).toArray t (0, 0))) (hB : B ≤ g) (hn : n ≤ 4) : Own w B [intRowOf t (.slice (some ⟨g, 0, none⟩) (List.replicate n c).length n) (List.replicate n c)] := by
  refine ⟨fun r hr => ?_, List.pairwise_singleton _ _⟩
  rw [List.mem_singleton.1 hr]
  have e : repL c n n = (List.replicate n c).map (Value.int .i64) := by simp [repL]
  refine ⟨by simp, .inr ⟨g, n, (repL c n n).toArray, rfl, hB, h, by simp, by unfold maxLen; omega, by simp [repL_length], by simp [e]⟩⟩

set_option maxHeartbeats 800000 in
set_option maxRecDepth 100000 in
theorem sRepeat_any {v : Value} {c : Int} {n : Nat} {w0 w : World} [Ext w0 w] (hx : IsInts w0 v [c]) (h1 : 1 ≤ n) (h4 : n ≤ 4) :
    Calls Tryz.prog 28 #[v, .int .i64 n] w fun e w' => ∃ d m, e = .returned (.slice d (List.replicate n c).length m) ∧ Own w' w.heap.size [intRowOf 3 (.slice d (List.replicate n c).length m) (List.replicate n c)] ∧ Ext w w' := by
  obtain ⟨a, cc, rfl, _⟩ := hx.form
  obtain ⟨b, o, rfl, hc⟩ := hx.at (w' := w) (k := 0) (by simp)
  rw [Nat.add_zero] at hc
  have hl1 : ([c] : List Int).length = 1 := rfl
  rw [hl1]
  have hmk := hid (rep_make w c n 3)
  have hsz := hid (show (Tryz.prog.info? 3).map (·.size) = some 1 by kernel_rfl)
  have hc' : w.cell? ⟨b, o, none⟩ = some (.int .i64 c) := hc
  clear hc
  go_enter Tryz.func28, Tryz.ntmps28
  go_wp2_with fail
  refine (mul_1 h4 _).mono ?_
  rintro e w1 ⟨rfl, rfl⟩
  go_upto_region 7 with (at_make; refine wpList_makeOwn rfl _ _ _ rfl elemInt n rfl rfl (by omega) (by omega) rfl ?_; intro hown)
  have eM : Ext w (w.alloc (.cells (Array.replicate n (.int .i64 0)) 3)) := inferInstance
  have hcM := eM.cell hc'
  have hblt : b < w.heap.size := World.block_lt_of_cell? w _ hc'
  have hgs : (w.alloc (.cells (Array.replicate n (.int .i64 0)) 3)).heap.size = w.heap.size + 1 := by simp
  generalize w.alloc (.cells (Array.replicate n (.int .i64 0)) 3) = wM at *
  clear hown
  have hs1 := hid (show ∀ j v, ([.int .i64 c] : List Value)[j]? = some v → wM.cell? ((⟨b, o, none⟩ : Addr).add j) = some v by
    intro j v hj
    match j, hj with
    | 0, hj => simp at hj; subst hj; simpa [Addr.add] using hcM)
  have hbM : Below w.heap.size w wM := eM.below
  have hn1 := hid (show ([.int .i64 c] : List Value).length = Nat.min 1 n from (Nat.min_eq_left h1).symm)
  have hpos := hid (show 0 < ([.int .i64 c] : List Value).length → (some ⟨w.heap.size, 0, none⟩ : Option Addr) = some ⟨w.heap.size, 0, none⟩ ∧ ∃ ad, (some ⟨b, o, none⟩ : Option Addr) = some ad ∧ ∀ j v, ([.int .i64 c] : List Value)[j]? = some v → wM.cell? (ad.add j) = some v from fun _ => ⟨rfl, _, rfl, hs1.out⟩)
  have hfit := hid (show 0 + ([.int .i64 c] : List Value).length ≤ (repL c n 0).length by rw [repL_length (Nat.zero_le _)]; exact h1)
  have hone := hid (show ∀ v ∈ ([.int .i64 c] : List Value), v.oneCell' = true by intro v hv; simp at hv; subst hv; rfl)
  go_upto_region 8 with (with_reducible refine wpList_copy_splice rfl (.tmp 31) (.tmp 32) 27 27 rfl 3 Tryz.underlying27 hsz.out _ _ _ _ _ _ rfl rfl w.heap.size 0 (repL c n 0) 3 hmk.out [.int .i64 c] hn1.out hpos.out hfit.out hone.out w.heap.size w hbM (Nat.le_refl _) ?_; intro w2 hg2 hb2)
  rw [show (splice (repL c n 0) 0 [Value.int .i64 c]) = repL c n 1 from rep_splice (m := 1) (by omega)] at hg2
  go_loopw [8] (fun q wr => ∃ k : Nat, 1 ≤ k ∧ k ≤ n ∧ q = .int .i64 k ∧ Hid (wr.heap[w.heap.size]? = some (.cells (repL c n k).toArray 3 (0, 0))) ∧ Below w.heap.size w wr) (fun q _ => n - (intOf q).toNat)
  case atStart => exact ⟨1, by omega, by omega, rfl, hg2, hb2⟩
  case round =>
    obtain ⟨k, hk1, hkn, rfl, hg, hb⟩ := hrel
    by_cases hlt : k < n
    · obtain ⟨m, hm⟩ : ∃ m, m = Nat.min k (n - k) := ⟨_, rfl⟩
      have hm2 : m ≤ k ∧ m ≤ n - k ∧ 1 ≤ m := by
        have h5 : m ≤ k := hm ▸ Nat.min_le_left k (n - k)
        have h6 : m ≤ n - k := hm ▸ Nat.min_le_right k (n - k)
        have h7 : 1 ≤ m := hm ▸ Nat.le_min.2 ⟨hk1, by omega⟩
        exact ⟨h5, h6, h7⟩
      have hgd : Hid (wr.drew.heap[w.heap.size]? = some (.cells (repL c n k).toArray 3 (0, 0))) := hg
      have hbd : Below w.heap.size w wr.drew := hb.drew
      have hs2 := hid (show ∀ j v, (List.replicate m (Value.int .i64 c))[j]? = some v → wr.drew.cell? ((⟨w.heap.size, 0, none⟩ : Addr).add j) = some v by
        intro j v hj
        obtain ⟨h8, h9⟩ := List.getElem?_eq_some_iff.1 hj
        rw [List.length_replicate] at h8
        rw [List.getElem_replicate] at h9
        subst h9
        have := rep_cell hgd.out (j := j) (by omega) hkn
        rw [← this]
        congr 1
        unfold Addr.add
        split <;> simp_all)
      have hn2 := hid (show (List.replicate m (Value.int .i64 c)).length = Nat.min k (n - k) by rw [List.length_replicate]; exact hm)
      have hpos2 := hid (show 0 < (List.replicate m (Value.int .i64 c)).length → (some ⟨w.heap.size, k, none⟩ : Option Addr) = some ⟨w.heap.size, k, none⟩ ∧ ∃ ad, (some ⟨w.heap.size, 0, none⟩ : Option Addr) = some ad ∧ ∀ j v, (List.replicate m (Value.int .i64 c))[j]? = some v → wr.drew.cell? (ad.add j) = some v from fun _ => ⟨rfl, _, rfl, hs2.out⟩)
      have hfit2 := hid (show k + (List.replicate m (Value.int .i64 c)).length ≤ (repL c n k).length by rw [repL_length hkn, List.length_replicate]; omega)
      have hone2 := hid (show ∀ v ∈ (List.replicate m (Value.int .i64 c)), v.oneCell' = true by intro v hv; rw [List.eq_of_mem_replicate hv]; rfl)
      have hlen2 := hid (show (List.replicate m (Value.int .i64 c)).length = m from List.length_replicate)
      have hsp := hid (rep_splice (c := c) (n := n) (k := k) (m := m) (by omega))
      generalize List.replicate m (Value.int .i64 c) = cs at *
      replace hm := hid hm
      go_upto_region 9 with fail
      refine wp_region_held_drew (S := fun w' => Below w.heap.size w w') (by kernel_rfl) hbd (fun hHeld => ?_)
      refine wpAnyH_take (i := 0) (v := .int .i64 k) rfl (by kernel_rfl) (by kernel_rfl) (by kernel_rfl) (fun _ _ _ h => h) (Or.inl ⟨by rfl, by intro wx hx; go_simp⟩) (by assumption) ?_
      try simp only [List.getElem_toArray, List.getElem_cons_zero, Act.put, List.setIfInBounds_toArray, List.set_cons_zero, List.set_cons_succ]
      refine wpAnyH_take (i := 1) (v := .slice (some ⟨w.heap.size, 0, none⟩) n n) rfl (by kernel_rfl) (by kernel_rfl) (by kernel_rfl) (fun _ _ _ h => h) (Or.inl ⟨by rfl, by intro wx hx; go_simp⟩) (by assumption) ?_
      try simp only [List.getElem_toArray, List.getElem_cons_succ, List.getElem_cons_zero, Act.put, List.setIfInBounds_toArray, List.set_cons_zero, List.set_cons_succ]
      refine wpAnyH_take (i := 2) (v := .int .i64 k) rfl (by kernel_rfl) (by kernel_rfl) (by kernel_rfl) (fun _ _ _ h => h) (Or.inl ⟨by rfl, by intro wx hx; go_simp⟩) (by assumption) ?_
      try simp only [List.getElem_toArray, List.getElem_cons_succ, List.getElem_cons_zero, Act.put, List.setIfInBounds_toArray, List.set_cons_zero, List.set_cons_succ]
      refine wpAnyH_take (i := 3) (v := .slice (some ⟨w.heap.size, k, none⟩) (n - k) (n - k)) rfl (by kernel_rfl) (by kernel_rfl) (by kernel_rfl) (fun _ _ _ h => h) (Or.inl ⟨by rfl, by intro wx hx; go_simp; omega⟩) (by assumption) ?_
      try simp only [List.getElem_toArray, List.getElem_cons_succ, List.getElem_cons_zero, Act.put, List.setIfInBounds_toArray, List.set_cons_zero, List.set_cons_succ]
      refine wpAnyH_take (i := 4) (v := .slice (some ⟨w.heap.size, 0, none⟩) n n) rfl (by kernel_rfl) (by kernel_rfl) (by kernel_rfl) (fun _ _ _ h => h) (Or.inl ⟨by rfl, by intro wx hx; go_simp⟩) (by assumption) ?_
      try simp only [List.getElem_toArray, List.getElem_cons_succ, List.getElem_cons_zero, Act.put, List.setIfInBounds_toArray, List.set_cons_zero, List.set_cons_succ]
      refine wpAnyH_take (i := 5) (v := .int .i64 k) rfl (by kernel_rfl) (by kernel_rfl) (by kernel_rfl) (fun _ _ _ h => h) (Or.inl ⟨by rfl, by intro wx hx; go_simp⟩) (by assumption) ?_
      try simp only [List.getElem_toArray, List.getElem_cons_succ, List.getElem_cons_zero, Act.put, List.setIfInBounds_toArray, List.set_cons_zero, List.set_cons_succ]
      refine wpAnyH_take (i := 6) (v := .slice (some ⟨w.heap.size, 0, none⟩) k n) rfl (by kernel_rfl) (by kernel_rfl) (by kernel_rfl) (fun _ _ _ h => h) (Or.inl ⟨by rfl, by intro wx hx; go_simp⟩) (by assumption) ?_
      try simp only [List.getElem_toArray, List.getElem_cons_succ, List.getElem_cons_zero, Act.put, List.setIfInBounds_toArray, List.set_cons_zero, List.set_cons_succ]
      refine wpAnyH_ready (rs := [7]) (by kernel_rfl) (by simp) ?_
      refine AllReadyH.cons rfl (fun K hK => ?_) AllReadyH.nil
      refine step_copy_splice rfl (.tmp 41) (.tmp 44) 27 27 rfl 3 Tryz.underlying27 hsz.out _ _ _ _ _ _ rfl rfl w.heap.size k (repL c n k) 3 hgd.out cs hn2.out hpos2.out hfit2.out hone2.out w.heap.size w hbd (Nat.le_refl _) ?_
      intro w4 hg4 hb4
      rw [hsp.out] at hg4
      rw [hlen2.out]
      refine hK.out _ _ hb4 (fun hHeld2 => ?_)
      clear hK K hHeld
      try simp only [List.getElem_toArray, List.getElem_cons_succ, List.getElem_cons_zero, Act.put, List.setIfInBounds_toArray, List.set_cons_zero, List.set_cons_succ]
      refine wpAnyH_take (i := 8) (v := .int .i64 ((k : Int) + (m : Int))) rfl (by kernel_rfl) (by kernel_rfl) (by kernel_rfl) (fun _ _ _ h => h) (Or.inl ⟨by rfl, by intro wx hx; go_simp; exact IntWalk.i64_in _ (by omega)⟩) (by assumption) ?_
      try simp only [List.getElem_toArray, List.getElem_cons_succ, List.getElem_cons_zero, Act.put, List.setIfInBounds_toArray, List.set_cons_zero, List.set_cons_succ]
      refine wpAnyH_take (i := 9) (v := .int .i64 ((k : Int) + (m : Int))) rfl (by kernel_rfl) (by kernel_rfl) (by kernel_rfl) (fun _ _ _ h => h) (Or.inl ⟨by rfl, by intro wx hx; go_simp⟩) (by assumption) ?_
      try simp only [List.getElem_toArray, List.getElem_cons_succ, List.getElem_cons_zero, Act.put, List.setIfInBounds_toArray, List.set_cons_zero, List.set_cons_succ]
      refine wpAnyH_done (by kernel_rfl) ?_ _
      go_wp2_with fail
      go_roundw
      case rel => exact ⟨k + m, by omega, by omega, by go_num, hg4, hb4⟩
      case measure => simp [intOf]; omega
    · have : k = n := by omega
      subst this
      go_wp2
      go_ret
      exact ⟨some ⟨w.heap.size, 0, none⟩, k, by rw [List.length_replicate]; rfl, rep_own hg.out (Nat.le_refl _) h4, ⟨hb⟩⟩

end Go.Proofs.YtllfchcocgdcjaaGreat

/- The work function after one more request, as the program makes it. -/
namespace Go.Proofs.YtllfchcocgdcjaaGreat
open Go.RowKit

/-- the list when j served states are done, and x places of the next one -/
def mixAt (M S : List (List Int)) (w : List Int) (r j y : Nat) : Int := ((servedL (row S r)).take j).foldl (minB (wsum M S w r y)) 1073741824
def mixL (M S : List (List Int)) (w : List Int) (r j x : Nat) : List Int := (List.range w.length).map fun y => mixAt M S w r (if y < x then j + 1 else j) y
theorem mixL_length (M S : List (List Int)) (w : List Int) (r j x : Nat) : (mixL M S w r j x).length = w.length := by simp [mixL]
theorem nth_mixL {M S : List (List Int)} {w : List Int} {r j x y : Nat} (h : y < w.length) : nth (mixL M S w r j x) y = mixAt M S w r (if y < x then j + 1 else j) y := by simp [mixL, nth, h]
theorem mixL_zero (M S : List (List Int)) (w : List Int) (r : Nat) : mixL M S w r 0 0 = List.replicate w.length 1073741824 := by
  refine eq_of_nth (by rw [mixL_length, List.length_replicate]) fun y hy => ?_
  rw [mixL_length] at hy
  rw [nth_mixL hy]
  simp [mixAt, nth, hy]
theorem mixL_full (M S : List (List Int)) (w : List Int) (r j : Nat) : mixL M S w r j w.length = mixL M S w r (j + 1) 0 := by
  refine eq_of_nth (by rw [mixL_length, mixL_length]) fun y hy => ?_
  rw [mixL_length] at hy
  rw [nth_mixL hy, nth_mixL hy, if_pos hy, if_neg (by omega)]
theorem mixL_all (M S : List (List Int)) (w : List Int) (r : Nat) : mixL M S w r (servedL (row S r)).length 0 = nextL M S w r := by
  refine eq_of_nth (by rw [mixL_length, nextL_length]) fun y hy => ?_
  rw [mixL_length] at hy
  rw [nth_mixL hy, nth_nextL hy, if_neg (by omega), mixAt, List.take_length]
  rfl
theorem mixL_set {M S : List (List Int)} {w : List Int} {r j x : Nat} (hx : x < w.length) : ((mixL M S w r j x).map (Value.int .i64)).set x (.int .i64 (mixAt M S w r (j + 1) x)) = (mixL M S w r j (x + 1)).map (Value.int .i64) := by
  rw [← List.map_set]
  congr 1
  refine eq_of_nth (by rw [List.length_set, mixL_length, mixL_length]) fun y hy => ?_
  rw [List.length_set, mixL_length] at hy
  rw [nth_mixL hy]
  by_cases h : y = x
  · subst h
    simp [nth, mixL_length, hy]
  · have e : nth ((mixL M S w r j x).set x (mixAt M S w r (j + 1) x)) y = nth (mixL M S w r j x) y := by
      simp [nth, Ne.symm h]
    rw [e, nth_mixL hy]
    by_cases h2 : y < x
    · rw [if_pos h2, if_pos (by omega)]
    · rw [if_neg h2, if_neg (by omega)]
theorem mixAt_succ {M S : List (List Int)} {w : List Int} {r j y : Nat} (hj : j < (servedL (row S r)).length) : mixAt M S w r (j + 1) y = minB (wsum M S w r y) (mixAt M S w r j y) (nth (servedL (row S r)) j) := foldTake _ _ hj
theorem mixAt_in {M S : List (List Int)} (hp : probB M S = true) {w : List Int} {B : Int} (hw : wOk M w B) {r y : Nat} (hr : r < S.length) (hy : y < M.length) (j : Nat) : 0 ≤ mixAt M S w r j y ∧ mixAt M S w r j y ≤ 1073741824 := by
  obtain ⟨h1, _, h3⟩ := foldB_le (f := wsum M S w r y) ((servedL (row S r)).take j) 1073741824
  refine ⟨?_, h1⟩
  rcases h3 with h3 | ⟨t, ht, h3⟩
  · unfold mixAt; omega
  · have := wsum_in hp hw hr hy (List.mem_of_mem_take ht)
    unfold mixAt; omega

end Go.Proofs.YtllfchcocgdcjaaGreat

/- Work functions and least costs walked, the reference's and the program's. -/
namespace Go.Proofs.YtllfchcocgdcjaaGreat
open Go.RowKit

theorem wOk_i64 {M : List (List Int)} {w : List Int} {B : Int} (h : wOk M w B) (hB : B ≤ 1000000) : ∀ x ∈ w, I64 x := by
  intro x hx
  obtain ⟨k, hk, rfl⟩ := mem_iff_nth.1 hx
  have := h.2 k (by rw [← h.1]; exact hk)
  unfold I64
  omega
theorem start_work {M S : List (List Int)} {s : Int} {X : List Int} (h : startB M S s X = true) {k : Nat} (hk : k ≤ X.length) : wOk M (workTo M S (row M s.toNat) X k) 10000 := by
  have hs := startB_state h
  have hl := startB_len h
  have := workTo_ok (startB_prob h) (row_ok (startB_prob h) (s := s.toNat) (by omega)) (X := X) (fun j hj => by have := startB_req h hj; omega) hk (by omega)
  exact ⟨this.1, fun t ht => by have h2 := this.2 t ht; omega⟩
theorem start_workL {M S : List (List Int)} {s : Int} {X : List Int} (h : startB M S s X = true) : wOk M (workL M S (row M s.toNat) X) 10000 := start_work h (Nat.le_refl _)

end Go.Proofs.YtllfchcocgdcjaaGreat

/- Small walks for offsets: sameness, places, normal lists. -/
namespace Go.Proofs.YtllfchcocgdcjaaGreat
open Go.RowKit

def normTo (w : List Int) (k : Nat) : List Int := (List.range k).map fun i => nth w i - leastL w
theorem normTo_succ (w : List Int) (k : Nat) : normTo w (k + 1) = normTo w k ++ [nth w k - leastL w] := by simp [normTo, List.range_succ]
theorem normTo_length (w : List Int) (k : Nat) : (normTo w k).length = k := by simp [normTo]
theorem normTo_all (w : List Int) : normTo w w.length = normL w := by
  refine eq_of_nth (by rw [normTo_length, normL_length]) fun j hj => ?_
  rw [normTo_length] at hj
  rw [nth_normL hj]
  simp [normTo, nth, hj]

end Go.Proofs.YtllfchcocgdcjaaGreat

