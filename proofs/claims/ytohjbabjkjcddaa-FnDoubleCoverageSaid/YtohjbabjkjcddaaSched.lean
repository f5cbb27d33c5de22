/- The cost of a schedule. -/
import Derived.Test.YtohjbabjkjcddaaTakes
import Derived.Deep.Cut
namespace Go.Proofs.Ytohjbabjkjcddaa
open Go.RowKit

/-- what a request r costs in the state s, coming from another one -/
def stepC (M S : List (List Int)) (r at_ s : Int) : Int := cell M at_.toNat s.toNat + cell S r.toNat s.toNat
/-- the state before the k-th request -/
def atOf (start : Int) (states : List Int) : Nat → Int
  | 0 => start
  | k + 1 => nth states k
def sumTo (M S : List (List Int)) (start : Int) (reqs states : List Int) : Nat → Int
  | 0 => 0
  | k + 1 => sumTo M S start reqs states k + stepC M S (nth reqs k) (atOf start states k) (nth states k)
def okTo (M S : List (List Int)) (reqs states : List Int) (k : Nat) : Prop := ∀ i, i < k → stOk M S (nth reqs i).toNat (nth states i) = true
instance (M S : List (List Int)) (reqs states : List Int) (k : Nat) : Decidable (okTo M S reqs states k) := by unfold okTo; infer_instance
def schedB (M S : List (List Int)) (start : Int) (reqs states : List Int) : Bool := startB M S start reqs && decide (states.length = reqs.length) && decide (okTo M S reqs states states.length)
def schedR (M S : List (List Int)) (start : Int) (reqs states : List Int) : Int := if schedB M S start reqs states = true then sumTo M S start reqs states states.length else 0

theorem startB_prob {M S : List (List Int)} {start : Int} {reqs : List Int} (h : startB M S start reqs = true) : probB M S = true := by
  simp only [startB, Bool.and_eq_true] at h; exact h.1.1
theorem startB_state {M S : List (List Int)} {start : Int} {reqs : List Int} (h : startB M S start reqs = true) : 0 ≤ start ∧ start < M.length := by
  simp only [startB, Bool.and_eq_true] at h
  have := inB_true.1 h.1.2
  omega
theorem startB_len {M S : List (List Int)} {start : Int} {reqs : List Int} (h : startB M S start reqs = true) : reqs.length ≤ 60 := by
  simp only [startB, seqB, Bool.and_eq_true, decide_eq_true_eq] at h; exact h.2.1
theorem startB_req {M S : List (List Int)} {start : Int} {reqs : List Int} (h : startB M S start reqs = true) {k : Nat} (hk : k < reqs.length) : 0 ≤ nth reqs k ∧ nth reqs k < S.length := by
  simp only [startB, seqB, Bool.and_eq_true] at h
  exact belowB_at h.2.2 hk
theorem stOk_in {M S : List (List Int)} {r : Nat} {s : Int} (h : stOk M S r s = true) : 0 ≤ s ∧ s < M.length ∧ 0 ≤ cell S r s.toNat := by
  simp only [stOk, Bool.and_eq_true, decide_eq_true_eq] at h
  have := inB_true.1 h.1
  omega
theorem atOf_in {M S : List (List Int)} {start : Int} {reqs states : List Int} (h0 : 0 ≤ start) (h1 : start < M.length) {k : Nat} (hok : okTo M S reqs states k) : 0 ≤ atOf start states k ∧ atOf start states k < M.length := by
  cases k with
  | zero => exact ⟨h0, h1⟩
  | succ k =>
    have := stOk_in (hok k (by omega))
    exact ⟨this.1, this.2.1⟩
theorem stepC_le {M S : List (List Int)} (hp : probB M S = true) {r a s : Int} (hr0 : 0 ≤ r) (hr1 : r < S.length) (_ha0 : 0 ≤ a) (ha1 : a < M.length) (hs0 : 0 ≤ s) (hs1 : s < M.length) :
    -1 ≤ stepC M S r a s ∧ stepC M S r a s ≤ 119 := by
  have h1 := probB_move hp (x := a.toNat) (y := s.toNat) (by omega) (by omega)
  have h2 := probB_serve hp (k := r.toNat) (x := s.toNat) (by omega) (by omega)
  unfold stepC
  omega
theorem sumTo_le {M S : List (List Int)} {start : Int} {reqs states : List Int} (h : startB M S start reqs = true) (hl : states.length = reqs.length) :
    ∀ k, k ≤ states.length → okTo M S reqs states k → -(k : Int) ≤ sumTo M S start reqs states k ∧ sumTo M S start reqs states k ≤ 119 * k
  | 0, _, _ => by simp [sumTo]
  | k + 1, hk, hok => by
    have ih := sumTo_le h hl k (by omega) (fun i hi => hok i (by omega))
    have h1 := startB_req h (k := k) (by omega)
    have h2 := stOk_in (hok k (by omega))
    have h3 := startB_state h
    have h4 := atOf_in h3.1 h3.2 (fun i (hi : i < k) => hok i (by omega))
    have h5 := stepC_le (startB_prob h) h1.1 h1.2 h4.1 h4.2 h2.1 h2.2.1
    simp only [sumTo]
    omega

end Go.Proofs.Ytohjbabjkjcddaa
