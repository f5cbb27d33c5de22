/- NextWork of the reference and of the program. Written by nears.py. -/
import Derived.Test.YtkniohcmhdgbeaaWorkW
namespace Go.Proofs.Ytkniohcmhdgbeaa
open Go.RowKit

def nearAt (M : List (List Int)) (ws : List Int) (s t : Nat) : Bool := decide (nth ws s ≤ nth ws t + cell M t s)
def nearB (M : List (List Int)) (ws : List Int) : Bool := decide (ws.length = M.length) && belowB 100001 ws && decide (∀ s, s < ws.length → ∀ t, t < ws.length → nearAt M ws s t = true)
theorem nearB_len {M : List (List Int)} {ws : List Int} (h : ¬ ws.length = M.length) : nearB M ws = false := by simp [nearB, h]
theorem nearB_small {M : List (List Int)} {ws : List Int} (h : belowB 100001 ws = false) : nearB M ws = false := by simp [nearB, h]
theorem nearB_at {M : List (List Int)} {ws : List Int} {s t : Nat} (hs : s < ws.length) (ht : t < ws.length) (h : nearAt M ws s t = false) : nearB M ws = false := by
  rw [nearB, Bool.and_eq_false_iff]
  refine .inr (decide_eq_false fun h' => ?_)
  rw [h' s hs t ht] at h
  cases h
theorem nearB_true {M : List (List Int)} {ws : List Int} (h1 : ws.length = M.length) (h2 : belowB 100001 ws = true) (h3 : ∀ s, s < ws.length → ∀ t, t < ws.length → nearAt M ws s t = true) : nearB M ws = true := by
  rw [nearB, decide_eq_true h1, h2, decide_eq_true h3]; rfl
theorem nearB_ok {M : List (List Int)} {ws : List Int} (h : nearB M ws = true) : wOk M ws 100000 := by
  simp only [nearB, Bool.and_eq_true, decide_eq_true_eq] at h
  refine ⟨h.1.1, fun s hs => ?_⟩
  have := belowB_at h.1.2 (k := s) (by rw [h.1.1]; exact hs)
  omega
def nwB (M S : List (List Int)) (ws : List Int) (q : Int) : Bool := probB M S && inB q 0 ((S.length : Int) - 1) && nearB M ws
def nwR (M S : List (List Int)) (ws : List Int) (q : Int) : List Int := if nwB M S ws q = true then nextL M S ws q.toNat else []
theorem nwB_prob {M S : List (List Int)} {ws : List Int} {q : Int} (h : probB M S = false) : nwB M S ws q = false := by simp [nwB, h]
theorem nwB_req {M S : List (List Int)} {ws : List Int} {q : Int} (h : inB q 0 ((S.length : Int) - 1) = false) : nwB M S ws q = false := by simp [nwB, h]
theorem nwB_near {M S : List (List Int)} {ws : List Int} {q : Int} (h : nearB M ws = false) : nwB M S ws q = false := by simp [nwB, h]
theorem nwB_true {M S : List (List Int)} {ws : List Int} {q : Int} (h1 : probB M S = true) (h2 : inB q 0 ((S.length : Int) - 1) = true) (h3 : nearB M ws = true) : nwB M S ws q = true := by rw [nwB, h1, h2, h3]; rfl
theorem nwR_false {M S : List (List Int)} {ws : List Int} {q : Int} (h : nwB M S ws q = false) : nwR M S ws q = [] := by simp [nwR, h]
theorem nwR_true {M S : List (List Int)} {ws : List Int} {q : Int} (h : nwB M S ws q = true) : nwR M S ws q = nextL M S ws q.toNat := by simp [nwR, h]
theorem nwR_len {M S : List (List Int)} {ws : List Int} {q : Int} : (nwR M S ws q).length ≤ 4000000 := by
  unfold nwR
  split
  · rename_i h
    simp only [nwB, Bool.and_eq_true] at h
    have h1 := (nearB_ok h.2).1
    have h2 := probB_len h.1.1
    rw [nextL_length]
    omega
  · simp

set_option maxHeartbeats 400000 in
theorem isRequest_any {v1 v2 : Value} {M S : List (List Int)} {s : Int} {w0 w : World} (hM : IsRows w0 v1 M) (hS : IsRows w0 v2 S) :
    Calls Try.prog 59 #[.agg #[v1, v2], .int .i64 s] w fun e w' => e = .returned (.bool (inB s 0 (S.length - 1))) ∧ Ext w w' := by
  obtain ⟨a1, c1, rfl, l1⟩ := hM.form
  obtain ⟨a2, c2, rfl, l2⟩ := hS.form
  go_enter Try.func59, Try.ntmps59
  go_wp2_with (go_at_call 38; refine (within_any _ _ _ _).mono ?_; rintro e w' ⟨rfl, rfl⟩)
  go_ret
  exact ⟨rfl, inferInstance⟩
theorem l1In_ext (a lo hi : Int) {w : World} : Calls Try.prog 46 #[.int .i64 a, .int .i64 lo, .int .i64 hi] w fun e w' => e = .returned (.bool (inB a lo hi)) ∧ Ext w w' := by
  refine (l1In_any _ _ _ _).mono ?_
  rintro e w' ⟨rfl, rfl⟩
  exact ⟨rfl, Ext.refl _⟩

end Go.Proofs.Ytkniohcmhdgbeaa
