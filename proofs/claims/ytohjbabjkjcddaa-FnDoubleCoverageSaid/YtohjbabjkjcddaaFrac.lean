/- Fractions: the greatest common divisor, validity, the fraction of two numbers; both sides. Written by fracs.py. -/
import Derived.Test.YtohjbabjkjcddaaImplA
import Derived.Test.YtohjbabjkjcddaaSpecA
import Derived.Deep.RegionHeld3
import Derived.IntWalk
import Derived.Deep.Cut
namespace Go.Proofs.Ytohjbabjkjcddaa
open Go.RowKit

theorem within_ext (x a b : Int) (w : World) : Calls Try.prog 70 #[.int .i64 x, .int .i64 a, .int .i64 b] w fun e w' => e = .returned (.bool (inB x a b)) ∧ Ext w w' := by
  refine (within_any x a b w).mono ?_
  rintro e w' ⟨rfl, rfl⟩
  exact ⟨rfl, Ext.refl _⟩
theorem l1In_extw (x a b : Int) (w : World) : Calls Try.prog 74 #[.int .i64 x, .int .i64 a, .int .i64 b] w fun e w' => e = .returned (.bool (inB x a b)) ∧ Ext w w' := by
  refine (l1In_any x a b w).mono ?_
  rintro e w' ⟨rfl, rfl⟩
  exact ⟨rfl, Ext.refl _⟩
theorem gcd_turn (a b : Nat) : Nat.gcd b (a % b) = Nat.gcd a b := by rw [Nat.gcd_comm a b, Nat.gcd_rec b a, Nat.gcd_comm]

theorem natEqOne (k : Nat) : ((k : Int) == 1) = decide (k = 1) := by
  by_cases h : k = 1
  · subst h; rfl
  · have h2 : (k : Int) ≠ 1 := by omega
    rw [decide_eq_false h]
    simpa using h2
theorem gcd_pos {n d : Int} (h : 1 ≤ d) : 0 < Nat.gcd n.natAbs d.toNat := Nat.gcd_pos_of_pos_right _ (by omega)
theorem quo_in {n d : Int} {g : Nat} (h0 : -4000000000000000000 ≤ n) (h1 : n ≤ 4000000000000000000) (h2 : 1 ≤ d) (h3 : d ≤ 4000000000000000000) (_hg : 0 < g) :
    (-4000000000000000000 ≤ n.tdiv g ∧ n.tdiv g ≤ 4000000000000000000) ∧ (-4000000000000000000 ≤ d.tdiv g ∧ d.tdiv g ≤ 4000000000000000000) := by
  have q1 : (n.tdiv g).natAbs ≤ n.natAbs := by rw [Int.natAbs_tdiv]; exact Nat.div_le_self _ _
  have q2 : (d.tdiv g).natAbs ≤ d.natAbs := by rw [Int.natAbs_tdiv]; exact Nat.div_le_self _ _
  omega
/-- a fraction is valid -/
def fracB (n d : Int) : Bool := inB d 1 100000 && (inB n (-100000000) 100000000 && decide (Nat.gcd n.natAbs d.toNat = 1))
theorem fracB_den {n d : Int} (h : inB d 1 100000 = false) : fracB n d = false := by simp [fracB, h]
theorem fracB_num {n d : Int} (h : inB n (-100000000) 100000000 = false) : fracB n d = false := by simp [fracB, h]
theorem fracB_gcd {n d : Int} (h : inB d 1 100000 = true) (h2 : inB n (-100000000) 100000000 = true) : fracB n d = decide (Nat.gcd n.natAbs d.toNat = 1) := by simp [fracB, h, h2]
theorem fracB_in {n d : Int} (h : fracB n d = true) : 1 ≤ d ∧ d ≤ 100000 ∧ -100000000 ≤ n ∧ n ≤ 100000000 := by
  simp only [fracB, Bool.and_eq_true] at h
  have h1 := inB_true.1 h.1
  have h2 := inB_true.1 h.2.1
  omega
def mkN (n d : Int) : Int := n.tdiv (Nat.gcd n.natAbs d.toNat : Nat)
def mkD (n d : Int) : Int := d.tdiv (Nat.gcd n.natAbs d.toNat : Nat)
def mkB (n d : Int) : Bool := fracB (mkN n d) (mkD n d)
def mkA (n d : Int) : Value := if mkB n d = true then .agg #[.int .i64 (mkN n d), .int .i64 (mkD n d)] else .agg #[.int .i64 0, .int .i64 0]

theorem size_any {n : Int} (h0 : -4000000000000000000 ≤ n) (h1 : n ≤ 4000000000000000000) (w : World) :
    Calls Try.prog 45 #[.int .i64 n] w fun e w' => e = .returned (.int .i64 (n.natAbs : Nat)) ∧ Ext w w' := by
  go_enter Try.func45, Try.ntmps45
  go_wp2
  all_goals
    go_ret
    exact ⟨ret_int (by omega), Ext.refl _⟩

end Go.Proofs.Ytohjbabjkjcddaa
