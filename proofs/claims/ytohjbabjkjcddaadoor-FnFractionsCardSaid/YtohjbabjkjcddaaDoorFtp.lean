/- The text of a fraction in plain words, and how it is cut. -/
import Derived.Test.YtohjbabjkjcddaaDoorNmp
import Derived.Test.YtohjbabjkjcddaaDoorFbt
import Derived.Lib.IndexMore
namespace Go.Proofs.YtohjbabjkjcddaaDoor
open Go.RowKit

theorem dec_slash : ∀ (u : Nat), (47 : UInt8) ∉ Lib.decDigits u := by
  intro u
  induction u using Nat.strongRecOn with
  | _ u ih =>
  have hd : ∀ r, r < 10 → dgt r ≠ 47 := by
    have : ∀ i : Fin 10, dgt i.val ≠ 47 := by decide +kernel
    exact fun r hr => this ⟨r, hr⟩
  intro hb
  by_cases h : u < 10
  · rw [Lib.decDigits_one h, List.mem_singleton] at hb
    exact hd u h hb.symm
  · rw [dec_more h] at hb
    rcases List.mem_append.1 hb with h1 | h1
    · exact ih _ (by omega) h1
    · exact hd _ (by omega) (List.mem_singleton.1 h1).symm
theorem itoa_slash (n : Int) : (47 : UInt8) ∉ Lib.itoa n := by
  unfold Lib.itoa
  split
  · intro h
    rcases List.mem_cons.1 h with h1 | h1
    · exact absurd h1 (by decide)
    · exact dec_slash _ h1
  · exact dec_slash _
theorem index_cut : ∀ (x r : List UInt8), (47 : UInt8) ∉ x → Lib.index (x ++ 47 :: r) [47] = (x.length : Int)
  | [], r, _ => by rw [List.nil_append, Lib.index]; simp [List.isPrefixOf]
  | b :: x, r, h => by
    have hb : b ≠ 47 := fun e => h (by rw [e]; exact .head _)
    have ih := index_cut x r fun hm => h (.tail _ hm)
    have hp : ([47] : List UInt8).isPrefixOf (b :: (x ++ 47 :: r)) = false := by simp [List.isPrefixOf, Ne.symm hb]
    rw [List.cons_append, Lib.index, hp, ih]
    have hne : ((x.length : Int) == -1) = false := beq_eq_false_iff_ne.2 (by omega)
    rw [hne]
    simp
theorem index_uncut : ∀ (x : List UInt8), (47 : UInt8) ∉ x → Lib.index x [47] = -1
  | [], _ => by rw [Lib.index]; rfl
  | b :: x, h => by
    have hb : b ≠ 47 := fun e => h (by rw [e]; exact .head _)
    have ih := index_uncut x fun hm => h (.tail _ hm)
    have hp : ([47] : List UInt8).isPrefixOf (b :: x) = false := by simp [List.isPrefixOf, Ne.symm hb]
    rw [Lib.index, hp, ih]
    rfl
/-- the text of a fraction -/
def ftL (n d : Int) : List UInt8 := if d = 1 then Lib.itoa n else Lib.itoa n ++ 47 :: Lib.itoa d
theorem ft_cut1 (n : Int) : Lib.cut (ftL n 1) [47] = (Lib.itoa n, [], false) := by
  rw [ftL, if_pos rfl, Lib.cut, index_uncut _ (itoa_slash n), if_neg (by omega)]
theorem ft_cut {n d : Int} (h : d ≠ 1) : Lib.cut (ftL n d) [47] = (Lib.itoa n, Lib.itoa d, true) := by
  rw [ftL, if_neg h, Lib.cut, index_cut _ _ (itoa_slash n), if_pos (by omega)]
  simp
theorem ft_len {n d : Int} (h : fracB n d = true) : (ftL n d).length ≤ 60 := by
  have hb := fracB_in h
  have h1 := itoa_len (n := n) (by omega)
  have h2 := itoa_len (n := d) (by omega)
  unfold ftL
  split
  · omega
  · rw [List.length_append, List.length_cons]; omega
/-- what both sides make of two fractions: the first place between them -/
def btQ (a b c d e : Int) : Prop := btOk a b c d e = false ∨ btN a b e < -100000000 ∨ 100000000 < btN a b e
def BtPost (a b c d n m : Int) (ok : Bool) : Prop :=
  (ok = true ∧ 1 ≤ m ∧ m ≤ 100000 ∧ n = btN a b m ∧ btOk a b c d m = true ∧ fracB n m = true ∧ ∀ e, 1 ≤ e → e < m → btOk a b c d e = false) ∨
  (ok = false ∧ n = 0 ∧ m = 0 ∧ ∀ e, 1 ≤ e → e ≤ 100000 → btQ a b c d e)
theorem bt_q_of {a b e : Int} (hf : fracB (btN a b e) e = true) : ¬ (btN a b e < -100000000 ∨ 100000000 < btN a b e) := by
  have := fracB_in hf
  omega
theorem bt_eq {a b c d n m n' m' : Int} {ok ok' : Bool} (h1 : BtPost a b c d n m ok) (h2 : BtPost a b c d n' m' ok') : n = n' ∧ m = m' ∧ ok = ok' := by
  rcases h1 with ⟨rfl, a1, a2, a3, a4, a5, a6⟩ | ⟨rfl, rfl, rfl, a1⟩
  · rcases h2 with ⟨rfl, b1, b2, b3, b4, b5, b6⟩ | ⟨rfl, rfl, rfl, b1⟩
    · have hm : m = m' := by
        rcases Int.lt_trichotomy m m' with h | h | h
        · rw [b6 m a1 h] at a4; cases a4
        · exact h
        · rw [a6 m' b1 h] at b4; cases b4
      subst hm
      exact ⟨a3.trans b3.symm, rfl, rfl⟩
    · rcases b1 m a1 a2 with h | h
      · rw [h] at a4; cases a4
      · subst a3; exact absurd h (bt_q_of a5)
  · rcases h2 with ⟨rfl, b1, b2, b3, b4, b5, b6⟩ | ⟨rfl, rfl, rfl, b1⟩
    · rcases a1 m' b1 b2 with h | h
      · rw [h] at b4; cases b4
      · subst b3; exact absurd h (bt_q_of b5)
    · exact ⟨rfl, rfl, rfl⟩
/-- a place that passes and is no valid fraction, behind places that all fail -/
theorem bt_fails {a b c d e : Int} (hb : 0 < b) (hd : 0 < d) (he : 1 ≤ e) (he2 : e ≤ 100000) (hq : ∀ e', 1 ≤ e' → e' < e → btQ a b c d e') (hok : btOk a b c d e = true) (hf : fracB (btN a b e) e = false) : btQ a b c d e := by
  by_cases hex : ∃ e', 1 ≤ e' ∧ e' < e ∧ btOk a b c d e' = true
  · obtain ⟨e', h1, h2, h3⟩ := hex
    rcases hq e' h1 h2 with h | h
    · rw [h] at h3; cases h3
    · exact Or.inr (bt_range hb h1 (by omega) h)
  · have hg := bt_gcd hb he hd hok fun e' h1 h2 => by
      cases h : btOk a b c d e' with
      | false => rfl
      | true => exact absurd ⟨e', h1, h2, h⟩ hex
    refine Or.inr ?_
    by_cases hr : btN a b e < -100000000 ∨ 100000000 < btN a b e
    · exact hr
    · exfalso
      rw [fracB_gcd (inB_true.2 ⟨he, he2⟩) (inB_true.2 (by omega)), decide_eq_false_iff_not] at hf
      exact hf hg
theorem bt_found {a b c d e : Int} (hb : 0 < b) (he : 1 ≤ e) (he2 : e ≤ 100000) (hq : ∀ e', 1 ≤ e' → e' < e → btQ a b c d e') (hok : btOk a b c d e = true) (hf : fracB (btN a b e) e = true) : BtPost a b c d (btN a b e) e true := by
  refine Or.inl ⟨rfl, he, he2, rfl, hok, hf, fun e' h1 h2 => ?_⟩
  rcases hq e' h1 h2 with h | h
  · exact h
  · exact absurd (bt_range hb h1 (by omega) h) (bt_q_of hf)
theorem bt_unfound {a b c d : Int} (h : ∀ e, 1 ≤ e → e ≤ 100000 → btQ a b c d e) : BtPost a b c d 0 0 false := Or.inr ⟨rfl, rfl, rfl, h⟩
/-- the reference's way: the first place that passes, made -/
theorem bt_made {a b c d e : Int} (hb : 0 < b) (hd : 0 < d) (he : 1 ≤ e) (he2 : e ≤ 100000) (hq : ∀ e', 1 ≤ e' → e' < e → btOk a b c d e' = false) (hok : btOk a b c d e = true) :
    BtPost a b c d (if mkB (btN a b e) e then mkN (btN a b e) e else 0) (if mkB (btN a b e) e then mkD (btN a b e) e else 0) (mkB (btN a b e) e) := by
  have hg := bt_gcd hb he hd hok hq
  have hn : mkN (btN a b e) e = btN a b e := by unfold mkN; rw [hg]; exact Int.tdiv_one _
  have hm : mkD (btN a b e) e = e := by unfold mkD; rw [hg]; exact Int.tdiv_one _
  have hk : mkB (btN a b e) e = fracB (btN a b e) e := by unfold mkB; rw [hn, hm]
  cases hf : fracB (btN a b e) e with
  | true =>
    rw [hk, hf, if_pos rfl, if_pos rfl, hn, hm]
    exact bt_found hb he he2 (fun e' h1 h2 => Or.inl (hq e' h1 h2)) hok hf
  | false =>
    rw [hk, hf, if_neg (by simp), if_neg (by simp)]
    have hQ := bt_fails hb hd he he2 (fun e' h1 h2 => Or.inl (hq e' h1 h2)) hok hf
    refine bt_unfound fun e' h1 h2 => ?_
    rcases Int.lt_trichotomy e' e with h | h | h
    · exact Or.inl (hq e' h1 h)
    · rw [h]; exact hQ
    · rcases hQ with h3 | h3
      · rw [h3] at hok; cases hok
      · exact Or.inr (bt_range hb he (by omega) h3)
end Go.Proofs.YtohjbabjkjcddaaDoor
