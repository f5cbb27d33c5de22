/- Reading a number in plain words: the library's way and the reference's agree. -/
import Derived.Test.YtohjbabjkjcddaaDoorTxp
import Derived.Lib.AtoiAll
import Derived.Lib.AtoiAllCases
import Derived.Lib.Atoi
namespace Go.Proofs.YtohjbabjkjcddaaDoor
open Go.RowKit

theorem dgt_val {r : Nat} (h : r < 10) : (dgt r).toNat = 48 + r := by
  have : ∀ i : Fin 10, (dgt i.val).toNat = 48 + i.val := by decide +kernel
  exact this ⟨r, h⟩
theorem parse_app : ∀ (A B : List UInt8) (acc a : Nat), Lib.parseUint10 acc A = .ok a → Lib.parseUint10 acc (A ++ B) = Lib.parseUint10 a B
  | [], B, acc, a, h => by
    simp only [Lib.parseUint10] at h
    injection h with h
    rw [h]; rfl
  | c :: A, B, acc, a, h => by
    simp only [Lib.parseUint10, List.cons_append] at h ⊢
    split at h
    · rename_i hd
      rw [if_pos hd]
      split at h
      · cases h
      · rename_i h1
        rw [if_neg h1]
        split at h
        · cases h
        · rename_i h2
          rw [if_neg h2]
          exact parse_app A B _ a h
    · cases h
theorem parse_one {a r : Nat} (ha : a ≤ 1000000000000000) (h : r < 10) : Lib.parseUint10 a [dgt r] = .ok (a * 10 + r) := by
  have hv := dgt_val h
  simp only [Lib.parseUint10]
  rw [if_pos (by omega), if_neg (by omega), if_neg (by omega), hv]
  congr 1
  omega
theorem parse_dec : ∀ u : Nat, u ≤ 1000000000000000 → Lib.parseUint10 0 (Lib.decDigits u) = .ok u := by
  intro u
  induction u using Nat.strongRecOn with
  | _ u ih =>
  intro hu
  by_cases h : u < 10
  · rw [Lib.decDigits_one h]
    have := parse_one (a := 0) (by omega) h
    rw [Nat.zero_mul, Nat.zero_add] at this
    exact this
  · rw [dec_more h, parse_app _ _ _ _ (ih (u / 10) (by omega) (by omega)), parse_one (by omega) (by omega)]
    congr 1
    omega
theorem dec_ne (u : Nat) : Lib.decDigits u ≠ [] := by
  intro e
  have h := Lib.decDigits_length u
  rw [e] at h
  have := Lib.nDigits_pos u
  simp at h
  omega
theorem dec_head {u : Nat} {c : UInt8} {r : List UInt8} (h : Lib.decDigits u = c :: r) : c.toNat ≠ 43 ∧ c.toNat ≠ 45 ∧ c ≠ 45 := by
  have key : ∀ u, ∀ b ∈ Lib.decDigits u, 48 ≤ b.toNat ∧ b.toNat ≤ 57 := by
    intro u
    induction u using Nat.strongRecOn with
    | _ u ih =>
    intro b hb
    by_cases h : u < 10
    · rw [Lib.decDigits_one h, List.mem_singleton] at hb
      have h1 := dgt_val h
      have h2 : b = dgt u := hb
      rw [h2]; omega
    · rw [dec_more h] at hb
      rcases List.mem_append.1 hb with h1 | h1
      · exact ih _ (by omega) b h1
      · rw [List.mem_singleton.1 h1]
        have := dgt_val (show u % 10 < 10 by omega)
        omega
  have h1 := key u c (by rw [h]; exact .head _)
  refine ⟨by omega, by omega, fun e => ?_⟩
  rw [e] at h1
  revert h1
  decide
theorem itoa_cases (n : Int) : (n < 0 ∧ Lib.itoa n = 45 :: Lib.decDigits n.natAbs) ∨ (0 ≤ n ∧ Lib.itoa n = Lib.decDigits n.toNat) := by
  unfold Lib.itoa
  by_cases h : n < 0
  · exact .inl ⟨h, if_pos h⟩
  · exact .inr ⟨by omega, if_neg h⟩
theorem atoi_itoa {n : Int} (h : -1000000000000000 ≤ n ∧ n ≤ 1000000000000000) : Lib.atoiAll (Lib.itoa n) = .ok n := by
  rcases itoa_cases n with ⟨h0, e⟩ | ⟨h0, e⟩
  · rw [e, Lib.atoiAll_minus]
    unfold Lib.parseMag
    rw [if_neg (dec_ne _), parse_dec _ (by omega)]
    simp only [Lib.signed]
    split
    · omega
    · congr 1; omega
  · rw [e]
    cases hd : Lib.decDigits n.toNat with
    | nil => exact absurd hd (dec_ne _)
    | cons c r =>
      obtain ⟨h1, h2, _⟩ := dec_head hd
      rw [Lib.atoiAll_plain c r h1 h2]
      unfold Lib.parseMag
      rw [if_neg (by simp), ← hd, parse_dec _ (by omega)]
      simp only [Lib.signless]
      split
      · omega
      · congr 1; omega

/-- what the program reads -/
def rdO (L : List UInt8) : Option Int := match Lib.atoiAll L with
  | .ok v => if Lib.itoa v = L then some v else none
  | _ => none
def pI (L : List UInt8) : Option Int := match rdO L with
  | some v => if inB v (-999999) 999999 then some v else none
  | none => none
theorem rdO_some {L : List UInt8} {v : Int} (h : rdO L = some v) : Lib.atoiAll L = .ok v ∧ Lib.itoa v = L := by
  unfold rdO at h
  split at h
  · rename_i v' he
    split at h
    · rename_i hi
      injection h with h
      subst h
      exact ⟨he, hi⟩
    · cases h
  · cases h
theorem rdO_itoa {n : Int} (h : -1000000000000000 ≤ n ∧ n ≤ 1000000000000000) : rdO (Lib.itoa n) = some n := by
  unfold rdO
  rw [atoi_itoa h]
  simp
theorem pI_iff {L : List UInt8} {n : Int} : pI L = some n ↔ Lib.itoa n = L ∧ -999999 ≤ n ∧ n ≤ 999999 := by
  constructor
  · intro h
    unfold pI at h
    cases hr : rdO L with
    | none => rw [hr] at h; cases h
    | some v =>
      rw [hr] at h
      simp only at h
      by_cases hb : inB v (-999999) 999999 = true
      · rw [if_pos hb] at h
        injection h with h
        subst h
        have := inB_true.1 hb
        exact ⟨(rdO_some hr).2, by omega, by omega⟩
      · rw [if_neg hb] at h; cases h
  · rintro ⟨rfl, h1, h2⟩
    unfold pI
    rw [rdO_itoa (by omega)]
    simp only
    rw [if_pos (inB_true.2 (by omega))]

/-- a text without its sign -/
def rsT (L : List UInt8) : List UInt8 := if 1 < L.length ∧ L.head? = some 45 then L.tail else L
def rsN (L : List UInt8) (m : Nat) : Int := if (rsT L).length < L.length then -(m : Int) else m
/-- what the reference reads -/
def rsO (L : List UInt8) : Option Int :=
  if 1 ≤ (rsT L).length ∧ (rsT L).length ≤ 6 then
    match Lib.decFrom 0 (rsT L) with
    | some m => if Lib.itoa (rsN L m) = L then some (rsN L m) else none
    | none => none
  else none
theorem decFrom_app : ∀ (A B : List UInt8) (acc a : Nat), Lib.decFrom acc A = some a → Lib.decFrom acc (A ++ B) = Lib.decFrom a B
  | [], B, acc, a, h => by
    simp only [Lib.decFrom, Option.some.injEq] at h
    rw [h]; rfl
  | c :: A, B, acc, a, h => by
    simp only [Lib.decFrom, List.cons_append] at h ⊢
    cases hd : Lib.digitVal c with
    | none => rw [hd] at h; cases h
    | some d =>
      rw [hd] at h
      simp only at h ⊢
      exact decFrom_app A B _ a h
theorem decFrom_one {a r : Nat} (h : r < 10) : Lib.decFrom a [dgt r] = some (a * 10 + r) := by
  have hv := dgt_val h
  have hd : Lib.digitVal (dgt r) = some r := by
    unfold Lib.digitVal
    rw [if_pos (by omega), hv]
    congr 1; omega
  simp [Lib.decFrom, hd]
theorem decFrom_dec : ∀ u : Nat, Lib.decFrom 0 (Lib.decDigits u) = some u := by
  intro u
  induction u using Nat.strongRecOn with
  | _ u ih =>
  by_cases h : u < 10
  · rw [Lib.decDigits_one h]
    have := decFrom_one (a := 0) h
    rw [Nat.zero_mul, Nat.zero_add] at this
    exact this
  · rw [dec_more h, decFrom_app _ _ _ _ (ih (u / 10) (by omega)), decFrom_one (by omega)]
    congr 1
    omega
theorem dec_len6 {u : Nat} (h : u < 1000000) : 1 ≤ (Lib.decDigits u).length ∧ (Lib.decDigits u).length ≤ 6 := by
  rw [Lib.decDigits_length]
  refine ⟨Lib.nDigits_pos u, ?_⟩
  by_cases h0 : u < 10
  · rw [Lib.nDigits_small h0]; omega
  by_cases h1 : u < 100
  · rw [Lib.nDigits_unique 1 u (by omega) (by omega)]; omega
  by_cases h2 : u < 1000
  · rw [Lib.nDigits_unique 2 u (by omega) (by omega)]; omega
  by_cases h3 : u < 10000
  · rw [Lib.nDigits_unique 3 u (by omega) (by omega)]; omega
  by_cases h4 : u < 100000
  · rw [Lib.nDigits_unique 4 u (by omega) (by omega)]; omega
  · rw [Lib.nDigits_unique 5 u (by omega) (by omega)]; omega
theorem rsO_iff {L : List UInt8} {n : Int} : rsO L = some n ↔ Lib.itoa n = L ∧ -999999 ≤ n ∧ n ≤ 999999 := by
  constructor
  · intro h
    unfold rsO at h
    split at h
    · rename_i hl
      cases hd : Lib.decFrom 0 (rsT L) with
      | none => rw [hd] at h; cases h
      | some m =>
        rw [hd] at h
        simp only at h
        split at h
        · rename_i hi
          injection h with h
          have hm := Lib.decFrom_lt _ _ _ hd
          have h6 : (10 : Nat) ^ (rsT L).length ≤ 10 ^ 6 := Nat.pow_le_pow_right (by omega) hl.2
          rw [← h]
          refine ⟨hi, ?_, ?_⟩ <;> unfold rsN <;> split <;> omega
        · cases h
    · cases h
  · rintro ⟨rfl, h1, h2⟩
    rcases itoa_cases n with ⟨h0, e⟩ | ⟨h0, e⟩
    · have hl := dec_len6 (u := n.natAbs) (by omega)
      have ht : rsT (Lib.itoa n) = Lib.decDigits n.natAbs := by
        rw [rsT, e, if_pos ⟨by rw [List.length_cons]; omega, rfl⟩]
        rfl
      unfold rsO
      rw [ht, if_pos hl, decFrom_dec]
      have hN : rsN (Lib.itoa n) n.natAbs = n := by
        rw [rsN, ht, e, if_pos (by rw [List.length_cons]; omega)]
        omega
      simp only
      rw [hN, if_pos rfl]
    · have hl := dec_len6 (u := n.toNat) (by omega)
      have ht : rsT (Lib.itoa n) = Lib.decDigits n.toNat := by
        rw [rsT, e, if_neg]
        rintro ⟨_, h3⟩
        cases hd : Lib.decDigits n.toNat with
        | nil => exact absurd hd (dec_ne _)
        | cons c r =>
          rw [hd] at h3
          injection h3 with h3
          exact (dec_head hd).2.2 h3
      unfold rsO
      rw [ht, if_pos hl, decFrom_dec]
      have hN : rsN (Lib.itoa n) n.toNat = n := by
        rw [rsN, ht, e, if_neg (by omega)]
        omega
      simp only
      rw [hN, if_pos rfl]
theorem pI_rsO (L : List UInt8) : pI L = rsO L := by
  cases h : pI L with
  | some n => exact (rsO_iff.2 (pI_iff.1 h)).symm
  | none =>
    cases h2 : rsO L with
    | none => rfl
    | some n => rw [pI_iff.2 (rsO_iff.1 h2)] at h; cases h
end Go.Proofs.YtohjbabjkjcddaaDoor
