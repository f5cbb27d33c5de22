/- The text of a problem in plain words. -/
import Derived.Test.YtohjbabjkjcddaaDoorStr
import Derived.Test.YtohjbabjkjcddaaDoorImplB
import Derived.Lib.Join
import Derived.Lib.ReplaceLaws
import Derived.Lib.Replace
namespace Go.Proofs.YtohjbabjkjcddaaDoor
open Go.RowKit

theorem joinTail_snoc (sep : List UInt8) (r : List (List UInt8)) (y : List UInt8) : Lib.joinTail sep (r ++ [y]) = Lib.joinTail sep r ++ sep ++ y := by simp [Lib.joinTail]
theorem join_snoc (xs : List (List UInt8)) (y sep : List UInt8) : Lib.join (xs ++ [y]) sep = if xs = [] then y else Lib.join xs sep ++ sep ++ y := by
  cases xs with
  | nil => rw [if_pos rfl, List.nil_append, Lib.join_one]
  | cons x r =>
    rw [if_neg (by simp), List.cons_append, Lib.join_cons, Lib.join_cons, joinTail_snoc]
    simp
theorem joinTail_len {sep : List UInt8} {c : Nat} : ∀ {r : List (List UInt8)}, (∀ x ∈ r, x.length ≤ c) → (Lib.joinTail sep r).length ≤ r.length * (c + sep.length)
  | [], _ => by simp [Lib.joinTail]
  | x :: r, h => by
    have h1 := joinTail_len (sep := sep) (c := c) (r := r) fun y hy => h y (.tail _ hy)
    have h2 := h x (.head _)
    have e : Lib.joinTail sep (x :: r) = sep ++ x ++ Lib.joinTail sep r := by simp [Lib.joinTail]
    rw [e, List.length_append, List.length_append, List.length_cons, Nat.succ_mul]
    omega
theorem join_len {sep : List UInt8} {c : Nat} {r : List (List UInt8)} (h : ∀ x ∈ r, x.length ≤ c) : (Lib.join r sep).length ≤ r.length * (c + sep.length) := by
  cases r with
  | nil => simp [Lib.join_nil]
  | cons x r =>
    have h1 := joinTail_len (sep := sep) (c := c) (r := r) fun y hy => h y (.tail _ hy)
    have h2 := h x (.head _)
    rw [Lib.join_cons, List.length_append, List.length_cons, Nat.succ_mul]
    omega

/-- numbers with spaces between them -/
def spL (X : List Int) : List UInt8 := Lib.join (X.map Lib.itoa) [32]
/-- a number, or x for none -/
def sx (c : Int) : List UInt8 := if c < 0 then [120] else Lib.itoa c
def sxL (X : List Int) : List UInt8 := Lib.join (X.map sx) [32]
def mtL (M : List (List Int)) : List UInt8 := Lib.join (M.map spL) [59, 32]
def stL (S : List (List Int)) : List UInt8 := Lib.join (S.map sxL) [59, 32]
def ptL (M S : List (List Int)) : List UInt8 := mtL M ++ [32, 124, 32] ++ stL S

def old2 : List UInt8 := [45, 49]
def rep2 (s : List UInt8) : List UInt8 := Lib.replaceK old2 [120] (Lib.count s old2) s
theorem rep2_nil : rep2 [] = [] := by
  have h : Lib.index [] old2 = -1 := rfl
  unfold rep2
  rw [Lib.count_miss h]
  rfl
theorem rep2_hit (r : List UInt8) : rep2 (45 :: 49 :: r) = 120 :: rep2 r := by
  have h : Lib.index (45 :: 49 :: r) old2 = ((0 : Nat) : Int) := by rw [Lib.index]; simp [old2, List.isPrefixOf]
  unfold rep2
  rw [Lib.count_hit (by simp [old2]) h, Nat.add_comm, Lib.replaceK_hit _ _ _ _ _ h]
  simp [old2]
theorem rep2_skip {b : UInt8} (l : List UInt8) (h : old2.isPrefixOf (b :: l) = false) : rep2 (b :: l) = b :: rep2 l := by
  have hix : Lib.index (b :: l) old2 = if Lib.index l old2 == -1 then -1 else Lib.index l old2 + 1 := by rw [Lib.index, h]; simp
  unfold rep2
  by_cases hm : Lib.index l old2 = -1
  · rw [Lib.count_miss hm, Lib.count_miss (by rw [hix, if_pos (beq_iff_eq.2 hm)])]
    rfl
  · have hge := Lib.index_ge l old2
    obtain ⟨i, hi⟩ : ∃ i : Nat, Lib.index l old2 = i := ⟨(Lib.index l old2).toNat, by omega⟩
    have hi2 : Lib.index (b :: l) old2 = ((i + 1 : Nat) : Int) := by
      rw [hix, if_neg (fun e => hm (beq_iff_eq.1 e)), hi]; omega
    rw [Lib.count_hit (by simp [old2]) hi, Lib.count_hit (by simp [old2]) hi2, Nat.add_comm 1, Nat.add_comm 1, Lib.replaceK_hit _ _ _ _ _ hi, Lib.replaceK_hit _ _ _ _ _ hi2]
    have e : (b :: l).drop (i + 1 + old2.length) = l.drop (i + old2.length) := by
      rw [show i + 1 + old2.length = (i + old2.length) + 1 by omega, List.drop_succ_cons]
    rw [e, List.take_succ_cons]
    rfl
theorem rep2_plain : ∀ (A s : List UInt8), (∀ b ∈ A, b ≠ 45) → rep2 (A ++ s) = A ++ rep2 s
  | [], _, _ => rfl
  | b :: A, s, h => by
    have h1 := h b (.head _)
    rw [List.cons_append, rep2_skip _ (by simp [old2, List.isPrefixOf]; intro e; exact absurd e.symm h1), rep2_plain A s fun c hc => h c (.tail _ hc)]
    rfl
theorem dec_plain : ∀ (u : Nat), ∀ b ∈ Lib.decDigits u, b ≠ 45 := by
  intro u
  induction u using Nat.strongRecOn with
  | _ u ih =>
  have hd : ∀ r, r < 10 → dgt r ≠ 45 := by
    have : ∀ i : Fin 10, dgt i.val ≠ 45 := by decide +kernel
    exact fun r hr => this ⟨r, hr⟩
  intro b hb
  by_cases h : u < 10
  · rw [Lib.decDigits_one h, List.mem_singleton] at hb
    rw [hb]; exact hd u h
  · rw [dec_more h] at hb
    rcases List.mem_append.1 hb with h1 | h1
    · exact ih _ (by omega) b h1
    · rw [List.mem_singleton.1 h1]; exact hd _ (by omega)
theorem itoa_pos {c : Int} (h : 0 ≤ c) : ∀ b ∈ Lib.itoa c, b ≠ 45 := by
  unfold Lib.itoa
  rw [if_neg (by omega)]
  exact dec_plain _
theorem itoa_m1 : Lib.itoa (-1) = [45, 49] := by
  unfold Lib.itoa
  rw [if_pos (by omega)]
  have : Lib.decDigits ((-1 : Int).natAbs) = [49] := by rw [Lib.decDigits_one (by decide)]; decide
  rw [this]
theorem rep2_num {c : Int} (h : -1 ≤ c) (s : List UInt8) : rep2 (Lib.itoa c ++ s) = sx c ++ rep2 s := by
  by_cases h0 : c < 0
  · have : c = -1 := by omega
    subst this
    rw [itoa_m1]
    exact rep2_hit s
  · rw [sx, if_neg h0]
    exact rep2_plain _ _ (itoa_pos (by omega))
theorem rep2_tail : ∀ (X : List Int), (∀ c ∈ X, -1 ≤ c) → rep2 (Lib.joinTail [32] (X.map Lib.itoa)) = Lib.joinTail [32] (X.map sx)
  | [], _ => rep2_nil
  | c :: X, h => by
    have e : ∀ (f : Int → List UInt8), Lib.joinTail [32] ((c :: X).map f) = [32] ++ (f c ++ Lib.joinTail [32] (X.map f)) := fun f => by simp [Lib.joinTail]
    rw [e, e, rep2_plain _ _ (by simp), rep2_num (h c (.head _)), rep2_tail X fun d hd => h d (.tail _ hd)]
theorem rep2_row {X : List Int} (h : ∀ c ∈ X, -1 ≤ c) : Lib.replaceAll (spL X) [45, 49] [120] = sxL X := by
  have h1 : Lib.replaceAll (spL X) [45, 49] [120] = rep2 (spL X) := by
    unfold Lib.replaceAll Lib.replace Lib.replaceNum rep2
    rw [if_neg (by decide), if_pos (.inl (by omega))]
    rfl
  rw [h1]
  unfold spL sxL
  cases X with
  | nil => exact rep2_nil
  | cons c X =>
    rw [List.map_cons, List.map_cons, Lib.join_cons, Lib.join_cons, rep2_num (h c (.head _)), rep2_tail X fun d hd => h d (.tail _ hd)]
end Go.Proofs.YtohjbabjkjcddaaDoor
