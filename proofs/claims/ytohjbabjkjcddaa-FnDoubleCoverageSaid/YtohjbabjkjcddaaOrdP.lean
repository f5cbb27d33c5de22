/- Plain words on how lists of orders and of configurations grow. -/
import Derived.Test.YtohjbabjkjcddaaCfgP
namespace Go.Proofs.Ytohjbabjkjcddaa
open Go.RowKit

--PURE
def ordN (k j a : Nat) : List (List Int) := ((ordTo k j).take a).flatMap fun l => nextO l k
theorem ordN_zero (k j : Nat) : ordN k j 0 = [] := by simp [ordN]
theorem ordN_succ {k j a : Nat} (h : a < (ordTo k j).length) : ordN k j (a + 1) = ordN k j a ++ nextO (row (ordTo k j) a) k := by
  rw [ordN, take_succ_row h, List.flatMap_append, ordN]
  simp
theorem ordN_all (k j : Nat) : ordN k j (ordTo k j).length = ordTo k (j + 1) := by rw [ordN, List.take_length]; rfl
theorem nextO_zero (l : List Int) : nextO l 0 = [] := by simp [nextO]
theorem nextO_len (l : List Int) (m : Nat) : (nextO l m).length ≤ m := by
  rw [nextO, List.length_map]
  have := List.length_filter_le (fun i : Nat => !decide ((i : Int) ∈ l)) (List.range m)
  rw [List.length_range] at this
  exact this
theorem ordN_len {k j a : Nat} : (ordN k j a).length ≤ (ordTo k j).length * k := by
  have h := flat_len (fun l => nextO l k) k ((ordTo k j).take a) (fun l _ => nextO_len l k)
  have h2 : ((ordTo k j).take a).length ≤ (ordTo k j).length := by rw [List.length_take]; omega
  exact Nat.le_trans h (Nat.mul_le_mul_right _ h2)
theorem ordTo_len {k : Nat} (hk : k ≤ 3) : ∀ j, (ordTo k j).length ≤ 3 ^ j
  | 0 => by simp [ordTo]
  | j + 1 => by
    have h := flat_len (fun l => nextO l k) k (ordTo k j) (fun l _ => nextO_len l k)
    have h1 := ordTo_len hk j
    have h2 : (ordTo k j).length * k ≤ 3 ^ j * 3 := Nat.mul_le_mul h1 hk
    rw [Nat.pow_succ]
    exact Nat.le_trans h h2
theorem ordTo_27 {k j : Nat} (hk : k ≤ 3) (hj : j ≤ 3) : (ordTo k j).length ≤ 27 := by
  have h1 := ordTo_len hk j
  have h2 : 3 ^ j ≤ 3 ^ 3 := Nat.pow_le_pow_right (by omega) hj
  omega
theorem ordN_81 {k j a : Nat} (hk : k ≤ 3) (hj : j ≤ 3) : (ordN k j a).length ≤ 81 := by
  have h1 := ordTo_27 hk hj
  have h2 : (ordTo k j).length * k ≤ 27 * 3 := Nat.mul_le_mul h1 hk
  exact Nat.le_trans ordN_len h2
theorem ordTo_rows {k j : Nat} (hk : k ≤ 3) (hj : j ≤ 3) : ShortRows (ordTo k j).length ∧ (∀ r ∈ ordTo k j, Short r.length) ∧ ∀ r ∈ ordTo k j, ∀ x ∈ r, I64 x := by
  have h1 := ordTo_27 hk hj
  refine ⟨by unfold ShortRows; omega, fun r hr => by have := (ordTo_mem.1 hr).1; unfold Short; omega, fun r hr x hx => by have := (ordTo_mem.1 hr).2.2 x hx; unfold I64; omega⟩

/-! the configurations of the reference: point by point -/
/-- the point from which a configuration goes on -/
def frm (c : List Int) : Nat := (nth c (c.length - 1)).toNat
def extT (c : List Int) (x : Nat) : List (List Int) := (List.range' (frm c) (x - frm c)).map fun y : Nat => c ++ [(y : Int)]
def itTo (n : Nat) : Nat → List (List Int)
  | 0 => [[]]
  | i + 1 => (itTo n i).flatMap fun c => extT c n
theorem extT_start (c : List Int) : extT c (frm c) = [] := by simp [extT]
theorem extT_succ {c : List Int} {x : Nat} (h : frm c ≤ x) : extT c (x + 1) = extT c x ++ [c ++ [(x : Int)]] := by
  have e : x + 1 - frm c = (x - frm c) + 1 := by omega
  rw [extT, e, List.range'_concat, List.map_append, extT]
  simp only [List.map_cons, List.map_nil, Nat.one_mul]
  rw [show frm c + (x - frm c) = x by omega]
def itN (n i a : Nat) : List (List Int) := ((itTo n i).take a).flatMap fun c => extT c n
theorem itN_zero (n i : Nat) : itN n i 0 = [] := by simp [itN]
theorem itN_succ {n i a : Nat} (h : a < (itTo n i).length) : itN n i (a + 1) = itN n i a ++ extT (row (itTo n i) a) n := by
  rw [itN, take_succ_row h, List.flatMap_append, itN]
  simp
theorem itN_all (n i : Nat) : itN n i (itTo n i).length = itTo n (i + 1) := by rw [itN, List.take_length]; rfl
def frm2 (f : Nat) (c : List Int) : Nat := if c = [] then f else frm c
theorem confs_snoc (n : Nat) : ∀ k f, confs n (k + 1) f = (confs n k f).flatMap fun c => (List.range' (frm2 f c) (n - frm2 f c)).map fun y : Nat => c ++ [(y : Int)]
  | 0, f => by
    simp [confs, frm2, List.flatMap_def]
    induction List.range' f (n - f) with
    | nil => rfl
    | cons x l ih => simp [ih]
  | k + 1, f => by
    rw [confs, confs, List.flatMap_assoc]
    refine List.flatMap_congr' fun x hx => ?_
    rw [confs_snoc n k x, List.map_flatMap, List.flatMap_map]
    refine List.flatMap_congr' fun c hc => ?_
    have e : frm2 x c = frm2 f ((x : Int) :: c) := by
      unfold frm2
      rw [if_neg (by simp : ¬ ((x : Int) :: c = []))]
      by_cases h : c = []
      · rw [if_pos h, h]; simp [frm, nth]
      · rw [if_neg h]
        unfold frm
        cases c with
        | nil => exact absurd rfl h
        | cons y c => simp [nth]
    rw [e, List.map_map]
    rfl
where
  List.flatMap_congr' {α β : Type} {l : List α} {f g : α → List β} (h : ∀ x ∈ l, f x = g x) : l.flatMap f = l.flatMap g := by
    rw [List.flatMap_def, List.flatMap_def]
    congr 1
    exact List.map_congr_left h
theorem itTo_confs (n : Nat) : ∀ k, itTo n k = confs n k 0
  | 0 => rfl
  | k + 1 => by
    rw [itTo, itTo_confs n k, confs_snoc]
    rw [List.flatMap_def, List.flatMap_def]
    congr 1
    refine List.map_congr_left fun c _ => ?_
    have e : frm2 0 c = frm c := by
      unfold frm2
      by_cases h : c = []
      · rw [if_pos h, h]; rfl
      · rw [if_neg h]
    rw [e]; rfl
theorem extT_len (c : List Int) (x : Nat) : (extT c x).length ≤ x := by simp [extT]
theorem itN_len {n i a : Nat} (hn : n ≤ 6) (hi : i ≤ 3) : (itN n i a).length ≤ 1296 := by
  have h := flat_len (fun c => extT c n) n ((itTo n i).take a) (fun c _ => extT_len c n)
  have h1 : ((itTo n i).take a).length ≤ (itTo n i).length := by rw [List.length_take]; omega
  have h2 := confs_len hn i 0
  rw [← itTo_confs] at h2
  have h3 : 6 ^ i ≤ 6 ^ 3 := Nat.pow_le_pow_right (by omega) hi
  have h4 : ((itTo n i).take a).length * n ≤ 216 * 6 := Nat.mul_le_mul (by omega) hn
  unfold itN
  omega
end Go.Proofs.Ytohjbabjkjcddaa
