/- The text of a sequence and its reading, in plain words. -/
import Derived.Test.YtdohjmbhgjfcaaaDoorNmp
import Derived.Test.YtdohjmbhgjfcaaaDoorTxp
import Derived.Test.YtdohjmbhgjfcaaaDoorPagT
namespace Go.Proofs.YtdohjmbhgjfcaaaDoor
open Go.RowKit

/-- the words of a text between the signs b -/
def spF (b : UInt8) : List UInt8 → List UInt8 → List (List UInt8)
  | [], cur => [cur]
  | x :: xs, cur => if x = b then cur :: spF b xs [] else spF b xs (cur ++ [x])
def spW (b : UInt8) (L : List UInt8) : List (List UInt8) := spF b L []
theorem spF_ne (b : UInt8) : ∀ (L cur : List UInt8), spF b L cur ≠ []
  | [], _ => by simp [spF]
  | x :: xs, cur => by
    unfold spF
    split
    · simp
    · exact spF_ne b xs _
theorem spF_len (b : UInt8) : ∀ (L cur : List UInt8), (spF b L cur).length ≤ L.length + 1
  | [], _ => by simp [spF]
  | x :: xs, cur => by
    unfold spF
    split
    · have := spF_len b xs []
      simp only [List.length_cons]; omega
    · have := spF_len b xs (cur ++ [x])
      simp only [List.length_cons]; omega
theorem spF_wlen (b : UInt8) : ∀ (L cur : List UInt8), ∀ y ∈ spF b L cur, y.length ≤ cur.length + L.length
  | [], cur, y, hy => by
    simp [spF] at hy
    subst hy; simp
  | x :: xs, cur, y, hy => by
    unfold spF at hy
    split at hy
    · rcases List.mem_cons.1 hy with h | h
      · subst h; simp
      · have := spF_wlen b xs [] y h
        simp only [List.length_cons, List.length_nil] at *; omega
    · have := spF_wlen b xs _ y hy
      simp only [List.length_cons, List.length_append, List.length_nil] at *; omega
theorem joinTail_cons (sep y : List UInt8) (r : List (List UInt8)) : Lib.joinTail sep (y :: r) = sep ++ Lib.join (y :: r) sep := by
  rw [Lib.join_cons]; simp [Lib.joinTail]
theorem spF_join (b : UInt8) : ∀ (L cur : List UInt8), Lib.join (spF b L cur) [b] = cur ++ L
  | [], cur => by simp [spF, Lib.join_one]
  | x :: xs, cur => by
    unfold spF
    split
    · rename_i hx
      subst hx
      rw [Lib.join_cons]
      cases h : spF x xs [] with
      | nil => exact absurd h (spF_ne x xs [])
      | cons y r =>
        have h1 := spF_join x xs []
        rw [h] at h1
        rw [joinTail_cons, h1]
        simp
    · rw [spF_join b xs]; simp
theorem spF_app (b : UInt8) : ∀ (y R cur : List UInt8), b ∉ y → spF b (y ++ R) cur = spF b R (cur ++ y)
  | [], R, cur, _ => by simp
  | x :: xs, R, cur, h => by
    have hx : x ≠ b := fun e => h (e ▸ List.mem_cons_self ..)
    rw [List.cons_append, spF, if_neg hx, spF_app b xs R _ (fun hm => h (List.mem_cons_of_mem _ hm))]
    simp
theorem spF_of_join (b : UInt8) : ∀ (y : List UInt8) (r : List (List UInt8)), (∀ z ∈ y :: r, b ∉ z) → spF b (Lib.join (y :: r) [b]) [] = y :: r
  | y, [], h => by
    rw [Lib.join_one]
    have h1 := spF_app b y [] [] (h y (.head _))
    rw [List.append_nil, List.nil_append] at h1
    rw [h1, spF]
  | y, z :: r, h => by
    rw [Lib.join_cons, joinTail_cons, spF_app b y _ [] (h y (.head _))]
    have e : [b] ++ Lib.join (z :: r) [b] = b :: Lib.join (z :: r) [b] := rfl
    rw [e, spF, if_pos rfl, spF_of_join b z r (fun q hq => h q (.tail _ hq))]
    rfl

/-- the loop's state: the words so far, and where the present one begins -/
theorem spF_at {b : UInt8} {L : List UInt8} {i f : Nat} {c : UInt8} (hc : L[i]? = some c) (hf : f ≤ i) :
    spF b (L.drop i) ((L.take i).drop f) = if c = b then (L.take i).drop f :: spF b (L.drop (i + 1)) [] else spF b (L.drop (i + 1)) ((L.take (i + 1)).drop f) := by
  have hi := (List.getElem?_eq_some_iff.1 hc).1
  have he : L[i] = c := (List.getElem?_eq_some_iff.1 hc).2
  rw [List.drop_eq_getElem_cons hi, spF, he]
  split
  · rfl
  · rw [List.take_add_one, hc, List.drop_append_of_le_length (by rw [List.length_take]; omega)]
    rfl

/-- reading a list of words -/
def rlB (W : List (List UInt8)) : Bool := W.all fun w => (rdO w).isSome
def rlL (W : List (List UInt8)) : List Int := W.map fun w => (rdO w).getD 0
def sqB (n : Int) (X : List Int) : Bool := inB n 1 8 && (decide (X.length ≤ 60) && belowB n X)
def noneL : List UInt8 := [110, 111, 110, 101]
def prB (n : Int) (L : List UInt8) : Bool := if L = noneL then inB n 1 8 else rlB (spW 32 L) && sqB n (rlL (spW 32 L))
def prR (n : Int) (L : List UInt8) : List Int := if L = noneL then [] else if prB n L then rlL (spW 32 L) else []
/-- a word that names an item -/
def wdOk (n : Int) (w : List UInt8) : Bool := (rsO w).isSome && inB ((rsO w).getD 0) 0 (n - 1)
theorem wdOk_iff {n : Int} {w : List UInt8} (hn : n ≤ 8) : wdOk n w = true ↔ ∃ x, rdO w = some x ∧ 0 ≤ x ∧ x ≤ n - 1 := by
  unfold wdOk
  rw [← pI_rsO, Bool.and_eq_true]
  constructor
  · rintro ⟨h1, h2⟩
    cases h : pI w with
    | none => rw [h] at h1; cases h1
    | some x =>
      rw [h, inB_true] at h2
      obtain ⟨h3, h4, h5⟩ := pI_iff.1 h
      refine ⟨x, ?_, h2⟩
      rw [← h3]
      exact rdO_itoa (by omega)
  · rintro ⟨x, h1, h2, h3⟩
    have h4 := rdO_some h1
    have h5 : pI w = some x := pI_iff.2 ⟨h4.2, by omega, by omega⟩
    rw [h5]
    refine ⟨rfl, ?_⟩
    rw [inB_true]
    exact ⟨h2, h3⟩
theorem wdOk_val {n : Int} {w : List UInt8} (hn : n ≤ 8) (h : wdOk n w = true) : (rsO w).getD 0 = (rdO w).getD 0 ∧ Lib.itoa ((rdO w).getD 0) = w ∧ w.length = 1 := by
  obtain ⟨x, h1, h2, h3⟩ := (wdOk_iff hn).1 h
  have h4 := rdO_some h1
  have h5 : rsO w = some x := rsO_iff.2 ⟨h4.2, by omega, by omega⟩
  rw [h1, h5]
  refine ⟨rfl, h4.2, ?_⟩
  rw [← h4.2]
  rcases itoa_cases x with ⟨h6, _⟩ | ⟨_, e⟩
  · omega
  · rw [e, Lib.decDigits_one (show x.toNat < 10 by omega)]
    rfl
def rsL (W : List (List UInt8)) : List Int := W.map fun w => (rsO w).getD 0
theorem rs_rl {n : Int} {W : List (List UInt8)} (hn : n ≤ 8) (h : ∀ w ∈ W, wdOk n w = true) : rsL W = rlL W ∧ rlB W = true ∧ belowB n (rlL W) = true ∧ (rlL W).map Lib.itoa = W := by
  refine ⟨List.map_congr_left fun w hw => (wdOk_val hn (h w hw)).1, ?_, ?_, ?_⟩
  · unfold rlB
    rw [List.all_eq_true]
    intro w hw
    obtain ⟨x, h1, _⟩ := (wdOk_iff hn).1 (h w hw)
    rw [h1]; rfl
  · unfold belowB
    rw [decide_eq_true_eq]
    intro a ha
    obtain ⟨w, hw, rfl⟩ := List.mem_map.1 ha
    obtain ⟨x, h1, h2, h3⟩ := (wdOk_iff hn).1 (h w hw)
    rw [h1, inB_true]
    exact ⟨h2, h3⟩
  · unfold rlL
    rw [List.map_map]
    conv => rhs; rw [← List.map_id W]
    exact List.map_congr_left fun w hw => (wdOk_val hn (h w hw)).2.1
theorem rl_words {n : Int} {W : List (List UInt8)} (hn : n ≤ 8) (h1 : rlB W = true) (h2 : belowB n (rlL W) = true) : ∀ w ∈ W, wdOk n w = true := by
  intro w hw
  rw [wdOk_iff hn]
  unfold rlB at h1
  have h3 := List.all_eq_true.1 h1 w hw
  obtain ⟨x, hx⟩ := Option.isSome_iff_exists.1 h3
  unfold belowB at h2
  rw [decide_eq_true_eq] at h2
  have h4 := h2 _ (List.mem_map.2 ⟨w, hw, rfl⟩)
  rw [hx, inB_true] at h4
  exact ⟨x, hx, h4.1, h4.2⟩
/-- the text of a sequence -/
def rtL (X : List Int) : List UInt8 := if X = [] then noneL else spL X
/-- what the reference's reading comes to -/
theorem pr_true {n : Int} {L : List UInt8} (hL : L ≠ noneL) : prB n L = true ↔ inB n 1 8 = true ∧ (∀ w ∈ spW 32 L, wdOk n w = true) ∧ (spW 32 L).length ≤ 60 := by
  have hlen : (rlL (spW 32 L)).length = (spW 32 L).length := by simp [rlL]
  unfold prB sqB
  rw [if_neg hL, Bool.and_eq_true, Bool.and_eq_true, Bool.and_eq_true, decide_eq_true_eq, hlen]
  constructor
  · rintro ⟨h1, h2, h3, h4⟩
    exact ⟨h2, rl_words (by rw [inB_true] at h2; exact h2.2) h1 h4, h3⟩
  · rintro ⟨h1, h2, h3⟩
    have h := rs_rl (by rw [inB_true] at h1; exact h1.2) h2
    exact ⟨h.2.1, h1, h3, h.2.2.1⟩
theorem pr_len {n : Int} {L : List UInt8} (h : prB n L = true) : L.length ≤ 120 := by
  by_cases hL : L = noneL
  · subst hL; decide
  · obtain ⟨h1, h2, h3⟩ := (pr_true hL).1 h
    have hj := spF_join 32 L []
    have hl := join_len (sep := [32]) (c := 1) (r := spW 32 L) fun w hw => by
      have := (wdOk_val (by rw [inB_true] at h1; exact h1.2) (h2 w hw)).2.2
      omega
    unfold spW at hl h3
    rw [hj] at hl
    simp only [List.nil_append, List.length_singleton] at hl
    omega
theorem pr_text {n : Int} {L : List UInt8} (hL : L ≠ noneL) (h : prB n L = true) : rtL (rlL (spW 32 L)) = L := by
  obtain ⟨h1, h2, h3⟩ := (pr_true hL).1 h
  have h4 := (rs_rl (by rw [inB_true] at h1; exact h1.2) h2).2.2.2
  have hne : rlL (spW 32 L) ≠ [] := by
    intro e
    rw [e] at h4
    exact spF_ne 32 L [] h4.symm
  rw [rtL, if_neg hne, spL, h4]
  exact (spF_join 32 L []).trans (List.nil_append _)
/-- a sequence comes back -/
theorem pr_back {n : Int} {X : List Int} (h : sqB n X = true) : prB n (rtL X) = true ∧ prR n (rtL X) = X := by
  have hb := h
  unfold sqB at h
  rw [Bool.and_eq_true, Bool.and_eq_true, inB_true, decide_eq_true_eq] at h
  obtain ⟨h1, h2, h3⟩ := h
  cases X with
  | nil =>
    have e : rtL [] = noneL := rfl
    rw [e]
    refine ⟨?_, ?_⟩
    · rw [prB, if_pos rfl, inB_true]; exact h1
    · rw [prR, if_pos rfl]
  | cons x r =>
    unfold belowB at h3
    rw [decide_eq_true_eq] at h3
    have hx : ∀ y ∈ x :: r, 0 ≤ y ∧ y ≤ 7 := fun y hy => by
      have h4 := h3 y hy
      rw [inB_true] at h4
      omega
    have hd : ∀ y : Int, 0 ≤ y → y ≤ 7 → Lib.itoa y = [dgt y.toNat] := fun y hy hy7 => by
      rcases itoa_cases y with ⟨h6, _⟩ | ⟨_, e⟩
      · omega
      · rw [e, Lib.decDigits_one (show y.toNat < 10 by omega)]
        rfl
    have hdv : ∀ u, u ≤ 7 → (dgt u ≠ 32 ∧ dgt u ≠ 110) := by decide
    have e : rtL (x :: r) = Lib.join ((x :: r).map Lib.itoa) [32] := by rw [rtL, if_neg (by simp)]; rfl
    have hw : spW 32 (rtL (x :: r)) = (x :: r).map Lib.itoa := by
      rw [e, List.map_cons]
      refine spF_of_join 32 _ _ ?_
      intro z hz
      rw [← List.map_cons] at hz
      obtain ⟨y, hy, rfl⟩ := List.mem_map.1 hz
      obtain ⟨a1, a2⟩ := hx y hy
      rw [hd y a1 a2]
      intro hm
      exact (hdv y.toNat (by omega)).1 (List.mem_singleton.1 hm).symm
    have hrl : rlL (spW 32 (rtL (x :: r))) = x :: r := by
      rw [hw]
      unfold rlL
      rw [List.map_map]
      conv => rhs; rw [← List.map_id (x :: r)]
      refine List.map_congr_left fun y hy => ?_
      obtain ⟨a1, a2⟩ := hx y hy
      show (rdO (Lib.itoa y)).getD 0 = y
      rw [rdO_itoa (by omega)]
      rfl
    have hrb : rlB (spW 32 (rtL (x :: r))) = true := by
      rw [hw]
      unfold rlB
      rw [List.all_eq_true]
      intro z hz
      obtain ⟨y, hy, rfl⟩ := List.mem_map.1 hz
      obtain ⟨a1, a2⟩ := hx y hy
      rw [rdO_itoa (by omega)]
      rfl
    have hnn : rtL (x :: r) ≠ noneL := by
      intro e2
      rw [e, List.map_cons, Lib.join_cons] at e2
      obtain ⟨a1, a2⟩ := hx x (.head _)
      rw [hd x a1 a2] at e2
      have e3 := (List.cons.inj (show dgt x.toNat :: Lib.joinTail [32] (r.map Lib.itoa) = 110 :: [111, 110, 101] from e2)).1
      exact (hdv x.toNat (by omega)).2 e3
    have hp : prB n (rtL (x :: r)) = true := by rw [prB, if_neg hnn, hrb, hrl, hb]; rfl
    exact ⟨hp, by rw [prR, if_neg hnn, if_pos hp, hrl]⟩
end Go.Proofs.YtdohjmbhgjfcaaaDoor
