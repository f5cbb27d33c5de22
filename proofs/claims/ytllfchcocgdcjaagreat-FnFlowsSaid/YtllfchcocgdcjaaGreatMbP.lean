/- The bound of marks, in plain words: what the program counts mark by mark is what the reference counts interval by interval. -/
import Derived.Test.YtllfchcocgdcjaaGreatGrA
namespace Go.Proofs.YtllfchcocgdcjaaGreat
open Go.RowKit

/-- the greatest place below t with the number x, or -1 -/
def luF (X : List Int) (x : Int) : Nat → Int
  | 0 => -1
  | t + 1 => if nth X t = x then (t : Int) else luF X x t
/-- the greatest earlier place with the same number, or -1 -/
def luU (X : List Int) (t : Nat) : Int := luF X (nth X t) t
theorem luF_spec {X : List Int} {x : Int} : ∀ t : Nat, (luF X x t = -1 ∧ ∀ j, j < t → nth X j ≠ x) ∨ (∃ a : Nat, luF X x t = a ∧ a < t ∧ nth X a = x ∧ ∀ j, a < j → j < t → nth X j ≠ x)
  | 0 => .inl ⟨rfl, fun j hj => by omega⟩
  | t + 1 => by
    unfold luF
    by_cases h : nth X t = x
    · rw [if_pos h]
      exact .inr ⟨t, rfl, by omega, h, fun j h1 h2 => by omega⟩
    · rw [if_neg h]
      rcases luF_spec (X := X) (x := x) t with ⟨h1, h2⟩ | ⟨a, h1, h2, h3, h4⟩
      · refine .inl ⟨h1, fun j hj => ?_⟩
        by_cases e : j = t
        · subst e; exact h
        · exact h2 j (by omega)
      · refine .inr ⟨a, h1, by omega, h3, fun j h5 h6 => ?_⟩
        by_cases e : j = t
        · subst e; exact h
        · exact h4 j h5 (by omega)
theorem luF_bd (X : List Int) (x : Int) (t : Nat) : -1 ≤ luF X x t ∧ luF X x t < t := by
  rcases luF_spec (X := X) (x := x) t with ⟨h1, _⟩ | ⟨a, h1, h2, _⟩ <;> omega

/-- the least place behind another one with the number p, or the length -/
def useL (X : List Int) (i : Nat) (p : Int) : Nat := i + 1 + (X.drop (i + 1)).findIdx fun x => x == p
theorem useL_hit {X : List Int} {i j : Nat} {p : Int} (h1 : i < j) (h2 : j < X.length) (h3 : nth X j = p) (h4 : ∀ l, i < l → l < j → nth X l ≠ p) : useL X i p = j := by
  have hl : j - (i + 1) < (X.drop (i + 1)).length := by rw [List.length_drop]; omega
  have := (List.findIdx_eq (p := fun x => x == p) hl).2 ⟨by
    have e : i + 1 + (j - (i + 1)) = j := by omega
    simp only [List.getElem_drop, e]
    simpa [nth, h2] using h3, fun l hl2 => by
    have hl3 : i + 1 + l < X.length := by omega
    have := h4 (i + 1 + l) (by omega) (by omega)
    simp only [List.getElem_drop]
    simpa [nth, hl3] using this⟩
  unfold useL
  omega
theorem useL_none {X : List Int} {i : Nat} {p : Int} (h1 : i < X.length) (h4 : ∀ l, i < l → l < X.length → nth X l ≠ p) : useL X i p = X.length := by
  have := List.findIdx_eq_length (p := fun x => x == p) (xs := X.drop (i + 1)) |>.2 (by
    intro x hx
    obtain ⟨l, hl, rfl⟩ := List.mem_iff_getElem.1 hx
    rw [List.length_drop] at hl
    have := h4 (i + 1 + l) (by omega) (by omega)
    simp only [List.getElem_drop]
    have hl3 : i + 1 + l < X.length := by omega
    simpa [nth, hl3] using this)
  unfold useL
  rw [this, List.length_drop]
  omega
theorem useL_spec {X : List Int} {i : Nat} {p : Int} (h1 : i < X.length) : (useL X i p = X.length ∧ ∀ l, i < l → l < X.length → nth X l ≠ p) ∨ (i < useL X i p ∧ useL X i p < X.length ∧ nth X (useL X i p) = p ∧ ∀ l, i < l → l < useL X i p → nth X l ≠ p) := by
  by_cases h : ∃ l, i < l ∧ l < X.length ∧ nth X l = p
  · obtain ⟨l, hl⟩ := h
    have key : ∀ n : Nat, ∀ l, l ≤ n → i < l → l < X.length → nth X l = p → ∃ m, i < m ∧ m < X.length ∧ nth X m = p ∧ ∀ q, i < q → q < m → nth X q ≠ p := by
      intro n
      induction n with
      | zero => intro l h0 h1; omega
      | succ n ih =>
        intro l h0 h1 h2 h3
        by_cases h : ∃ q, i < q ∧ q < l ∧ nth X q = p
        · obtain ⟨q, q1, q2, q3⟩ := h
          exact ih q (by omega) q1 (by omega) q3
        · exact ⟨l, h1, h2, h3, fun q q1 q2 q3 => h ⟨q, q1, q2, q3⟩⟩
    obtain ⟨m, m1, m2, m3, m4⟩ := key l l (Nat.le_refl _) hl.1 hl.2.1 hl.2.2
    have e := useL_hit m1 m2 m3 m4
    rw [e]
    exact .inr ⟨m1, m2, m3, m4⟩
  · have h4 : ∀ l, i < l → l < X.length → nth X l ≠ p := fun l a b c => h ⟨l, a, b, c⟩
    exact .inl ⟨useL_none h1 h4, h4⟩
/-- the next later place with the same number, or -1 -/
def nxU (X : List Int) (i : Nat) : Int := if useL X i (nth X i) < X.length then (useL X i (nth X i) : Int) else -1
/-- the same, as far as it is known ahead of the place t -/
def nxTo (X : List Int) (t i : Nat) : Int := if useL X i (nth X i) < t then (useL X i (nth X i) : Int) else -1
theorem nxTo_all (X : List Int) (i : Nat) : nxTo X X.length i = nxU X i := rfl
theorem nxU_bd {X : List Int} {i : Nat} (_h : i < X.length) : -1 ≤ nxU X i ∧ nxU X i < X.length := by
  unfold nxU
  split <;> omega
theorem nxTo_zero {X : List Int} {i : Nat} : nxTo X 0 i = -1 := by unfold nxTo; rw [if_neg (by omega)]
/-- the step of the program: the place of the last use learns t -/
theorem nxTo_no {X : List Int} {t : Nat} (ht : t < X.length) (h : luU X t < 0) {i : Nat} (hi : i < X.length) : nxTo X (t + 1) i = nxTo X t i := by
  unfold nxTo
  by_cases e : useL X i (nth X i) = t
  · exfalso
    rcases useL_spec (p := nth X i) hi with ⟨h1, _⟩ | ⟨h1, _, h3, _⟩
    · omega
    · rw [e] at h1 h3
      rcases luF_spec (X := X) (x := nth X t) t with ⟨_, h5⟩ | ⟨a, h5, _⟩
      · exact h5 i h1 h3.symm
      · unfold luU at h; omega
  · by_cases h2 : useL X i (nth X i) < t
    · rw [if_pos h2, if_pos (by omega)]
    · rw [if_neg h2, if_neg (by omega)]
theorem nxTo_yes {X : List Int} {t a : Nat} (ht : t < X.length) (h : luU X t = a) {i : Nat} (hi : i < X.length) : nxTo X (t + 1) i = if i = a then (t : Int) else nxTo X t i := by
  obtain ⟨h2, h3, h4⟩ : a < t ∧ nth X a = nth X t ∧ ∀ j, a < j → j < t → nth X j ≠ nth X t := by
    rcases luF_spec (X := X) (x := nth X t) t with ⟨h5, _⟩ | ⟨b, h5, h6⟩
    · unfold luU at h; omega
    · unfold luU at h
      have : a = b := by omega
      subst this
      exact h6
  by_cases e : i = a
  · subst e
    rw [if_pos rfl]
    have e := useL_hit (X := X) (i := i) (j := t) (p := nth X i) h2 ht h3.symm (by rw [h3]; exact h4)
    unfold nxTo
    rw [e, if_pos (by omega)]
  · rw [if_neg e]
    unfold nxTo
    by_cases e2 : useL X i (nth X i) = t
    · exfalso
      rcases useL_spec (p := nth X i) hi with ⟨h1, _⟩ | ⟨h1, _, h5, h6⟩
      · omega
      · rw [e2] at h1 h5 h6
        by_cases h7 : a < i
        · exact h4 i h7 h1 h5.symm
        · exact h6 a (by omega) h2 (by rw [h3, h5])
    · by_cases h2 : useL X i (nth X i) < t
      · rw [if_pos h2, if_pos (by omega)]
      · rw [if_neg h2, if_neg (by omega)]

/-- sums over the numbers below n -/
def sgTo (f : Nat → Int) : Nat → Int
  | 0 => 0
  | n + 1 => sgTo f n + f n
theorem sgTo_congr {f g : Nat → Int} : ∀ {n : Nat}, (∀ i, i < n → f i = g i) → sgTo f n = sgTo g n
  | 0, _ => rfl
  | n + 1, h => by rw [sgTo, sgTo, sgTo_congr (n := n) fun i hi => h i (by omega), h n (by omega)]
theorem sgTo_add (f g : Nat → Int) : ∀ n : Nat, sgTo (fun i => f i + g i) n = sgTo f n + sgTo g n
  | 0 => rfl
  | n + 1 => by rw [sgTo, sgTo, sgTo, sgTo_add f g n]; omega
theorem sgTo_bd {f : Nat → Int} {a b : Int} : ∀ {n : Nat}, (∀ i, i < n → a ≤ f i ∧ f i ≤ b) → a * n ≤ sgTo f n ∧ sgTo f n ≤ b * n
  | 0, _ => by simp [sgTo]
  | n + 1, h => by
    have h1 := sgTo_bd (n := n) (a := a) (b := b) (f := f) fun i hi => h i (by omega)
    have h2 := h n (by omega)
    have e1 : a * (↑(n + 1) : Int) = a * n + a := by rw [Int.natCast_add, Int.mul_add]; simp
    have e2 : b * (↑(n + 1) : Int) = b * n + b := by rw [Int.natCast_add, Int.mul_add]; simp
    rw [sgTo, e1, e2]
    omega

/-- whether an interval counts against a mark behind a last mark -/
def outB (X : List Int) (last mark : Int) (i : Nat) : Bool := decide ((i : Int) < mark) && (decide (nxU X i < 0) || (decide (nxU X i > mark) && decide (last > (i : Int))))
def outI (X : List Int) (last mark : Int) (i : Nat) : Int := if outB X last mark i then 1 else 0
/-- the last mark ahead of the place t of a list of marks -/
def lastM (Mk : List Int) : Nat → Int
  | 0 => -1
  | t + 1 => nth Mk t
/-- what a mark adds: D the number of different pages -/
def gnI (k : Int) (D : Nat → Int) (X : List Int) (last mark : Int) : Int := D (mark + 1).toNat - k - sgTo (outI X last mark) X.length
/-- the program's sum behind t marks -/
def mbTo (k : Int) (D : Nat → Int) (X Mk : List Int) : Nat → Int
  | 0 => D X.length
  | t + 1 => mbTo k D X Mk t + gnI k D X (lastM Mk t) (nth Mk t)
/-- whether a mark is in an interval -/
def inIv (X Mk : List Int) (i j : Nat) : Bool := decide (nth Mk j > (i : Int)) && (decide (nxU X i < 0) || decide (nth Mk j < nxU X i))
def inIvI (X Mk : List Int) (i j : Nat) : Int := if inIv X Mk i j then 1 else 0
/-- how many of the first t marks are in an interval -/
def cntM (X Mk : List Int) (i t : Nat) : Int := sgTo (inIvI X Mk i) t
/-- what an interval takes away -/
def cutM (X Mk : List Int) (t i : Nat) : Int := if nxU X i ≥ 0 then max (cntM X Mk i t - 1) 0 else cntM X Mk i t
theorem cntM_bd (X Mk : List Int) (i t : Nat) : 0 ≤ cntM X Mk i t ∧ cntM X Mk i t ≤ t := by
  have := sgTo_bd (f := inIvI X Mk i) (a := 0) (b := 1) (n := t) fun j _ => by unfold inIvI; split <;> omega
  unfold cntM; omega
theorem cutM_bd (X Mk : List Int) (i t : Nat) : 0 ≤ cutM X Mk t i ∧ cutM X Mk t i ≤ t := by
  have := cntM_bd X Mk i t
  unfold cutM; split <;> omega
/-- the reference's sum over the marks -/
def mbD (k : Int) (D : Nat → Int) (X Mk : List Int) (t : Nat) : Int := D X.length + sgTo (fun j => D (nth Mk j + 1).toNat - k) t
/-- strictly ascending -/
def rsg (Mk : List Int) : Prop := ∀ j, j + 1 < Mk.length → nth Mk j < nth Mk (j + 1)
theorem rsg_lt {Mk : List Int} (h : rsg Mk) {a : Nat} : ∀ {b : Nat}, a < b → b < Mk.length → nth Mk a < nth Mk b
  | 0, h1, _ => by omega
  | b + 1, h1, h2 => by
    by_cases e : a = b
    · subst e; exact h a h2
    · have := rsg_lt h (a := a) (b := b) (by omega) (by omega)
      have := h b h2
      omega
theorem cntM_pos {X Mk : List Int} (hr : rsg Mk) {i t : Nat} (ht : t < Mk.length) (hx : nth Mk t < nxU X i) : (1 ≤ cntM X Mk i t) ↔ lastM Mk t > i := by
  cases t with
  | zero => simp [cntM, sgTo, lastM]
  | succ t =>
    have hb := cntM_bd X Mk i t
    have h1 := rsg_lt hr (a := t) (b := t + 1) (by omega) ht
    have e : cntM X Mk i (t + 1) = cntM X Mk i t + inIvI X Mk i t := rfl
    by_cases hl : nth Mk t > (i : Int)
    · have : inIvI X Mk i t = 1 := by
        unfold inIvI inIv
        rw [if_pos]
        simp only [Bool.and_eq_true, Bool.or_eq_true, decide_eq_true_eq]
        exact ⟨hl, .inr (by omega)⟩
      simp only [lastM]
      omega
    · have : cntM X Mk i (t + 1) = 0 := by
        have hz : sgTo (inIvI X Mk i) (t + 1) = sgTo (fun _ => 0) (t + 1) := sgTo_congr fun j hj => by
          have : nth Mk j ≤ nth Mk t := by
            by_cases e : j = t
            · subst e; omega
            · have := rsg_lt hr (a := j) (b := t) (by omega) (by omega); omega
          unfold inIvI inIv
          rw [if_neg]
          simp only [Bool.and_eq_true, decide_eq_true_eq]
          omega
        unfold cntM
        rw [hz]
        have := sgTo_bd (f := fun _ => 0) (a := 0) (b := 0) (n := t + 1) fun j _ => by omega
        omega
      simp only [lastM]
      omega
theorem cutM_step {X Mk : List Int} (hr : rsg Mk) {i t : Nat} (ht : t < Mk.length) : cutM X Mk (t + 1) i = cutM X Mk t i + outI X (lastM Mk t) (nth Mk t) i := by
  have hb := cntM_bd X Mk i t
  have e : cntM X Mk i (t + 1) = cntM X Mk i t + inIvI X Mk i t := rfl
  have hp := cntM_pos (X := X) hr (i := i) ht
  have hi : inIvI X Mk i t = if nth Mk t > (i : Int) ∧ (nxU X i < 0 ∨ nth Mk t < nxU X i) then 1 else 0 := by
    unfold inIvI inIv; simp
  have ho : outI X (lastM Mk t) (nth Mk t) i = if (i : Int) < nth Mk t ∧ (nxU X i < 0 ∨ (nxU X i > nth Mk t ∧ lastM Mk t > (i : Int))) then 1 else 0 := by
    unfold outI outB; simp
  unfold cutM
  rw [e, hi, ho]
  by_cases h1 : nxU X i ≥ 0
  · rw [if_pos h1, if_pos h1]
    by_cases h2 : nth Mk t > (i : Int)
    · by_cases h3 : nth Mk t < nxU X i
      · have hp := hp h3
        rw [if_pos ⟨h2, .inr h3⟩]
        by_cases h4 : lastM Mk t > (i : Int)
        · rw [if_pos ⟨h2, .inr ⟨h3, h4⟩⟩]
          have := hp.2 h4
          omega
        · rw [if_neg (by omega)]
          have : ¬ 1 ≤ cntM X Mk i t := fun h => h4 (hp.1 h)
          omega
      · rw [if_neg (by omega), if_neg (by omega)]; simp
    · rw [if_neg (by omega), if_neg (by omega)]; simp
  · rw [if_neg h1, if_neg h1]
    by_cases h2 : nth Mk t > (i : Int)
    · rw [if_pos ⟨h2, .inl (by omega)⟩, if_pos ⟨h2, .inl (by omega)⟩]
    · rw [if_neg (by omega), if_neg (by omega)]
/-- the two bounds are the same -/
theorem mb_law {k : Int} {D : Nat → Int} {X Mk : List Int} (hr : rsg Mk) : ∀ {t : Nat}, t ≤ Mk.length → mbTo k D X Mk t = mbD k D X Mk t - sgTo (cutM X Mk t) X.length
  | 0, _ => by
    have hz : sgTo (cutM X Mk 0) X.length = sgTo (fun _ => 0) X.length := sgTo_congr fun i _ => by
      have := cutM_bd X Mk i 0
      omega
    have := sgTo_bd (f := fun _ => 0) (a := 0) (b := 0) (n := X.length) fun j _ => by omega
    rw [hz]
    simp only [mbTo, mbD, sgTo]
    omega
  | t + 1, h => by
    have ih := mb_law (k := k) (D := D) (X := X) hr (t := t) (by omega)
    have hs : sgTo (cutM X Mk (t + 1)) X.length = sgTo (cutM X Mk t) X.length + sgTo (outI X (lastM Mk t) (nth Mk t)) X.length := by
      rw [← sgTo_add]
      exact sgTo_congr fun i _ => cutM_step hr h
    rw [mbTo, ih, hs]
    simp only [mbD, sgTo, gnI]
    omega
end Go.Proofs.YtllfchcocgdcjaaGreat
