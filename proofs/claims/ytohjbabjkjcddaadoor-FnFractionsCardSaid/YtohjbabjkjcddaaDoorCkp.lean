/- Checksums of texts in plain words. -/
import Derived.Test.YtohjbabjkjcddaaDoorNmp
namespace Go.Proofs.YtohjbabjkjcddaaDoor
open Go.RowKit

def ckS (h : Nat) (b : UInt8) : Nat := (41 * h + b.toNat + 1) % 999979
def ckL (h : Nat) (L : List UInt8) : Nat := L.foldl ckS h
def ck (L : List UInt8) : Nat := ckL 7 L
theorem ckL_snoc (h : Nat) (L : List UInt8) (b : UInt8) : ckL h (L ++ [b]) = ckS (ckL h L) b := by simp [ckL]
theorem ckL_app (h : Nat) (A B : List UInt8) : ckL h (A ++ B) = ckL (ckL h A) B := by simp [ckL]
theorem ckS_lt (h : Nat) (b : UInt8) : ckS h b < 999979 := Nat.mod_lt _ (by omega)
theorem ck_lt (L : List UInt8) : ck L < 999979 := by
  rcases List.eq_nil_or_concat L with rfl | ⟨A, b, rfl⟩
  · simp [ck, ckL]
  · rw [ck, List.concat_eq_append, ckL_snoc]; exact ckS_lt _ _
theorem ckS_inj {h h' : Nat} (hh : h < 999979) (hh' : h' < 999979) (b : UInt8) (e : ckS h b = ckS h' b) : h = h' := by
  unfold ckS at e
  omega
theorem ckL_inj : ∀ (L : List UInt8) {h h' : Nat}, h < 999979 → h' < 999979 → ckL h L = ckL h' L → h = h'
  | [], _, _, _, _, e => e
  | b :: L, h, h', hh, hh', e => by
    have e2 : ckL (ckS h b) L = ckL (ckS h' b) L := e
    exact ckS_inj hh hh' b (ckL_inj L (ckS_lt _ _) (ckS_lt _ _) e2)
theorem ckS_byte {h : Nat} {b c : UInt8} (e : ckS h b = ckS h c) : b = c := by
  unfold ckS at e
  have h1 := b.toNat_lt
  have h2 := c.toNat_lt
  exact UInt8.toNat_inj.1 (by omega)
/-- one byte changed: another checksum -/
theorem ck_set {L : List UInt8} {k : Nat} {c : UInt8} (hk : k < L.length) (hc : L[k] ≠ c) : ck (L.set k c) ≠ ck L := by
  intro e
  have h1 : L = L.take k ++ L[k] :: L.drop (k + 1) := by
    rw [← List.drop_eq_getElem_cons hk, List.take_append_drop]
  have h2 : L.set k c = L.take k ++ c :: L.drop (k + 1) := by rw [List.set_eq_take_append_cons_drop, if_pos hk]
  have key : ∀ x : UInt8, ck (L.take k ++ x :: L.drop (k + 1)) = ckL (ckS (ckL 7 (L.take k)) x) (L.drop (k + 1)) := fun x => by
    rw [ck, ckL_app]; rfl
  rw [h2, key] at e
  have e3 : ck L = ckL (ckS (ckL 7 (L.take k)) L[k]) (L.drop (k + 1)) := by
    conv => lhs; rw [h1]
    exact key _
  rw [e3] at e
  exact hc (ckS_byte (ckL_inj _ (ckS_lt _ _) (ckS_lt _ _) e)).symm

def sealL (L : List UInt8) : List UInt8 := L ++ [35] ++ Lib.itoa (ck L)
/-- whether a text can be sealed -/
def apB (L : List UInt8) : Bool := decide (L.length ≤ 4000) && (decide (35 ∉ L) && decide ((sealL L).length ≤ 4000))
def apL (L : List UInt8) : List UInt8 := if apB L then sealL L else []
theorem apB_iff {L : List UInt8} : apB L = true ↔ L.length ≤ 4000 ∧ 35 ∉ L ∧ (sealL L).length ≤ 4000 := by
  unfold apB
  rw [Bool.and_eq_true, Bool.and_eq_true, decide_eq_true_eq, decide_eq_true_eq, decide_eq_true_eq]
/-- what stands ahead of the first sign -/
def headL (L : List UInt8) : List UInt8 := (Lib.cut L [35]).1
def vrB (L : List UInt8) : Bool := decide (L.length ≤ 4000) && (apB (headL L) && decide (sealL (headL L) = L))
def vrL (L : List UInt8) : List UInt8 := if vrB L then headL L else []
theorem itoa_no35 {n : Int} (h : 0 ≤ n) : (35 : UInt8) ∉ Lib.itoa n := by
  rcases itoa_cases n with ⟨h0, _⟩ | ⟨_, e⟩
  · omega
  · rw [e]
    have key : ∀ u, ∀ b ∈ Lib.decDigits u, 48 ≤ b.toNat := by
      intro u
      induction u using Nat.strongRecOn with
      | _ u ih =>
      intro b hb
      by_cases h : u < 10
      · rw [Lib.decDigits_one h, List.mem_singleton] at hb
        have h1 := dgt_val h
        have h2 : b = dgt u := hb
        rw [h2]; omega
      · rw [dec_more h] at hb
        rcases List.mem_append.1 hb with h1 | h1
        · exact ih _ (by omega) b h1
        · rw [List.mem_singleton.1 h1]
          have := dgt_val (show u % 10 < 10 by omega)
          omega
    intro hm
    have := key _ _ hm
    revert this
    decide
theorem itoa_inj {a b : Int} (ha : -1000000 ≤ a ∧ a ≤ 1000000) (hb : -1000000 ≤ b ∧ b ≤ 1000000) (e : Lib.itoa a = Lib.itoa b) : a = b := by
  have h1 := atoi_itoa (n := a) (by omega)
  have h2 := atoi_itoa (n := b) (by omega)
  rw [e, h2] at h1
  injection h1 with h1
  exact h1.symm
/-- a sealed text with one byte changed is no sealed text -/
theorem seal_broken {x t : List UInt8} {k : Nat} {c : UInt8} (hx : (35 : UInt8) ∉ x) (ht : (35 : UInt8) ∉ t) (hk : k < (sealL x).length) (hc : (sealL x)[k] ≠ c) : (sealL x).set k c ≠ sealL t := by
  intro e
  have hdx := itoa_no35 (n := (ck x : Int)) (by omega)
  have hdt := itoa_no35 (n := (ck t : Int)) (by omega)
  generalize hd : Lib.itoa (ck x : Int) = d at hdx
  generalize hd' : Lib.itoa (ck t : Int) = d' at hdt
  have ex : sealL x = x ++ 35 :: d := by rw [sealL, hd]; simp
  have et : sealL t = t ++ 35 :: d' := by rw [sealL, hd']; simp
  have hlen : x.length + d.length = t.length + d'.length := by
    have h := congrArg List.length e
    rw [List.length_set, ex, et, List.length_append, List.length_append, List.length_cons, List.length_cons] at h
    omega
  have hne : ∀ j, j ≠ k → (sealL t)[j]? = (sealL x)[j]? := fun j hj => by rw [← e, List.getElem?_set_ne (fun h => hj h.symm)]
  have hkk : (sealL t)[k]? = some c := by rw [← e, List.getElem?_set_self hk]
  have hkx : (sealL x)[k]? = some (sealL x)[k] := List.getElem?_eq_getElem hk
  have hx1 : ∀ j, j < x.length → (sealL x)[j]? = x[j]? := fun j hj => by rw [ex, List.getElem?_append_left hj]
  have ht1 : ∀ j, j < t.length → (sealL t)[j]? = t[j]? := fun j hj => by rw [et, List.getElem?_append_left hj]
  have hx2 : (sealL x)[x.length]? = some 35 := by rw [ex, List.getElem?_append_right (Nat.le_refl _)]; simp
  have ht2 : (sealL t)[t.length]? = some 35 := by rw [et, List.getElem?_append_right (Nat.le_refl _)]; simp
  have hx3 : ∀ j, (sealL x)[x.length + 1 + j]? = d[j]? := fun j => by
    rw [ex, List.getElem?_append_right (by omega), show x.length + 1 + j - x.length = j + 1 by omega, List.getElem?_cons_succ]
  have ht3 : ∀ j, (sealL t)[t.length + 1 + j]? = d'[j]? := fun j => by
    rw [et, List.getElem?_append_right (by omega), show t.length + 1 + j - t.length = j + 1 by omega, List.getElem?_cons_succ]
  have mem : ∀ {l : List UInt8} {j : Nat}, l[j]? = some 35 → (35 : UInt8) ∈ l := fun h => List.mem_of_getElem? h
  rcases Nat.lt_trichotomy x.length t.length with h | h | h
  · have a1 : k = x.length := by
      by_cases hk2 : x.length = k
      · exact hk2.symm
      · have h1 := hne _ hk2
        rw [hx2, ht1 _ h] at h1
        exact absurd (mem h1) ht
    have a2 : k = t.length := by
      by_cases hk2 : t.length = k
      · exact hk2.symm
      · have h1 := hne _ hk2
        rw [ht2, show t.length = x.length + 1 + (t.length - x.length - 1) by omega, hx3] at h1
        exact absurd (mem h1.symm) hdx
    omega
  · have hxt : ∀ j, j ≠ k → j < x.length → t[j]? = x[j]? := fun j hj hl => by
      have h1 := hne j hj
      rwa [hx1 _ hl, ht1 _ (by omega)] at h1
    have hdd : ∀ j, x.length + 1 + j ≠ k → d'[j]? = d[j]? := fun j hj => by
      have h1 := hne _ hj
      rw [hx3, h, ht3] at h1
      exact h1
    by_cases hk1 : k < x.length
    · have hdeq : d' = d := List.ext_getElem? fun j => hdd j (by omega)
      have hteq : t = x.set k c := by
        refine List.ext_getElem? fun j => ?_
        by_cases hj : j = k
        · subst hj
          rw [List.getElem?_set_self hk1, ← ht1 _ (by omega), hkk]
        · rw [List.getElem?_set_ne (fun h => hj h.symm)]
          by_cases hl : j < x.length
          · exact hxt j hj hl
          · rw [List.getElem?_eq_none (by omega), List.getElem?_eq_none (by omega)]
      have hck : ck t = ck x := by
        have h1 := ck_lt t
        have h2 := ck_lt x
        have := itoa_inj (a := (ck t : Int)) (b := (ck x : Int)) (by omega) (by omega) (by rw [hd, hd', hdeq])
        omega
      have hxk : x[k] ≠ c := by
        have h1 := hx1 k hk1
        rw [hkx, List.getElem?_eq_getElem hk1] at h1
        injection h1 with h1
        rw [← h1]; exact hc
      rw [hteq] at hck
      exact ck_set hk1 hxk hck
    · by_cases hk2 : k = x.length
      · have h1 : (sealL t)[k]? = some 35 := by rw [hk2, h]; exact ht2
        have h2 : (sealL x)[k]? = some 35 := by rw [hk2]; exact hx2
        rw [hkk] at h1
        rw [hkx] at h2
        injection h1 with h1
        injection h2 with h2
        exact hc (by rw [h1, h2])
      · have hteq : t = x := List.ext_getElem? fun j => by
          by_cases hl : j < x.length
          · exact hxt j (by omega) hl
          · rw [List.getElem?_eq_none (by omega), List.getElem?_eq_none (by omega)]
        rw [hteq] at hkk
        rw [hkx] at hkk
        injection hkk with h1
        exact hc h1
  · have a1 : k = t.length := by
      by_cases hk2 : t.length = k
      · exact hk2.symm
      · have h1 := hne _ hk2
        rw [ht2, hx1 _ h] at h1
        exact absurd (mem h1.symm) hx
    have a2 : k = x.length := by
      by_cases hk2 : x.length = k
      · exact hk2.symm
      · have h1 := hne _ hk2
        rw [hx2, show x.length = t.length + 1 + (x.length - t.length - 1) by omega, ht3] at h1
        exact absurd (mem h1) hdt
    omega
theorem vr_broken {x : List UInt8} {k : Nat} {c : UInt8} (hx : apB x = true) (hk : k < (sealL x).length) (hc : (sealL x)[k] ≠ c) : vrB ((sealL x).set k c) = false := by
  cases h : vrB ((sealL x).set k c) with
  | false => rfl
  | true =>
    unfold vrB at h
    rw [Bool.and_eq_true, Bool.and_eq_true, decide_eq_true_eq, decide_eq_true_eq] at h
    exact absurd h.2.2.symm (seal_broken (apB_iff.1 hx).2.1 (apB_iff.1 h.2.1).2.1 hk hc)
theorem index_head : ∀ (x r : List UInt8), (35 : UInt8) ∉ x → Lib.index (x ++ 35 :: r) [35] = (x.length : Int)
  | [], r, _ => by rw [List.nil_append, Lib.index]; simp [List.isPrefixOf]
  | b :: x, r, h => by
    have hb : b ≠ 35 := fun e => h (by rw [e]; exact .head _)
    have ih := index_head x r fun hm => h (.tail _ hm)
    have hp : ([35] : List UInt8).isPrefixOf (b :: (x ++ 35 :: r)) = false := by simp [List.isPrefixOf, Ne.symm hb]
    rw [List.cons_append, Lib.index, hp, ih]
    have hne : ((x.length : Int) == -1) = false := beq_eq_false_iff_ne.2 (by omega)
    rw [hne]
    simp
theorem head_seal {x : List UInt8} (h : (35 : UInt8) ∉ x) : headL (sealL x) = x := by
  have hi := index_head x (Lib.itoa (ck x)) h
  have e : sealL x = x ++ 35 :: Lib.itoa (ck x) := by simp [sealL]
  unfold headL Lib.cut
  rw [e, hi, if_pos (by omega)]
  simp
theorem vr_seal {x : List UInt8} (h : apB x = true) : vrB (sealL x) = true ∧ vrL (sealL x) = x := by
  have h2 := apB_iff.1 h
  have hb : vrB (sealL x) = true := by
    unfold vrB
    rw [head_seal h2.2.1, h]
    simp [h2.2.2]
  refine ⟨hb, ?_⟩
  unfold vrL
  rw [hb, if_pos rfl, head_seal h2.2.1]
end Go.Proofs.YtohjbabjkjcddaaDoor
