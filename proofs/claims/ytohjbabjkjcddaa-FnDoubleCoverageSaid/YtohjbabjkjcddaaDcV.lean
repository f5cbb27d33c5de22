/- Double coverage walked: the potential of a row against itself. -/
import Derived.Test.YtohjbabjkjcddaaDcR
namespace Go.Proofs.Ytohjbabjkjcddaa
open Go.RowKit

theorem spI_in {a : List Int} (h : ∀ x ∈ a, 0 ≤ x ∧ x ≤ 99) {i : Nat} (hi : i < a.length) : ∀ j, j ≤ a.length → -99 * (j : Int) ≤ spI a i j ∧ spI a i j ≤ 99 * (j : Int)
  | 0, _ => ⟨Int.le_refl _, Int.le_refl _⟩
  | j + 1, hj => by
    have ih := spI_in h hi j (by omega)
    have q1 := h _ (nth_mem hi)
    have q2 := h _ (nth_mem (show j < a.length by omega))
    show _ ≤ spI a i j + nth a i - nth a j ∧ spI a i j + nth a i - nth a j ≤ _
    omega
theorem spO_in {a : List Int} (h : ∀ x ∈ a, 0 ≤ x ∧ x ≤ 99) (h3 : a.length ≤ 3) : ∀ i, i ≤ a.length → -300 * (i : Int) ≤ spO a i ∧ spO a i ≤ 300 * (i : Int)
  | 0, _ => ⟨Int.le_refl _, Int.le_refl _⟩
  | i + 1, hi => by
    have ih := spO_in h h3 i (by omega)
    have q1 := spI_in h (show i < a.length by omega) i (by omega)
    show _ ≤ spO a i + spI a i i ∧ spO a i + spI a i i ≤ _
    omega
set_option maxHeartbeats 800000 in
theorem areRows_same {v : Value} {a : List Int} {w0 w : World} [Ext w0 w] (ha : IsInts w0 v a) (hB : rowB a = true) :
    Calls Try.prog 55 #[v, v] w fun e w' => e = .returned (.bool true) ∧ Ext w w' := by
  have ha' := ha
  obtain ⟨d, c, rfl, la⟩ := ha.form
  go_enter Try.func55, Try.ntmps55
  go_wp2_with fail
  refine (isRow_any (w0 := w0) ha').mono ?_
  rw [hB]
  rintro e w1 ⟨rfl, e1⟩
  have e01 : Ext w0 w1 := Ext.trans ‹Ext w0 w› e1
  go_wp2_with fail
  refine (isRow_any (w0 := w0) ha').mono ?_
  rw [hB]
  rintro e w2 ⟨rfl, e2⟩
  go_wp2_with fail
  go_ret
  exact ⟨rfl, Ext.trans e1 e2⟩
set_option maxHeartbeats 1600000 in
theorem implCp_any {v : Value} {a : List Int} {w0 w : World} [Ext w0 w] (ha : IsInts w0 v a) (hB : rowB a = true) :
    Calls Try.prog 13 #[v, v] w fun e w' => e = .returned (.tuple #[.int .i64 (spr a), .bool true]) ∧ Ext w w' := by
  have ha' := ha
  obtain ⟨d, c, rfl, la⟩ := ha.form
  have hcap := ha'.cap
  obtain ⟨h1, h2, h3⟩ := rowB_iff.1 hB
  have hap := hid (apL_self a)
  have hrd := fun (u : World) (_ : Ext w0 u) => rowDistance_any (w0 := w0) (w := u) ha' ha' rfl (fun x hx => by have := h2 x hx; omega) (fun x hx => by have := h2 x hx; omega) (by omega)
  rw [hap.out] at hrd
  replace hrd := hid hrd
  have hO := hid (spO_in h2 h1.2)
  have hI := hid (fun i (hi : i < a.length) => spI_in h2 hi)
  go_enter Try.func13, Try.ntmps13
  go_wp2_with fail
  refine (areRows_same (w0 := w0) ha' hB).mono ?_
  rintro e w1 ⟨rfl, e1⟩
  have e01 : Ext w0 w1 := Ext.trans ‹Ext w0 w› e1
  replace hB := hid hB
  go_wp2_with fail
  refine (hrd.out w1 e01).mono ?_
  rintro e w2 ⟨rfl, e2⟩
  have e02 : Ext w0 w2 := Ext.trans e01 e2
  have ew2 : Ext w w2 := Ext.trans e1 e2
  go_wp2_with fail
  go_loopw [6, 23] (fun s i wr => ∃ q : Nat, q ≤ a.length ∧ i = .int .i64 q ∧ s = .int .i64 (spO a q) ∧ Ext w2 wr) (fun _ i _ => a.length - (intOf i).toNat)
  case atStart => exact ⟨0, by omega, rfl, rfl, Ext.refl _⟩
  case round =>
    obtain ⟨q, hq, rfl, rfl, he⟩ := hrel
    obtain ⟨wq, rfl⟩ : ∃ y : World, y = wr := ⟨_, rfl⟩
    have e0r : Ext w0 wq := Ext.trans e02 he
    have b1 := hO.out q hq
    by_cases hlt : q < a.length
    · have hlt' : (q : Int) < (a.length : Int) := by omega
      obtain ⟨ba, oa, hda, hca⟩ := ha'.at (w' := wq) hlt
      cases hda
      have hq1 := h2 _ (nth_mem hlt)
      have hn := hid (show spO a (q + 1) = spO a q + spI a q q from rfl)
      obtain ⟨O, hOd⟩ : ∃ z, z = spO a q := ⟨_, rfl⟩
      rw [← hOd] at b1 hn ⊢
      replace hOd := hid hOd
      have hI2 := hid (hI.out q hlt)
      have hz : (O : Int) = O + spI a q 0 := by show O = O + 0; omega
      replace hz := hid hz
      obtain ⟨x, hx⟩ : ∃ z, z = nth a q := ⟨_, rfl⟩
      rw [← hx] at hca hq1
      replace hx := hid hx
      have hqc : q ≤ c := by omega
      have hqc' : (q : Int) ≤ (c : Int) := by omega
      go_wp2_with fail
      go_loopw [6, 32] (fun s j wi => ∃ t : Nat, t ≤ q ∧ j = .int .i64 t ∧ s = .int .i64 (O + spI a q t) ∧ Ext wq wi) (fun _ j _ => q - (intOf j).toNat)
      case atStart => exact ⟨0, by omega, rfl, by rw [← hz.out], Ext.refl _⟩
      case round =>
        obtain ⟨t, ht, rfl, rfl, he2⟩ := hrel
        have e0i : Ext w0 wr := Ext.trans e0r he2
        have b2 := hI2.out t (by omega)
        by_cases hlt2 : t < q
        · have hlt2' : (t : Int) < (q : Int) := by omega
          obtain ⟨bb, ob, hdb, hcb⟩ := ha'.at (w' := wr) (show t < a.length by omega)
          cases hdb
          have hq2 := h2 _ (nth_mem (show t < a.length by omega))
          have hn2 := hid (show spI a q (t + 1) = spI a q t + nth a q - nth a t from rfl)
          rw [← hx.out] at hn2
          generalize nth a t = y at *
          generalize spI a q t = Z at *
          go_wp2_with fail
          go_roundw
          case rel => exact ⟨t + 1, by omega, by go_num, by rw [hn2.out, Int.add_sub_assoc, Int.add_assoc], he2⟩
          case measure => simp [intOf]; omega
        · have htq : t = q := by omega
          have hgt : ¬ (t : Int) < (q : Int) := by omega
          have hs2 := hid (show O + spI a q t = spO a (q + 1) by rw [hn.out, htq])
          replace htq := hid htq
          obtain ⟨Z, hZ⟩ : ∃ z, z = O + spI a q t := ⟨_, rfl⟩
          rw [← hZ] at hs2 ⊢
          replace hZ := hid hZ
          go_wp2_with fail
          go_roundw
          case rel => exact ⟨q + 1, by omega, by go_num, by rw [hs2.out], Ext.trans he he2⟩
          case measure => simp [intOf]; omega
    · have hqn : q = a.length := by omega
      have hgt : ¬ (q : Int) < (a.length : Int) := by omega
      have hs2 := hid (show spO a q = spr a by rw [hqn]; rfl)
      replace hqn := hid hqn
      go_wp2_with fail
      go_ret2
      rw [hs2.out]
      exact ⟨rfl, Ext.trans ew2 he⟩
end Go.Proofs.Ytohjbabjkjcddaa
