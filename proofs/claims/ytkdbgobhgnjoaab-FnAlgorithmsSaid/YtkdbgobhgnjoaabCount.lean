/- The number of algorithms: the program's and the reference's. -/
import Derived.Test.YtkdbgobhgnjoaabServed
import Derived.Test.YtkdbgobhgnjoaabImplB
namespace Go.Proofs.Ytkdbgobhgnjoaab
open Go.RowKit

theorem probB_len {M S : List (List Int)} (h : probB M S = true) : 1 ≤ M.length ∧ M.length ≤ 4 ∧ 1 ≤ S.length ∧ S.length ≤ 4 := by
  simp only [probB, Bool.and_eq_true] at h
  have h1 := inB_true.1 h.1.1.1
  have h2 := inB_true.1 h.1.2
  omega
theorem probB_table {M S : List (List Int)} (h : probB M S = true) : tableB M = true := by
  simp only [probB, metB, Bool.and_eq_true] at h
  exact h.1.1.2.1
theorem probB_nodet {M S : List (List Int)} (h : probB M S = true) : NoDetour M := by
  simp only [probB, metB, NoDetB, Bool.and_eq_true, decide_eq_true_eq] at h
  exact h.1.1.2.2
theorem probB_row {M S : List (List Int)} (h : probB M S = true) {k : Nat} (hk : k < S.length) : (row S k).length = M.length ∧ (∀ c ∈ row S k, -1 ≤ c ∧ c ≤ 20) ∧ ∃ c ∈ row S k, 0 ≤ c := by
  simp only [probB, Bool.and_eq_true, decide_eq_true_eq] at h
  have h1 := h.2 _ (row_mem hk)
  simp only [reqB, costsOk, canServe, Bool.and_eq_true, decide_eq_true_eq] at h1
  exact ⟨by omega, h1.1.1, h1.2⟩
theorem probB_serve {M S : List (List Int)} (h : probB M S = true) {k x : Nat} (hk : k < S.length) (hx : x < M.length) : -1 ≤ cell S k x ∧ cell S k x ≤ 20 := by
  have h1 := probB_row h hk
  exact h1.2.1 _ (nth_mem (by omega))
theorem probB_move {M S : List (List Int)} (h : probB M S = true) {x y : Nat} (hx : x < M.length) (hy : y < M.length) : 0 ≤ cell M x y ∧ cell M x y ≤ 99 :=
  tableB_cell (probB_table h) hx hy

def canN (cs : List Int) : Nat := (servedL cs).length
def prodTo (S : List (List Int)) : Nat → Nat
  | 0 => 1
  | k + 1 => prodTo S k * canN (row S k)
/-- the number of algorithms -/
def countA (M S : List (List Int)) : Nat := prodTo S S.length ^ M.length

theorem canN_le {M S : List (List Int)} (h : probB M S = true) {k : Nat} (hk : k < S.length) : canN (row S k) ≤ 4 := by
  have h1 := (probB_row h hk).1
  have h2 := probB_len h
  have h3 := servedTo_length (row S k) (row S k).length
  unfold canN servedL
  omega
theorem prodTo_le {M S : List (List Int)} (h : probB M S = true) : ∀ k, k ≤ S.length → prodTo S k ≤ 4 ^ k
  | 0, _ => by simp [prodTo]
  | k + 1, hk => by
    rw [prodTo, Nat.pow_succ]
    exact Nat.mul_le_mul (prodTo_le h k (by omega)) (canN_le h (by omega))
theorem count_le {M S : List (List Int)} (h : probB M S = true) {k i : Nat} (hk : k < M.length) (hi : i < S.length) : prodTo S S.length ^ k * prodTo S i * canN (row S i) ≤ 4294967296 := by
  have h2 := probB_len h
  have h3 : prodTo S S.length ≤ 256 := Nat.le_trans (prodTo_le h _ (Nat.le_refl _)) (Nat.le_trans (Nat.pow_le_pow_right (by omega) h2.2.2.2) (by decide))
  have h4 : prodTo S S.length ^ k ≤ 256 ^ 3 := Nat.le_trans (Nat.pow_le_pow_left h3 k) (Nat.pow_le_pow_right (by omega) (by omega))
  have h5 : prodTo S i * canN (row S i) ≤ 4 ^ (i + 1) := prodTo_le h (i + 1) (by omega)
  have h6 : 4 ^ (i + 1) ≤ 4 ^ 4 := Nat.pow_le_pow_right (by omega) (by omega)
  rw [Nat.mul_assoc]
  exact Nat.le_trans (Nat.mul_le_mul h4 (Nat.le_trans h5 h6)) (by decide)

set_option maxHeartbeats 1000000 in
set_option maxRecDepth 100000 in
theorem countAlgorithms_any {v1 v2 : Value} {M S : List (List Int)} {w0 w : World} [Ext w0 w] (hM : IsRows w0 v1 M) (hS : IsRows w0 v2 S) (hp : probB M S = true) :
    Calls Try.prog 85 #[.agg #[v1, v2]] w fun e w' => e = .returned (.int .i64 (countA M S)) ∧ Ext w w' := by
  obtain ⟨a1, c1, rfl, l1⟩ := hM.form
  obtain ⟨a2, c2, rfl, l2⟩ := hS.form
  replace hp := hid hp
  go_enter Try.func85, Try.ntmps85
  go_wp2
  go_loopw [3, 8] (fun q i wr => ∃ k a : Nat, k ≤ M.length ∧ i = .int .i64 k ∧ q = .int .i64 a ∧ Hid (a = prodTo S S.length ^ k) ∧ Ext (w.alloc (.cells #[.slice a1 M.length c1, .slice a2 S.length c2] 26)) wr) (fun _ i _ => M.length - (intOf i).toNat)
  case atStart => exact ⟨0, 1, by omega, rfl, rfl, by simp [Hid], inferInstance⟩
  case round =>
    obtain ⟨k, a, hk, rfl, rfl, ha, hb⟩ := hrel
    have x0 : wr.cell? ⟨w.heap.size, 0, none⟩ = some (.slice a1 M.length c1) := hb.cell (by go_simp)
    have x1 : wr.cell? ⟨w.heap.size, 1, none⟩ = some (.slice a2 S.length c2) := hb.cell (by go_simp)
    have e1 : Ext w wr := Ext.trans inferInstance hb
    by_cases hlt : k < M.length
    · go_wp2
      obtain ⟨wo, rfl⟩ : ∃ wo : World, wo = wr := ⟨_, rfl⟩
      go_loopw [3, 13] (fun q i wr => ∃ j c : Nat, j ≤ S.length ∧ i = .int .i64 j ∧ q = .int .i64 c ∧ Hid (c = a * prodTo S j) ∧ Ext wo wr) (fun _ i _ => S.length - (intOf i).toNat)
      case atStart => exact ⟨0, a, by omega, rfl, rfl, by simp [Hid, prodTo], inferInstance⟩
      case round =>
        obtain ⟨j, c, hj, rfl, rfl, hc, hb2⟩ := hrel
        replace x0 := hb2.cell x0
        replace x1 := hb2.cell x1
        by_cases hlt2 : j < S.length
        · have e2 : Ext w wr := Ext.trans e1 hb2
          have e0 : Ext w0 wr := Ext.trans ‹Ext w0 w› e2
          have hle : c * canN (row S j) ≤ 4294967296 := by
            rw [hc.out, ha.out]
            exact count_le hp.out hlt hlt2
          have hle1 : (c : Int) * ((servedL (row S j)).length : Int) ≤ 4294967296 := by
            have : ((c * canN (row S j) : Nat) : Int) ≤ 4294967296 := by omega
            rwa [Int.natCast_mul] at this
          have hle0 : 0 ≤ (c : Int) * ((servedL (row S j)).length : Int) := Int.mul_nonneg (by omega) (by omega)
          clear hle
          go_wp2_with (go_at_call 69; refine (served_any (w0 := w0) hM hS (by omega) (by omega)).mono ?_; rw [Int.toNat_natCast]; rintro e w1 ⟨d, m, rfl, _, hb3⟩)
          go_roundw
          case rel =>
            refine ⟨j + 1, c * canN (row S j), by omega, by go_num, by rw [Int.natCast_mul]; rfl, ?_, Ext.trans hb2 hb3⟩
            unfold Hid
            rw [hc.out, prodTo, Nat.mul_assoc]
          case measure => simp [intOf]; omega
        · go_wp2
          go_roundw
          case rel =>
            refine ⟨k + 1, c, by omega, by go_num, rfl, ?_, Ext.trans hb hb2⟩
            have hjm : j = S.length := by omega
            subst hjm
            unfold Hid
            rw [hc.out, ha.out, Nat.pow_succ]
          case measure => simp [intOf]; omega
    · go_wp2
      go_ret
      have hkm : k = M.length := by omega
      subst hkm
      exact ⟨ret_int (by rw [ha.out]; rfl), e1⟩

def countR (M S : List (List Int)) : Int := if probB M S = true then (countA M S : Int) else 0

set_option maxHeartbeats 400000 in
theorem implCount_any {v : Value} {M S : List (List Int)} {w0 w : World} [Ext w0 w] (hp : IsProb w0 v M S) :
    Calls Try.prog 40 #[v] w fun e w' => e = .returned (.tuple #[.int .i64 (countR M S), .bool (probB M S)]) ∧ Ext w w' := by
  have hp' := hp
  obtain ⟨v1, v2, rfl, hM, hS⟩ := hp
  obtain ⟨a1, c1, rfl, l1⟩ := hM.form
  obtain ⟨a2, c2, rfl, l2⟩ := hS.form
  cases hB : probB M S with
  | false =>
    have hr := hid (show countR M S = 0 by rw [countR, hB]; rfl)
    replace hB := hid hB
    go_enter Try.func40, Try.ntmps40
    go_wp2_with fail
    refine (IsProblem_any (w0 := w0) hp').mono ?_; rw [hB.out]; rintro e w1 ⟨rfl, hb1⟩
    go_wp2_with fail
    go_ret2
    rw [hr.out]
    exact ⟨rfl, Ext.trans inferInstance hb1⟩
  | true =>
    have hr := hid (show countR M S = countA M S by rw [countR, hB]; rfl)
    have hB' := hB
    replace hB := hid hB
    replace hB' := hid hB'
    go_enter Try.func40, Try.ntmps40
    go_wp2_with fail
    refine (IsProblem_any (w0 := w0) hp').mono ?_; rw [hB.out]; rintro e w1 ⟨rfl, hb1⟩
    have x0 : w1.cell? ⟨w.heap.size, 0, none⟩ = some (.slice a1 M.length c1) := hb1.cell (by go_simp)
    have x1 : w1.cell? ⟨w.heap.size, 1, none⟩ = some (.slice a2 S.length c2) := hb1.cell (by go_simp)
    have e1 : Ext w w1 := Ext.trans inferInstance hb1
    have e0 : Ext w0 w1 := Ext.trans ‹Ext w0 w› e1
    clear hb1
    go_wp2_with fail
    refine (countAlgorithms_any (w0 := w0) hM hS hB'.out).mono ?_; rintro e w2 ⟨rfl, hb2⟩
    go_wp2_with fail
    go_ret2
    rw [hr.out]
    exact ⟨rfl, Ext.trans e1 hb2⟩

theorem spec_le {M S : List (List Int)} (h : probB M S = true) {r s : Nat} (hr : r < S.length) (hs : s < M.length) : prodTo S r ^ M.length * canN (row S r) ^ s * canN (row S r) ≤ 4294967296 := by
  have h2 := probB_len h
  have h3 : prodTo S r ≤ 64 := Nat.le_trans (prodTo_le h _ (by omega)) (Nat.le_trans (Nat.pow_le_pow_right (n := 4) (by omega) (show r ≤ 3 by omega)) (by decide))
  have h4 : prodTo S r ^ M.length ≤ 64 ^ 4 := Nat.le_trans (Nat.pow_le_pow_left h3 _) (Nat.pow_le_pow_right (by omega) h2.2.1)
  have h5 : canN (row S r) ^ (s + 1) ≤ 4 ^ 4 := Nat.le_trans (Nat.pow_le_pow_left (canN_le h hr) _) (Nat.pow_le_pow_right (by omega) (by omega))
  rw [Nat.mul_assoc, ← Nat.pow_succ]
  exact Nat.le_trans (Nat.mul_le_mul h4 h5) (by decide)

end Go.Proofs.Ytkdbgobhgnjoaab
