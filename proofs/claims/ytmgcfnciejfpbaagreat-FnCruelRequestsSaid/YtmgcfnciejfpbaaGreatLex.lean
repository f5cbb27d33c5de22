/- Comparing lists of numbers; the place of a configuration. -/
import Derived.Test.YtmgcfnciejfpbaaGreatCfgP
import Derived.Test.YtmgcfnciejfpbaaGreatHas
import Derived.Test.YtmgcfnciejfpbaaGreatSrv
import Derived.Test.YtmgcfnciejfpbaaGreatSl
import Derived.Laws.Bits64b
namespace Go.Proofs.YtmgcfnciejfpbaaGreat
open Go.RowKit

--PURE
def lexC : List Int → List Int → Int
  | [], [] => 0
  | [], _ :: _ => -1
  | _ :: _, [] => 1
  | x :: a, y :: b => if x < y then -1 else if y < x then 1 else lexC a b
theorem lexC_self : ∀ a : List Int, lexC a a = 0
  | [] => rfl
  | x :: a => by simp [lexC, lexC_self a]
theorem lexC_in : ∀ a b : List Int, -1 ≤ lexC a b ∧ lexC a b ≤ 1
  | [], [] => by simp [lexC]
  | [], _ :: _ => by simp [lexC]
  | _ :: _, [] => by simp [lexC]
  | x :: a, y :: b => by
    rw [lexC]
    split
    · omega
    · split
      · omega
      · exact lexC_in a b
theorem lexC_zero : ∀ {a b : List Int}, lexC a b = 0 → a = b
  | [], [], _ => rfl
  | [], _ :: _, h => by simp [lexC] at h
  | _ :: _, [], h => by simp [lexC] at h
  | x :: a, y :: b, h => by
    rw [lexC] at h
    split at h
    · omega
    · split at h
      · omega
      · rw [show x = y by omega, lexC_zero h]
theorem lexC_anti : ∀ a b : List Int, lexC b a = - lexC a b
  | [], [] => rfl
  | [], _ :: _ => rfl
  | _ :: _, [] => rfl
  | x :: a, y :: b => by
    rw [lexC, lexC]
    by_cases h1 : x < y
    · rw [if_neg (by omega), if_pos h1, if_pos h1]; rfl
    · by_cases h2 : y < x
      · rw [if_pos h2, if_neg h1, if_pos h2]
      · rw [if_neg h2, if_neg h1, if_neg h1, if_neg h2]; exact lexC_anti a b
theorem lexC_trans : ∀ {a b c : List Int}, lexC a b < 0 → lexC b c < 0 → lexC a c < 0
  | [], [], _, h, _ => by simp [lexC] at h
  | [], _ :: _, [], _, h => by simp [lexC] at h
  | [], _ :: _, _ :: _, _, _ => by simp [lexC]
  | _ :: _, [], _, h, _ => by simp [lexC] at h
  | _ :: _, _ :: _, [], _, h => by simp [lexC] at h
  | x :: a, y :: b, z :: c, h1, h2 => by
    rw [lexC] at h1 h2 ⊢
    split at h1
    · split at h2
      · rw [if_pos (by omega)]; omega
      · split at h2
        · omega
        · rw [if_pos (by omega)]; omega
    · split at h1
      · omega
      · split at h2
        · rw [if_pos (by omega)]; omega
        · split at h2
          · omega
          · rw [if_neg (by omega), if_neg (by omega)]
            exact lexC_trans h1 h2
/-- the configurations ascend -/
theorem confs_asc (n : Nat) : ∀ k f, (confs n k f).Pairwise (fun a b => lexC a b < 0)
  | 0, _ => by simp [confs]
  | k + 1, f => by
    rw [confs]
    refine pairwise_flat (fun x _ => ?_) ?_
    · rw [List.pairwise_map]
      exact (confs_asc n k x).imp (fun h => by simpa [lexC] using h)
    · refine (List.pairwise_lt_range' (step := 1)).imp (fun {x y} hxy u hu v hv => ?_)
      obtain ⟨c, _, rfl⟩ := List.mem_map.1 hu
      obtain ⟨d, _, rfl⟩ := List.mem_map.1 hv
      rw [lexC, if_pos (by omega)]
      omega
/-- the place of a list in a list of them -/
def atR (P : List (List Int)) (c : List Int) : Nat := P.idxOf c
theorem atR_lt {P : List (List Int)} {c : List Int} (h : c ∈ P) : atR P c < P.length ∧ row P (atR P c) = c := by
  have hlt : P.idxOf c < P.length := List.idxOf_lt_length_of_mem h
  exact ⟨hlt, by simp [row, atR, hlt]⟩
theorem row_get {P : List (List Int)} {q : Nat} (hq : q < P.length) : row P q = P[q] := by simp [row, hq]
theorem atR_row {n k f j : Nat} (h : j < (confs n k f).length) : atR (confs n k f) (row (confs n k f) j) = j := by
  obtain ⟨h1, h2⟩ := atR_lt (row_mem h)
  have hn := confs_nodup n k f
  rw [List.nodup_iff_pairwise_ne, List.pairwise_iff_getElem] at hn
  generalize atR (confs n k f) (row (confs n k f) j) = q at *
  rw [row_get h1, row_get h] at h2
  rcases Nat.lt_trichotomy q j with h3 | h3 | h3
  · exact absurd h2 (hn _ _ h1 h h3)
  · exact h3
  · exact absurd h2.symm (hn _ _ h h1 h3)
theorem asc_row {P : List (List Int)} (h : P.Pairwise (fun a b => lexC a b < 0)) {i j : Nat} (hij : i < j) (hj : j < P.length) : lexC (row P i) (row P j) < 0 := by
  rw [List.pairwise_iff_getElem] at h
  have := h i j (by omega) hj hij
  simpa [row, hj, show i < P.length by omega] using this
theorem drop_nth {X : List Int} {k : Nat} (h : k < X.length) : X.drop k = nth X k :: X.drop (k + 1) := by
  rw [List.drop_eq_getElem_cons h]; simp [nth, h]
def cmpI (x y : Int) : Int := if x < y then -1 else if y < x then 1 else 0
theorem lexC_step {a b : List Int} {k : Nat} (ha : k < a.length) (hb : k < b.length) : lexC (a.drop k) (b.drop k) = if cmpI (nth a k) (nth b k) ≠ 0 then cmpI (nth a k) (nth b k) else lexC (a.drop (k + 1)) (b.drop (k + 1)) := by
  rw [drop_nth ha, drop_nth hb, lexC, cmpI]
  by_cases h1 : nth a k < nth b k
  · simp [h1]
  · by_cases h2 : nth b k < nth a k
    · simp [h1, h2]
    · simp [h1, h2]

set_option maxHeartbeats 800000 in
theorem compare_any (x y : Int) (w : World) : Calls Tryz.prog 160 #[.int .i64 x, .int .i64 y] w fun e w' => e = .returned (.int .i64 (cmpI x y)) ∧ w = w' := by
  by_cases h1 : x < y
  · have hr := hid (show cmpI x y = -1 by rw [cmpI, if_pos h1])
    go_enter Tryz.func160, Tryz.ntmps160
    go_wp2_with (go_at_call 172; refine (isNaN_any _ _).mono ?_; rintro e w' ⟨rfl, rfl⟩)
    go_ret
    exact ⟨ret_int hr.out.symm, rfl⟩
  · by_cases h2 : y < x
    · have hr := hid (show cmpI x y = 1 by rw [cmpI, if_neg h1, if_pos h2])
      go_enter Tryz.func160, Tryz.ntmps160
      go_wp2_with (go_at_call 172; refine (isNaN_any _ _).mono ?_; rintro e w' ⟨rfl, rfl⟩)
      go_ret
      exact ⟨ret_int hr.out.symm, rfl⟩
    · have hr := hid (show cmpI x y = 0 by rw [cmpI, if_neg h1, if_neg h2])
      go_enter Tryz.func160, Tryz.ntmps160
      go_wp2_with (go_at_call 172; refine (isNaN_any _ _).mono ?_; rintro e w' ⟨rfl, rfl⟩)
      go_ret
      exact ⟨ret_int hr.out.symm, rfl⟩

set_option maxHeartbeats 800000 in
set_option maxRecDepth 100000 in
theorem sCompare_any {va vb : Value} {a b : List Int} {w0 w : World} [Ext w0 w] (ha : IsInts w0 va a) (hb : IsInts w0 vb b) :
    Calls Tryz.prog 132 #[va, vb] w fun e w' => e = .returned (.int .i64 (lexC a b)) ∧ w = w' := by
  obtain ⟨da, ma, rfl, la⟩ := ha.form
  obtain ⟨db, mb, rfl, lb⟩ := hb.form
  obtain ⟨na, hna⟩ : ∃ n, n = a.length := ⟨_, rfl⟩
  obtain ⟨nb, hnb⟩ : ∃ n, n = b.length := ⟨_, rfl⟩
  rw [← hna] at la ha ⊢
  rw [← hnb] at lb hb ⊢
  replace hna := hid hna
  replace hnb := hid hnb
  go_enter Tryz.func132, Tryz.ntmps132
  go_wp2
  go_loop [11] (fun i => ∃ k : Nat, k ≤ na ∧ k ≤ nb ∧ i = .int .i64 k ∧ Hid (lexC a b = lexC (a.drop k) (b.drop k))) (fun i => na - (intOf i).toNat)
  case atStart => exact ⟨0, by omega, by omega, rfl, rfl⟩
  case round =>
    obtain ⟨k, hk, hkb, rfl, heq⟩ := hrel
    by_cases hlt : k < na
    · by_cases hltb : k < nb
      · have ha' : k < a.length := by rw [← hna.out]; exact hlt
        have hb' : k < b.length := by rw [← hnb.out]; exact hltb
        obtain ⟨b1, o1, rfl, hc1⟩ := ha.at (w' := w) ha'
        obtain ⟨b2, o2, rfl, hc2⟩ := hb.at (w' := w) hb'
        have hs := hid (lexC_step ha' hb')
        clear ha' hb'
        by_cases hc : cmpI (nth a k) (nth b k) = 0
        · have hn := hid (show lexC a b = lexC (a.drop (k + 1)) (b.drop (k + 1)) by rw [heq.out, hs.out, if_neg (by simpa using hc)])
          replace hc := hid hc
          go_wp2_with fail
          with_reducible refine (compare_any _ _ _).mono ?_
          rw [hc.out]
          rintro e w1 ⟨rfl, rfl⟩
          go_wp2_with fail
          go_round
          case rel => exact ⟨k + 1, by omega, by omega, by go_num, hn.out⟩
          case measure => simp [intOf]; omega
        · have hn := hid (show lexC a b = cmpI (nth a k) (nth b k) by rw [heq.out, hs.out, if_pos hc])
          have hc2 : (cmpI (nth a k) (nth b k) == 0) = false := by simpa using hc
          replace hc := hid hc
          go_wp2_with fail
          with_reducible refine (compare_any _ _ _).mono ?_
          rintro e w1 ⟨rfl, rfl⟩
          go_wp2_with fail
          go_ret
          exact ⟨ret_int hn.out.symm, rfl⟩
      · have hn := hid (show lexC a b = 1 by
          rw [heq.out, show b.drop k = [] from List.drop_eq_nil_of_le (by have := hnb.out; omega), drop_nth (by have := hna.out; omega)]; rfl)
        obtain ⟨b1, o1, rfl, hc1⟩ := ha.at (w' := w) (k := k) (by have := hna.out; omega)
        go_wp2_with fail
        go_ret
        exact ⟨ret_int hn.out.symm, rfl⟩
    · have hkn : k = na := by omega
      by_cases hl : na < nb
      · have hn := hid (show lexC a b = -1 by
          rw [heq.out, show a.drop k = [] from List.drop_eq_nil_of_le (by have := hna.out; omega), drop_nth (by have := hnb.out; omega)]; rfl)
        replace hkn := hid hkn
        go_wp2_with fail
        go_ret
        exact ⟨ret_int hn.out.symm, rfl⟩
      · have hn := hid (show lexC a b = 0 by
          rw [heq.out, show a.drop k = [] from List.drop_eq_nil_of_le (by have := hna.out; omega), show b.drop k = [] from List.drop_eq_nil_of_le (by have := hnb.out; omega)]; rfl)
        replace hkn := hid hkn
        go_wp2_with fail
        go_ret
        exact ⟨ret_int hn.out.symm, rfl⟩
end Go.Proofs.YtmgcfnciejfpbaaGreat
