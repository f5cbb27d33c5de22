/- The run of the work function algorithm, the program's. -/
import Derived.Test.YtpiplhgiphndeaaRnS
import Derived.Test.YtpiplhgiphndeaaSvI
import Derived.Test.YtpiplhgiphndeaaCh7
namespace Go.Proofs.Ytpiplhgiphndeaa
open Go.RowKit

theorem Tab.side {w w' : World} {B : Nat} {v : Value} {M : List (List Int)} {R S : List Row} (h : Tab w B v M R) (hn : Own w' w.heap.size S) (e : Ext w w') (hB : B ≤ w.heap.size) : Tab w' B v M S := by
  obtain ⟨vs, h1, h2⟩ := h
  have h3 := Own.join h2 hn (hB := hB)
  exact ⟨vs, h1, h3.swap.sub (List.Sublist.append (List.sublist_append_left _ _) (List.Sublist.refl _))⟩
theorem confs_mv {M : List (List Int)} {k : Nat} (hd : Dst M M.length) (hk : k ≤ 3) : ∀ i j, i < (confs M.length k 0).length → j < (confs M.length k 0).length → 0 ≤ mvC M (row (confs M.length k 0) i) (row (confs M.length k 0) j) ∧ mvC M (row (confs M.length k 0) i) (row (confs M.length k 0) j) ≤ 1000 := fun i j hi hj => by
  obtain ⟨g1, g2, g3⟩ := row_conf hi
  obtain ⟨f1, f2, f3⟩ := row_conf hj
  have := mvC_in hd g2 f2 (by rw [g1, f1]) (by omega)
  omega
theorem confs_pos {n k : Nat} (hn : 1 ≤ n) : 1 ≤ (confs n k 0).length := by
  have : List.replicate k (0 : Int) ∈ confs n k 0 := confs_iff.2 ⟨by simp, by unfold Asc; exact List.pairwise_replicate.2 (.inr (Int.le_refl _)), fun x hx => by rw [List.eq_of_mem_replicate hx]; omega⟩
  exact List.length_pos_of_mem this
theorem cfg_conf {n k : Nat} {a : List Int} (h : cfgB n a = true) (hk : a.length = k) : a ∈ confs n k 0 := by
  obtain ⟨_, h2, h3⟩ := cfgB_iff.1 h
  exact confs_iff.2 ⟨hk, h3, fun x hx => by have := h2 x hx; omega⟩

set_option maxHeartbeats 1600000 in
set_option maxRecDepth 100000 in
theorem lists_any {v va vX : Value} {M : List (List Int)} {a X : List Int} {w0 w : World} [Ext w0 w] (hW : IsWorks w0 v M (confs M.length a.length 0)) (hM : metB M = true) (ha : IsInts w0 va a) (hXi : IsInts w0 vX X) (h1k : 1 ≤ a.length) (hk : a.length ≤ 3) (hac : a ∈ confs M.length a.length 0) (hl : X.length ≤ 1000) (hX : ∀ j, j < X.length → 0 ≤ nth X j ∧ nth X j < (M.length : Int)) :
    Calls Try.prog 56 #[v, va, vX] w fun e w' => ∃ u, e = .returned u ∧ Tab w' w.heap.size u (wlL M (confs M.length a.length 0) a X X.length) [] ∧ Ext w w' := by
  have hW' := hW
  obtain ⟨bx, mv, pv, cv, rfl, h0, h1, h2, hR, hP, hCs⟩ := hW
  have ha' := ha
  obtain ⟨da, ma, rfl, la⟩ := ha.form
  have hX' := hXi
  obtain ⟨aX, mX, rfl, lX⟩ := hXi.form
  have hMl := met_len hM
  have hdst := hid (dst_of_met hM)
  have hwl := hid (wl_good hdst.out h1k hk hac hX hl)
  have h216 := confs_216 hMl.2 hk
  have hcp := confs_pos (k := a.length) hMl.1
  have hmv := hid (confs_mv hdst.out hk)
  have hasc := hid (confs_asc M.length a.length 0)
  obtain ⟨htl, htr⟩ := atR_lt hac
  have hac' := hid hac
  clear hac h0 h1 hR hP
  replace hM := hid hM
  replace hX := hid hX
  obtain ⟨P, hPd⟩ : ∃ p, p = confs M.length a.length 0 := ⟨_, rfl⟩
  rw [← hPd] at htl htr hac' hasc hmv hcp h216 hwl hW' hCs ⊢
  replace hPd := hid hPd
  obtain ⟨t, ht⟩ : ∃ t, t = atR P a := ⟨_, rfl⟩
  rw [← ht] at htl htr
  have hat := hid ht.symm
  replace ht := hid ht
  have hcl : (cosL M P).length = P.length := by simp [cosL]
  have hrow := hid (show row (cosL M P) t = wst M P a by
    rw [wst, ← htr]
    simp [row, cosL, htl])
  obtain ⟨aC, mC, rfl, lC⟩ := hCs.form
  obtain ⟨bC, oC, dr, mr, hdC, hcr, hrI, _⟩ := hCs.at (w' := w0) (k := t) (by rw [hcl]; exact htl)
  cases hdC
  rw [hcl] at h2
  clear hCs hcl lC
  rw [hrow.out] at hcr hrI
  have hw0 := hid (show wlL M P a X 0 = [wst M P a] from rfl)
  obtain ⟨S0, hS0⟩ : ∃ x, x = wst M P a := ⟨_, rfl⟩
  rw [← hS0] at hcr hrI hw0
  replace hS0 := hid hS0
  obtain ⟨B, hB⟩ : ∃ b, b = w.heap.size := ⟨_, rfl⟩
  have hEx := hid (show ∀ u, Below B w u → Ext w u from fun u h => ⟨by rw [← hB]; exact h⟩)
  have hBl := hid (show ∀ u, Ext w u → B ≤ u.heap.size from fun u e => by rw [hB]; exact e.size)
  have hXb := hid (show ∀ u, Ext w u → Below B w u from fun u e => by rw [hB]; exact e.below)
  rw [← hB]
  replace hB := hid hB
  go_enter Try.func56, Try.ntmps56
  go_wp2_with fail
  have hSx := hid (show ∀ u, Ext w u → u.cell? ⟨bx, 2, none⟩ = some (.slice (some ⟨bC, oC, none⟩) P.length mC) ∧ u.cell? ⟨bC, oC + t, none⟩ = some (.slice dr S0.length mr) from fun u e => ⟨(Ext.trans ‹Ext w0 w› e).cell h2, (Ext.trans ‹Ext w0 w› e).cell hcr⟩)
  refine region_held_from (w0 := w) (S := fun u => u.cell? ⟨bx, 2, none⟩ = some (.slice (some ⟨bC, oC, none⟩) P.length mC) ∧ u.cell? ⟨bC, oC + t, none⟩ = some (.slice dr S0.length mr)) (by kernel_rfl) hSx.out (fun wd ed hHeld0 => ?_)
  have e0d : Ext w0 wd := Ext.trans ‹Ext w0 w› ed
  refine wpAnyH_take (i := 0) (v := .pointer (some ⟨bx, 0, none⟩)) rfl (by kernel_rfl) (by kernel_rfl) (by kernel_rfl) (fun _ _ _ h => h) (Or.inl ⟨by rfl, by intro wx hx; go_simp⟩) (by assumption) ?_
  try simp only [List.getElem_toArray, List.getElem_cons_zero, Act.put, List.setIfInBounds_toArray, List.set_cons_zero, List.set_cons_succ]
  refine wpAnyH_take (i := 1) (v := .pointer (some ⟨bx, 0, none⟩)) rfl (by kernel_rfl) (by kernel_rfl) (by kernel_rfl) (fun _ _ _ h => h) (Or.inl ⟨by rfl, by intro wx hx; go_simp⟩) (by assumption) ?_
  try simp only [List.getElem_toArray, List.getElem_cons_succ, List.getElem_cons_zero, Act.put, List.setIfInBounds_toArray, List.set_cons_zero, List.set_cons_succ]
  refine wpAnyH_take (i := 2) (v := .pointer (some ⟨bx, 2, none⟩)) rfl (by kernel_rfl) (by kernel_rfl) (by kernel_rfl) (fun _ _ _ h => h) (Or.inl ⟨by rfl, by intro wx hx; go_simp⟩) (by assumption) ?_
  try simp only [List.getElem_toArray, List.getElem_cons_succ, List.getElem_cons_zero, Act.put, List.setIfInBounds_toArray, List.set_cons_zero, List.set_cons_succ]
  refine wpAnyH_take (i := 3) (v := .slice (some ⟨bC, oC, none⟩) P.length mC) rfl (by kernel_rfl) (by kernel_rfl) (by kernel_rfl) (fun _ _ _ h => h) (Or.inl ⟨by rfl, by intro wx hx; obtain ⟨_, _⟩ := hx; go_simp⟩) (by assumption) ?_
  try simp only [List.getElem_toArray, List.getElem_cons_succ, List.getElem_cons_zero, Act.put, List.setIfInBounds_toArray, List.set_cons_zero, List.set_cons_succ]
  refine wpAnyH_take (i := 4) (v := .pointer (some ⟨bx, 0, none⟩)) rfl (by kernel_rfl) (by kernel_rfl) (by kernel_rfl) (fun _ _ _ h => h) (Or.inl ⟨by rfl, by intro wx hx; go_simp⟩) (by assumption) ?_
  try simp only [List.getElem_toArray, List.getElem_cons_succ, List.getElem_cons_zero, Act.put, List.setIfInBounds_toArray, List.set_cons_zero, List.set_cons_succ]
  refine wpAnyH_take (i := 5) (v := .slice da a.length ma) rfl (by kernel_rfl) (by kernel_rfl) (by kernel_rfl) (fun _ _ _ h => h) (Or.inl ⟨by rfl, by intro wx hx; go_simp⟩) (by assumption) ?_
  try simp only [List.getElem_toArray, List.getElem_cons_succ, List.getElem_cons_zero, Act.put, List.setIfInBounds_toArray, List.set_cons_zero, List.set_cons_succ]
  refine wpAnyH_ready (rs := [6]) (by kernel_rfl) (by simp) ?_
  refine AllReadyH.cons rfl (fun K hK => ?_) AllReadyH.nil
  go_simp
  go_at_call 65
  refine (index_any (w0 := w0) hW' ha' hasc.out hac'.out (by omega)).mono ?_
  rw [hat.out]
  rintro e w5 ⟨rfl, rfl⟩
  go_wp2_with fail
  refine hK.out _ _ hHeld0 (fun _ => ?_)
  clear hK K
  try simp only [List.getElem_toArray, List.getElem_cons_succ, List.getElem_cons_zero, Act.put, List.setIfInBounds_toArray, List.set_cons_zero, List.set_cons_succ]
  refine wpAnyH_take (i := 7) (v := .pointer (some ⟨bC, oC + t, none⟩)) rfl (by kernel_rfl) (by kernel_rfl) (by kernel_rfl) (fun _ _ _ h => h) (Or.inl ⟨by rfl, by intro wx hx; go_simp⟩) (by assumption) ?_
  try simp only [List.getElem_toArray, List.getElem_cons_succ, List.getElem_cons_zero, Act.put, List.setIfInBounds_toArray, List.set_cons_zero, List.set_cons_succ]
  refine wpAnyH_take (i := 8) (v := .slice dr S0.length mr) rfl (by kernel_rfl) (by kernel_rfl) (by kernel_rfl) (fun _ _ _ h => h) (Or.inl ⟨by rfl, by intro wx hx; obtain ⟨_, _⟩ := hx; go_simp⟩) (by assumption) ?_
  try simp only [List.getElem_toArray, List.getElem_cons_succ, List.getElem_cons_zero, Act.put, List.setIfInBounds_toArray, List.set_cons_zero, List.set_cons_succ]
  refine wpAnyH_ready (rs := [9]) (by kernel_rfl) (by simp) ?_
  refine AllReadyH.cons rfl (fun K hK => ?_) AllReadyH.nil
  go_simp
  go_at_call 53
  refine (cloneInts_any (w0 := w0) hrI).mono ?_
  rintro e w6 ⟨d6, m6, rfl, own6, e6⟩
  have e6w : Ext w w6 := Ext.trans ed e6
  have hS6 := hSx.out w6 e6w
  have hB6 : B ≤ w6.heap.size := hBl.out _ e6w
  replace own6 := own6.mono (hBl.out _ ed)
  go_wp2_with fail
  refine hK.out _ _ hS6 (fun _ => ?_)
  clear hK K
  try simp only [List.getElem_toArray, List.getElem_cons_succ, List.getElem_cons_zero, Act.put, List.setIfInBounds_toArray, List.set_cons_zero, List.set_cons_succ]
  refine wpAnyH_ready (rs := [10]) (by kernel_rfl) (by simp) ?_
  refine AllReadyH.cons rfl (fun K hK => ?_) AllReadyH.nil
  go_simp
  have oL := own6.lit 25 1 1 #[.slice d6 S0.length m6] hB6 (by unfold maxLen; omega) rfl
  have e7w : Ext w (w6.alloc (.cells #[.slice d6 S0.length m6] 25)) := Ext.trans e6w inferInstance
  have hS7 := hSx.out _ e7w
  refine hK.out _ _ hS7 (fun _ => ?_)
  clear hK K
  try simp only [List.getElem_toArray, List.getElem_cons_succ, List.getElem_cons_zero, Act.put, List.setIfInBounds_toArray, List.set_cons_zero, List.set_cons_succ]
  generalize w6.alloc (.cells #[.slice d6 S0.length m6] 25) = w7 at *
  generalize w6.heap.size = gl at *
  refine wpAnyH_take (i := 11) (v := .slice (some ⟨gl, 0, none⟩) 1 1) rfl (by kernel_rfl) (by kernel_rfl) (by kernel_rfl) (fun _ _ _ h => h) (Or.inl ⟨by rfl, by intro wx hx; go_simp⟩) (by assumption) ?_
  try simp only [List.getElem_toArray, List.getElem_cons_succ, List.getElem_cons_zero, Act.put, List.setIfInBounds_toArray, List.set_cons_zero, List.set_cons_succ]
  refine wpAnyH_done (by kernel_rfl) ?_ _
  have tab0 : Tab w7 B (.slice (some ⟨gl, 0, none⟩) 1 1) (wlL M P a X 0) [] := ⟨[.slice d6 S0.length m6], rfl, by rw [hw0.out]; exact oL⟩
  have b7 : Below B w w7 := hXb.out _ e7w
  clear h2 hcr hrI hSx
  go_wp2_with fail
  go_loopw [7, 23] (fun ov i wr => ∃ q : Nat, q ≤ X.length ∧ i = .int .i64 q ∧ Tab wr B ov (wlL M P a X q) [] ∧ Below B w wr) (fun _ i _ => X.length - (intOf i).toNat)
  case atStart => exact ⟨0, by omega, rfl, tab0, b7⟩
  case round =>
    clear tab0 b7
    obtain ⟨q, hq, rfl, tab, hb⟩ := hrel
    obtain ⟨wq, rfl⟩ : ∃ y : World, y = wr := ⟨_, rfl⟩
    have eq : Ext w wq := hEx.out _ hb
    have e0q : Ext w0 wq := Ext.trans ‹Ext w0 w› eq
    have hBq := hBl.out _ eq
    by_cases hlt : q < X.length
    · obtain ⟨dO, nO, mO, rfl, hnO⟩ := tab.formN
      have hgW := hid (show GoodW M (confs M.length a.length 0) (wlAt M P a X q) 300000 by
        have h := (hwl.out q hq).mono (L' := 300000) (by omega)
        rw [hPd.out] at h ⊢; exact h)
      have hgN := hid (show GoodW M (confs M.length a.length 0) (wlAt M P a X (q + 1)) 300000 by
        have h := (hwl.out (q + 1) hlt).mono (L' := 300000) (by omega)
        rw [hPd.out] at h ⊢; exact h)
      have hT : IsRows wq (.slice dO nO mO) (wlL M P a X q) := tab.reads (by unfold ShortRows; rw [wlL_len]; omega) (fun r hr => by
        obtain ⟨j, hj, rfl⟩ := List.mem_map.1 hr
        have := List.mem_range.1 hj
        have h := (hwl.out j (by omega)).1.1
        unfold Short; omega) (fun r hr => by
        obtain ⟨j, hj, rfl⟩ := List.mem_map.1 hr
        have := List.mem_range.1 hj
        exact good_i64 (hwl.out j (by omega)) (by omega))
      obtain ⟨bO, oO, dW, mW, hdO, hcW, hWI, _⟩ := hT.at (w' := wq) (k := q) (by rw [wlL_len]; omega)
      cases hdO
      have hrq := hid (show row (wlL M P a X q) q = wlAt M P a X q from wlL_row (Nat.le_refl _))
      rw [hrq.out] at hcW hWI
      have hqn : q < nO := by rw [hnO.out, wlL_len]; omega
      obtain ⟨bX, oX, hdX, hcX⟩ := hX'.at (w' := wq) hlt
      cases hdX
      have hTl : (wlL M P a X q).length ≤ 1000000 := by rw [wlL_len]; omega
      have hTs := hid (show wlL M P a X (q + 1) = wlL M P a X q ++ [wlAt M P a X (q + 1)] from wlL_succ)
      have hnw := hid (show wnxL M P (wlAt M P a X q) (nth X q) = wlAt M P a X (q + 1) from rfl)
      have hlw := hid (show (wlAt M P a X q).length = P.length from (hwl.out q hq).1.1)
      have hwb := hid (show ∀ j, j < P.length → 0 ≤ nth (wlAt M P a X q) j ∧ nth (wlAt M P a X q) j ≤ 1000000 from fun j hj => by have := (hwl.out q hq).2 j hj; omega)
      obtain ⟨W, hWd⟩ : ∃ y, y = wlAt M P a X q := ⟨_, rfl⟩
      rw [← hWd] at hcW hWI hnw hlw hwb
      obtain ⟨NW, hNW⟩ : ∃ y, y = wlAt M P a X (q + 1) := ⟨_, rfl⟩
      rw [← hNW] at hnw hTs
      obtain ⟨T, hTd⟩ : ∃ y, y = wlL M P a X q := ⟨_, rfl⟩
      rw [← hTd] at hTs hTl tab
      clear hT
      replace hWd := hid hWd
      replace hNW := hid hNW
      replace hTd := hid hTd
      go_wp2_with fail
      with_reducible refine (wnx_any (w0 := wq) (w := wq) (hW'.ext (w' := wq)) hWI hcp (by omega) hlw.out hwb.out hmv.out).mono ?_
      rw [hnw.out]
      rintro e w5 ⟨d5, m5, rfl, own5, e5⟩
      have tabX := tab.join own5 e5 hBq
      have hB5 : B ≤ w5.heap.size := Nat.le_trans hBq e5.size
      clear tab own5
      go_wp2_with (at_builtin; refine wpList_push rfl (.tmp 28) (.tmp 36) rfl rfl tabX hB5 rfl hTl ?_; intro v9 w9 tab9 b9)
      go_roundw
      case rel => exact ⟨q + 1, by omega, by go_num, by rw [hTs.out]; exact tab9, (hb.trans (e5.below.mono hBq)).trans b9⟩
      case measure => simp [intOf]; omega
    · have hqn : q = X.length := by omega
      rw [hqn] at tab
      replace hqn := hid hqn
      go_wp2_with fail
      go_ret
      exact ⟨_, rfl, tab, eq⟩

def rrT (M : List (List Int)) (a X : List Int) : List (List Int) := if srvB M a X then rnT M (confs M.length a.length 0) a X X.length else []
def rrS (M : List (List Int)) (a X : List Int) : Int := if srvB M a X then rnS M (confs M.length a.length 0) a X X.length else 0
theorem rr_no {M : List (List Int)} {a X : List Int} (h : srvB M a X = false) : rrT M a X = [] ∧ rrS M a X = 0 ∧ srvB M a X = false := by simp [rrT, rrS, h]
theorem rr_yes {M : List (List Int)} {a X : List Int} (h : srvB M a X = true) : rrT M a X = rnT M (confs M.length a.length 0) a X X.length ∧ rrS M a X = rnS M (confs M.length a.length 0) a X X.length ∧ srvB M a X = true := by simp [rrT, rrS, h]
theorem srv_parts {M : List (List Int)} {a X : List Int} (h : srvB M a X = true) : metB M = true ∧ (1 ≤ a.length ∧ a.length ≤ 3) ∧ a ∈ confs M.length a.length 0 ∧ X.length ≤ 60 ∧ ∀ j, j < X.length → 0 ≤ nth X j ∧ nth X j < (M.length : Int) := by
  obtain ⟨h1, h2, h3, h4⟩ := srvB_iff.1 h
  exact ⟨h1, (cfgB_iff.1 h2).1, cfg_conf h2 rfl, h3, fun j hj => belowB_at h4 hj⟩
theorem rrT_len {M : List (List Int)} {a X : List Int} : (rrT M a X).length ≤ 2000000 ∧ sumLen (rrT M a X) ≤ 2000000 := by
  cases h : srvB M a X with
  | false => rw [(rr_no h).1]; simp [sumLen]
  | true =>
    obtain ⟨hM, hk, hac, hl, hX⟩ := srv_parts h
    rw [(rr_yes h).1]
    have h1 := rnT_mem (dst_of_met hM) hk.1 hk.2 hac hX (by omega) (i := X.length) (Nat.le_refl _)
    have h2 := sumLen_le (n := 3) (l := rnT M (confs M.length a.length 0) a X X.length) (fun x hx => by have := (confs_iff.1 (h1 x hx)).1; omega)
    rw [rnT_len] at h2 ⊢
    omega

set_option maxHeartbeats 1600000 in
set_option maxRecDepth 100000 in
theorem specRun_any {v va vX : Value} {M : List (List Int)} {a X : List Int} {w0 w : World} [Ext w0 w] (hm : IsMet w0 v M) (ha : IsInts w0 va a) (hXi : IsInts w0 vX X) :
    Calls Try.prog 20 #[v, va, vX] w fun e w' => ∃ d0 m0, e = .returned (.tuple #[.slice d0 (rrT M a X).length m0, .int .i64 (rrS M a X), .bool (srvB M a X)]) ∧ IsRows w' (.slice d0 (rrT M a X).length m0) (rrT M a X) ∧ Ext w w' := by
  have hm' := hm
  obtain ⟨v1, rfl, hR⟩ := hm
  obtain ⟨a1, c1, rfl, l1⟩ := hR.form
  have ha' := ha
  obtain ⟨da, ma, rfl, la⟩ := ha.form
  have hX' := hXi
  obtain ⟨dX, mX, rfl, lX⟩ := hXi.form
  have x0 : (w.alloc (.cells #[.slice a1 M.length c1] 29)).cell? ⟨w.heap.size, 0, none⟩ = some (.slice a1 M.length c1) := by go_simp
  cases hM : metB M with
  | false =>
    have hr := hid (rr_no (show srvB M a X = false by simp [srvB, hM]))
    replace hM := hid hM
    go_enter Try.func20, Try.ntmps20
    go_wp2_with fail
    with_reducible refine (l6Good_any (w0 := w0) hm').mono ?_
    rw [hM.out]
    rintro e w1 ⟨rfl, e1⟩
    go_wp2_with fail
    go_ret3
    rw [hr.out.1, hr.out.2.1, hr.out.2.2]
    exact ⟨_, _, rfl, isRows_zero _ _ _, Ext.trans inferInstance (Ext.trans e1 inferInstance)⟩
  | true =>
    have hM' := hid hM
    clear hM
    cases hS : srvB M a X with
    | false =>
      have hr := hid (rr_no hS)
      replace hS := hid hS
      go_enter Try.func20, Try.ntmps20
      go_wp2_with fail
      with_reducible refine (l6Good_any (w0 := w0) hm').mono ?_
      rw [hM'.out]
      rintro e w1 ⟨rfl, e1⟩
      have x1 := e1.cell x0
      have e1w : Ext w w1 := Ext.trans inferInstance e1
      have e01 : Ext w0 w1 := Ext.trans ‹Ext w0 w› e1w
      clear x0 e1
      go_wp2_with fail
      with_reducible refine (l6Start_any (w0 := w0) hm' ha' hX').mono ?_
      rw [hS.out]
      rintro e w2 ⟨rfl, e2⟩
      go_wp2_with fail
      go_ret3
      rw [hr.out.1, hr.out.2.1]
      exact ⟨_, _, rfl, isRows_zero _ _ _, Ext.trans e1w (Ext.trans e2 inferInstance)⟩
    | true =>
      obtain ⟨_, hk, hac, hl, hX⟩ := srv_parts hS
      have hr := hid (rr_yes hS)
      have hac' := hid hac
      have hX2 := hid hX
      clear hac hX
      replace hS := hid hS
      go_enter Try.func20, Try.ntmps20
      go_wp2_with fail
      with_reducible refine (l6Good_any (w0 := w0) hm').mono ?_
      rw [hM'.out]
      rintro e w1 ⟨rfl, e1⟩
      have x1 := e1.cell x0
      have e1w : Ext w w1 := Ext.trans inferInstance e1
      have e01 : Ext w0 w1 := Ext.trans ‹Ext w0 w› e1w
      clear x0 e1
      go_wp2_with fail
      with_reducible refine (l6Start_any (w0 := w0) hm' ha' hX').mono ?_
      rw [hS.out]
      rintro e w2 ⟨rfl, e2⟩
      have x2 := e2.cell x1
      have e2w : Ext w w2 := Ext.trans e1w e2
      have e02 : Ext w0 w2 := Ext.trans ‹Ext w0 w› e2w
      clear x1 e2
      go_wp2_with fail
      with_reducible refine (l7Run_any (w0 := w0) hm' hM'.out ha' hX' hk.1 hk.2 hac'.out (by omega) hX2.out).mono ?_
      rintro e w3 ⟨u, rfl, hU, e3⟩
      obtain ⟨dU, mU, rfl, lU⟩ := hU.form
      go_wp2_with fail
      go_ret3
      rw [hr.out.1, hr.out.2.1]
      exact ⟨_, _, rfl, hU, Ext.trans e2w e3⟩

set_option maxHeartbeats 1600000 in
set_option maxRecDepth 100000 in
theorem implRun_any {v va vX : Value} {M : List (List Int)} {a X : List Int} {w0 w : World} [Ext w0 w] (hm : IsMet w0 v M) (ha : IsInts w0 va a) (hXi : IsInts w0 vX X) :
    Calls Try.prog 21 #[v, va, vX] w fun e w' => ∃ d0 m0 vs0, e = .returned (.tuple #[.slice d0 (rrT M a X).length m0, .int .i64 (rrS M a X), .bool (srvB M a X)]) ∧ vs0.length = (rrT M a X).length ∧ Own w' w.heap.size (rowsOf 25 3 (.slice d0 (rrT M a X).length m0) vs0 (rrT M a X)) ∧ Ext w w' := by
  have hm' := hm
  obtain ⟨v1, rfl, hR⟩ := hm
  obtain ⟨a1, c1, rfl, l1⟩ := hR.form
  have ha' := ha
  obtain ⟨da, ma, rfl, la⟩ := ha.form
  have hX' := hXi
  obtain ⟨dX, mX, rfl, lX⟩ := hXi.form
  have x0 : (w.alloc (.cells #[.slice a1 M.length c1] 29)).cell? ⟨w.heap.size, 0, none⟩ = some (.slice a1 M.length c1) := by go_simp
  cases hS : srvB M a X with
  | false =>
    have hr := hid (rr_no hS)
    replace hS := hid hS
    go_enter Try.func21, Try.ntmps21
    go_wp2_with fail
    with_reducible refine (isServed_any (w0 := w0) hm' ha' hX').mono ?_
    rw [hS.out]
    rintro e w1 ⟨rfl, e1⟩
    go_wp2_with fail
    go_ret3
    rw [hr.out.1, hr.out.2.1]
    exact ⟨_, _, [], rfl, rfl, (Own.nil _ _).cons_nil _ _, Ext.trans inferInstance e1⟩
  | true =>
    obtain ⟨hM, hk, hac, hl, hX⟩ := srv_parts hS
    have hr := hid (rr_yes hS)
    have hMl := met_len hM
    have hdst := hid (dst_of_met hM)
    have hwl := hid (wl_good hdst.out hk.1 hk.2 hac hX (by omega))
    have hrn := hid (rn_conf hdst.out hk.1 hk.2 hac hX (by omega))
    have hcl := hid (show ∀ c, c ∈ confs M.length a.length 0 → c.length = a.length ∧ ∀ x ∈ c, I64 x from fun c hc => by
      obtain ⟨h1, _, h3⟩ := confs_iff.1 hc
      exact ⟨h1, fun x hx => by have := h3 x hx; unfold I64; omega⟩)
    have h216 := confs_216 hMl.2 hk.2
    have hM' := hid hM
    have hac' := hid hac
    have hX2 := hid hX
    clear hac hX hM
    replace hS := hid hS
    go_enter Try.func21, Try.ntmps21
    go_wp2_with fail
    with_reducible refine (isServed_any (w0 := w0) hm' ha' hX').mono ?_
    rw [hS.out]
    rintro e w1 ⟨rfl, e1⟩
    have x1 := e1.cell x0
    have e1w : Ext w w1 := Ext.trans inferInstance e1
    have e01 : Ext w0 w1 := Ext.trans ‹Ext w0 w› e1w
    clear x0 e1
    go_wp2_with fail
    with_reducible refine (worksOf_any (w0 := w0) hm' hM'.out hk.1 hk.2).mono ?_
    rintro e w2 ⟨u, rfl, hW, e2⟩
    have e2w : Ext w w2 := Ext.trans e1w e2
    have e02 : Ext w0 w2 := Ext.trans ‹Ext w0 w› e2w
    clear x1 e2
    go_wp2_with fail
    with_reducible refine (lists_any (w0 := w2) (w := w2) hW hM'.out (ha'.ext (w' := w2)) (hX'.ext (w' := w2)) hk.1 hk.2 hac'.out (by omega) hX2.out).mono ?_
    rintro e w3 ⟨vT, rfl, tabT, e3⟩
    have e3w : Ext w w3 := Ext.trans e2w e3
    have e03 : Ext w0 w3 := Ext.trans ‹Ext w0 w› e3w
    have hW3 := hW.ext (w' := w3)
    obtain ⟨P, hPd⟩ : ∃ p, p = confs M.length a.length 0 := ⟨_, rfl⟩
    rw [← hPd] at tabT hwl hrn hcl hac' h216 hr
    replace hPd := hid hPd
    have hT : IsRows w3 vT (wlL M P a X X.length) := tabT.reads (by unfold ShortRows; rw [wlL_len]; omega) (fun r hr => by
      obtain ⟨j, hj, rfl⟩ := List.mem_map.1 hr
      have := List.mem_range.1 hj
      have h := (hwl.out j (by omega)).1.1
      unfold Short; omega) (fun r hr => by
      obtain ⟨j, hj, rfl⟩ := List.mem_map.1 hr
      have := List.mem_range.1 hj
      exact good_i64 (hwl.out j (by omega)) (by omega))
    clear tabT
    obtain ⟨dT, mT, rfl, lT⟩ := hT.form
    obtain ⟨B, hB⟩ : ∃ b, b = w3.heap.size := ⟨_, rfl⟩
    have hEx := hid (show ∀ u, Below B w3 u → Ext w3 u from fun u h => ⟨by rw [← hB]; exact h⟩)
    have hBl := hid (show ∀ u, Ext w3 u → B ≤ u.heap.size from fun u e => by rw [hB]; exact e.size)
    have hBw := hid (show w.heap.size ≤ B by rw [hB]; exact e3w.size)
    have tab0 : Tab (w3.alloc (.cells #[] 25)) B (.slice (some ⟨w3.heap.size, 0, none⟩) 0 0) [] [] := Tab.start (Own.nil _ _) (by rw [hB]; exact Nat.le_refl _)
    have b0 : Below B w3 (w3.alloc (.cells #[] 25)) := by rw [hB]; exact (Below.refl _ _).alloc (Nat.le_refl _) _
    replace hB := hid hB
    go_wp2_with fail
    go_loopw [1, 11, 12, 33] (fun av ov sv i wr => ∃ q : Nat, q ≤ X.length ∧ i = .int .i64 q ∧ sv = .int .i64 (rnS M P a X q) ∧ (∃ R, Tab wr B ov (rnT M P a X q) R ∧ Hid (∀ u, Own u B R → Below B w3 u → IsInts u av (rnA M P a X q))) ∧ Below B w3 wr) (fun _ _ _ i _ => X.length - (intOf i).toNat)
    case atStart => exact ⟨0, by omega, rfl, rfl, ⟨[], tab0, fun u _ h => ha'.ext (e := Ext.trans e03 (hEx.out _ h))⟩, b0⟩
    case round =>
      clear tab0 b0
      obtain ⟨q, hq, rfl, rfl, ⟨R, tab, hrd⟩, hb⟩ := hrel
      obtain ⟨wq, rfl⟩ : ∃ y : World, y = wr := ⟨_, rfl⟩
      have eq : Ext w3 wq := hEx.out _ hb
      have e0q : Ext w0 wq := Ext.trans e03 eq
      have hBq := hBl.out _ eq
      by_cases hlt : q < X.length
      · obtain ⟨dO, nO, mO, rfl, hnO⟩ := tab.formN
        have hA := hrd.out wq tab.rest hb
        clear hrd
        have hAc := hid (show rnA M P a X q ∈ confs M.length a.length 0 by
          have h := (hrn.out q hq).1
          rw [← hPd.out]; exact h)
        have hgN := hid (show GoodW M (confs M.length a.length 0) (wlAt M P a X (q + 1)) 300000 by
          have h := (hwl.out (q + 1) hlt).mono (L' := 300000) (by omega)
          rw [← hPd.out]; exact h)
        obtain ⟨bT, oT, dW, mW, hdT, hcW, hWI, _⟩ := hT.at (w' := wq) (k := q + 1) (by rw [wlL_len]; omega)
        cases hdT
        have hrq := hid (show row (wlL M P a X X.length) (q + 1) = wlAt M P a X (q + 1) from wlL_row (by omega))
        rw [hrq.out] at hcW hWI
        have hqn : q + 1 < (wlL M P a X X.length).length := by rw [wlL_len]; omega
        obtain ⟨bX, oX, hdX, hcX⟩ := hX'.at (w' := wq) hlt
        cases hdX
        have hri := hid (hX2.out q hlt)
        have hTl : (rnT M P a X q).length ≤ 1000000 := by rw [rnT_len]; omega
        have hTs := hid (show rnT M P a X (q + 1) = rnT M P a X q ++ [rnA M P a X (q + 1)] from rnT_succ)
        have hsc := hid (show svC M (confs M.length a.length 0) (wlAt M P a X (q + 1)) (rnA M P a X q) (nth X q) = rnA M P a X (q + 1) by rw [← hPd.out]; rfl)
        have hsk := hid (show svK M (confs M.length a.length 0) (wlAt M P a X (q + 1)) (rnA M P a X q) (nth X q) = rnS M P a X (q + 1) - rnS M P a X q by rw [← hPd.out, rnS]; omega)
        have hA2 := hid (hcl.out _ (hrn.out (q + 1) hlt).1)
        have hb1 := (hrn.out q hq).2
        have hb2 := (hrn.out (q + 1) hlt).2
        obtain ⟨A, hAd⟩ : ∃ y, y = rnA M P a X q := ⟨_, rfl⟩
        rw [← hAd] at hA hAc hsc hsk
        obtain ⟨NW, hNW⟩ : ∃ y, y = wlAt M P a X (q + 1) := ⟨_, rfl⟩
        rw [← hNW] at hgN hcW hWI hsc hsk
        obtain ⟨A2, hA2d⟩ : ∃ y, y = rnA M P a X (q + 1) := ⟨_, rfl⟩
        rw [← hA2d] at hsc hTs hA2
        obtain ⟨r, hrd⟩ : ∃ y, y = nth X q := ⟨_, rfl⟩
        rw [← hrd] at hri hsc hsk hcX
        obtain ⟨L, hL⟩ : ∃ y, y = rnT M P a X q := ⟨_, rfl⟩
        rw [← hL] at tab hTs hTl
        obtain ⟨s1, hs1⟩ : ∃ y, y = rnS M P a X q := ⟨_, rfl⟩
        rw [← hs1] at hsk hb1 ⊢
        obtain ⟨ck, hck⟩ : ∃ y, y = rnS M P a X (q + 1) - s1 := ⟨_, rfl⟩
        rw [← hck] at hsk
        have hck2 := hid (show s1 + ck = rnS M P a X (q + 1) by omega)
        have hsb : 0 ≤ s1 + ck ∧ s1 + ck ≤ 1000000 := by omega
        clear hb2
        have hs99 : 0 ≤ s1 ∧ s1 ≤ 100000 := by omega
        clear hb1
        replace hAd := hid hAd
        replace hNW := hid hNW
        replace hA2d := hid hA2d
        replace hrd := hid hrd
        replace hL := hid hL
        replace hs1 := hid hs1
        replace hck := hid hck
        obtain ⟨dA, mA, hAv, lA⟩ := hA.form
        subst hAv
        go_wp2_with fail
        with_reducible refine (serve_any (w0 := wq) (w := wq) (hW3.ext (w' := wq)) hM'.out (hWI.ext (w' := wq)) hA hk.1 hk.2 hAc.out hgN.out (by omega) hri.out).mono ?_
        rw [hsc.out, hsk.out]
        rintro e w5 ⟨u5, rfl, own5, e5⟩
        have hU : IsInts w5 u5 A2 := own5.reads (by unfold Short; have := hA2.out.1; omega) hA2.out.2
        have tab5 := tab.side own5 e5 hBq
        obtain ⟨dU, mU, rfl, lU⟩ := hU.form
        have hB5 : B ≤ w5.heap.size := Nat.le_trans hBq e5.size
        clear tab own5
        go_wp2_with fail
        with_reducible refine (cloneInts_any (w0 := w5) (w := w5) hU).mono ?_
        rintro e w6 ⟨d6, m6, rfl, own6, e6⟩
        have tabX := tab5.join own6 e6 hB5
        have hB6 : B ≤ w6.heap.size := Nat.le_trans hB5 e6.size
        clear tab5 own6
        go_wp2_with (at_builtin; refine wpList_push rfl (.tmp 50) (.tmp 53) rfl rfl tabX hB6 rfl hTl ?_; intro v9 w9 tab9 b9)
        go_roundw
        case rel => exact ⟨q + 1, by omega, by go_num, by rw [hck2.out], ⟨_, by rw [hTs.out]; exact tab9, fun u h _ => by
          rw [← hA2d.out]
          exact h.reads (by unfold Short; have := hA2.out.1; omega) hA2.out.2⟩, ((hb.trans (e5.below.mono hBq)).trans (e6.below.mono hB5)).trans b9⟩
        case measure => simp [intOf]; omega
      · have hqn : q = X.length := by omega
        rw [hqn] at tab
        have hsq := hid (show rnS M P a X q = rnS M P a X X.length by rw [hqn])
        rw [hsq.out]
        replace hqn := hid hqn
        obtain ⟨vs, hv1, hv2⟩ := tab.drop
        rw [List.append_nil] at hv2
        obtain ⟨dO, mO, hO⟩ := tab.form
        subst hO
        go_wp2_with fail
        go_ret3
        rw [hr.out.1, hr.out.2.1]
        exact ⟨_, _, vs, rfl, hv1, hv2.mono hBw.out, Ext.trans e3w eq⟩
end Go.Proofs.Ytpiplhgiphndeaa
