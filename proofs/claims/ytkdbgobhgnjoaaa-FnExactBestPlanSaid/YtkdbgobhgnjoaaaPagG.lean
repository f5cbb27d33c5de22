/- BestPlan, as the reference finds it. -/
import Derived.Test.YtkdbgobhgnjoaaaPagF
namespace Go.Proofs.Ytkdbgobhgnjoaaa
open Go.RowKit

def bpR (k n : Int) (X : List Int) : List Int := if pagB k n X = true then planL k.toNat X X.length else []
theorem bpR_false {k n : Int} {X : List Int} (h : pagB k n X = false) : bpR k n X = [] := by simp [bpR, h]
theorem bpR_true {k n : Int} {X : List Int} (h : pagB k n X = true) : bpR k n X = planL k.toNat X X.length := by simp [bpR, h]
theorem pickP_in {k : Nat} {X : List Int} {d S p : Nat} : pickP k X d S p = -1 ∨ ∃ q : Nat, pickP k X d S p = q ∧ q < 8 ∧ S.testBit q = true := by
  unfold pickP
  split
  · exact .inl rfl
  · cases h : (choF k 8 S).find? fun x => decide (1 + lstT k X d (aftS S x p) = lstT k X (d + 1) S) with
    | none => exact .inl rfl
    | some x =>
      have hx := List.mem_of_find?_eq_some h
      rcases mem_choF hx with ⟨h1, _⟩ | h1
      · exact .inl h1
      · exact .inr h1
theorem planL_in {k : Nat} {X : List Int} : ∀ {i : Nat}, ∀ x ∈ planL k X i, -1 ≤ x ∧ x < 8
  | 0, x, h => by simp [planL] at h
  | i + 1, x, h => by
    rw [planL] at h
    rcases List.mem_append.1 h with h | h
    · exact planL_in (i := i) x h
    · rw [List.mem_singleton] at h
      subst h
      rcases pickP_in (k := k) (X := X) (d := X.length - (i + 1)) (S := setL k X i) (p := (nth X i).toNat) with h | ⟨q, h, hq, _⟩ <;> rw [h] <;> omega
theorem bpR_i64 {k n : Int} {X : List Int} : ∀ x ∈ bpR k n X, I64 x := by
  intro x h
  unfold bpR at h
  split at h
  · have := planL_in x h
    unfold I64; omega
  · simp at h
theorem bpR_len {k n : Int} {X : List Int} : (bpR k n X).length ≤ 4000000 := by
  unfold bpR
  split
  · rename_i h
    rw [planL_length]
    have := pagB_in h
    omega
  · simp
/-- where the reference stops among what may leave -/
theorem spec_find {k n d S : Nat} {X : List Int} (hn : n ≤ 8) (h0 : 0 < k) (hX : pagesB n X) (hd : d + 1 ≤ X.length) (hS : S < 2 ^ n) (hk : szS S ≤ k) :
    ∃ j, j < (choS k n S (nth X (X.length - (d + 1))).toNat).length ∧ nth (choS k n S (nth X (X.length - (d + 1))).toNat) j = pickP k X d S (nth X (X.length - (d + 1))).toNat ∧
      ∀ i, i ≤ j → (fewT k n X d (aftS S (nth (choS k n S (nth X (X.length - (d + 1))).toNat) i) (nth X (X.length - (d + 1))).toNat) + (if S.testBit (nth X (X.length - (d + 1))).toNat then 0 else 1) ≤ fewT k n X (d + 1) S ↔ i = j) := by
  cases hb : S.testBit (nth X (X.length - (d + 1))).toNat with
  | true =>
    have hr := hX (X.length - (d + 1)) (by omega)
    have hc : choS k n S (nth X (X.length - (d + 1))).toNat = [-1] := by unfold choS; rw [hb]; rfl
    have h1 := few_lst hn h0 hX (d := d) (by omega) hS hk
    have h2 := few_lst hn h0 hX (d := d + 1) hd hS hk
    refine ⟨0, by rw [hc]; simp, by rw [hc, (pick_hit (n := n) hb).2]; rfl, fun i hi => ?_⟩
    have hi0 : i = 0 := by omega
    subst hi0
    rw [hc]
    refine ⟨fun _ => rfl, fun _ => ?_⟩
    rw [show nth [(-1 : Int)] 0 = -1 from rfl, aft_hit hn hS (by omega) hb, h1.1, h2.1, lstT_hit hb]
    simp
  | false =>
    have hc : choS k n S (nth X (X.length - (d + 1))).toNat = choF k n S := by unfold choS; rw [hb]; rfl
    obtain ⟨_, j, h1, h2, _, h4⟩ := pick_miss hn h0 hX hd hS hk hb
    rw [hc]
    refine ⟨j, h1, h2.symm, fun i hi => ?_⟩
    simpa using h4 i hi
theorem row_full {K n : Nat} {X : List Int} {j : Nat} (hj : j < X.length + 1) : row (fwTab K n X 0 (2 ^ n)) j = fwPart K n X j (2 ^ n) := by
  rw [row_fwTab hj, if_neg (by omega)]
  by_cases h : j = 0
  · rw [if_pos h, h]
  · rw [if_neg h]

set_option maxHeartbeats 6400000 in
set_option maxRecDepth 100000 in
theorem specBP_any {vX : Value} {k n : Int} {X : List Int} {w0 w : World} [Ext w0 w] (_hk : I64 k) (_hn : I64 n) (hX : IsInts w0 vX X) :
    Calls Try.prog 7 #[.int .i64 k, .int .i64 n, vX] w fun e w' => ∃ d0 m0, e = .returned (.tuple #[.slice d0 (bpR k n X).length m0, .bool (pagB k n X)]) ∧ IsInts w' (.slice d0 (bpR k n X).length m0) (bpR k n X) ∧ Ext w w' := by
  obtain ⟨aX, cX, rfl, lX⟩ := hX.form
  cases hB0 : pagB k n X with
  | false =>
    have hr := hid (bpR_false hB0)
    replace hB0 := hid hB0
    go_enter Try.func7, Try.ntmps7
    go_wp2_with fail
    refine (l5Takes_any (w0 := w0) hX).mono ?_; rw [hB0.out]; rintro e w1 ⟨rfl, hb1⟩
    go_wp2_with fail
    go_ret2
    rw [hr.out]
    exact ⟨_, _, rfl, (Own.litInts (xs := []) (B := w1.heap.size) (Nat.le_refl _) rfl rfl (Nat.zero_le _) rfl).reads (Nat.zero_le _) (by simp), Ext.trans hb1 inferInstance⟩
  | true =>
    have hin := pagB_in hB0
    have hr := hid (bpR_true hB0)
    replace hB0 := hid hB0
    obtain ⟨⟨hk1, hk6⟩, ⟨hn1, hn8⟩, hl60, hP⟩ := hin
    obtain ⟨K, rfl⟩ := Int.eq_ofNat_of_zero_le (show 0 ≤ k by omega)
    obtain ⟨n, rfl⟩ := Int.eq_ofNat_of_zero_le (show 0 ≤ n by omega)
    rw [Int.toNat_natCast] at hP hr
    have hK0 : 0 < K := by omega
    have hn : n ≤ 8 := by omega
    have hpow := pow_le_256 hn
    obtain ⟨N, hN⟩ : ∃ N, N = 2 ^ n := ⟨_, rfl⟩
    rw [← hN] at hpow
    have hN' := hid hN
    clear hN
    replace hP := hid hP
    go_enter Try.func7, Try.ntmps7
    go_wp2_with fail
    refine (l5Takes_any (w0 := w0) hX).mono ?_; rw [hB0.out]; rintro e w1 ⟨rfl, hb1⟩
    have e01 : Ext w0 w1 := Ext.trans ‹Ext w0 w› hb1
    go_wp2_with fail
    refine (l5Fewest_any (w0 := w0) (w := w1) hK0 (by omega) hn hl60 hP.out hX).mono ?_
    rintro e w2 ⟨vs, hvs, rfl, hownt, he2⟩
    rw [← hN'.out] at hownt
    obtain ⟨Bt, hBt⟩ : ∃ B, B = w1.heap.size := ⟨_, rfl⟩
    rw [← hBt] at hownt ⊢
    replace hBt := hid hBt
    replace hvs := hid hvs
    have e12 : Ext w w2 := Ext.trans hb1 he2
    go_upto_region 4 with fail
    have own0 : Own (w2.alloc (.cells #[] 3)) w2.heap.size [intRowOf 3 (.slice (some ⟨w2.heap.size, 0, none⟩) 0 0) (planL K X 0)] := by
      rw [show planL K X 0 = [] from rfl]
      exact Own.litInts (xs := []) (Nat.le_refl _) rfl rfl (Nat.zero_le _) rfl
    have eW : Ext w2 (w2.alloc (.cells #[] 3)) := inferInstance
    generalize w2.alloc (.cells #[] 3) = W at *
    go_wp2
    go_loopw [9, 10, 11] (fun v s i wr => ∃ i' : Nat, i' ≤ X.length ∧ i = .int .i64 i' ∧ s = .int .i64 (setL K X i') ∧ Own wr w2.heap.size [intRowOf 3 v (planL K X i')] ∧ Below w2.heap.size W wr) (fun _ _ i _ => X.length - (intOf i).toNat)
    case atStart => exact ⟨0, by omega, rfl, rfl, own0, Below.refl _ _⟩
    case round =>
      obtain ⟨i, hi, rfl, rfl, hownp, hbp⟩ := hrel
      obtain ⟨vd, vm, rfl⟩ := hownp.formInts
      obtain ⟨wq, rfl⟩ : ∃ x : World, x = wr := ⟨_, rfl⟩
      have e2q : Ext w2 wq := ⟨eW.below.trans hbp⟩
      have hBq : w2.heap.size ≤ wq.heap.size := e2q.size
      by_cases hlt : i < X.length
      · have e0q : Ext w0 wq := Ext.trans e01 (Ext.trans he2 e2q)
        obtain ⟨b3, o3, rfl, hc3⟩ := hX.at (w' := wq) hlt
        have hpk := hid (hP.out i hlt)
        obtain ⟨p, hp⟩ := Int.eq_ofNat_of_zero_le hpk.out.1
        have hpn : p < n := by have := hpk.out.2; omega
        have hp8 : p < 8 := by omega
        rw [hp] at hc3
        have hpe := hid (show (nth X i).toNat = p by rw [hp]; rfl)
        have hsin := setL_in (k := K) hn hK0 hP.out (i := i) (by omega)
        rw [← hN'.out] at hsin
        obtain ⟨S, hS⟩ : ∃ S, S = setL K X i := ⟨_, rfl⟩
        rw [← hS] at hsin ⊢
        have hSe := hid hS.symm
        clear hS
        obtain ⟨hSN, hSK⟩ := hsin
        have hS256 : S < 256 := by omega
        have hdx : X.length - (X.length - (i + 1) + 1) = i := by omega
        obtain ⟨j0, hj0, hpick, hfind⟩ := spec_find (d := X.length - (i + 1)) hn hK0 hP.out (by omega) (by rw [← hN'.out]; exact hSN) hSK
        rw [hdx, hpe.out] at hj0 hpick hfind
        have hdd := hid (show X.length - i = X.length - (i + 1) + 1 by omega)
        clear hdx
        have hrow1 := hid (show row (fwTab K n X 0 N) (i + 1) = fwPart K n X (i + 1) N by rw [hN'.out]; exact row_full (by omega))
        have hrow0 := hid (show row (fwTab K n X 0 N) i = fwPart K n X i N by rw [hN'.out]; exact row_full (by omega))
        have hrl1 := hid (show (row (fwTab K n X 0 N) (i + 1)).length = N by rw [hrow1.out, fwPart_length])
        have hrl0 := hid (show (row (fwTab K n X 0 N) i).length = N by rw [hrow0.out, fwPart_length])
        obtain ⟨gk1, mk1, hu1, _⟩ := tb_blk hownt hvs.out (fwTab_length _ _ _ _ _) (j := i + 1) (by omega) (by rw [hrl1.out]; omega)
        obtain ⟨gk0, mk0, hu0, _⟩ := tb_blk hownt hvs.out (fwTab_length _ _ _ _ _) (j := i) (by omega) (by rw [hrl0.out]; omega)
        rw [hrl1.out] at hu1
        rw [hrl0.out] at hu0
        replace hu1 := hid hu1
        replace hu0 := hid hu0
        go_wp2_with fail
        refine (l5Choices_any (k := K) hn hS256 hp8 wq).mono ?_
        rintro e w3 ⟨gc, mc, rfl, hcho, he3⟩
        obtain ⟨C, hC⟩ : ∃ C, C = choS K n S p := ⟨_, rfl⟩
        have hcl := choS_length (k := K) (S := S) (p := p) hn
        rw [← hC] at hcho hcl hj0 hpick hfind ⊢
        have hCid := hid hC
        clear hC
        replace hpick := hid hpick
        replace hfind := hid hfind
        have hc3' := he3.cell hc3
        cases hb : S.testBit p with
        | true =>
          have hflt := hid (show (if S.testBit p = true then (0 : Int) else 1) = 0 by rw [hb]; rfl)
          replace hb := hid hb
          go_wp2_with fail
          refine (l5In_any hS256 hp8 _).mono ?_; rw [hb.out]; rintro e w4 ⟨rfl, hx4⟩
          have he4 : Ext wq w4 := Ext.trans he3 hx4
          have hc4 := hx4.cell hc3'
          replace hcho := hcho.ext (w' := w4)
          replace hownt : Own w4 Bt (tbRows Bt (X.length + 1) vs (fwTab K n X 0 N)) := hownt.ext (w' := w4) (e := Ext.trans e2q he4)
          have hT1 := (tb_cell hownt hvs.out hu1.out).1
          have hT0 := (tb_cell hownt hvs.out hu0.out).1
          have he45 := Ext.refl w4
          clear hx4 hc3 hc3' he3
          go_wp2
          go_loopw [14] (fun q wr => ∃ j : Nat, j ≤ j0 ∧ q = .int .i64 j ∧ Ext w4 wr) (fun q _ => j0 - (intOf q).toNat)
          case atStart => exact ⟨0, by omega, rfl, he45⟩
          case round =>
            obtain ⟨j, hj, rfl, he6⟩ := hrel
            obtain ⟨w6, rfl⟩ : ∃ x : World, x = wr := ⟨_, rfl⟩
            have hjC : j < C.length := by omega
            obtain ⟨g, rfl⟩ := hcho.at (j := j) hjC
            have zC : w6.cell? ⟨g, j, none⟩ = some (.int .i64 (nth C j)) := by
              rw [(hcho.ext (w' := w6)).cellAt (w' := w6) (j := j) hjC]
              simp [nth, hjC]
            have hmem : nth C j ∈ choS K n S p := by rw [← hCid.out]; exact nth_mem hjC
            have hxp := choS_page hn hmem
            have hxi := choS_i64 hn _ hmem
            have zX := he6.cell hc4
            have zT1 := he6.cell hT1
            have zT0 := he6.cell hT0
            have hS' : aftS S (nth C j) p < N := by rw [hN'.out]; exact aft_lt (by rw [← hN'.out]; exact hSN) hpn
            have zR1 := he6.cell (tb_at hownt (fwTab_length _ _ _ _ _) (j := i + 1) (by omega) hu1.out hrl1.out hS').1
            have zR0 := he6.cell (tb_at hownt (fwTab_length _ _ _ _ _) (j := i) (by omega) hu0.out hrl0.out hSN).1
            rw [hrow1.out, nth_fwPart hS'] at zR1
            rw [hrow0.out, nth_fwPart hSN, hdd.out] at zR0
            have hf1 := few_in (k := K) (n := n) (X := X) hn hK0 hP.out (d := X.length - (i + 1)) (S := aftS S (nth C j) p) (by omega) (by rw [← hN'.out]; exact hS')
            have hf0 := few_in (k := K) (n := n) (X := X) hn hK0 hP.out (d := X.length - (i + 1) + 1) (S := S) (by omega) (by rw [← hN'.out]; exact hSN)
            have hiff := hid (hfind.out j hj)
            obtain ⟨f1, hf1'⟩ : ∃ f, f = fewT K n X (X.length - (i + 1)) (aftS S (nth C j) p) := ⟨_, rfl⟩
            obtain ⟨f0, hf0'⟩ : ∃ f, f = fewT K n X (X.length - (i + 1) + 1) S := ⟨_, rfl⟩
            rw [← hf1'] at zR1 hf1 hiff
            rw [← hf0'] at zR0 hf0 hiff
            obtain ⟨S', hS0⟩ : ∃ q, q = aftS S (nth C j) p := ⟨_, rfl⟩
            obtain ⟨xj, hxj⟩ : ∃ q, q = nth C j := ⟨_, rfl⟩
            rw [← hS0] at zR1 hS'
            rw [← hxj] at zC hxp hxi
            have hSid := hid (show aftS S xj p = S' by rw [hS0, hxj])
            clear hf1' hf0' hS0 hmem
            replace hxj := hid hxj
            go_upto_region 11 with fail
            have ed : Ext w6 (w6).drew := inferInstance
            refine wp_region_held_drew (S := fun w' => Ext w6 w' ∧ w'.cell? ⟨g, j, none⟩ = some (.int .i64 xj) ∧ w'.cell? ⟨b3, o3 + i, none⟩ = some (.int .i64 p) ∧ w'.cell? ⟨Bt, i + 1, none⟩ = some (.slice (some ⟨gk1, 0, none⟩) N mk1) ∧ w'.cell? ⟨gk1, S', none⟩ = some (.int .i64 f1) ∧ w'.cell? ⟨Bt, i, none⟩ = some (.slice (some ⟨gk0, 0, none⟩) N mk0) ∧ w'.cell? ⟨gk0, S, none⟩ = some (.int .i64 f0)) (by kernel_rfl) ⟨ed, ed.cell zC, ed.cell zX, ed.cell zT1, ed.cell zR1, ed.cell zT0, ed.cell zR0⟩ (fun hHeld0 => ?_)
            refine wpAnyH_take (i := 0) (v := .slice (some ⟨Bt, 0, none⟩) (X.length + 1) (X.length + 1)) rfl (by kernel_rfl) (by kernel_rfl) (by kernel_rfl) (fun _ _ _ h => h) (Or.inl ⟨by rfl, by intro wx hx; go_simp⟩) (by assumption) ?_
            try simp only [List.getElem_toArray, List.getElem_cons_zero, Act.put, List.setIfInBounds_toArray, List.set_cons_zero, List.set_cons_succ]
            refine wpAnyH_take (i := 1) (v := .int .i64 i) rfl (by kernel_rfl) (by kernel_rfl) (by kernel_rfl) (fun _ _ _ h => h) (Or.inl ⟨by rfl, by intro wx hx; go_simp⟩) (by assumption) ?_
            try simp only [List.getElem_toArray, List.getElem_cons_succ, List.getElem_cons_zero, Act.put, List.setIfInBounds_toArray, List.set_cons_zero, List.set_cons_succ]
            refine wpAnyH_take (i := 2) (v := .int .i64 ((i : Int) + 1)) rfl (by kernel_rfl) (by kernel_rfl) (by kernel_rfl) (fun _ _ _ h => h) (Or.inl ⟨by rfl, by intro wx hx; go_simp; exact IntWalk.i64_in _ (by omega)⟩) (by assumption) ?_
            try simp only [List.getElem_toArray, List.getElem_cons_succ, List.getElem_cons_zero, Act.put, List.setIfInBounds_toArray, List.set_cons_zero, List.set_cons_succ]
            refine wpAnyH_take (i := 3) (v := .pointer (some ⟨Bt, i + 1, none⟩)) rfl (by kernel_rfl) (by kernel_rfl) (by kernel_rfl) (fun _ _ _ h => h) (Or.inl ⟨by rfl, by intro wx hx; go_simp; intro hcc; omega⟩) (by assumption) ?_
            try simp only [List.getElem_toArray, List.getElem_cons_succ, List.getElem_cons_zero, Act.put, List.setIfInBounds_toArray, List.set_cons_zero, List.set_cons_succ]
            refine wpAnyH_take (i := 4) (v := .slice (some ⟨gk1, 0, none⟩) N mk1) rfl (by kernel_rfl) (by kernel_rfl) (by kernel_rfl) (fun _ _ _ h => h) (Or.inl ⟨by rfl, by intro wx hx; obtain ⟨_, _, _, _, _, _, _⟩ := hx; go_simp⟩) (by assumption) ?_
            try simp only [List.getElem_toArray, List.getElem_cons_succ, List.getElem_cons_zero, Act.put, List.setIfInBounds_toArray, List.set_cons_zero, List.set_cons_succ]
            refine wpAnyH_take (i := 5) (v := .int .i64 S) rfl (by kernel_rfl) (by kernel_rfl) (by kernel_rfl) (fun _ _ _ h => h) (Or.inl ⟨by rfl, by intro wx hx; go_simp⟩) (by assumption) ?_
            try simp only [List.getElem_toArray, List.getElem_cons_succ, List.getElem_cons_zero, Act.put, List.setIfInBounds_toArray, List.set_cons_zero, List.set_cons_succ]
            refine wpAnyH_take (i := 6) (v := .slice (some ⟨b3, o3, none⟩) X.length cX) rfl (by kernel_rfl) (by kernel_rfl) (by kernel_rfl) (fun _ _ _ h => h) (Or.inl ⟨by rfl, by intro wx hx; go_simp⟩) (by assumption) ?_
            try simp only [List.getElem_toArray, List.getElem_cons_succ, List.getElem_cons_zero, Act.put, List.setIfInBounds_toArray, List.set_cons_zero, List.set_cons_succ]
            refine wpAnyH_take (i := 7) (v := .int .i64 i) rfl (by kernel_rfl) (by kernel_rfl) (by kernel_rfl) (fun _ _ _ h => h) (Or.inl ⟨by rfl, by intro wx hx; go_simp⟩) (by assumption) ?_
            try simp only [List.getElem_toArray, List.getElem_cons_succ, List.getElem_cons_zero, Act.put, List.setIfInBounds_toArray, List.set_cons_zero, List.set_cons_succ]
            refine wpAnyH_take (i := 8) (v := .pointer (some ⟨b3, o3 + i, none⟩)) rfl (by kernel_rfl) (by kernel_rfl) (by kernel_rfl) (fun _ _ _ h => h) (Or.inl ⟨by rfl, by intro wx hx; go_simp⟩) (by assumption) ?_
            try simp only [List.getElem_toArray, List.getElem_cons_succ, List.getElem_cons_zero, Act.put, List.setIfInBounds_toArray, List.set_cons_zero, List.set_cons_succ]
            refine wpAnyH_take (i := 9) (v := .int .i64 p) rfl (by kernel_rfl) (by kernel_rfl) (by kernel_rfl) (fun _ _ _ h => h) (Or.inl ⟨by rfl, by intro wx hx; obtain ⟨_, _, _, _, _, _, _⟩ := hx; go_simp⟩) (by assumption) ?_
            try simp only [List.getElem_toArray, List.getElem_cons_succ, List.getElem_cons_zero, Act.put, List.setIfInBounds_toArray, List.set_cons_zero, List.set_cons_succ]
            refine wpAnyH_take (i := 10) (v := .slice (some ⟨g, 0, none⟩) C.length mc) rfl (by kernel_rfl) (by kernel_rfl) (by kernel_rfl) (fun _ _ _ h => h) (Or.inl ⟨by rfl, by intro wx hx; go_simp⟩) (by assumption) ?_
            try simp only [List.getElem_toArray, List.getElem_cons_succ, List.getElem_cons_zero, Act.put, List.setIfInBounds_toArray, List.set_cons_zero, List.set_cons_succ]
            refine wpAnyH_take (i := 11) (v := .int .i64 j) rfl (by kernel_rfl) (by kernel_rfl) (by kernel_rfl) (fun _ _ _ h => h) (Or.inl ⟨by rfl, by intro wx hx; go_simp⟩) (by assumption) ?_
            try simp only [List.getElem_toArray, List.getElem_cons_succ, List.getElem_cons_zero, Act.put, List.setIfInBounds_toArray, List.set_cons_zero, List.set_cons_succ]
            refine wpAnyH_take (i := 12) (v := .pointer (some ⟨g, j, none⟩)) rfl (by kernel_rfl) (by kernel_rfl) (by kernel_rfl) (fun _ _ _ h => h) (Or.inl ⟨by rfl, by intro wx hx; go_simp⟩) (by assumption) ?_
            try simp only [List.getElem_toArray, List.getElem_cons_succ, List.getElem_cons_zero, Act.put, List.setIfInBounds_toArray, List.set_cons_zero, List.set_cons_succ]
            refine wpAnyH_take (i := 13) (v := .int .i64 xj) rfl (by kernel_rfl) (by kernel_rfl) (by kernel_rfl) (fun _ _ _ h => h) (Or.inl ⟨by rfl, by intro wx hx; obtain ⟨_, _, _, _, _, _, _⟩ := hx; go_simp⟩) (by assumption) ?_
            try simp only [List.getElem_toArray, List.getElem_cons_succ, List.getElem_cons_zero, Act.put, List.setIfInBounds_toArray, List.set_cons_zero, List.set_cons_succ]
            refine wpAnyH_take (i := 17) (v := .int .i64 0) rfl (by kernel_rfl) (by kernel_rfl) (by kernel_rfl) (fun _ _ _ h => h) (Or.inl ⟨by rfl, by intro wx hx; go_simp⟩) (by assumption) ?_
            try simp only [List.getElem_toArray, List.getElem_cons_succ, List.getElem_cons_zero, Act.put, List.setIfInBounds_toArray, List.set_cons_zero, List.set_cons_succ]
            refine wpAnyH_take (i := 19) (v := .slice (some ⟨Bt, 0, none⟩) (X.length + 1) (X.length + 1)) rfl (by kernel_rfl) (by kernel_rfl) (by kernel_rfl) (fun _ _ _ h => h) (Or.inl ⟨by rfl, by intro wx hx; go_simp⟩) (by assumption) ?_
            try simp only [List.getElem_toArray, List.getElem_cons_succ, List.getElem_cons_zero, Act.put, List.setIfInBounds_toArray, List.set_cons_zero, List.set_cons_succ]
            refine wpAnyH_take (i := 20) (v := .int .i64 i) rfl (by kernel_rfl) (by kernel_rfl) (by kernel_rfl) (fun _ _ _ h => h) (Or.inl ⟨by rfl, by intro wx hx; go_simp⟩) (by assumption) ?_
            try simp only [List.getElem_toArray, List.getElem_cons_succ, List.getElem_cons_zero, Act.put, List.setIfInBounds_toArray, List.set_cons_zero, List.set_cons_succ]
            refine wpAnyH_take (i := 21) (v := .pointer (some ⟨Bt, i, none⟩)) rfl (by kernel_rfl) (by kernel_rfl) (by kernel_rfl) (fun _ _ _ h => h) (Or.inl ⟨by rfl, by intro wx hx; go_simp; intro hcc; omega⟩) (by assumption) ?_
            try simp only [List.getElem_toArray, List.getElem_cons_succ, List.getElem_cons_zero, Act.put, List.setIfInBounds_toArray, List.set_cons_zero, List.set_cons_succ]
            refine wpAnyH_take (i := 22) (v := .slice (some ⟨gk0, 0, none⟩) N mk0) rfl (by kernel_rfl) (by kernel_rfl) (by kernel_rfl) (fun _ _ _ h => h) (Or.inl ⟨by rfl, by intro wx hx; obtain ⟨_, _, _, _, _, _, _⟩ := hx; go_simp⟩) (by assumption) ?_
            try simp only [List.getElem_toArray, List.getElem_cons_succ, List.getElem_cons_zero, Act.put, List.setIfInBounds_toArray, List.set_cons_zero, List.set_cons_succ]
            refine wpAnyH_take (i := 23) (v := .int .i64 S) rfl (by kernel_rfl) (by kernel_rfl) (by kernel_rfl) (fun _ _ _ h => h) (Or.inl ⟨by rfl, by intro wx hx; go_simp⟩) (by assumption) ?_
            try simp only [List.getElem_toArray, List.getElem_cons_succ, List.getElem_cons_zero, Act.put, List.setIfInBounds_toArray, List.set_cons_zero, List.set_cons_succ]
            refine wpAnyH_take (i := 24) (v := .pointer (some ⟨gk0, S, none⟩)) rfl (by kernel_rfl) (by kernel_rfl) (by kernel_rfl) (fun _ _ _ h => h) (Or.inl ⟨by rfl, by intro wx hx; go_simp⟩) (by assumption) ?_
            try simp only [List.getElem_toArray, List.getElem_cons_succ, List.getElem_cons_zero, Act.put, List.setIfInBounds_toArray, List.set_cons_zero, List.set_cons_succ]
            refine wpAnyH_take (i := 25) (v := .int .i64 f0) rfl (by kernel_rfl) (by kernel_rfl) (by kernel_rfl) (fun _ _ _ h => h) (Or.inl ⟨by rfl, by intro wx hx; obtain ⟨_, _, _, _, _, _, _⟩ := hx; go_simp⟩) (by assumption) ?_
            try simp only [List.getElem_toArray, List.getElem_cons_succ, List.getElem_cons_zero, Act.put, List.setIfInBounds_toArray, List.set_cons_zero, List.set_cons_succ]
            refine wpAnyH_ready (rs := [14]) (by kernel_rfl) (by simp) ?_
            refine AllReadyH.cons rfl (fun K hK => ?_) AllReadyH.nil
            go_simp
            go_at_call 33
            refine (l5After_any hS256 hp8 hxp _).mono ?_
            rw [hSid.out]
            rintro e w8 ⟨rfl, hb8⟩
            go_wp2_with fail
            have er1 : Ext w6 w8 := Ext.trans ed hb8
            refine hK.out _ _ ⟨er1, er1.cell zC, er1.cell zX, er1.cell zT1, er1.cell zR1, er1.cell zT0, er1.cell zR0⟩ (fun hHeld1 => ?_)
            clear hK K hHeld0
            try simp only [List.getElem_toArray, List.getElem_cons_succ, List.getElem_cons_zero, Act.put, List.setIfInBounds_toArray, List.set_cons_zero, List.set_cons_succ]
            refine wpAnyH_take (i := 15) (v := .pointer (some ⟨gk1, S', none⟩)) rfl (by kernel_rfl) (by kernel_rfl) (by kernel_rfl) (fun _ _ _ h => h) (Or.inl ⟨by rfl, by intro wx hx; go_simp⟩) (by assumption) ?_
            try simp only [List.getElem_toArray, List.getElem_cons_succ, List.getElem_cons_zero, Act.put, List.setIfInBounds_toArray, List.set_cons_zero, List.set_cons_succ]
            refine wpAnyH_take (i := 16) (v := .int .i64 f1) rfl (by kernel_rfl) (by kernel_rfl) (by kernel_rfl) (fun _ _ _ h => h) (Or.inl ⟨by rfl, by intro wx hx; obtain ⟨_, _, _, _, _, _, _⟩ := hx; go_simp⟩) (by assumption) ?_
            try simp only [List.getElem_toArray, List.getElem_cons_succ, List.getElem_cons_zero, Act.put, List.setIfInBounds_toArray, List.set_cons_zero, List.set_cons_succ]
            refine wpAnyH_take (i := 18) (v := .int .i64 (f1 + 0)) rfl (by kernel_rfl) (by kernel_rfl) (by kernel_rfl) (fun _ _ _ h => h) (Or.inl ⟨by rfl, by intro wx hx; go_simp; exact IntWalk.i64_in _ (by omega)⟩) (by assumption) ?_
            try simp only [List.getElem_toArray, List.getElem_cons_succ, List.getElem_cons_zero, Act.put, List.setIfInBounds_toArray, List.set_cons_zero, List.set_cons_succ]
            refine wpAnyH_take (i := 26) (v := .bool (decide (f0 < f1 + 0))) rfl (by kernel_rfl) (by kernel_rfl) (by kernel_rfl) (fun _ _ _ h => h) (Or.inl ⟨by rfl, by intro wx hx; go_simp⟩) (by assumption) ?_
            try simp only [List.getElem_toArray, List.getElem_cons_succ, List.getElem_cons_zero, Act.put, List.setIfInBounds_toArray, List.set_cons_zero, List.set_cons_succ]
            refine wpAnyH_done (by kernel_rfl) ?_ _
            have e48 : Ext w4 w8 := Ext.trans he6 er1
            rw [hflt.out] at hiff
            by_cases hjj : j = j0
            · have hge : ¬ f0 < f1 + 0 := by have := hiff.out.2 hjj; omega
              have qC := er1.cell zC
              have qX := er1.cell zX
              have hxe := hid (show pickP K X (X.length - (i + 1)) (setL K X i) (nth X i).toNat = xj by rw [hSe.out, hpe.out, hxj.out, hjj]; exact hpick.out.symm)
              clear zC zX zT1 zT0 zR1 zR0 hHeld1 er1
              replace hjj := hid hjj
              go_upto_region 13 with fail
              have ed : Ext w8 (w8).drew := inferInstance
              refine wp_region_held_drew (S := fun w' => Ext w8 w' ∧ w'.cell? ⟨g, j, none⟩ = some (.int .i64 xj) ∧ w'.cell? ⟨b3, o3 + i, none⟩ = some (.int .i64 p)) (by kernel_rfl) ⟨ed, ed.cell qC, ed.cell qX⟩ (fun hHeld0 => ?_)
              refine wpAnyH_take (i := 0) (v := .int .i64 S) rfl (by kernel_rfl) (by kernel_rfl) (by kernel_rfl) (fun _ _ _ h => h) (Or.inl ⟨by rfl, by intro wx hx; go_simp⟩) (by assumption) ?_
              try simp only [List.getElem_toArray, List.getElem_cons_zero, Act.put, List.setIfInBounds_toArray, List.set_cons_zero, List.set_cons_succ]
              refine wpAnyH_take (i := 1) (v := .slice (some ⟨b3, o3, none⟩) X.length cX) rfl (by kernel_rfl) (by kernel_rfl) (by kernel_rfl) (fun _ _ _ h => h) (Or.inl ⟨by rfl, by intro wx hx; go_simp⟩) (by assumption) ?_
              try simp only [List.getElem_toArray, List.getElem_cons_succ, List.getElem_cons_zero, Act.put, List.setIfInBounds_toArray, List.set_cons_zero, List.set_cons_succ]
              refine wpAnyH_take (i := 2) (v := .int .i64 i) rfl (by kernel_rfl) (by kernel_rfl) (by kernel_rfl) (fun _ _ _ h => h) (Or.inl ⟨by rfl, by intro wx hx; go_simp⟩) (by assumption) ?_
              try simp only [List.getElem_toArray, List.getElem_cons_succ, List.getElem_cons_zero, Act.put, List.setIfInBounds_toArray, List.set_cons_zero, List.set_cons_succ]
              refine wpAnyH_take (i := 3) (v := .pointer (some ⟨b3, o3 + i, none⟩)) rfl (by kernel_rfl) (by kernel_rfl) (by kernel_rfl) (fun _ _ _ h => h) (Or.inl ⟨by rfl, by intro wx hx; go_simp⟩) (by assumption) ?_
              try simp only [List.getElem_toArray, List.getElem_cons_succ, List.getElem_cons_zero, Act.put, List.setIfInBounds_toArray, List.set_cons_zero, List.set_cons_succ]
              refine wpAnyH_take (i := 4) (v := .int .i64 p) rfl (by kernel_rfl) (by kernel_rfl) (by kernel_rfl) (fun _ _ _ h => h) (Or.inl ⟨by rfl, by intro wx hx; obtain ⟨_, _, _⟩ := hx; go_simp⟩) (by assumption) ?_
              try simp only [List.getElem_toArray, List.getElem_cons_succ, List.getElem_cons_zero, Act.put, List.setIfInBounds_toArray, List.set_cons_zero, List.set_cons_succ]
              refine wpAnyH_take (i := 5) (v := .slice (some ⟨g, 0, none⟩) C.length mc) rfl (by kernel_rfl) (by kernel_rfl) (by kernel_rfl) (fun _ _ _ h => h) (Or.inl ⟨by rfl, by intro wx hx; go_simp⟩) (by assumption) ?_
              try simp only [List.getElem_toArray, List.getElem_cons_succ, List.getElem_cons_zero, Act.put, List.setIfInBounds_toArray, List.set_cons_zero, List.set_cons_succ]
              refine wpAnyH_take (i := 6) (v := .int .i64 j) rfl (by kernel_rfl) (by kernel_rfl) (by kernel_rfl) (fun _ _ _ h => h) (Or.inl ⟨by rfl, by intro wx hx; go_simp⟩) (by assumption) ?_
              try simp only [List.getElem_toArray, List.getElem_cons_succ, List.getElem_cons_zero, Act.put, List.setIfInBounds_toArray, List.set_cons_zero, List.set_cons_succ]
              refine wpAnyH_take (i := 7) (v := .pointer (some ⟨g, j, none⟩)) rfl (by kernel_rfl) (by kernel_rfl) (by kernel_rfl) (fun _ _ _ h => h) (Or.inl ⟨by rfl, by intro wx hx; go_simp⟩) (by assumption) ?_
              try simp only [List.getElem_toArray, List.getElem_cons_succ, List.getElem_cons_zero, Act.put, List.setIfInBounds_toArray, List.set_cons_zero, List.set_cons_succ]
              refine wpAnyH_take (i := 8) (v := .int .i64 xj) rfl (by kernel_rfl) (by kernel_rfl) (by kernel_rfl) (fun _ _ _ h => h) (Or.inl ⟨by rfl, by intro wx hx; obtain ⟨_, _, _⟩ := hx; go_simp⟩) (by assumption) ?_
              try simp only [List.getElem_toArray, List.getElem_cons_succ, List.getElem_cons_zero, Act.put, List.setIfInBounds_toArray, List.set_cons_zero, List.set_cons_succ]
              refine wpAnyH_ready (rs := [9]) (by kernel_rfl) (by simp) ?_
              refine AllReadyH.cons rfl (fun K hK => ?_) AllReadyH.nil
              go_simp
              go_at_call 33
              refine (l5After_any hS256 hp8 hxp _).mono ?_
              rw [hSid.out]
              rintro e w9 ⟨rfl, hb9⟩
              go_wp2_with fail
              have er1 : Ext w8 w9 := Ext.trans ed hb9
              refine hK.out _ _ ⟨er1, er1.cell qC, er1.cell qX⟩ (fun hHeld1 => ?_)
              clear hK K hHeld0
              try simp only [List.getElem_toArray, List.getElem_cons_succ, List.getElem_cons_zero, Act.put, List.setIfInBounds_toArray, List.set_cons_zero, List.set_cons_succ]
              refine wpAnyH_take (i := 10) (v := .int .i64 S') rfl (by kernel_rfl) (by kernel_rfl) (by kernel_rfl) (fun _ _ _ h => h) (Or.inl ⟨by rfl, by intro wx hx; go_simp⟩) (by assumption) ?_
              try simp only [List.getElem_toArray, List.getElem_cons_succ, List.getElem_cons_zero, Act.put, List.setIfInBounds_toArray, List.set_cons_zero, List.set_cons_succ]
              refine wpAnyH_done (by kernel_rfl) ?_ _
              have rC := er1.cell qC
              have e49 : Ext w4 w9 := Ext.trans e48 er1
              have hown9 : Own w9 w2.heap.size [intRowOf 3 (.slice vd (planL K X i).length vm) (planL K X i)] := hownp.ext (w' := w9) (e := Ext.trans he4 e49)
              have hB9 : w2.heap.size ≤ w9.heap.size := Nat.le_trans hBq (Ext.trans he4 e49).size
              have hb9' : Below w2.heap.size W w9 := hbp.trans ((Ext.trans he4 e49).below.mono hBq)
              have hlp := hid (planL_length K X i)
              have hpls := hid (show planL K X (i + 1) = planL K X i ++ [xj] by rw [planL, hxe.out])
              have hsl := hid (show setL K X (i + 1) = S' by rw [setL, ← hSid.out, hxe.out, hSe.out, hpe.out])
              go_wp2_with (at_builtin; refine wpList_append1 rfl _ _ _ rfl elemInt rfl hown9 hB9 rfl rfl (by have := hlp.out; omega) (by have := hlp.out; omega) ?_; intro v1 w10 ho hbe)
              go_roundw
              case rel => exact ⟨i + 1, by omega, by go_num, by rw [hsl.out], by rw [hpls.out]; exact own_snoc ho rfl, hb9'.trans hbe⟩
              case measure => simp [intOf]; omega
            · have hlt2 : f0 < f1 + 0 := by
                have : ¬ f1 + 0 ≤ f0 := fun h => hjj (hiff.out.1 h)
                omega
              go_wp2_with fail
              go_roundw
              case rel => exact ⟨j + 1, by omega, by go_num, e48⟩
              case measure => simp [intOf]; omega
        | false =>
          have hflt := hid (show (if S.testBit p = true then (0 : Int) else 1) = 1 by rw [hb]; rfl)
          replace hb := hid hb
          go_wp2_with fail
          refine (l5In_any hS256 hp8 _).mono ?_; rw [hb.out]; rintro e w4 ⟨rfl, hx4⟩
          have he4 : Ext wq w4 := Ext.trans he3 hx4
          have hc4 := hx4.cell hc3'
          replace hcho := hcho.ext (w' := w4)
          replace hownt : Own w4 Bt (tbRows Bt (X.length + 1) vs (fwTab K n X 0 N)) := hownt.ext (w' := w4) (e := Ext.trans e2q he4)
          have hT1 := (tb_cell hownt hvs.out hu1.out).1
          have hT0 := (tb_cell hownt hvs.out hu0.out).1
          have he45 := Ext.refl w4
          clear hx4 hc3 hc3' he3
          go_wp2
          go_loopw [14] (fun q wr => ∃ j : Nat, j ≤ j0 ∧ q = .int .i64 j ∧ Ext w4 wr) (fun q _ => j0 - (intOf q).toNat)
          case atStart => exact ⟨0, by omega, rfl, he45⟩
          case round =>
            obtain ⟨j, hj, rfl, he6⟩ := hrel
            obtain ⟨w6, rfl⟩ : ∃ x : World, x = wr := ⟨_, rfl⟩
            have hjC : j < C.length := by omega
            obtain ⟨g, rfl⟩ := hcho.at (j := j) hjC
            have zC : w6.cell? ⟨g, j, none⟩ = some (.int .i64 (nth C j)) := by
              rw [(hcho.ext (w' := w6)).cellAt (w' := w6) (j := j) hjC]
              simp [nth, hjC]
            have hmem : nth C j ∈ choS K n S p := by rw [← hCid.out]; exact nth_mem hjC
            have hxp := choS_page hn hmem
            have hxi := choS_i64 hn _ hmem
            have zX := he6.cell hc4
            have zT1 := he6.cell hT1
            have zT0 := he6.cell hT0
            have hS' : aftS S (nth C j) p < N := by rw [hN'.out]; exact aft_lt (by rw [← hN'.out]; exact hSN) hpn
            have zR1 := he6.cell (tb_at hownt (fwTab_length _ _ _ _ _) (j := i + 1) (by omega) hu1.out hrl1.out hS').1
            have zR0 := he6.cell (tb_at hownt (fwTab_length _ _ _ _ _) (j := i) (by omega) hu0.out hrl0.out hSN).1
            rw [hrow1.out, nth_fwPart hS'] at zR1
            rw [hrow0.out, nth_fwPart hSN, hdd.out] at zR0
            have hf1 := few_in (k := K) (n := n) (X := X) hn hK0 hP.out (d := X.length - (i + 1)) (S := aftS S (nth C j) p) (by omega) (by rw [← hN'.out]; exact hS')
            have hf0 := few_in (k := K) (n := n) (X := X) hn hK0 hP.out (d := X.length - (i + 1) + 1) (S := S) (by omega) (by rw [← hN'.out]; exact hSN)
            have hiff := hid (hfind.out j hj)
            obtain ⟨f1, hf1'⟩ : ∃ f, f = fewT K n X (X.length - (i + 1)) (aftS S (nth C j) p) := ⟨_, rfl⟩
            obtain ⟨f0, hf0'⟩ : ∃ f, f = fewT K n X (X.length - (i + 1) + 1) S := ⟨_, rfl⟩
            rw [← hf1'] at zR1 hf1 hiff
            rw [← hf0'] at zR0 hf0 hiff
            obtain ⟨S', hS0⟩ : ∃ q, q = aftS S (nth C j) p := ⟨_, rfl⟩
            obtain ⟨xj, hxj⟩ : ∃ q, q = nth C j := ⟨_, rfl⟩
            rw [← hS0] at zR1 hS'
            rw [← hxj] at zC hxp hxi
            have hSid := hid (show aftS S xj p = S' by rw [hS0, hxj])
            clear hf1' hf0' hS0 hmem
            replace hxj := hid hxj
            go_upto_region 11 with fail
            have ed : Ext w6 (w6).drew := inferInstance
            refine wp_region_held_drew (S := fun w' => Ext w6 w' ∧ w'.cell? ⟨g, j, none⟩ = some (.int .i64 xj) ∧ w'.cell? ⟨b3, o3 + i, none⟩ = some (.int .i64 p) ∧ w'.cell? ⟨Bt, i + 1, none⟩ = some (.slice (some ⟨gk1, 0, none⟩) N mk1) ∧ w'.cell? ⟨gk1, S', none⟩ = some (.int .i64 f1) ∧ w'.cell? ⟨Bt, i, none⟩ = some (.slice (some ⟨gk0, 0, none⟩) N mk0) ∧ w'.cell? ⟨gk0, S, none⟩ = some (.int .i64 f0)) (by kernel_rfl) ⟨ed, ed.cell zC, ed.cell zX, ed.cell zT1, ed.cell zR1, ed.cell zT0, ed.cell zR0⟩ (fun hHeld0 => ?_)
            refine wpAnyH_take (i := 0) (v := .slice (some ⟨Bt, 0, none⟩) (X.length + 1) (X.length + 1)) rfl (by kernel_rfl) (by kernel_rfl) (by kernel_rfl) (fun _ _ _ h => h) (Or.inl ⟨by rfl, by intro wx hx; go_simp⟩) (by assumption) ?_
            try simp only [List.getElem_toArray, List.getElem_cons_zero, Act.put, List.setIfInBounds_toArray, List.set_cons_zero, List.set_cons_succ]
            refine wpAnyH_take (i := 1) (v := .int .i64 i) rfl (by kernel_rfl) (by kernel_rfl) (by kernel_rfl) (fun _ _ _ h => h) (Or.inl ⟨by rfl, by intro wx hx; go_simp⟩) (by assumption) ?_
            try simp only [List.getElem_toArray, List.getElem_cons_succ, List.getElem_cons_zero, Act.put, List.setIfInBounds_toArray, List.set_cons_zero, List.set_cons_succ]
            refine wpAnyH_take (i := 2) (v := .int .i64 ((i : Int) + 1)) rfl (by kernel_rfl) (by kernel_rfl) (by kernel_rfl) (fun _ _ _ h => h) (Or.inl ⟨by rfl, by intro wx hx; go_simp; exact IntWalk.i64_in _ (by omega)⟩) (by assumption) ?_
            try simp only [List.getElem_toArray, List.getElem_cons_succ, List.getElem_cons_zero, Act.put, List.setIfInBounds_toArray, List.set_cons_zero, List.set_cons_succ]
            refine wpAnyH_take (i := 3) (v := .pointer (some ⟨Bt, i + 1, none⟩)) rfl (by kernel_rfl) (by kernel_rfl) (by kernel_rfl) (fun _ _ _ h => h) (Or.inl ⟨by rfl, by intro wx hx; go_simp; intro hcc; omega⟩) (by assumption) ?_
            try simp only [List.getElem_toArray, List.getElem_cons_succ, List.getElem_cons_zero, Act.put, List.setIfInBounds_toArray, List.set_cons_zero, List.set_cons_succ]
            refine wpAnyH_take (i := 4) (v := .slice (some ⟨gk1, 0, none⟩) N mk1) rfl (by kernel_rfl) (by kernel_rfl) (by kernel_rfl) (fun _ _ _ h => h) (Or.inl ⟨by rfl, by intro wx hx; obtain ⟨_, _, _, _, _, _, _⟩ := hx; go_simp⟩) (by assumption) ?_
            try simp only [List.getElem_toArray, List.getElem_cons_succ, List.getElem_cons_zero, Act.put, List.setIfInBounds_toArray, List.set_cons_zero, List.set_cons_succ]
            refine wpAnyH_take (i := 5) (v := .int .i64 S) rfl (by kernel_rfl) (by kernel_rfl) (by kernel_rfl) (fun _ _ _ h => h) (Or.inl ⟨by rfl, by intro wx hx; go_simp⟩) (by assumption) ?_
            try simp only [List.getElem_toArray, List.getElem_cons_succ, List.getElem_cons_zero, Act.put, List.setIfInBounds_toArray, List.set_cons_zero, List.set_cons_succ]
            refine wpAnyH_take (i := 6) (v := .slice (some ⟨b3, o3, none⟩) X.length cX) rfl (by kernel_rfl) (by kernel_rfl) (by kernel_rfl) (fun _ _ _ h => h) (Or.inl ⟨by rfl, by intro wx hx; go_simp⟩) (by assumption) ?_
            try simp only [List.getElem_toArray, List.getElem_cons_succ, List.getElem_cons_zero, Act.put, List.setIfInBounds_toArray, List.set_cons_zero, List.set_cons_succ]
            refine wpAnyH_take (i := 7) (v := .int .i64 i) rfl (by kernel_rfl) (by kernel_rfl) (by kernel_rfl) (fun _ _ _ h => h) (Or.inl ⟨by rfl, by intro wx hx; go_simp⟩) (by assumption) ?_
            try simp only [List.getElem_toArray, List.getElem_cons_succ, List.getElem_cons_zero, Act.put, List.setIfInBounds_toArray, List.set_cons_zero, List.set_cons_succ]
            refine wpAnyH_take (i := 8) (v := .pointer (some ⟨b3, o3 + i, none⟩)) rfl (by kernel_rfl) (by kernel_rfl) (by kernel_rfl) (fun _ _ _ h => h) (Or.inl ⟨by rfl, by intro wx hx; go_simp⟩) (by assumption) ?_
            try simp only [List.getElem_toArray, List.getElem_cons_succ, List.getElem_cons_zero, Act.put, List.setIfInBounds_toArray, List.set_cons_zero, List.set_cons_succ]
            refine wpAnyH_take (i := 9) (v := .int .i64 p) rfl (by kernel_rfl) (by kernel_rfl) (by kernel_rfl) (fun _ _ _ h => h) (Or.inl ⟨by rfl, by intro wx hx; obtain ⟨_, _, _, _, _, _, _⟩ := hx; go_simp⟩) (by assumption) ?_
            try simp only [List.getElem_toArray, List.getElem_cons_succ, List.getElem_cons_zero, Act.put, List.setIfInBounds_toArray, List.set_cons_zero, List.set_cons_succ]
            refine wpAnyH_take (i := 10) (v := .slice (some ⟨g, 0, none⟩) C.length mc) rfl (by kernel_rfl) (by kernel_rfl) (by kernel_rfl) (fun _ _ _ h => h) (Or.inl ⟨by rfl, by intro wx hx; go_simp⟩) (by assumption) ?_
            try simp only [List.getElem_toArray, List.getElem_cons_succ, List.getElem_cons_zero, Act.put, List.setIfInBounds_toArray, List.set_cons_zero, List.set_cons_succ]
            refine wpAnyH_take (i := 11) (v := .int .i64 j) rfl (by kernel_rfl) (by kernel_rfl) (by kernel_rfl) (fun _ _ _ h => h) (Or.inl ⟨by rfl, by intro wx hx; go_simp⟩) (by assumption) ?_
            try simp only [List.getElem_toArray, List.getElem_cons_succ, List.getElem_cons_zero, Act.put, List.setIfInBounds_toArray, List.set_cons_zero, List.set_cons_succ]
            refine wpAnyH_take (i := 12) (v := .pointer (some ⟨g, j, none⟩)) rfl (by kernel_rfl) (by kernel_rfl) (by kernel_rfl) (fun _ _ _ h => h) (Or.inl ⟨by rfl, by intro wx hx; go_simp⟩) (by assumption) ?_
            try simp only [List.getElem_toArray, List.getElem_cons_succ, List.getElem_cons_zero, Act.put, List.setIfInBounds_toArray, List.set_cons_zero, List.set_cons_succ]
            refine wpAnyH_take (i := 13) (v := .int .i64 xj) rfl (by kernel_rfl) (by kernel_rfl) (by kernel_rfl) (fun _ _ _ h => h) (Or.inl ⟨by rfl, by intro wx hx; obtain ⟨_, _, _, _, _, _, _⟩ := hx; go_simp⟩) (by assumption) ?_
            try simp only [List.getElem_toArray, List.getElem_cons_succ, List.getElem_cons_zero, Act.put, List.setIfInBounds_toArray, List.set_cons_zero, List.set_cons_succ]
            refine wpAnyH_take (i := 17) (v := .int .i64 1) rfl (by kernel_rfl) (by kernel_rfl) (by kernel_rfl) (fun _ _ _ h => h) (Or.inl ⟨by rfl, by intro wx hx; go_simp⟩) (by assumption) ?_
            try simp only [List.getElem_toArray, List.getElem_cons_succ, List.getElem_cons_zero, Act.put, List.setIfInBounds_toArray, List.set_cons_zero, List.set_cons_succ]
            refine wpAnyH_take (i := 19) (v := .slice (some ⟨Bt, 0, none⟩) (X.length + 1) (X.length + 1)) rfl (by kernel_rfl) (by kernel_rfl) (by kernel_rfl) (fun _ _ _ h => h) (Or.inl ⟨by rfl, by intro wx hx; go_simp⟩) (by assumption) ?_
            try simp only [List.getElem_toArray, List.getElem_cons_succ, List.getElem_cons_zero, Act.put, List.setIfInBounds_toArray, List.set_cons_zero, List.set_cons_succ]
            refine wpAnyH_take (i := 20) (v := .int .i64 i) rfl (by kernel_rfl) (by kernel_rfl) (by kernel_rfl) (fun _ _ _ h => h) (Or.inl ⟨by rfl, by intro wx hx; go_simp⟩) (by assumption) ?_
            try simp only [List.getElem_toArray, List.getElem_cons_succ, List.getElem_cons_zero, Act.put, List.setIfInBounds_toArray, List.set_cons_zero, List.set_cons_succ]
            refine wpAnyH_take (i := 21) (v := .pointer (some ⟨Bt, i, none⟩)) rfl (by kernel_rfl) (by kernel_rfl) (by kernel_rfl) (fun _ _ _ h => h) (Or.inl ⟨by rfl, by intro wx hx; go_simp; intro hcc; omega⟩) (by assumption) ?_
            try simp only [List.getElem_toArray, List.getElem_cons_succ, List.getElem_cons_zero, Act.put, List.setIfInBounds_toArray, List.set_cons_zero, List.set_cons_succ]
            refine wpAnyH_take (i := 22) (v := .slice (some ⟨gk0, 0, none⟩) N mk0) rfl (by kernel_rfl) (by kernel_rfl) (by kernel_rfl) (fun _ _ _ h => h) (Or.inl ⟨by rfl, by intro wx hx; obtain ⟨_, _, _, _, _, _, _⟩ := hx; go_simp⟩) (by assumption) ?_
            try simp only [List.getElem_toArray, List.getElem_cons_succ, List.getElem_cons_zero, Act.put, List.setIfInBounds_toArray, List.set_cons_zero, List.set_cons_succ]
            refine wpAnyH_take (i := 23) (v := .int .i64 S) rfl (by kernel_rfl) (by kernel_rfl) (by kernel_rfl) (fun _ _ _ h => h) (Or.inl ⟨by rfl, by intro wx hx; go_simp⟩) (by assumption) ?_
            try simp only [List.getElem_toArray, List.getElem_cons_succ, List.getElem_cons_zero, Act.put, List.setIfInBounds_toArray, List.set_cons_zero, List.set_cons_succ]
            refine wpAnyH_take (i := 24) (v := .pointer (some ⟨gk0, S, none⟩)) rfl (by kernel_rfl) (by kernel_rfl) (by kernel_rfl) (fun _ _ _ h => h) (Or.inl ⟨by rfl, by intro wx hx; go_simp⟩) (by assumption) ?_
            try simp only [List.getElem_toArray, List.getElem_cons_succ, List.getElem_cons_zero, Act.put, List.setIfInBounds_toArray, List.set_cons_zero, List.set_cons_succ]
            refine wpAnyH_take (i := 25) (v := .int .i64 f0) rfl (by kernel_rfl) (by kernel_rfl) (by kernel_rfl) (fun _ _ _ h => h) (Or.inl ⟨by rfl, by intro wx hx; obtain ⟨_, _, _, _, _, _, _⟩ := hx; go_simp⟩) (by assumption) ?_
            try simp only [List.getElem_toArray, List.getElem_cons_succ, List.getElem_cons_zero, Act.put, List.setIfInBounds_toArray, List.set_cons_zero, List.set_cons_succ]
            refine wpAnyH_ready (rs := [14]) (by kernel_rfl) (by simp) ?_
            refine AllReadyH.cons rfl (fun K hK => ?_) AllReadyH.nil
            go_simp
            go_at_call 33
            refine (l5After_any hS256 hp8 hxp _).mono ?_
            rw [hSid.out]
            rintro e w8 ⟨rfl, hb8⟩
            go_wp2_with fail
            have er1 : Ext w6 w8 := Ext.trans ed hb8
            refine hK.out _ _ ⟨er1, er1.cell zC, er1.cell zX, er1.cell zT1, er1.cell zR1, er1.cell zT0, er1.cell zR0⟩ (fun hHeld1 => ?_)
            clear hK K hHeld0
            try simp only [List.getElem_toArray, List.getElem_cons_succ, List.getElem_cons_zero, Act.put, List.setIfInBounds_toArray, List.set_cons_zero, List.set_cons_succ]
            refine wpAnyH_take (i := 15) (v := .pointer (some ⟨gk1, S', none⟩)) rfl (by kernel_rfl) (by kernel_rfl) (by kernel_rfl) (fun _ _ _ h => h) (Or.inl ⟨by rfl, by intro wx hx; go_simp⟩) (by assumption) ?_
            try simp only [List.getElem_toArray, List.getElem_cons_succ, List.getElem_cons_zero, Act.put, List.setIfInBounds_toArray, List.set_cons_zero, List.set_cons_succ]
            refine wpAnyH_take (i := 16) (v := .int .i64 f1) rfl (by kernel_rfl) (by kernel_rfl) (by kernel_rfl) (fun _ _ _ h => h) (Or.inl ⟨by rfl, by intro wx hx; obtain ⟨_, _, _, _, _, _, _⟩ := hx; go_simp⟩) (by assumption) ?_
            try simp only [List.getElem_toArray, List.getElem_cons_succ, List.getElem_cons_zero, Act.put, List.setIfInBounds_toArray, List.set_cons_zero, List.set_cons_succ]
            refine wpAnyH_take (i := 18) (v := .int .i64 (f1 + 1)) rfl (by kernel_rfl) (by kernel_rfl) (by kernel_rfl) (fun _ _ _ h => h) (Or.inl ⟨by rfl, by intro wx hx; go_simp; exact IntWalk.i64_in _ (by omega)⟩) (by assumption) ?_
            try simp only [List.getElem_toArray, List.getElem_cons_succ, List.getElem_cons_zero, Act.put, List.setIfInBounds_toArray, List.set_cons_zero, List.set_cons_succ]
            refine wpAnyH_take (i := 26) (v := .bool (decide (f0 < f1 + 1))) rfl (by kernel_rfl) (by kernel_rfl) (by kernel_rfl) (fun _ _ _ h => h) (Or.inl ⟨by rfl, by intro wx hx; go_simp⟩) (by assumption) ?_
            try simp only [List.getElem_toArray, List.getElem_cons_succ, List.getElem_cons_zero, Act.put, List.setIfInBounds_toArray, List.set_cons_zero, List.set_cons_succ]
            refine wpAnyH_done (by kernel_rfl) ?_ _
            have e48 : Ext w4 w8 := Ext.trans he6 er1
            rw [hflt.out] at hiff
            by_cases hjj : j = j0
            · have hge : ¬ f0 < f1 + 1 := by have := hiff.out.2 hjj; omega
              have qC := er1.cell zC
              have qX := er1.cell zX
              have hxe := hid (show pickP K X (X.length - (i + 1)) (setL K X i) (nth X i).toNat = xj by rw [hSe.out, hpe.out, hxj.out, hjj]; exact hpick.out.symm)
              clear zC zX zT1 zT0 zR1 zR0 hHeld1 er1
              replace hjj := hid hjj
              go_upto_region 13 with fail
              have ed : Ext w8 (w8).drew := inferInstance
              refine wp_region_held_drew (S := fun w' => Ext w8 w' ∧ w'.cell? ⟨g, j, none⟩ = some (.int .i64 xj) ∧ w'.cell? ⟨b3, o3 + i, none⟩ = some (.int .i64 p)) (by kernel_rfl) ⟨ed, ed.cell qC, ed.cell qX⟩ (fun hHeld0 => ?_)
              refine wpAnyH_take (i := 0) (v := .int .i64 S) rfl (by kernel_rfl) (by kernel_rfl) (by kernel_rfl) (fun _ _ _ h => h) (Or.inl ⟨by rfl, by intro wx hx; go_simp⟩) (by assumption) ?_
              try simp only [List.getElem_toArray, List.getElem_cons_zero, Act.put, List.setIfInBounds_toArray, List.set_cons_zero, List.set_cons_succ]
              refine wpAnyH_take (i := 1) (v := .slice (some ⟨b3, o3, none⟩) X.length cX) rfl (by kernel_rfl) (by kernel_rfl) (by kernel_rfl) (fun _ _ _ h => h) (Or.inl ⟨by rfl, by intro wx hx; go_simp⟩) (by assumption) ?_
              try simp only [List.getElem_toArray, List.getElem_cons_succ, List.getElem_cons_zero, Act.put, List.setIfInBounds_toArray, List.set_cons_zero, List.set_cons_succ]
              refine wpAnyH_take (i := 2) (v := .int .i64 i) rfl (by kernel_rfl) (by kernel_rfl) (by kernel_rfl) (fun _ _ _ h => h) (Or.inl ⟨by rfl, by intro wx hx; go_simp⟩) (by assumption) ?_
              try simp only [List.getElem_toArray, List.getElem_cons_succ, List.getElem_cons_zero, Act.put, List.setIfInBounds_toArray, List.set_cons_zero, List.set_cons_succ]
              refine wpAnyH_take (i := 3) (v := .pointer (some ⟨b3, o3 + i, none⟩)) rfl (by kernel_rfl) (by kernel_rfl) (by kernel_rfl) (fun _ _ _ h => h) (Or.inl ⟨by rfl, by intro wx hx; go_simp⟩) (by assumption) ?_
              try simp only [List.getElem_toArray, List.getElem_cons_succ, List.getElem_cons_zero, Act.put, List.setIfInBounds_toArray, List.set_cons_zero, List.set_cons_succ]
              refine wpAnyH_take (i := 4) (v := .int .i64 p) rfl (by kernel_rfl) (by kernel_rfl) (by kernel_rfl) (fun _ _ _ h => h) (Or.inl ⟨by rfl, by intro wx hx; obtain ⟨_, _, _⟩ := hx; go_simp⟩) (by assumption) ?_
              try simp only [List.getElem_toArray, List.getElem_cons_succ, List.getElem_cons_zero, Act.put, List.setIfInBounds_toArray, List.set_cons_zero, List.set_cons_succ]
              refine wpAnyH_take (i := 5) (v := .slice (some ⟨g, 0, none⟩) C.length mc) rfl (by kernel_rfl) (by kernel_rfl) (by kernel_rfl) (fun _ _ _ h => h) (Or.inl ⟨by rfl, by intro wx hx; go_simp⟩) (by assumption) ?_
              try simp only [List.getElem_toArray, List.getElem_cons_succ, List.getElem_cons_zero, Act.put, List.setIfInBounds_toArray, List.set_cons_zero, List.set_cons_succ]
              refine wpAnyH_take (i := 6) (v := .int .i64 j) rfl (by kernel_rfl) (by kernel_rfl) (by kernel_rfl) (fun _ _ _ h => h) (Or.inl ⟨by rfl, by intro wx hx; go_simp⟩) (by assumption) ?_
              try simp only [List.getElem_toArray, List.getElem_cons_succ, List.getElem_cons_zero, Act.put, List.setIfInBounds_toArray, List.set_cons_zero, List.set_cons_succ]
              refine wpAnyH_take (i := 7) (v := .pointer (some ⟨g, j, none⟩)) rfl (by kernel_rfl) (by kernel_rfl) (by kernel_rfl) (fun _ _ _ h => h) (Or.inl ⟨by rfl, by intro wx hx; go_simp⟩) (by assumption) ?_
              try simp only [List.getElem_toArray, List.getElem_cons_succ, List.getElem_cons_zero, Act.put, List.setIfInBounds_toArray, List.set_cons_zero, List.set_cons_succ]
              refine wpAnyH_take (i := 8) (v := .int .i64 xj) rfl (by kernel_rfl) (by kernel_rfl) (by kernel_rfl) (fun _ _ _ h => h) (Or.inl ⟨by rfl, by intro wx hx; obtain ⟨_, _, _⟩ := hx; go_simp⟩) (by assumption) ?_
              try simp only [List.getElem_toArray, List.getElem_cons_succ, List.getElem_cons_zero, Act.put, List.setIfInBounds_toArray, List.set_cons_zero, List.set_cons_succ]
              refine wpAnyH_ready (rs := [9]) (by kernel_rfl) (by simp) ?_
              refine AllReadyH.cons rfl (fun K hK => ?_) AllReadyH.nil
              go_simp
              go_at_call 33
              refine (l5After_any hS256 hp8 hxp _).mono ?_
              rw [hSid.out]
              rintro e w9 ⟨rfl, hb9⟩
              go_wp2_with fail
              have er1 : Ext w8 w9 := Ext.trans ed hb9
              refine hK.out _ _ ⟨er1, er1.cell qC, er1.cell qX⟩ (fun hHeld1 => ?_)
              clear hK K hHeld0
              try simp only [List.getElem_toArray, List.getElem_cons_succ, List.getElem_cons_zero, Act.put, List.setIfInBounds_toArray, List.set_cons_zero, List.set_cons_succ]
              refine wpAnyH_take (i := 10) (v := .int .i64 S') rfl (by kernel_rfl) (by kernel_rfl) (by kernel_rfl) (fun _ _ _ h => h) (Or.inl ⟨by rfl, by intro wx hx; go_simp⟩) (by assumption) ?_
              try simp only [List.getElem_toArray, List.getElem_cons_succ, List.getElem_cons_zero, Act.put, List.setIfInBounds_toArray, List.set_cons_zero, List.set_cons_succ]
              refine wpAnyH_done (by kernel_rfl) ?_ _
              have rC := er1.cell qC
              have e49 : Ext w4 w9 := Ext.trans e48 er1
              have hown9 : Own w9 w2.heap.size [intRowOf 3 (.slice vd (planL K X i).length vm) (planL K X i)] := hownp.ext (w' := w9) (e := Ext.trans he4 e49)
              have hB9 : w2.heap.size ≤ w9.heap.size := Nat.le_trans hBq (Ext.trans he4 e49).size
              have hb9' : Below w2.heap.size W w9 := hbp.trans ((Ext.trans he4 e49).below.mono hBq)
              have hlp := hid (planL_length K X i)
              have hpls := hid (show planL K X (i + 1) = planL K X i ++ [xj] by rw [planL, hxe.out])
              have hsl := hid (show setL K X (i + 1) = S' by rw [setL, ← hSid.out, hxe.out, hSe.out, hpe.out])
              go_wp2_with (at_builtin; refine wpList_append1 rfl _ _ _ rfl elemInt rfl hown9 hB9 rfl rfl (by have := hlp.out; omega) (by have := hlp.out; omega) ?_; intro v1 w10 ho hbe)
              go_roundw
              case rel => exact ⟨i + 1, by omega, by go_num, by rw [hsl.out], by rw [hpls.out]; exact own_snoc ho rfl, hb9'.trans hbe⟩
              case measure => simp [intOf]; omega
            · have hlt2 : f0 < f1 + 1 := by
                have : ¬ f1 + 1 ≤ f0 := fun h => hjj (hiff.out.1 h)
                omega
              go_wp2_with fail
              go_roundw
              case rel => exact ⟨j + 1, by omega, by go_num, e48⟩
              case measure => simp [intOf]; omega
      · have hiX : i = X.length := by omega
        have hfin := hid (show bpR K n X = planL K X i by rw [hr.out, hiX])
        replace hiX := hid hiX
        go_wp2
        go_ret2
        rw [hfin.out]
        refine ⟨_, _, rfl, hownp.reads ?_ fun x hx => ?_, Ext.trans e12 e2q⟩
        · rw [planL_length]; unfold Short; omega
        · have := planL_in x hx
          unfold I64; omega
end Go.Proofs.Ytkdbgobhgnjoaaa
