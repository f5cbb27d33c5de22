/- The metric that a draw makes: what it returns reads as rows of numbers. -/
import Derived.Test.YtnlbjbnjjkilhaaMtC
namespace Go.Proofs.Ytnlbjbnjjkilhaa
open Go.RowKit

theorem TabOk.sq {M : List (List Int)} {n : Nat} (h : TabOk M n) : SqOk M n := ⟨h.1, fun r hr => by
  obtain ⟨k, hk, rfl⟩ := mem_iff_row.1 hr
  have hk' : k < n := by rw [← h.1]; exact hk
  refine ⟨(h.2 k hk').1, fun x hx => ?_⟩
  obtain ⟨q, hq, rfl⟩ := mem_iff_nth.1 hx
  rw [(h.2 k hk').1] at hq
  have := (h.2 k hk').2 q hq
  unfold cell at this
  unfold I64
  omega⟩
theorem MOk.short {M : List (List Int)} (h : MOk M) : ShortRows M.length ∧ (∀ r ∈ M, Short r.length) ∧ ∀ r ∈ M, ∀ x ∈ r, I64 x :=
  ⟨by have := h.1; unfold ShortRows; omega, fun r hr => by have := (h.2 r hr).2.1; unfold Short; omega, fun r hr => (h.2 r hr).2.2⟩
/-- own rows read as a metric -/
theorem met_own {w : World} {B n m : Nat} {d : Option Addr} {vs : List Value} {M : List (List Int)} {R : List Row} (h : Own w B (rowsOf 24 3 (.slice d n m) vs M ++ R)) (hv : vs.length = M.length) (hM : MOk M) : IsMet w (.agg #[.slice d n m]) M :=
  ⟨_, rfl, Own.readsAll h hv hM.short.1 hM.short.2.1 hM.short.2.2⟩
set_option maxHeartbeats 6400000 in
set_option maxRecDepth 100000 in
theorem metricD_any {w0 w : World} [Ext w0 w] {vc : Value} {nb : Nat} (hc : IsBytes w0 vc nb) {B c : Nat} {a : Int} {R : List Row} (own : CurAt w B c vc a R) (hwB : w0.heap.size ≤ B) (ha : 0 ≤ a) (ha2 : a ≤ 1000000) :
    Calls Try.prog 34 #[.pointer (some ⟨c, 0, none⟩)] w fun e w' => ∃ d0 m0 vs M a', e = .returned (.agg #[.slice d0 (M : List (List Int)).length m0]) ∧ vs.length = M.length ∧ MOk M ∧ a ≤ a' ∧ a' ≤ a + 300 ∧ CurAt w' B c vc a' (rowsOf 24 3 (.slice d0 M.length m0) vs M ++ R) ∧ Below B w w' := by
  have hBw := own.size
  have hE : ∀ u, Below B w u → Ext w0 u := fun u h => ⟨(‹Ext w0 w›).below.trans (h.mono hwB)⟩
  replace hE := hid hE
  go_enter Try.func34, Try.ntmps34
  go_upto_region 1 with fail
  have own1 := own.box 29 1 #[.slice none 0 0] hBw rfl
  have b1' : Below B w (w.alloc (.cells #[.slice none 0 0] 29)) := (Below.refl B w).alloc hBw _
  obtain ⟨r, hr⟩ : ∃ r, r = w.heap.size := ⟨_, rfl⟩
  rw [← hr] at own1 ⊢
  replace hr := hid hr
  generalize w.alloc (.cells #[.slice none 0 0] 29) = w1 at *
  have e1 : Ext w0 w1 := hE.out _ b1'
  clear own
  obtain ⟨a1, ha1⟩ : ∃ z, z = a := ⟨_, rfl⟩
  rw [← ha1] at own1
  go_wp2_with fail
  refine (pick_any (w0 := w0) hc own1 hwB (by omega) (by omega)).mono ?_
  rintro e w2 ⟨x2, a2, rfl, h2_0, h2_1, h2_2, h2_3, h2_4, own2, b2⟩
  have b2' := b1'.trans b2
  have e2 : Ext w0 w2 := hE.out _ b2'
  have hx2 := h2_2 (by omega)
  clear own1 b1' b2 e1 h2_1 h2_2
  by_cases hk0 : x2 = 0
  · skip
    go_wp2_with fail
    refine (pick_any (w0 := w0) hc own2 hwB (by omega) (by omega)).mono ?_
    rintro e w3 ⟨x3, a3, rfl, h3_0, h3_1, h3_2, h3_3, h3_4, own3, b3⟩
    have b3' := b2'.trans b3
    have e3 : Ext w0 w3 := hE.out _ b3'
    have hx3 := h3_2 (by omega)
    clear own2 b2' b3 e2 h3_1 h3_2
    go_wp2_with fail
    refine (pick_any (w0 := w0) hc own3 hwB (by omega) (by omega)).mono ?_
    rintro e w4 ⟨x4, a4, rfl, h4_0, h4_1, h4_2, h4_3, h4_4, own4, b4⟩
    have b4' := b3'.trans b4
    have e4 : Ext w0 w4 := hE.out _ b4'
    have hx4 := h4_2 (by omega)
    clear own3 b3' b4 e3 h4_1 h4_2
    go_wp2_with fail
    refine (pick_any (w0 := w0) hc own4 hwB (by omega) (by omega)).mono ?_
    rintro e w5 ⟨x5, a5, rfl, h5_0, h5_1, h5_2, h5_3, h5_4, own5, b5⟩
    have b5' := b4'.trans b5
    have e5 : Ext w0 w5 := hE.out _ b5'
    have hx5 := h5_2 (by omega)
    clear own4 b4' b5 e4 h5_1 h5_2
    have own6 := own5.lit (e := 3) (n := 4) (cs := #[.int .i64 x3, .int .i64 (4 + x4), .int .i64 9, .int .i64 (14 + x5)]) [x3, 4 + x4, 9, 14 + x5] own5.size rfl rfl (by simp)
    have b6' : Below B w (w5.alloc (.cells #[.int .i64 x3, .int .i64 (4 + x4), .int .i64 9, .int .i64 (14 + x5)] 3)) := b5'.alloc own5.size _
    have e6 : Ext w0 (w5.alloc (.cells #[.int .i64 x3, .int .i64 (4 + x4), .int .i64 9, .int .i64 (14 + x5)] 3)) := hE.out _ b6'
    go_wp2_with fail
    refine (pick_any (w0 := w0) hc own6 hwB (by omega) (by omega)).mono ?_
    rintro e w7 ⟨x7, a7, rfl, h7_0, h7_1, h7_2, h7_3, h7_4, own7, b7⟩
    have b7' := b6'.trans b7
    have hx7 := h7_2 (by omega)
    clear own5 own6 b6' b7 e5 e6 h7_1 h7_2
    obtain ⟨n, hn⟩ : ∃ n : Nat, (n : Int) = 2 + x7 := ⟨(2 + x7).toNat, by omega⟩
    have hPI := own7.rows.reads (by unfold Short; simp) (by
      intro x hx
      simp at hx
      unfold I64
      omega)
    have hPT := hPI.take (k := n) (by simp; omega)
    have hPl : ([x3, 4 + x4, 9, 14 + x5].take n).length = n := by rw [List.length_take]; simp; omega
    have hPb : ∀ j, j < ([x3, 4 + x4, 9, 14 + x5].take n).length → 0 ≤ nth ([x3, 4 + x4, 9, 14 + x5].take n) j ∧ nth ([x3, 4 + x4, 9, 14 + x5].take n) j ≤ 100000 := by
      intro j hj
      have := List.mem_of_mem_take (nth_mem hj)
      simp at this
      omega
    generalize [x3, 4 + x4, 9, 14 + x5].take n = P at *
    have own8 := own7.drop
    clear own7 hPI
    replace hPl := hid hPl
    replace hPb := hid hPb
    have hn4 : n ≤ 4 := by omega
    have hn2 := hid hn
    have hn0 : (0 : Int) ≤ 2 + x7 ∧ 2 + x7 ≤ 4 := by omega
    have htn : (2 + x7).toNat = n := by omega
    go_wp2_with fail
    refine (l6Line_any (w0 := w7) (w := w7) hPT (by rw [hPl.out]; omega) hPb.out).mono ?_
    rintro e w9 ⟨d1, m1, vs1, M1, rfl, hvs1, hM1, hown1, he1⟩
    rw [hPl.out] at hvs1 hM1 hown1
    rw [hPl.out]
    have own9 := own8.join hown1 own8.size
    have b9' := b7'.trans (he1.below.mono own8.size)
    have own10 := own9.perm List.perm_middle.symm
    have hsq := hid hM1.sq
    have rb9 := (own10.at (.head _) (j := 0) (by omega))
    obtain ⟨rb9, rf9⟩ := rb9
    have rb9' : w9.cell? ⟨r, 0, none⟩ = some (.slice none 0 0) := rb9
    have hs9 := CurAt.set (A := []) own10 0 (.slice d1 n m1)
    have hz9 : (w9.setCell ⟨r, 0, none⟩ (.slice d1 n m1)).cell? ⟨r, 0, none⟩ = some (.slice d1 n m1) := by go_simp
    have own9 := hs9.1.drop
    have b9 := (b9').setCell hs9.2 (p := ⟨r, 0, none⟩) (.slice d1 n m1)
    clear rb9 hs9
    go_wp2_with fail
    refine bodyPost_ret (v := .agg #[.slice d1 n m1]) (by simp [results, Try.results34, go_sem, hz9]) rfl ?_
    have hL9 := hsq.out.1
    exact ⟨_, _, _, M1, a7, by rw [hL9], (by rw [hvs1, hsq.out.1]), (hsq.out.ok (by omega)), by omega, by omega, by rw [hL9]; exact own9, b9⟩
  · by_cases hk1 : x2 = 1
    · skip
      go_wp2_with fail
      refine (pick_any (w0 := w0) hc own2 hwB (by omega) (by omega)).mono ?_
      rintro e w3 ⟨x3, a3, rfl, h3_0, h3_1, h3_2, h3_3, h3_4, own3, b3⟩
      have b3' := b2'.trans b3
      have e3 : Ext w0 w3 := hE.out _ b3'
      have hx3 := h3_2 (by omega)
      clear own2 b2' b3 e2 h3_1 h3_2
      go_wp2_with fail
      refine (pick_any (w0 := w0) hc own3 hwB (by omega) (by omega)).mono ?_
      rintro e w4 ⟨x4, a4, rfl, h4_0, h4_1, h4_2, h4_3, h4_4, own4, b4⟩
      have b4' := b3'.trans b4
      have e4 : Ext w0 w4 := hE.out _ b4'
      have hx4 := h4_2 (by omega)
      clear own3 b3' b4 e3 h4_1 h4_2
      obtain ⟨n, hn⟩ : ∃ n : Nat, (n : Int) = 2 + x3 := ⟨(2 + x3).toNat, by omega⟩
      rw [← hn]
      have hn7 : n ≤ 7 := by omega
      have hd1 : I64 (1 + x4) := by unfold I64; omega
      replace hn := hid hn
      go_wp2_with fail
      refine (l6Uniform_any (n := n) (d := 1 + x4) (by omega) w4).mono ?_
      rintro e w5 ⟨d0, m0, vs, rfl, hvs, hown, he⟩
      have hM0 : SqOk (uniTab (fun x y => if x = y then 0 else (1 + x4)) n n) n := SqOk.uni hd1
      generalize uniTab (fun x y => if x = y then 0 else (1 + x4)) n n = M1 at *
      have own5 := own4.join hown own4.size
      have b5' := b4'.trans (he.below.mono own4.size)
      have own10 := own5.perm List.perm_middle.symm
      have hsq := hid hM0
      have rb9 := (own10.at (.head _) (j := 0) (by omega))
      obtain ⟨rb9, rf9⟩ := rb9
      have rb9' : w5.cell? ⟨r, 0, none⟩ = some (.slice none 0 0) := rb9
      have hs9 := CurAt.set (A := []) own10 0 (.slice d0 n m0)
      have hz9 : (w5.setCell ⟨r, 0, none⟩ (.slice d0 n m0)).cell? ⟨r, 0, none⟩ = some (.slice d0 n m0) := by go_simp
      have own9 := hs9.1.drop
      have b9 := (b5').setCell hs9.2 (p := ⟨r, 0, none⟩) (.slice d0 n m0)
      clear rb9 hs9
      go_wp2_with fail
      refine bodyPost_ret (v := .agg #[.slice d0 n m0]) (by simp [results, Try.results34, go_sem, hz9]) rfl ?_
      have hL9 := hsq.out.1
      exact ⟨_, _, _, M1, a4, by rw [hL9], (by rw [hvs, hsq.out.1]), (hsq.out.ok (by omega)), by omega, by omega, by rw [hL9]; exact own9, b9⟩
    · by_cases hk2 : x2 = 2
      · skip
        go_wp2_with fail
        refine (pick_any (w0 := w0) hc own2 hwB (by omega) (by omega)).mono ?_
        rintro e w3 ⟨x3, a3, rfl, h3_0, h3_1, h3_2, h3_3, h3_4, own3, b3⟩
        have b3' := b2'.trans b3
        have e3 : Ext w0 w3 := hE.out _ b3'
        have hx3 := h3_2 (by omega)
        clear own2 b2' b3 e2 h3_1 h3_2
        go_wp2_with fail
        refine (pick_any (w0 := w0) hc own3 hwB (by omega) (by omega)).mono ?_
        rintro e w4 ⟨x4, a4, rfl, h4_0, h4_1, h4_2, h4_3, h4_4, own4, b4⟩
        have b4' := b3'.trans b4
        have e4 : Ext w0 w4 := hE.out _ b4'
        have hx4 := h4_2 (by omega)
        clear own3 b3' b4 e3 h4_1 h4_2
        go_wp2_with fail
        refine (pick_any (w0 := w0) hc own4 hwB (by omega) (by omega)).mono ?_
        rintro e w5 ⟨x5, a5, rfl, h5_0, h5_1, h5_2, h5_3, h5_4, own5, b5⟩
        have b5' := b4'.trans b5
        have e5 : Ext w0 w5 := hE.out _ b5'
        have hx5 := h5_2 (by omega)
        clear own4 b4' b5 e4 h5_1 h5_2
        have own6 := own5.lit (e := 3) (n := 4) (cs := #[.int .i64 (1 + x3), .int .i64 (1 + x4), .int .i64 (1 + x5), .int .i64 2]) [1 + x3, 1 + x4, 1 + x5, 2] own5.size rfl rfl (by simp)
        have b6' : Below B w (w5.alloc (.cells #[.int .i64 (1 + x3), .int .i64 (1 + x4), .int .i64 (1 + x5), .int .i64 2] 3)) := b5'.alloc own5.size _
        have e6 : Ext w0 (w5.alloc (.cells #[.int .i64 (1 + x3), .int .i64 (1 + x4), .int .i64 (1 + x5), .int .i64 2] 3)) := hE.out _ b6'
        go_wp2_with fail
        refine (pick_any (w0 := w0) hc own6 hwB (by omega) (by omega)).mono ?_
        rintro e w7 ⟨x7, a7, rfl, h7_0, h7_1, h7_2, h7_3, h7_4, own7, b7⟩
        have b7' := b6'.trans b7
        have hx7 := h7_2 (by omega)
        clear own5 own6 b6' b7 e5 e6 h7_1 h7_2
        obtain ⟨n, hn⟩ : ∃ n : Nat, (n : Int) = 2 + x7 := ⟨(2 + x7).toNat, by omega⟩
        have hPI := own7.rows.reads (by unfold Short; simp) (by
          intro x hx
          simp at hx
          unfold I64
          omega)
        have hPT := hPI.take (k := n) (by simp; omega)
        have hPl : ([1 + x3, 1 + x4, 1 + x5, 2].take n).length = n := by rw [List.length_take]; simp; omega
        have hPb : ∀ j, j < ([1 + x3, 1 + x4, 1 + x5, 2].take n).length → 1 ≤ nth ([1 + x3, 1 + x4, 1 + x5, 2].take n) j ∧ nth ([1 + x3, 1 + x4, 1 + x5, 2].take n) j ≤ 49 := by
          intro j hj
          have := List.mem_of_mem_take (nth_mem hj)
          simp at this
          omega
        generalize [1 + x3, 1 + x4, 1 + x5, 2].take n = P at *
        have own8 := own7.drop
        clear own7 hPI
        replace hPl := hid hPl
        replace hPb := hid hPb
        have hn4 : n ≤ 4 := by omega
        have hn2 : 2 ≤ n := by omega
        have hn0 : (0 : Int) ≤ 2 + x7 ∧ 2 + x7 ≤ 4 := by omega
        have htn : (2 + x7).toNat = n := by omega
        go_wp2_with fail
        refine (starMetric_any (w0 := w7) (w := w7) hPT (by rw [hPl.out]; omega) (by rw [hPl.out]; omega) hPb.out).mono ?_
        rintro e w9 ⟨d1, m1, vs1, M1, rfl, hvs1, hM1, hown1, he1⟩
        rw [hPl.out] at hvs1 hM1 hown1
        rw [hPl.out]
        have own9 := own8.join hown1 own8.size
        have b9' := b7'.trans (he1.below.mono own8.size)
        have hsq := hid hM1
        have own10 := own9.box 29 1 #[.slice d1 n m1] own9.size rfl
        have b10' := b9'.alloc own9.size (.cells #[.slice d1 n m1] 29)
        go_upto_region 8 with fail
        obtain ⟨tp, htp⟩ : ∃ z, z = w9.heap.size := ⟨_, rfl⟩
        rw [← htp] at own10 ⊢
        generalize w9.alloc (.cells #[.slice d1 n m1] 29) = w10 at *
        replace htp := hid htp
        have ctp : w10.cell? ⟨tp, 0, none⟩ = some (.slice d1 n m1) := (own10.at (.head _) (j := 0) (by omega)).1
        have own11 := own10.drop.perm List.perm_middle.symm
        clear own8 own9 own10 hown1 he1
        have rb9 := (own11.at (.head _) (j := 0) (by omega))
        obtain ⟨rb9, rf9⟩ := rb9
        have rb9' : w10.cell? ⟨r, 0, none⟩ = some (.slice none 0 0) := rb9
        have hs9 := CurAt.set (A := []) own11 0 (.slice d1 n m1)
        have hz9 : (w10.setCell ⟨r, 0, none⟩ (.slice d1 n m1)).cell? ⟨r, 0, none⟩ = some (.slice d1 n m1) := by go_simp
        have own9 := hs9.1.drop
        have b9 := (b10').setCell hs9.2 (p := ⟨r, 0, none⟩) (.slice d1 n m1)
        clear rb9 hs9
        go_wp2_with fail
        refine bodyPost_ret (v := .agg #[.slice d1 n m1]) (by simp [results, Try.results34, go_sem, hz9]) rfl ?_
        have hL9 := hsq.out.1
        exact ⟨_, _, _, M1, a7, by rw [hL9], (by rw [hvs1, hsq.out.1]), (hsq.out.ok (by omega)), by omega, by omega, by rw [hL9]; exact own9, b9⟩
      · by_cases hk3 : x2 = 3
        · go_wp2_with fail
          refine (table6_any (w0 := w0) hc own2 hwB (by omega) (by omega)).mono ?_
          rintro e w3 ⟨d0, m0, vs, M, a3, rfl, hvs, hM, h31, h32, own3, b3⟩
          have b3' := b2'.trans b3
          have own10 := own3.perm List.perm_middle.symm
          have rb9 := (own10.at (.head _) (j := 0) (by omega))
          obtain ⟨rb9, rf9⟩ := rb9
          have rb9' : w3.cell? ⟨r, 0, none⟩ = some (.slice none 0 0) := rb9
          have hs9 := CurAt.set (A := []) own10 0 (.slice d0 M.length m0)
          have hz9 : (w3.setCell ⟨r, 0, none⟩ (.slice d0 M.length m0)).cell? ⟨r, 0, none⟩ = some (.slice d0 M.length m0) := by go_simp
          have own9 := hs9.1.drop
          have b9 := (b3').setCell hs9.2 (p := ⟨r, 0, none⟩) (.slice d0 M.length m0)
          clear rb9 hs9
          go_wp2_with fail
          refine bodyPost_ret (v := .agg #[.slice d0 M.length m0]) (by simp [results, Try.results34, go_sem, hz9]) rfl ?_
          have hL9 := (rfl : M.length = M.length)
          exact ⟨_, _, _, M, a3, by rw [hL9], hvs, hM, by omega, by omega, by rw [hL9]; exact own9, b9⟩
        · go_wp2_with fail
          refine (table6_any (w0 := w0) hc own2 hwB (by omega) (by omega)).mono ?_
          rintro e w3 ⟨d0, m0, vs, M, a3, rfl, hvs, hM, h31, h32, own3, b3⟩
          have b3' := b2'.trans b3
          have hmet := met_own own3.rows hvs hM
          go_wp2_with fail
          with_reducible refine (l6Close_any (w0 := w3) (w := w3) hmet hM).mono ?_
          rintro e w4 ⟨d4, m4, vs4, N, rfl, hvs4, hN, hown4, e4⟩
          have own4 := own3.join hown4 own3.size
          have b4' := b3'.trans (e4.below.mono own3.size)
          have own5 := own4.box 29 1 #[.slice d4 N.length m4] own4.size rfl
          have b5' := b4'.alloc own4.size (.cells #[.slice d4 N.length m4] 29)
          go_upto_region 12 with fail
          obtain ⟨tp, htp⟩ : ∃ z, z = w4.heap.size := ⟨_, rfl⟩
          rw [← htp] at own5 ⊢
          generalize w4.alloc (.cells #[.slice d4 N.length m4] 29) = w5 at *
          replace htp := hid htp
          have ctp : w5.cell? ⟨tp, 0, none⟩ = some (.slice d4 N.length m4) := (own5.at (.head _) (j := 0) (by omega)).1
          have own11 := (own5.drop.sub (List.Sublist.append_left (List.sublist_append_right (rowsOf 24 3 (.slice d0 M.length m0) vs M) _) (rowsOf 24 3 (.slice d4 N.length m4) vs4 N))).perm List.perm_middle.symm
          clear own2 own3 own4 own5 hown4 e4 hmet
          have rb9 := (own11.at (.head _) (j := 0) (by omega))
          obtain ⟨rb9, rf9⟩ := rb9
          have rb9' : w5.cell? ⟨r, 0, none⟩ = some (.slice none 0 0) := rb9
          have hs9 := CurAt.set (A := []) own11 0 (.slice d4 N.length m4)
          have hz9 : (w5.setCell ⟨r, 0, none⟩ (.slice d4 N.length m4)).cell? ⟨r, 0, none⟩ = some (.slice d4 N.length m4) := by go_simp
          have own9 := hs9.1.drop
          have b9 := (b5').setCell hs9.2 (p := ⟨r, 0, none⟩) (.slice d4 N.length m4)
          clear rb9 hs9
          go_wp2_with fail
          refine bodyPost_ret (v := .agg #[.slice d4 N.length m4]) (by simp [results, Try.results34, go_sem, hz9]) rfl ?_
          have hL9 := (rfl : N.length = N.length)
          exact ⟨_, _, _, N, a3, by rw [hL9], hvs4, hN, by omega, by omega, by rw [hL9]; exact own9, b9⟩
end Go.Proofs.Ytnlbjbnjjkilhaa
