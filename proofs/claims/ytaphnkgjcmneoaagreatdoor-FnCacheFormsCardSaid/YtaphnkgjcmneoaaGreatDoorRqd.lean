/- The arguments of FnRequestTexts, drawn. -/
import Derived.Test.YtaphnkgjcmneoaaGreatDoorNmd
import Derived.Test.YtaphnkgjcmneoaaGreatDoorRqk
import Derived.Test.YtaphnkgjcmneoaaGreatDoorPackB
namespace Go.Proofs.YtaphnkgjcmneoaaGreatDoor
open Go.RowKit

theorem Own.cut1 {w : World} {B e g n cp : Nat} {cs : List Value} {R : List Row} (h : Own w B (⟨e, 1, .slice (some ⟨g, 0, none⟩) n cp, n, cs⟩ :: R)) {k : Nat} (hk : k ≤ n) :
    Own w B (⟨e, 1, .slice (some ⟨g, 0, none⟩) k cp, k, cs.take k⟩ :: R) := by
  refine ⟨fun y hy => ?_, ?_⟩
  · rcases List.mem_cons.1 hy with rfl | hy
    · have h1 := h.head
      have hcs : cs.length = n := by have h0 : cs.length = n * 1 := h1.1; omega
      refine ⟨by show (cs.take k).length = k * 1; rw [List.length_take]; omega, .inr ?_⟩
      rcases h1.2 with ⟨h2, _⟩ | ⟨g', cap, cur, h2, h3, h4, h5, h6, h7, h8⟩
      · cases h2
      · simp only [Value.slice.injEq, Option.some.injEq, Addr.mk.injEq, and_true, true_and] at h2
        obtain ⟨rfl, rfl⟩ := h2
        refine ⟨g, cp, cur, rfl, h3, h4, by have h5' : n ≤ cp := h5; show k ≤ cp; omega, h6, h7, ?_⟩
        have h8' : cur.toList.take (n * 1) = cs := h8
        show cur.toList.take (k * 1) = cs.take k
        rw [← h8', List.take_take]
        congr 1
        omega
    · exact h.1 _ (.tail _ hy)
  · have h2 := h.2
    rw [List.pairwise_cons] at h2 ⊢
    exact h2
set_option maxHeartbeats 800000 in
set_option maxRecDepth 100000 in
theorem items_any {w0 w : World} [Ext w0 w] {vc : Value} {nb : Nat} (hc : IsBytes w0 vc nb) {B c : Nat} {a : Int} {R : List Row} (own : CurAt w B c vc a R) (hwB : w0.heap.size ≤ B) (ha : 0 ≤ a) (ha2 : a ≤ 2000000) :
    Calls Tryz.prog 24 #[.pointer (some ⟨c, 0, none⟩)] w fun e w' => ∃ n a' : Int, e = .returned (.int .i64 n) ∧ (-1 ≤ n ∧ n ≤ 9) ∧ a ≤ a' ∧ a' ≤ a + 10 ∧ CurAt w' B c vc a' R ∧ Below B w w' := by
  have hBw := own.low
  have oL := own.lit (e := 3) [3, 4, 5, 2, 6, 8, 1, 0, 9, -1] hBw rfl rfl (by decide)
  have bL : Below B w (w.alloc (.cells #[.int .i64 3, .int .i64 4, .int .i64 5, .int .i64 2, .int .i64 6, .int .i64 8, .int .i64 1, .int .i64 0, .int .i64 9, .int .i64 (-1)] 3)) := (Below.refl B w).alloc hBw _
  go_enter Tryz.func24, Tryz.ntmps24
  go_wp2_with fail
  refine (pick_any (w0 := w0) hc oL hwB (by omega) (by omega)).mono ?_
  rintro e w2 ⟨x, a2, rfl, hx0, hx1, hx2, h2a, h2b, own2, b2⟩
  have hx3 := hx2 (by omega)
  have hdiv : x.tdiv 8 = x / 8 := Int.tdiv_eq_ediv_of_nonneg hx0
  obtain ⟨k, hk⟩ : ∃ k : Nat, 7 + x / 8 = k := ⟨(7 + x / 8).toNat, by omega⟩
  have hk1 : 7 ≤ k ∧ k ≤ 9 := by omega
  obtain ⟨g, hg⟩ : ∃ g, g = w.heap.size := ⟨_, rfl⟩
  rw [← hg] at own2 ⊢
  have b2' := bL.trans b2
  replace hg := hid hg
  have own3 : CurAt w2 B c vc a2 (intRowOf 3 (.slice (some ⟨g, 0, none⟩) k 10) (([3, 4, 5, 2, 6, 8, 1, 0, 9, -1] : List Int).take k) :: R) := by
    obtain ⟨s, h⟩ := own2
    have h1 := (h.perm (List.Perm.swap _ _ _)).cut1 (k := k) (by show k ≤ 10; omega)
    refine ⟨s, ?_⟩
    have h2 := h1.perm (List.Perm.swap _ _ _)
    have hl : (([3, 4, 5, 2, 6, 8, 1, 0, 9, -1] : List Int).take k).length = k := by rw [List.length_take]; simp; omega
    unfold intRowOf
    rw [hl, List.map_take]
    exact h2
  have e2 : Ext w0 w2 := ⟨(‹Ext w0 w›).below.trans (b2'.mono hwB)⟩
  clear hx2 oL bL own2
  go_wp2_with fail
  refine (among_any (w0 := w0) hc own3 hwB (by omega) (by omega) (by rw [List.length_take]; simp; omega) (by rw [List.length_take]; omega)).mono ?_
  rintro e w4 ⟨y, a4, rfl, hy, h4a, h4b, own4, b4⟩
  have hyb : -1 ≤ y ∧ y ≤ 9 := by
    have h := List.mem_of_mem_take hy
    simp at h
    omega
  go_wp2_with fail
  go_ret
  exact ⟨y, a4, rfl, hyb, by omega, by omega, own4.drop, b2'.trans b4⟩

theorem wrap_i64_nat {x : Nat} (h : x ≤ 9000000) : IntKind.i64.wrap (x : Int) = x := by rw [IntKind.wrap_i64]; omega
theorem bsOf_data (T : ByteArray) : bsOf T.data.toList = T := by
  apply ByteArray.ext
  simp [bsOf]
set_option maxHeartbeats 1600000 in
set_option maxRecDepth 100000 in
theorem spoilt_any {w0 w : World} [Ext w0 w] {vc : Value} {nb : Nat} (hc : IsBytes w0 vc nb) {B c : Nat} {a : Int} {R : List Row} (own : CurAt w B c vc a R) (hwB : w0.heap.size ≤ B) (ha : 0 ≤ a) (ha2 : a ≤ 2000000) {L Wl : List UInt8} (hL : L.length ≤ 90000) (hW : 1 ≤ Wl.length ∧ Wl.length ≤ 100) :
    Calls Tryz.prog 45 #[.pointer (some ⟨c, 0, none⟩), .string (bsOf L), .string (bsOf Wl)] w fun e w' => ∃ (T : List UInt8) (a' : Int), e = .returned (.string (bsOf T)) ∧ T.length ≤ L.length + 1 ∧ a ≤ a' ∧ a' ≤ a + 6 ∧ CurAt w' B c vc a' R ∧ Below B w w' := by
  obtain ⟨S, hS⟩ : ∃ S, S = bsOf L := ⟨_, rfl⟩
  obtain ⟨W, hWe⟩ : ∃ W, W = bsOf Wl := ⟨_, rfl⟩
  have hSl : S.size = L.length := by rw [hS, bsOf_size]
  have hWz : W.size = Wl.length := by rw [hWe, bsOf_size]
  have hSz : S.size ≤ 90000 := by omega
  have hWz1 : 1 ≤ W.size ∧ W.size ≤ 100 := by omega
  have hSlist : S.toList = L := by rw [hS, bs_list]
  rw [← hS, ← hWe]
  by_cases h0 : L = []
  · have hS0 : S = { data := #[] } := by rw [hS, h0]; rfl
    obtain ⟨W1, hW1⟩ : ∃ T, T = W.extract 0 1 := ⟨_, rfl⟩
    have hex : W.extract 0 1 = W1 := hW1.symm
    have hW1z : W1.size = 1 := by rw [hW1, ByteArray.size_extract]; omega
    have hn1 : ¬ W.size < 1 := by omega
    subst hS0
    replace hS := hid hS
    replace hW1 := hid hW1
    replace hWe := hid hWe
    replace hSlist := hid hSlist
    replace h0 := hid h0
    go_enter Tryz.func45, Tryz.ntmps45
    go_wp2_with fail
    refine bodyPost_ret (v := .string W1) (by simp [results, Tryz.results45, go_sem]) rfl ?_
    exact ⟨W1.data.toList, a, by rw [bsOf_data], by rw [show W1.data.toList.length = W1.size by simp]; omega, by omega, by omega, own, Below.refl _ _⟩
  · have hne : (S.toList == []) = false := by rw [hSlist, beq_eq_false_iff_ne]; exact h0
    have hS1 : 1 ≤ S.size := by
      rw [hSl]
      cases L with
      | nil => exact absurd rfl h0
      | cons x r => simp
    replace hS := hid hS
    replace hWe := hid hWe
    replace hSlist := hid hSlist
    replace hSl := hid hSl
    replace hWz := hid hWz
    go_enter Tryz.func45, Tryz.ntmps45
    go_wp2_with fail
    refine (pick_any (w0 := w0) hc own hwB (by omega) (by omega)).mono ?_
    rintro e w2 ⟨x, a2, rfl, hx0, hx1, hx2, h2a, h2b, own2, b2⟩
    have hx3 := hx2 (by omega)
    obtain ⟨i, rfl⟩ := Int.eq_ofNat_of_zero_le hx0
    have hi : i < S.size := by omega
    have e2 : Ext w0 w2 := ⟨(‹Ext w0 w›).below.trans (b2.mono hwB)⟩
    go_wp2_with fail
    refine (pick_any (w0 := w0) hc own2 hwB (by omega) (by omega)).mono ?_
    rintro e w3 ⟨y, a3, rfl, hy0, hy1, hy2, h3a, h3b, own3, b3⟩
    have hy3 := hy2 (by omega)
    obtain ⟨j, rfl⟩ := Int.eq_ofNat_of_zero_le hy0
    have hj : j < W.size := by omega
    have b3' := b2.trans b3
    have e3 : Ext w0 w3 := ⟨(‹Ext w0 w›).below.trans (b3'.mono hwB)⟩
    obtain ⟨V, hV⟩ : ∃ T, T = W.extract j W.size := ⟨_, rfl⟩
    have hVe : W.extract j W.size = V := hV.symm
    have hVz : V.size = W.size - j := by rw [hV, ByteArray.size_extract]; omega
    obtain ⟨W1, hW1⟩ : ∃ T, T = V.extract 0 1 := ⟨_, rfl⟩
    have hW1e : V.extract 0 1 = W1 := hW1.symm
    have hW1z : W1.size = 1 := by rw [hW1, ByteArray.size_extract]; omega
    have hn1 : ¬ V.size < 1 := by omega
    have hn2 : ¬ W.size < j := by omega
    replace hV := hid hV
    replace hW1 := hid hW1
    go_wp2_with fail
    refine (pick_any (w0 := w0) hc own3 hwB (by omega) (by omega)).mono ?_
    rintro e w4 ⟨z, a4, rfl, hz0, hz1, hz2, h4a, h4b, own4, b4⟩
    have hz3 := hz2 (by omega)
    obtain ⟨q, rfl⟩ := Int.eq_ofNat_of_zero_le hz0
    have b4' := b3'.trans b4
    have own4l := own4.low
    obtain ⟨A, hA⟩ : ∃ T, T = S.extract 0 i := ⟨_, rfl⟩
    have hAe : S.extract 0 i = A := hA.symm
    have hAz : A.size = i := by rw [hA, ByteArray.size_extract]; omega
    have hn3 : ¬ S.size < i := by omega
    have hib : i ≤ 9223372036854775806 := by omega
    clear own own2 own3 b2 b3 b3' e2 e3 b4 hx2 hy2 hz2
    replace hA := hid hA
    by_cases hq0 : q = 0
    · subst hq0
      obtain ⟨C, hC⟩ : ∃ T, T = S.extract i S.size := ⟨_, rfl⟩
      have hCe : S.extract i S.size = C := hC.symm
      have hCz : C.size = S.size - i := by rw [hC, ByteArray.size_extract]; omega
      obtain ⟨T, hT⟩ : ∃ T, T = A ++ W1 ++ C := ⟨_, rfl⟩
      have hTe : A ++ W1 ++ C = T := hT.symm
      have hTs : T.size = A.size + W1.size + C.size := by rw [hT, ByteArray.size_append, ByteArray.size_append]
      have hp1 : ¬ 9223372036854775807 < A.size + W1.size := by omega
      have hp2 : ¬ 9223372036854775807 < A.size + W1.size + C.size := by omega
      have hp3 : i + 1 + (S.size - i) ≤ 9223372036854775807 := by omega
      replace hC := hid hC
      replace hT := hid hT
      go_upto_region 7 with fail
      refine wp_region_held_drew (S := fun _ => True) (by kernel_rfl) trivial (fun hHeld0 => ?_)
      have own4 := own4.ext (w' := w4.drew)
      have b4' : Below B w w4.drew := b4'.trans ((inferInstance : Ext w4 w4.drew).below.mono own4l)
      generalize w4.drew = w5 at *
      refine wpAnyH_take (i := 0) (v := .string S) rfl (by kernel_rfl) (by kernel_rfl) (by kernel_rfl) (fun _ _ _ h => h) (Or.inl ⟨by rfl, by intro wx hx; go_simp⟩) (by assumption) ?_
      try simp only [List.getElem_toArray, List.getElem_cons_zero, Act.put, List.setIfInBounds_toArray, List.set_cons_zero, List.set_cons_succ]
      refine wpAnyH_take (i := 1) (v := .int .i64 i) rfl (by kernel_rfl) (by kernel_rfl) (by kernel_rfl) (fun _ _ _ h => h) (Or.inl ⟨by rfl, by intro wx hx; go_simp⟩) (by assumption) ?_
      try simp only [List.getElem_toArray, List.getElem_cons_succ, List.getElem_cons_zero, Act.put, List.setIfInBounds_toArray, List.set_cons_zero, List.set_cons_succ]
      refine wpAnyH_take (i := 2) (v := .string A) rfl (by kernel_rfl) (by kernel_rfl) (by kernel_rfl) (fun _ _ _ h => h) (Or.inl ⟨by rfl, by intro wx hx; go_simp⟩) (by assumption) ?_
      try simp only [List.getElem_toArray, List.getElem_cons_succ, List.getElem_cons_zero, Act.put, List.setIfInBounds_toArray, List.set_cons_zero, List.set_cons_succ]
      refine wpAnyH_take (i := 3) (v := .string W1) rfl (by kernel_rfl) (by kernel_rfl) (by kernel_rfl) (fun _ _ _ h => h) (Or.inl ⟨by rfl, by intro wx hx; go_simp⟩) (by assumption) ?_
      try simp only [List.getElem_toArray, List.getElem_cons_succ, List.getElem_cons_zero, Act.put, List.setIfInBounds_toArray, List.set_cons_zero, List.set_cons_succ]
      refine wpAnyH_take (i := 4) (v := .string (A ++ W1)) rfl (by kernel_rfl) (by kernel_rfl) (by kernel_rfl) (fun _ _ _ h => h) (Or.inl ⟨by rfl, by intro wx hx; go_simp⟩) (by assumption) ?_
      try simp only [List.getElem_toArray, List.getElem_cons_succ, List.getElem_cons_zero, Act.put, List.setIfInBounds_toArray, List.set_cons_zero, List.set_cons_succ]
      refine wpAnyH_take (i := 5) (v := .string S) rfl (by kernel_rfl) (by kernel_rfl) (by kernel_rfl) (fun _ _ _ h => h) (Or.inl ⟨by rfl, by intro wx hx; go_simp⟩) (by assumption) ?_
      try simp only [List.getElem_toArray, List.getElem_cons_succ, List.getElem_cons_zero, Act.put, List.setIfInBounds_toArray, List.set_cons_zero, List.set_cons_succ]
      refine wpAnyH_take (i := 6) (v := .int .i64 i) rfl (by kernel_rfl) (by kernel_rfl) (by kernel_rfl) (fun _ _ _ h => h) (Or.inl ⟨by rfl, by intro wx hx; go_simp⟩) (by assumption) ?_
      try simp only [List.getElem_toArray, List.getElem_cons_succ, List.getElem_cons_zero, Act.put, List.setIfInBounds_toArray, List.set_cons_zero, List.set_cons_succ]
      refine wpAnyH_take (i := 7) (v := .string C) rfl (by kernel_rfl) (by kernel_rfl) (by kernel_rfl) (fun _ _ _ h => h) (Or.inl ⟨by rfl, by intro wx hx; go_simp⟩) (by assumption) ?_
      try simp only [List.getElem_toArray, List.getElem_cons_succ, List.getElem_cons_zero, Act.put, List.setIfInBounds_toArray, List.set_cons_zero, List.set_cons_succ]
      refine wpAnyH_take (i := 8) (v := .string T) rfl (by kernel_rfl) (by kernel_rfl) (by kernel_rfl) (fun _ _ _ h => h) (Or.inl ⟨by rfl, by intro wx hx; go_simp⟩) (by assumption) ?_
      try simp only [List.getElem_toArray, List.getElem_cons_succ, List.getElem_cons_zero, Act.put, List.setIfInBounds_toArray, List.set_cons_zero, List.set_cons_succ]
      refine wpAnyH_take (i := 9) (v := .string T) rfl (by kernel_rfl) (by kernel_rfl) (by kernel_rfl) (fun _ _ _ h => h) (Or.inl ⟨by rfl, by intro wx hx; go_simp⟩) (by assumption) ?_
      try simp only [List.getElem_toArray, List.getElem_cons_succ, List.getElem_cons_zero, Act.put, List.setIfInBounds_toArray, List.set_cons_zero, List.set_cons_succ]
      refine wpAnyH_done (by kernel_rfl) ?_ _
      have hTz : T.size ≤ S.size + 1 := by omega
      go_wp2_with fail
      refine bodyPost_ret (v := .string T) (by simp [results, Tryz.results45, go_sem]) rfl ?_
      exact ⟨T.data.toList, a4, by rw [bsOf_data], by rw [← hSl.out, show T.data.toList.length = T.size by simp]; exact hTz, by omega, by omega, own4, b4'⟩
    · have hqe : ((q : Int) == 0) = false := by simp; omega
      have hn4 : ¬ S.size < i + 1 := by omega
      have hi1 : (i : Int) + 1 = ((i + 1 : Nat) : Int) := by omega
      obtain ⟨i1, hi1e⟩ : ∃ i1, i1 = i + 1 := ⟨_, rfl⟩
      rw [← hi1e] at hi1 hn4
      have hwi : IntKind.i64.wrap (i1 : Int) = i1 := wrap_i64_nat (by omega)
      have hib1 : i1 ≤ 9223372036854775806 := by omega
      have hib2 : i1 ≤ 9223372036854775807 := by omega
      obtain ⟨C, hC⟩ : ∃ T, T = S.extract i1 S.size := ⟨_, rfl⟩
      have hCe : S.extract i1 S.size = C := hC.symm
      have hCz : C.size = S.size - i1 := by rw [hC, ByteArray.size_extract]; omega
      replace hC := hid hC
      by_cases hq1 : q = 1
      · subst hq1
        obtain ⟨T, hT⟩ : ∃ T, T = A ++ W1 ++ C := ⟨_, rfl⟩
        have hTe : A ++ W1 ++ C = T := hT.symm
        have hTs : T.size = A.size + W1.size + C.size := by rw [hT, ByteArray.size_append, ByteArray.size_append]
        have hp1 : ¬ 9223372036854775807 < A.size + W1.size := by omega
        have hp2 : ¬ 9223372036854775807 < A.size + W1.size + C.size := by omega
        have hp3 : i + 1 + (S.size - i1) ≤ 9223372036854775807 := by omega
        replace hT := hid hT
        replace hi1e := hid hi1e
        go_upto_region 9 with fail
        refine wp_region_held_drew (S := fun _ => True) (by kernel_rfl) trivial (fun hHeld0 => ?_)
        have own4 := own4.ext (w' := w4.drew)
        have b4' : Below B w w4.drew := b4'.trans ((inferInstance : Ext w4 w4.drew).below.mono own4l)
        generalize w4.drew = w5 at *
        refine wpAnyH_take (i := 0) (v := .string S) rfl (by kernel_rfl) (by kernel_rfl) (by kernel_rfl) (fun _ _ _ h => h) (Or.inl ⟨by rfl, by intro wx hx; go_simp⟩) (by assumption) ?_
        try simp only [List.getElem_toArray, List.getElem_cons_zero, Act.put, List.setIfInBounds_toArray, List.set_cons_zero, List.set_cons_succ]
        refine wpAnyH_take (i := 1) (v := .int .i64 i) rfl (by kernel_rfl) (by kernel_rfl) (by kernel_rfl) (fun _ _ _ h => h) (Or.inl ⟨by rfl, by intro wx hx; go_simp⟩) (by assumption) ?_
        try simp only [List.getElem_toArray, List.getElem_cons_succ, List.getElem_cons_zero, Act.put, List.setIfInBounds_toArray, List.set_cons_zero, List.set_cons_succ]
        refine wpAnyH_take (i := 2) (v := .string A) rfl (by kernel_rfl) (by kernel_rfl) (by kernel_rfl) (fun _ _ _ h => h) (Or.inl ⟨by rfl, by intro wx hx; go_simp⟩) (by assumption) ?_
        try simp only [List.getElem_toArray, List.getElem_cons_succ, List.getElem_cons_zero, Act.put, List.setIfInBounds_toArray, List.set_cons_zero, List.set_cons_succ]
        refine wpAnyH_take (i := 3) (v := .string W1) rfl (by kernel_rfl) (by kernel_rfl) (by kernel_rfl) (fun _ _ _ h => h) (Or.inl ⟨by rfl, by intro wx hx; go_simp⟩) (by assumption) ?_
        try simp only [List.getElem_toArray, List.getElem_cons_succ, List.getElem_cons_zero, Act.put, List.setIfInBounds_toArray, List.set_cons_zero, List.set_cons_succ]
        refine wpAnyH_take (i := 4) (v := .string (A ++ W1)) rfl (by kernel_rfl) (by kernel_rfl) (by kernel_rfl) (fun _ _ _ h => h) (Or.inl ⟨by rfl, by intro wx hx; go_simp⟩) (by assumption) ?_
        try simp only [List.getElem_toArray, List.getElem_cons_succ, List.getElem_cons_zero, Act.put, List.setIfInBounds_toArray, List.set_cons_zero, List.set_cons_succ]
        refine wpAnyH_take (i := 5) (v := .string S) rfl (by kernel_rfl) (by kernel_rfl) (by kernel_rfl) (fun _ _ _ h => h) (Or.inl ⟨by rfl, by intro wx hx; go_simp⟩) (by assumption) ?_
        try simp only [List.getElem_toArray, List.getElem_cons_succ, List.getElem_cons_zero, Act.put, List.setIfInBounds_toArray, List.set_cons_zero, List.set_cons_succ]
        refine wpAnyH_take (i := 6) (v := .int .i64 i) rfl (by kernel_rfl) (by kernel_rfl) (by kernel_rfl) (fun _ _ _ h => h) (Or.inl ⟨by rfl, by intro wx hx; go_simp⟩) (by assumption) ?_
        try simp only [List.getElem_toArray, List.getElem_cons_succ, List.getElem_cons_zero, Act.put, List.setIfInBounds_toArray, List.set_cons_zero, List.set_cons_succ]
        refine wpAnyH_take (i := 7) (v := .int .i64 i1) rfl (by kernel_rfl) (by kernel_rfl) (by kernel_rfl) (fun _ _ _ h => h) (Or.inl ⟨by rfl, by intro wx hx; go_simp⟩) (by assumption) ?_
        try simp only [List.getElem_toArray, List.getElem_cons_succ, List.getElem_cons_zero, Act.put, List.setIfInBounds_toArray, List.set_cons_zero, List.set_cons_succ]
        refine wpAnyH_take (i := 8) (v := .string C) rfl (by kernel_rfl) (by kernel_rfl) (by kernel_rfl) (fun _ _ _ h => h) (Or.inl ⟨by rfl, by intro wx hx; go_simp⟩) (by assumption) ?_
        try simp only [List.getElem_toArray, List.getElem_cons_succ, List.getElem_cons_zero, Act.put, List.setIfInBounds_toArray, List.set_cons_zero, List.set_cons_succ]
        refine wpAnyH_take (i := 9) (v := .string T) rfl (by kernel_rfl) (by kernel_rfl) (by kernel_rfl) (fun _ _ _ h => h) (Or.inl ⟨by rfl, by intro wx hx; go_simp⟩) (by assumption) ?_
        try simp only [List.getElem_toArray, List.getElem_cons_succ, List.getElem_cons_zero, Act.put, List.setIfInBounds_toArray, List.set_cons_zero, List.set_cons_succ]
        refine wpAnyH_take (i := 10) (v := .string T) rfl (by kernel_rfl) (by kernel_rfl) (by kernel_rfl) (fun _ _ _ h => h) (Or.inl ⟨by rfl, by intro wx hx; go_simp⟩) (by assumption) ?_
        try simp only [List.getElem_toArray, List.getElem_cons_succ, List.getElem_cons_zero, Act.put, List.setIfInBounds_toArray, List.set_cons_zero, List.set_cons_succ]
        refine wpAnyH_done (by kernel_rfl) ?_ _
        replace hi1e := hi1e.out
        have hTz : T.size ≤ S.size + 1 := by omega
        go_wp2_with fail
        refine bodyPost_ret (v := .string T) (by simp [results, Tryz.results45, go_sem]) rfl ?_
        exact ⟨T.data.toList, a4, by rw [bsOf_data], by rw [← hSl.out, show T.data.toList.length = T.size by simp]; exact hTz, by omega, by omega, own4, b4'⟩
      · have hqe1 : ((q : Int) == 1) = false := by simp; omega
        obtain ⟨T, hT⟩ : ∃ T, T = A ++ C := ⟨_, rfl⟩
        have hTe : A ++ C = T := hT.symm
        have hTs : T.size = A.size + C.size := by rw [hT, ByteArray.size_append]
        have hp2 : ¬ 9223372036854775807 < A.size + C.size := by omega
        have hp3 : i + (S.size - i1) ≤ 9223372036854775807 := by omega
        replace hT := hid hT
        replace hi1e := hid hi1e
        go_upto_region 10 with fail
        refine wp_region_held_drew (S := fun _ => True) (by kernel_rfl) trivial (fun hHeld0 => ?_)
        have own4 := own4.ext (w' := w4.drew)
        have b4' : Below B w w4.drew := b4'.trans ((inferInstance : Ext w4 w4.drew).below.mono own4l)
        generalize w4.drew = w5 at *
        refine wpAnyH_take (i := 0) (v := .string S) rfl (by kernel_rfl) (by kernel_rfl) (by kernel_rfl) (fun _ _ _ h => h) (Or.inl ⟨by rfl, by intro wx hx; go_simp⟩) (by assumption) ?_
        try simp only [List.getElem_toArray, List.getElem_cons_zero, Act.put, List.setIfInBounds_toArray, List.set_cons_zero, List.set_cons_succ]
        refine wpAnyH_take (i := 1) (v := .int .i64 i) rfl (by kernel_rfl) (by kernel_rfl) (by kernel_rfl) (fun _ _ _ h => h) (Or.inl ⟨by rfl, by intro wx hx; go_simp⟩) (by assumption) ?_
        try simp only [List.getElem_toArray, List.getElem_cons_succ, List.getElem_cons_zero, Act.put, List.setIfInBounds_toArray, List.set_cons_zero, List.set_cons_succ]
        refine wpAnyH_take (i := 2) (v := .string A) rfl (by kernel_rfl) (by kernel_rfl) (by kernel_rfl) (fun _ _ _ h => h) (Or.inl ⟨by rfl, by intro wx hx; go_simp⟩) (by assumption) ?_
        try simp only [List.getElem_toArray, List.getElem_cons_succ, List.getElem_cons_zero, Act.put, List.setIfInBounds_toArray, List.set_cons_zero, List.set_cons_succ]
        refine wpAnyH_take (i := 3) (v := .string S) rfl (by kernel_rfl) (by kernel_rfl) (by kernel_rfl) (fun _ _ _ h => h) (Or.inl ⟨by rfl, by intro wx hx; go_simp⟩) (by assumption) ?_
        try simp only [List.getElem_toArray, List.getElem_cons_succ, List.getElem_cons_zero, Act.put, List.setIfInBounds_toArray, List.set_cons_zero, List.set_cons_succ]
        refine wpAnyH_take (i := 4) (v := .int .i64 i) rfl (by kernel_rfl) (by kernel_rfl) (by kernel_rfl) (fun _ _ _ h => h) (Or.inl ⟨by rfl, by intro wx hx; go_simp⟩) (by assumption) ?_
        try simp only [List.getElem_toArray, List.getElem_cons_succ, List.getElem_cons_zero, Act.put, List.setIfInBounds_toArray, List.set_cons_zero, List.set_cons_succ]
        refine wpAnyH_take (i := 5) (v := .int .i64 i1) rfl (by kernel_rfl) (by kernel_rfl) (by kernel_rfl) (fun _ _ _ h => h) (Or.inl ⟨by rfl, by intro wx hx; go_simp⟩) (by assumption) ?_
        try simp only [List.getElem_toArray, List.getElem_cons_succ, List.getElem_cons_zero, Act.put, List.setIfInBounds_toArray, List.set_cons_zero, List.set_cons_succ]
        refine wpAnyH_take (i := 6) (v := .string C) rfl (by kernel_rfl) (by kernel_rfl) (by kernel_rfl) (fun _ _ _ h => h) (Or.inl ⟨by rfl, by intro wx hx; go_simp⟩) (by assumption) ?_
        try simp only [List.getElem_toArray, List.getElem_cons_succ, List.getElem_cons_zero, Act.put, List.setIfInBounds_toArray, List.set_cons_zero, List.set_cons_succ]
        refine wpAnyH_take (i := 7) (v := .string T) rfl (by kernel_rfl) (by kernel_rfl) (by kernel_rfl) (fun _ _ _ h => h) (Or.inl ⟨by rfl, by intro wx hx; go_simp⟩) (by assumption) ?_
        try simp only [List.getElem_toArray, List.getElem_cons_succ, List.getElem_cons_zero, Act.put, List.setIfInBounds_toArray, List.set_cons_zero, List.set_cons_succ]
        refine wpAnyH_take (i := 8) (v := .string T) rfl (by kernel_rfl) (by kernel_rfl) (by kernel_rfl) (fun _ _ _ h => h) (Or.inl ⟨by rfl, by intro wx hx; go_simp⟩) (by assumption) ?_
        try simp only [List.getElem_toArray, List.getElem_cons_succ, List.getElem_cons_zero, Act.put, List.setIfInBounds_toArray, List.set_cons_zero, List.set_cons_succ]
        refine wpAnyH_done (by kernel_rfl) ?_ _
        replace hi1e := hi1e.out
        have hTz : T.size ≤ S.size + 1 := by omega
        go_wp2_with fail
        refine bodyPost_ret (v := .string T) (by simp [results, Tryz.results45, go_sem]) rfl ?_
        exact ⟨T.data.toList, a4, by rw [bsOf_data], by rw [← hSl.out, show T.data.toList.length = T.size by simp]; exact hTz, by omega, by omega, own4, b4'⟩
end Go.Proofs.YtaphnkgjcmneoaaGreatDoor
