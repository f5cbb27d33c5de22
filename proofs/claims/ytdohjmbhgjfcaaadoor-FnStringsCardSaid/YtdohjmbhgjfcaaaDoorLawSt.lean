/- 'laws.FnStrings': for every code the law returns true. -/
import Derived.Test.YtdohjmbhgjfcaaaDoorNmd
import Derived.Test.YtdohjmbhgjfcaaaDoorVlaw
import Derived.Test.YtdohjmbhgjfcaaaDoorEnd
import Derived.Lib.ConvBytes
import Derived.Laws.Bits64
namespace Go.Proofs.YtdohjmbhgjfcaaaDoor
open Go.RowKit

theorem bits_xor_u8 (a b : Nat) (ha : a < 256) (hb : b < 256) : bits .xor .u8 (a : Int) (b : Int) = ((a ^^^ b : Nat) : Int) := by
  have hx : a ^^^ b < 2 ^ 8 := Nat.xor_lt_two_pow (by omega) (by omega)
  have h1 : (BitVec.ofInt 8 (a : Int)).toNat = a := by
    rw [BitVec.ofInt_natCast, BitVec.toNat_ofNat]; exact Nat.mod_eq_of_lt (by omega)
  have h2 : (BitVec.ofInt 8 (b : Int)).toNat = b := by
    rw [BitVec.ofInt_natCast, BitVec.toNat_ofNat]; exact Nat.mod_eq_of_lt (by omega)
  show IntKind.u8.wrap ((BitVec.ofInt 8 (a : Int) ^^^ BitVec.ofInt 8 (b : Int)).toNat : Int) = _
  rw [BitVec.toNat_xor, h1, h2]
  simp only [IntKind.wrap, IntKind.bits, IntKind.signed]
  simp
  omega
theorem xor_ne {a b : Nat} (hb : b ≠ 0) : a ^^^ b ≠ a := by
  intro h
  have h2 : a ^^^ (a ^^^ b) = a ^^^ a := by rw [h]
  rw [← Nat.xor_assoc, Nat.xor_self, Nat.zero_xor] at h2
  exact hb h2
set_option maxHeartbeats 800000 in
theorem vAt_any {w0 w : World} [Ext w0 w] {v : Value} {n : Nat} (hc : IsBytes w0 v n) {k : Nat} (hk : k ≤ 1000) (hn : n ≤ 65536) :
    Calls Tryd.prog 18 #[v, .int .i64 k] w fun e w' => ∃ x : Nat, e = .returned (.int .i64 x) ∧ x ≤ 255 ∧ w' = w := by
  obtain ⟨a, c, rfl⟩ := hc.form
  by_cases h : k < n
  · obtain ⟨b, o, x, rfl, hx, h0, h1⟩ := hc.at (w' := w) h
    obtain ⟨y, rfl⟩ := Int.eq_ofNat_of_zero_le h0
    go_enter Tryd.func18, Tryd.ntmps18
    go_wp2_with fail
    go_ret
    exact ⟨y, rfl, by omega, rfl⟩
  · have hval : ((k : Int) * 7 + (n : Int)).tmod 256 = (((k * 7 + n) % 256 : Nat) : Int) := by
      rw [Int.tmod_eq_emod_of_nonneg (by omega)]; omega
    obtain ⟨y, hy⟩ : ∃ y, y = (k * 7 + n) % 256 := ⟨_, rfl⟩
    rw [← hy] at hval
    have hyb : y ≤ 255 := by omega
    replace hy := hid hy
    go_enter Tryd.func18, Tryd.ntmps18
    go_wp2_with fail
    go_ret
    exact ⟨y, rfl, hyb, rfl⟩
set_option maxHeartbeats 800000 in
theorem specPI_any {L : List UInt8} {w : World} (hl : L.length ≤ 1000000) :
    Calls Tryd.prog 13 #[.string (bsOf L)] w fun e w' => e = .returned (optV (pI L)) ∧ Ext w w' := by
  obtain ⟨S, hS⟩ : ∃ S, S = bsOf L := ⟨_, rfl⟩
  have hR := fun (u : World) => l1Read_any (w := u) hl
  rw [← pI_rsO, ← hS] at hR
  rw [← hS]
  obtain ⟨m, hm⟩ : ∃ m, m = (pI L).getD 0 := ⟨_, rfl⟩
  obtain ⟨f, hf⟩ : ∃ f, f = (pI L).isSome := ⟨_, rfl⟩
  have ho : optV (pI L) = .tuple #[.int .i64 m, .bool f] := by rw [hm, hf]; rfl
  rw [ho] at hR ⊢
  replace hR := hid hR
  replace hm := hid hm
  replace hf := hid hf
  replace ho := hid ho
  replace hS := hid hS
  go_enter Tryd.func13, Tryd.ntmps13
  go_wp2_with fail
  with_reducible refine (hR.out w).mono ?_
  rintro e w2 ⟨rfl, e2⟩
  go_wp2_with fail
  go_ret2
  exact ⟨rfl, e2⟩
theorem bytes_made (w : World) {L : List UInt8} {Y : ByteArray} (hY : Y = bsOf L) :
    ∃ cp wb, (convert 9 22 (.string Y)).run Tryd.prog w = .ok (.slice (some ⟨w.heap.size, 0, none⟩) L.length cp) wb ∧ Ext w wb ∧
      (∀ j, (h : j < L.length) → wb.cell? ⟨w.heap.size, j, none⟩ = some (.int .u8 L[j].toNat)) ∧ ∀ j, j < L.length → wb.frozen? ⟨w.heap.size, j, none⟩ = false := by
  have hsz : Y.size = L.length := by rw [hY, bsOf_size]
  have h := Lib.run_convert_string_bytes (P := Tryd.prog) w 9 22 5 Y Tryd.underlying9 Tryd.underlying22 Tryd.underlying5
  rw [hsz] at h
  refine ⟨_, _, h, ⟨⟨rfl, rfl, rfl, by rw [Lib.bytesWorld_size]; omega, fun j hj => Lib.bytesWorld_at_old w _ Y j hj⟩⟩, fun j hj => ?_, fun j hj => ?_⟩
  · rw [Lib.bytesWorld_cell w _ Y j (by omega), hY]
    simp [bsOf, hj]
  · unfold World.frozen?
    rw [Lib.bytesWorld_at_new]
    have hc : Y.size ≤ (Lib.bytesCells w 5 Y).size := by
      unfold Lib.bytesCells
      rw [Array.size_append, Array.size_map]
      exact Nat.le_add_right _ _
    simp
    omega
theorem bytes_set {u : World} {g k : Nat} {c : UInt8} {L : List UInt8} (h : ∀ j, (hj : j < L.length) → u.cell? ⟨g, j, none⟩ = some (.int .u8 L[j].toNat)) :
    ∀ j, (hj : j < (L.set k c).length) → (u.setCell ⟨g, k, none⟩ (.int .u8 c.toNat)).cell? ⟨g, j, none⟩ = some (.int .u8 (L.set k c)[j].toNat) := by
  intro j hj
  rw [List.length_set] at hj
  by_cases hjk : k = j
  · subst hjk
    rw [World.cell?_setCell_same (h := h k hj)]
    simp
  · rw [World.cell?_setCell_other (h := by intro e; injection e with _ e2; exact hjk e2), h j hj]
    simp [hjk]
theorem bytes_back {u : World} {g cp : Nat} {L : List UInt8} (h : ∀ j, (hj : j < L.length) → u.cell? ⟨g, j, none⟩ = some (.int .u8 L[j].toNat)) :
    (convert 22 9 (.slice (some ⟨g, 0, none⟩) L.length cp)).run Tryd.prog u = .ok (.string (bsOf L)) u :=
  run_convert_bytes_back (P := Tryd.prog) u 22 9 5 ⟨g, 0, none⟩ cp L Tryd.underlying22 Tryd.underlying5 Tryd.underlying9 (fun j hj => by
    rw [show (⟨g, 0, none⟩ : Addr).add j = ⟨g, j, none⟩ by unfold Addr.add; split <;> simp_all]
    exact h j hj)

set_option maxHeartbeats 6400000 in
set_option maxRecDepth 100000 in
theorem lawFnStrings_any {v : Value} {nb : Nat} {w : World} (hc : IsBytes w v nb) (ht : Tens w) (he : Errs w) (hm : Most w) :
    Calls Tryd.prog 3 #[v] w fun e w' => e = .returned (.bool true) ∧ Ext w w' := by
  have hc' := hc
  obtain ⟨ac, cc, rfl⟩ := hc.form
  replace ht := hid ht
  replace he := hid he
  replace hm := hid hm
  by_cases hbig : 65536 < nb
  · have hd := hid (decide_eq_true hbig)
    go_enter Tryd.func3, Tryd.ntmps3
    go_wp2_with fail
    refine (vBig_l hc').mono ?_
    rw [hd.out]
    rintro e w1 ⟨rfl, rfl⟩
    go_wp2_with fail
    go_ret
    exact ⟨rfl, Ext.refl _⟩
  · have hd := hid (decide_eq_false hbig)
    have hnb : nb ≤ 65536 := by omega
    go_enter Tryd.func3, Tryd.ntmps3
    go_wp2_with fail
    refine (vBig_l hc').mono ?_
    rw [hd.out]
    rintro e wz ⟨rfl, rfl⟩
    go_wp2_with fail
    refine (drawFm_any (w0 := w) (w := w) hc').mono ?_
    rintro e w1 ⟨n, rfl, hn, c1⟩
    obtain ⟨S, hS⟩ : ∃ S, S = bsOf (fmL n) := ⟨_, rfl⟩
    obtain ⟨Q, hQ⟩ : ∃ Q, Q = fmB n := ⟨_, rfl⟩
    have hF1 := fun (u : World) (h : Tens u) => implFm_any n (w := u) h
    have hF2 := fun (u : World) => specFm_any n u
    rw [← hS, ← hQ] at hF1 hF2
    replace hF1 := hid hF1
    replace hF2 := hid hF2
    replace hS := hid hS
    replace hQ := hid hQ
    have qQ : (Q != Q) = false := by simp
    go_wp2_with fail
    with_reducible refine (hF1.out w1 (ht.out.ext (w' := w1))).mono ?_
    rintro e w2 ⟨rfl, e2⟩
    have c2 : Ext w w2 := Ext.trans c1 e2
    go_wp2_with fail
    with_reducible refine (hF2.out w2).mono ?_
    rintro e w3 ⟨rfl, e3⟩
    have c3 : Ext w w3 := Ext.trans c2 e3
    go_wp2_with fail
    refine (drawPi_any (w0 := w) (w := w3) hc').mono ?_
    rintro e w4 ⟨t, rfl, htl, e4⟩
    have c4 : Ext w w4 := Ext.trans c3 e4
    obtain ⟨T, hT⟩ : ∃ T, T = bsOf t := ⟨_, rfl⟩
    obtain ⟨m, hm1⟩ : ∃ m, m = (pI t).getD 0 := ⟨_, rfl⟩
    obtain ⟨f, hf⟩ : ∃ f, f = (pI t).isSome := ⟨_, rfl⟩
    have ho : optV (pI t) = .tuple #[.int .i64 m, .bool f] := by rw [hm1, hf]; rfl
    have hP1 := fun (u : World) (h1 : Tens u) (h2 : Errs u) => implPI_any (L := t) (w := u) (by omega) h1 h2
    have hP2 := fun (u : World) => specPI_any (L := t) (w := u) (by omega)
    rw [ho, ← hT] at hP1 hP2
    rw [← hT]
    have qf : (f != f) = false := by simp
    replace hP1 := hid hP1
    replace hP2 := hid hP2
    replace hT := hid hT
    replace hm1 := hid hm1
    replace hf := hid hf
    replace ho := hid ho
    go_wp2_with fail
    with_reducible refine (hP1.out w4 (ht.out.ext (w' := w4)) (he.out.ext (w' := w4))).mono ?_
    rintro e w5 ⟨rfl, e5⟩
    have c5 : Ext w w5 := Ext.trans c4 e5
    go_wp2_with fail
    with_reducible refine (hP2.out w5).mono ?_
    rintro e w6 ⟨rfl, e6⟩
    have c6 : Ext w w6 := Ext.trans c5 e6
    go_wp2_with fail
    refine (drawAp_any (w0 := w) (w := w6) hc').mono ?_
    rintro e w7 ⟨x, rfl, hxl, e7⟩
    have c7 : Ext w w7 := Ext.trans c6 e7
    obtain ⟨X, hX⟩ : ∃ X, X = bsOf x := ⟨_, rfl⟩
    obtain ⟨Y, hY⟩ : ∃ Y, Y = bsOf (apL x) := ⟨_, rfl⟩
    obtain ⟨A, hA⟩ : ∃ A, A = apB x := ⟨_, rfl⟩
    have hA1 := fun (u : World) (h1 : Tens u) => implAp_any (L := x) (w := u) (by omega) h1
    have hA2 := fun (u : World) => specAp_any (L := x) (w := u) (by omega)
    rw [← hX, ← hY, ← hA] at hA1 hA2
    rw [← hX]
    have qA : (A != A) = false := by simp
    replace hA1 := hid hA1
    replace hA2 := hid hA2
    replace hX := hid hX
    replace hY := hid hY
    replace hA := hid hA
    go_wp2_with fail
    with_reducible refine (hA1.out w7 (ht.out.ext (w' := w7))).mono ?_
    rintro e w8 ⟨rfl, e8⟩
    have c8 : Ext w w8 := Ext.trans c7 e8
    go_wp2_with fail
    with_reducible refine (hA2.out w8).mono ?_
    rintro e w9 ⟨rfl, e9⟩
    have c9 : Ext w w9 := Ext.trans c8 e9
    have hfl : (fmL n).length ≤ 30 := by
      unfold fmL
      split
      · have := itoa_len (n := n) (by omega); omega
      · simp
    obtain ⟨m2, hm2⟩ : ∃ m, m = (pI (fmL n)).getD 0 := ⟨_, rfl⟩
    obtain ⟨f2, hf2⟩ : ∃ f, f = (pI (fmL n)).isSome := ⟨_, rfl⟩
    have ho2 : optV (pI (fmL n)) = .tuple #[.int .i64 m2, .bool f2] := by rw [hm2, hf2]; rfl
    have hP3 := fun (u : World) (h1 : Tens u) (h2 : Errs u) => implPI_any (L := fmL n) (w := u) (by omega) h1 h2
    rw [ho2, ← hS.out] at hP3
    replace hP3 := hid hP3
    replace hm2 := hid hm2
    replace hf2 := hid hf2
    replace ho2 := hid ho2
    go_wp2_with fail
    with_reducible refine (hP3.out w9 (ht.out.ext (w' := w9)) (he.out.ext (w' := w9))).mono ?_
    rintro e w10 ⟨rfl, e10⟩
    have c10 : Ext w w10 := Ext.trans c9 e10
    cases Q with
    | false =>
      go_upto_region 17 with fail
      cases A with
      | false =>
        have hY0 : Y = { data := #[] } := by
          rw [hY.out]
          have hb : apB x = false := hA.out.symm
          rw [apL, hb]
          rfl
        subst hY0
        go_wp2_with fail
        go_ret
        exact ⟨rfl, c10⟩
      | true =>
        have hb : apB x = true := hA.out.symm
        obtain ⟨v1, v2⟩ := vr_seal hb
        obtain ⟨L, hL⟩ : ∃ L, L = sealL x := ⟨_, rfl⟩
        have hYL : Y = bsOf L := by rw [hY.out, hL, apL, hb]; rfl
        have hLl := (apB_iff.1 hb).2.2
        rw [← hL] at v1 v2 hLl
        have hV := fun (u : World) (h1 : Tens u) (h2 : Most u) => implVr_any (L := L) (w := u) (by omega) h1 h2
        rw [v1, v2, ← hYL, ← hX.out] at hV
        replace hV := hid hV
        have hL0 : 0 < L.length := by rw [hL]; unfold sealL; simp; omega
        obtain ⟨N, hN⟩ : ∃ N, N = L.length := ⟨_, rfl⟩
        have hYN : Y.size = N := by rw [hYL, bsOf_size, hN]
        rw [← hN] at hLl hL0
        replace hYL := hid hYL
        replace hYN := hid hYN
        replace hN := hid hN
        replace hL := hid hL
        replace v1 := hid v1
        replace v2 := hid v2
        have hb0 := hid hb
        clear hb
        go_upto_region 20 with fail
        with_reducible refine (hV.out w10 (ht.out.ext (w' := w10)) (hm.out.ext (w' := w10))).mono ?_
        rintro e w11 ⟨rfl, e11⟩
        have c11 : Ext w w11 := Ext.trans c10 e11
        go_upto_region 20 with fail
        obtain ⟨cp, wb, hcv, eb, hcell, hfr⟩ := bytes_made w11 hYL.out
        obtain ⟨g, hg⟩ : ∃ g, g = w11.heap.size := ⟨_, rfl⟩
        rw [← hg, ← hN.out] at hcv
        rw [← hg] at hcell hfr
        have hgw : w.heap.size ≤ g := by rw [hg]; exact c11.size
        replace hg := hid hg
        have cb : Ext w wb := Ext.trans c11 eb
        replace hcell := hid hcell
        replace hfr := hid hfr
        go_wp2_with fail
        refine (vAt_any (w0 := w) (w := wb) hc' (k := 9) (by omega) hnb).mono ?_
        rintro e w12 ⟨x9, rfl, hx9, rfl⟩
        have hN0 : ¬ (N : Int) = 0 := by omega
        have hval : (x9 : Int).tmod (N : Int) = ((x9 % N : Nat) : Int) := by rw [Int.tmod_eq_emod_of_nonneg (by omega)]; omega
        have hkN : x9 % N < N := Nat.mod_lt _ hL0
        obtain ⟨k, hk⟩ : ∃ k, k = x9 % N := ⟨_, rfl⟩
        rw [← hk] at hval hkN
        replace hk := hid hk
        have hkL : k < L.length := by have := hN.out; omega
        obtain ⟨b, hb⟩ : ∃ b : UInt8, b = L[k]'hkL := ⟨_, rfl⟩
        obtain ⟨z, hz⟩ : ∃ z, z = b.toNat := ⟨_, rfl⟩
        have hz8 : z < 256 := by rw [hz]; exact b.toNat_lt
        have tb : w12.drew.cell? ⟨g, k, none⟩ = some (.int .u8 (z : Int)) := by
          have h := hcell.out k hkL
          rw [hz, hb]
          exact h
        replace hb := hid hb
        replace hz := hid hz
        have tf : w12.drew.frozen? ⟨g, k, none⟩ = false := hfr.out k hkL
        have cd : Ext w w12.drew := Ext.trans cb inferInstance
        have hcelld := hid (show ∀ j, (hj : j < L.length) → w12.drew.cell? ⟨g, j, none⟩ = some (.int .u8 L[j].toNat) from hcell.out)
        go_upto_region 22 with fail
        refine wp_region_E_drew (X := fun i => i == 13) (S := fun w' => w'.cell? ⟨g, k, none⟩ = some (.int .u8 (z : Int))) (by kernel_rfl) tb (fun hHeld0 => ?_)
        generalize w12.drew = w13 at *
        refine wpAnyE_take (i := 0) (v := .slice (some ⟨g, 0, none⟩) N cp) rfl (by kernel_rfl) (by kernel_rfl) (by kernel_rfl) (fun _ _ _ h => h) (Or.inl ⟨by rfl, by intro wx hx; go_simp⟩) (by assumption) ?_
        try simp only [List.getElem_toArray, List.getElem_cons_zero, Act.put, List.setIfInBounds_toArray, List.set_cons_zero, List.set_cons_succ]
        refine wpAnyE_take (i := 1) (v := .int .i64 k) rfl (by kernel_rfl) (by kernel_rfl) (by kernel_rfl) (fun _ _ _ h => h) (Or.inl ⟨by rfl, by intro wx hx; go_simp⟩) (by assumption) ?_
        try simp only [List.getElem_toArray, List.getElem_cons_succ, List.getElem_cons_zero, Act.put, List.setIfInBounds_toArray, List.set_cons_zero, List.set_cons_succ]
        refine wpAnyE_take (i := 2) (v := .slice (some ⟨g, 0, none⟩) N cp) rfl (by kernel_rfl) (by kernel_rfl) (by kernel_rfl) (fun _ _ _ h => h) (Or.inl ⟨by rfl, by intro wx hx; go_simp⟩) (by assumption) ?_
        try simp only [List.getElem_toArray, List.getElem_cons_succ, List.getElem_cons_zero, Act.put, List.setIfInBounds_toArray, List.set_cons_zero, List.set_cons_succ]
        refine wpAnyE_take (i := 3) (v := .int .i64 k) rfl (by kernel_rfl) (by kernel_rfl) (by kernel_rfl) (fun _ _ _ h => h) (Or.inl ⟨by rfl, by intro wx hx; go_simp⟩) (by assumption) ?_
        try simp only [List.getElem_toArray, List.getElem_cons_succ, List.getElem_cons_zero, Act.put, List.setIfInBounds_toArray, List.set_cons_zero, List.set_cons_succ]
        refine wpAnyE_take (i := 4) (v := .pointer (some ⟨g, k, none⟩)) rfl (by kernel_rfl) (by kernel_rfl) (by kernel_rfl) (fun _ _ _ h => h) (Or.inl ⟨by rfl, by intro wx hx; go_simp⟩) (by assumption) ?_
        try simp only [List.getElem_toArray, List.getElem_cons_succ, List.getElem_cons_zero, Act.put, List.setIfInBounds_toArray, List.set_cons_zero, List.set_cons_succ]
        refine wpAnyE_take (i := 5) (v := .int .u8 z) rfl (by kernel_rfl) (by kernel_rfl) (by kernel_rfl) (fun _ _ _ h => h) (Or.inl ⟨by rfl, by intro wx hx; go_simp⟩) (by assumption) ?_
        try simp only [List.getElem_toArray, List.getElem_cons_succ, List.getElem_cons_zero, Act.put, List.setIfInBounds_toArray, List.set_cons_zero, List.set_cons_succ]
        refine wpAnyE_take (i := 6) (v := .slice ac nb cc) rfl (by kernel_rfl) (by kernel_rfl) (by kernel_rfl) (fun _ _ _ h => h) (Or.inl ⟨by rfl, by intro wx hx; go_simp⟩) (by assumption) ?_
        try simp only [List.getElem_toArray, List.getElem_cons_succ, List.getElem_cons_zero, Act.put, List.setIfInBounds_toArray, List.set_cons_zero, List.set_cons_succ]
        refine wpAnyE_ready (rs := [7]) (by kernel_rfl) (by simp) ?_
        refine AllReadyE.cons rfl (fun K hK => ?_) AllReadyE.nil
        go_simp
        refine (vAt_any (w0 := w) (w := w13) hc' (k := 10) (by omega) hnb).mono ?_
        rintro e w14 ⟨x10, rfl, hx10, rfl⟩
        obtain ⟨r, hr⟩ : ∃ r, r = x10 % 255 := ⟨_, rfl⟩
        have hval2 : (x10 : Int).tmod 255 = (r : Int) := by rw [Int.tmod_eq_emod_of_nonneg (by omega), hr]; omega
        obtain ⟨d, hdd⟩ : ∃ d, d = 1 + r := ⟨_, rfl⟩
        have hd1 : 1 ≤ d ∧ d ≤ 255 := by omega
        have hval3 : (1 : Int) + (r : Int) = (d : Int) := by omega
        obtain ⟨q, hq⟩ : ∃ q : UInt8, q = UInt8.ofNat (z ^^^ d) := ⟨_, rfl⟩
        have hqn : q.toNat = z ^^^ d := by
          have h1 : z ^^^ d < 2 ^ 8 := Nat.xor_lt_two_pow (by omega) (by omega)
          rw [hq, UInt8.toNat_ofNat', Nat.mod_eq_of_lt h1]
        have hqb : (L[k]'hkL) ≠ q := by
          intro h
          have h1 : z = z ^^^ d := by rw [← hqn, ← h, ← hb.out, hz.out]
          exact xor_ne (show d ≠ 0 by omega) h1.symm
        obtain ⟨p, hp⟩ : ∃ p, p = q.toNat := ⟨_, rfl⟩
        have hxor : bits .xor .u8 (z : Int) (d : Int) = (p : Int) := by rw [bits_xor_u8 z d hz8 (by omega), hp, hqn]
        have hp8 : p < 256 := by rw [hp]; exact q.toNat_lt
        replace hr := hid hr
        replace hdd := hid hdd
        replace hq := hid hq
        replace hqn := hid hqn
        replace hqb := hid hqb
        replace hp := hid hp
        have hw1 : IntKind.i64.wrap (d : Int) = d := by rw [IntKind.wrap_i64]; omega
        have hw2 : IntKind.u8.wrap (d : Int) = d := by
          simp only [IntKind.wrap, IntKind.bits, IntKind.signed]
          simp
          omega
        refine hK.out _ _ (.inr hHeld0) (fun _ => ?_)
        clear hK K
        try simp only [List.getElem_toArray, List.getElem_cons_succ, List.getElem_cons_zero, Act.put, List.setIfInBounds_toArray, List.set_cons_zero, List.set_cons_succ]
        refine wpAnyE_take (i := 8) (v := .int .i64 r) rfl (by kernel_rfl) (by kernel_rfl) (by kernel_rfl) (fun _ _ _ h => h) (Or.inl ⟨by rfl, by intro wx hx; go_simp⟩) (by assumption) ?_
        try simp only [List.getElem_toArray, List.getElem_cons_succ, List.getElem_cons_zero, Act.put, List.setIfInBounds_toArray, List.set_cons_zero, List.set_cons_succ]
        refine wpAnyE_take (i := 9) (v := .int .i64 d) rfl (by kernel_rfl) (by kernel_rfl) (by kernel_rfl) (fun _ _ _ h => h) (Or.inl ⟨by rfl, by intro wx hx; go_simp⟩) (by assumption) ?_
        try simp only [List.getElem_toArray, List.getElem_cons_succ, List.getElem_cons_zero, Act.put, List.setIfInBounds_toArray, List.set_cons_zero, List.set_cons_succ]
        refine wpAnyE_take (i := 10) (v := .int .u8 d) rfl (by kernel_rfl) (by kernel_rfl) (by kernel_rfl) (fun _ _ _ h => h) (Or.inl ⟨by rfl, by intro wx hx; go_simp⟩) (by assumption) ?_
        try simp only [List.getElem_toArray, List.getElem_cons_succ, List.getElem_cons_zero, Act.put, List.setIfInBounds_toArray, List.set_cons_zero, List.set_cons_succ]
        refine wpAnyE_take (i := 11) (v := .int .u8 p) rfl (by kernel_rfl) (by kernel_rfl) (by kernel_rfl) (fun _ _ _ h => h) (Or.inl ⟨by rfl, by intro wx hx; go_simp⟩) (by assumption) ?_
        try simp only [List.getElem_toArray, List.getElem_cons_succ, List.getElem_cons_zero, Act.put, List.setIfInBounds_toArray, List.set_cons_zero, List.set_cons_succ]
        refine wpAnyE_take (i := 12) (v := .pointer (some ⟨g, k, none⟩)) rfl (by kernel_rfl) (by kernel_rfl) (by kernel_rfl) (fun _ _ _ h => h) (Or.inl ⟨by rfl, by intro wx hx; go_simp⟩) (by assumption) ?_
        try simp only [List.getElem_toArray, List.getElem_cons_succ, List.getElem_cons_zero, Act.put, List.setIfInBounds_toArray, List.set_cons_zero, List.set_cons_succ]
        refine wpAnyE_ready (rs := [13]) (by kernel_rfl) (by simp) ?_
        refine AllReadyE.cons rfl (fun K hK => ?_) AllReadyE.nil
        go_simp
        refine hK.out _ _ (.inl rfl) (fun _ => ?_)
        clear hK K
        try simp only [List.getElem_toArray, List.getElem_cons_succ, List.getElem_cons_zero, Act.put, List.setIfInBounds_toArray, List.set_cons_zero, List.set_cons_succ]
        refine wpAnyE_done (by kernel_rfl) ?_ _
        obtain ⟨LZ, hLZ⟩ : ∃ LZ, LZ = L.set k q := ⟨_, rfl⟩
        have hLZl : LZ.length = N := by rw [hLZ, List.length_set, hN.out]
        have hcz := bytes_set (k := k) (c := q) hcelld.out
        rw [← hLZ, ← hp.out] at hcz
        have hbk := bytes_back (cp := cp) hcz
        rw [hLZl] at hbk
        have ck : Ext w (w14.setCell ⟨g, k, none⟩ (.int .u8 (p : Int))) := Ext.set (h := cd) hgw _
        have hvz : vrB LZ = false := by
          rw [hLZ]
          have h1 := hL.out
          subst h1
          exact vr_broken hb0.out hkL hqb.out
        have hW := fun (u : World) (h1 : Tens u) (h2 : Most u) => implVr_any (L := LZ) (w := u) (by omega) h1 h2
        rw [hvz, show vrL LZ = [] by rw [vrL, hvz]; rfl] at hW
        obtain ⟨Z, hZ⟩ : ∃ Z, Z = bsOf LZ := ⟨_, rfl⟩
        rw [← hZ] at hbk hW
        replace hW := hid hW
        replace hZ := hid hZ
        replace hvz := hid hvz
        replace hLZ := hid hLZ
        replace hLZl := hid hLZl
        replace hcz := hid hcz
        clear hHeld0 tb tf
        generalize w14.setCell ⟨g, k, none⟩ (.int .u8 (p : Int)) = w15 at *
        go_wp2_with fail
        with_reducible refine (hW.out w15 (ht.out.ext (w' := w15)) (hm.out.ext (w' := w15))).mono ?_
        rintro e w16 ⟨rfl, e16⟩
        have c16 : Ext w w16 := Ext.trans ck e16
        go_wp2_with fail
        go_ret
        exact ⟨rfl, c16⟩
    | true =>
      have hb1 : fmB n = true := hQ.out.symm
      have hpn : pI (fmL n) = some n := by
        rw [pI_iff]
        refine ⟨by rw [fmL, hb1]; rfl, ?_⟩
        have h := hb1
        unfold fmB at h
        rw [inB_true] at h
        omega
      have hm3 : m2 = n := by rw [hm2.out, hpn]; rfl
      have hf3 : f2 = true := by rw [hf2.out, hpn]; rfl
      subst hm3
      subst hf3
      replace hpn := hid hpn
      replace hb1 := hid hb1
      go_upto_region 17 with fail
      cases A with
      | false =>
        have hY0 : Y = { data := #[] } := by
          rw [hY.out]
          have hb : apB x = false := hA.out.symm
          rw [apL, hb]
          rfl
        subst hY0
        go_wp2_with fail
        go_ret
        exact ⟨rfl, c10⟩
      | true =>
        have hb : apB x = true := hA.out.symm
        obtain ⟨v1, v2⟩ := vr_seal hb
        obtain ⟨L, hL⟩ : ∃ L, L = sealL x := ⟨_, rfl⟩
        have hYL : Y = bsOf L := by rw [hY.out, hL, apL, hb]; rfl
        have hLl := (apB_iff.1 hb).2.2
        rw [← hL] at v1 v2 hLl
        have hV := fun (u : World) (h1 : Tens u) (h2 : Most u) => implVr_any (L := L) (w := u) (by omega) h1 h2
        rw [v1, v2, ← hYL, ← hX.out] at hV
        replace hV := hid hV
        have hL0 : 0 < L.length := by rw [hL]; unfold sealL; simp; omega
        obtain ⟨N, hN⟩ : ∃ N, N = L.length := ⟨_, rfl⟩
        have hYN : Y.size = N := by rw [hYL, bsOf_size, hN]
        rw [← hN] at hLl hL0
        replace hYL := hid hYL
        replace hYN := hid hYN
        replace hN := hid hN
        replace hL := hid hL
        replace v1 := hid v1
        replace v2 := hid v2
        have hb0 := hid hb
        clear hb
        go_upto_region 20 with fail
        with_reducible refine (hV.out w10 (ht.out.ext (w' := w10)) (hm.out.ext (w' := w10))).mono ?_
        rintro e w11 ⟨rfl, e11⟩
        have c11 : Ext w w11 := Ext.trans c10 e11
        go_upto_region 20 with fail
        obtain ⟨cp, wb, hcv, eb, hcell, hfr⟩ := bytes_made w11 hYL.out
        obtain ⟨g, hg⟩ : ∃ g, g = w11.heap.size := ⟨_, rfl⟩
        rw [← hg, ← hN.out] at hcv
        rw [← hg] at hcell hfr
        have hgw : w.heap.size ≤ g := by rw [hg]; exact c11.size
        replace hg := hid hg
        have cb : Ext w wb := Ext.trans c11 eb
        replace hcell := hid hcell
        replace hfr := hid hfr
        go_wp2_with fail
        refine (vAt_any (w0 := w) (w := wb) hc' (k := 9) (by omega) hnb).mono ?_
        rintro e w12 ⟨x9, rfl, hx9, rfl⟩
        have hN0 : ¬ (N : Int) = 0 := by omega
        have hval : (x9 : Int).tmod (N : Int) = ((x9 % N : Nat) : Int) := by rw [Int.tmod_eq_emod_of_nonneg (by omega)]; omega
        have hkN : x9 % N < N := Nat.mod_lt _ hL0
        obtain ⟨k, hk⟩ : ∃ k, k = x9 % N := ⟨_, rfl⟩
        rw [← hk] at hval hkN
        replace hk := hid hk
        have hkL : k < L.length := by have := hN.out; omega
        obtain ⟨b, hb⟩ : ∃ b : UInt8, b = L[k]'hkL := ⟨_, rfl⟩
        obtain ⟨z, hz⟩ : ∃ z, z = b.toNat := ⟨_, rfl⟩
        have hz8 : z < 256 := by rw [hz]; exact b.toNat_lt
        have tb : w12.drew.cell? ⟨g, k, none⟩ = some (.int .u8 (z : Int)) := by
          have h := hcell.out k hkL
          rw [hz, hb]
          exact h
        replace hb := hid hb
        replace hz := hid hz
        have tf : w12.drew.frozen? ⟨g, k, none⟩ = false := hfr.out k hkL
        have cd : Ext w w12.drew := Ext.trans cb inferInstance
        have hcelld := hid (show ∀ j, (hj : j < L.length) → w12.drew.cell? ⟨g, j, none⟩ = some (.int .u8 L[j].toNat) from hcell.out)
        go_upto_region 22 with fail
        refine wp_region_E_drew (X := fun i => i == 13) (S := fun w' => w'.cell? ⟨g, k, none⟩ = some (.int .u8 (z : Int))) (by kernel_rfl) tb (fun hHeld0 => ?_)
        generalize w12.drew = w13 at *
        refine wpAnyE_take (i := 0) (v := .slice (some ⟨g, 0, none⟩) N cp) rfl (by kernel_rfl) (by kernel_rfl) (by kernel_rfl) (fun _ _ _ h => h) (Or.inl ⟨by rfl, by intro wx hx; go_simp⟩) (by assumption) ?_
        try simp only [List.getElem_toArray, List.getElem_cons_zero, Act.put, List.setIfInBounds_toArray, List.set_cons_zero, List.set_cons_succ]
        refine wpAnyE_take (i := 1) (v := .int .i64 k) rfl (by kernel_rfl) (by kernel_rfl) (by kernel_rfl) (fun _ _ _ h => h) (Or.inl ⟨by rfl, by intro wx hx; go_simp⟩) (by assumption) ?_
        try simp only [List.getElem_toArray, List.getElem_cons_succ, List.getElem_cons_zero, Act.put, List.setIfInBounds_toArray, List.set_cons_zero, List.set_cons_succ]
        refine wpAnyE_take (i := 2) (v := .slice (some ⟨g, 0, none⟩) N cp) rfl (by kernel_rfl) (by kernel_rfl) (by kernel_rfl) (fun _ _ _ h => h) (Or.inl ⟨by rfl, by intro wx hx; go_simp⟩) (by assumption) ?_
        try simp only [List.getElem_toArray, List.getElem_cons_succ, List.getElem_cons_zero, Act.put, List.setIfInBounds_toArray, List.set_cons_zero, List.set_cons_succ]
        refine wpAnyE_take (i := 3) (v := .int .i64 k) rfl (by kernel_rfl) (by kernel_rfl) (by kernel_rfl) (fun _ _ _ h => h) (Or.inl ⟨by rfl, by intro wx hx; go_simp⟩) (by assumption) ?_
        try simp only [List.getElem_toArray, List.getElem_cons_succ, List.getElem_cons_zero, Act.put, List.setIfInBounds_toArray, List.set_cons_zero, List.set_cons_succ]
        refine wpAnyE_take (i := 4) (v := .pointer (some ⟨g, k, none⟩)) rfl (by kernel_rfl) (by kernel_rfl) (by kernel_rfl) (fun _ _ _ h => h) (Or.inl ⟨by rfl, by intro wx hx; go_simp⟩) (by assumption) ?_
        try simp only [List.getElem_toArray, List.getElem_cons_succ, List.getElem_cons_zero, Act.put, List.setIfInBounds_toArray, List.set_cons_zero, List.set_cons_succ]
        refine wpAnyE_take (i := 5) (v := .int .u8 z) rfl (by kernel_rfl) (by kernel_rfl) (by kernel_rfl) (fun _ _ _ h => h) (Or.inl ⟨by rfl, by intro wx hx; go_simp⟩) (by assumption) ?_
        try simp only [List.getElem_toArray, List.getElem_cons_succ, List.getElem_cons_zero, Act.put, List.setIfInBounds_toArray, List.set_cons_zero, List.set_cons_succ]
        refine wpAnyE_take (i := 6) (v := .slice ac nb cc) rfl (by kernel_rfl) (by kernel_rfl) (by kernel_rfl) (fun _ _ _ h => h) (Or.inl ⟨by rfl, by intro wx hx; go_simp⟩) (by assumption) ?_
        try simp only [List.getElem_toArray, List.getElem_cons_succ, List.getElem_cons_zero, Act.put, List.setIfInBounds_toArray, List.set_cons_zero, List.set_cons_succ]
        refine wpAnyE_ready (rs := [7]) (by kernel_rfl) (by simp) ?_
        refine AllReadyE.cons rfl (fun K hK => ?_) AllReadyE.nil
        go_simp
        refine (vAt_any (w0 := w) (w := w13) hc' (k := 10) (by omega) hnb).mono ?_
        rintro e w14 ⟨x10, rfl, hx10, rfl⟩
        obtain ⟨r, hr⟩ : ∃ r, r = x10 % 255 := ⟨_, rfl⟩
        have hval2 : (x10 : Int).tmod 255 = (r : Int) := by rw [Int.tmod_eq_emod_of_nonneg (by omega), hr]; omega
        obtain ⟨d, hdd⟩ : ∃ d, d = 1 + r := ⟨_, rfl⟩
        have hd1 : 1 ≤ d ∧ d ≤ 255 := by omega
        have hval3 : (1 : Int) + (r : Int) = (d : Int) := by omega
        obtain ⟨q, hq⟩ : ∃ q : UInt8, q = UInt8.ofNat (z ^^^ d) := ⟨_, rfl⟩
        have hqn : q.toNat = z ^^^ d := by
          have h1 : z ^^^ d < 2 ^ 8 := Nat.xor_lt_two_pow (by omega) (by omega)
          rw [hq, UInt8.toNat_ofNat', Nat.mod_eq_of_lt h1]
        have hqb : (L[k]'hkL) ≠ q := by
          intro h
          have h1 : z = z ^^^ d := by rw [← hqn, ← h, ← hb.out, hz.out]
          exact xor_ne (show d ≠ 0 by omega) h1.symm
        obtain ⟨p, hp⟩ : ∃ p, p = q.toNat := ⟨_, rfl⟩
        have hxor : bits .xor .u8 (z : Int) (d : Int) = (p : Int) := by rw [bits_xor_u8 z d hz8 (by omega), hp, hqn]
        have hp8 : p < 256 := by rw [hp]; exact q.toNat_lt
        replace hr := hid hr
        replace hdd := hid hdd
        replace hq := hid hq
        replace hqn := hid hqn
        replace hqb := hid hqb
        replace hp := hid hp
        have hw1 : IntKind.i64.wrap (d : Int) = d := by rw [IntKind.wrap_i64]; omega
        have hw2 : IntKind.u8.wrap (d : Int) = d := by
          simp only [IntKind.wrap, IntKind.bits, IntKind.signed]
          simp
          omega
        refine hK.out _ _ (.inr hHeld0) (fun _ => ?_)
        clear hK K
        try simp only [List.getElem_toArray, List.getElem_cons_succ, List.getElem_cons_zero, Act.put, List.setIfInBounds_toArray, List.set_cons_zero, List.set_cons_succ]
        refine wpAnyE_take (i := 8) (v := .int .i64 r) rfl (by kernel_rfl) (by kernel_rfl) (by kernel_rfl) (fun _ _ _ h => h) (Or.inl ⟨by rfl, by intro wx hx; go_simp⟩) (by assumption) ?_
        try simp only [List.getElem_toArray, List.getElem_cons_succ, List.getElem_cons_zero, Act.put, List.setIfInBounds_toArray, List.set_cons_zero, List.set_cons_succ]
        refine wpAnyE_take (i := 9) (v := .int .i64 d) rfl (by kernel_rfl) (by kernel_rfl) (by kernel_rfl) (fun _ _ _ h => h) (Or.inl ⟨by rfl, by intro wx hx; go_simp⟩) (by assumption) ?_
        try simp only [List.getElem_toArray, List.getElem_cons_succ, List.getElem_cons_zero, Act.put, List.setIfInBounds_toArray, List.set_cons_zero, List.set_cons_succ]
        refine wpAnyE_take (i := 10) (v := .int .u8 d) rfl (by kernel_rfl) (by kernel_rfl) (by kernel_rfl) (fun _ _ _ h => h) (Or.inl ⟨by rfl, by intro wx hx; go_simp⟩) (by assumption) ?_
        try simp only [List.getElem_toArray, List.getElem_cons_succ, List.getElem_cons_zero, Act.put, List.setIfInBounds_toArray, List.set_cons_zero, List.set_cons_succ]
        refine wpAnyE_take (i := 11) (v := .int .u8 p) rfl (by kernel_rfl) (by kernel_rfl) (by kernel_rfl) (fun _ _ _ h => h) (Or.inl ⟨by rfl, by intro wx hx; go_simp⟩) (by assumption) ?_
        try simp only [List.getElem_toArray, List.getElem_cons_succ, List.getElem_cons_zero, Act.put, List.setIfInBounds_toArray, List.set_cons_zero, List.set_cons_succ]
        refine wpAnyE_take (i := 12) (v := .pointer (some ⟨g, k, none⟩)) rfl (by kernel_rfl) (by kernel_rfl) (by kernel_rfl) (fun _ _ _ h => h) (Or.inl ⟨by rfl, by intro wx hx; go_simp⟩) (by assumption) ?_
        try simp only [List.getElem_toArray, List.getElem_cons_succ, List.getElem_cons_zero, Act.put, List.setIfInBounds_toArray, List.set_cons_zero, List.set_cons_succ]
        refine wpAnyE_ready (rs := [13]) (by kernel_rfl) (by simp) ?_
        refine AllReadyE.cons rfl (fun K hK => ?_) AllReadyE.nil
        go_simp
        refine hK.out _ _ (.inl rfl) (fun _ => ?_)
        clear hK K
        try simp only [List.getElem_toArray, List.getElem_cons_succ, List.getElem_cons_zero, Act.put, List.setIfInBounds_toArray, List.set_cons_zero, List.set_cons_succ]
        refine wpAnyE_done (by kernel_rfl) ?_ _
        obtain ⟨LZ, hLZ⟩ : ∃ LZ, LZ = L.set k q := ⟨_, rfl⟩
        have hLZl : LZ.length = N := by rw [hLZ, List.length_set, hN.out]
        have hcz := bytes_set (k := k) (c := q) hcelld.out
        rw [← hLZ, ← hp.out] at hcz
        have hbk := bytes_back (cp := cp) hcz
        rw [hLZl] at hbk
        have ck : Ext w (w14.setCell ⟨g, k, none⟩ (.int .u8 (p : Int))) := Ext.set (h := cd) hgw _
        have hvz : vrB LZ = false := by
          rw [hLZ]
          have h1 := hL.out
          subst h1
          exact vr_broken hb0.out hkL hqb.out
        have hW := fun (u : World) (h1 : Tens u) (h2 : Most u) => implVr_any (L := LZ) (w := u) (by omega) h1 h2
        rw [hvz, show vrL LZ = [] by rw [vrL, hvz]; rfl] at hW
        obtain ⟨Z, hZ⟩ : ∃ Z, Z = bsOf LZ := ⟨_, rfl⟩
        rw [← hZ] at hbk hW
        replace hW := hid hW
        replace hZ := hid hZ
        replace hvz := hid hvz
        replace hLZ := hid hLZ
        replace hLZl := hid hLZl
        replace hcz := hid hcz
        clear hHeld0 tb tf
        generalize w14.setCell ⟨g, k, none⟩ (.int .u8 (p : Int)) = w15 at *
        go_wp2_with fail
        with_reducible refine (hW.out w15 (ht.out.ext (w' := w15)) (hm.out.ext (w' := w15))).mono ?_
        rintro e w16 ⟨rfl, e16⟩
        have c16 : Ext w w16 := Ext.trans ck e16
        go_wp2_with fail
        go_ret
        exact ⟨rfl, c16⟩
end Go.Proofs.YtdohjmbhgjfcaaaDoor
