/- Sealing a text, and reading a sealed one: the program's and the reference's. -/
import Derived.Test.YtdohjmbhgjfcaaaDoorCki
namespace Go.Proofs.YtdohjmbhgjfcaaaDoor
open Go.RowKit

theorem Ext.same {w : World} : Ext w w := Ext.refl w
theorem stands_any {L : List UInt8} (w : World) :
    Calls Tryd.prog 72 #[.string (bsOf L), .string { data := #[35] }] w fun e w' => e = .returned (.bool (decide (35 ∈ L))) ∧ w' = w := by
  refine (Tryd.strings_Contains_one (bsOf L) 35 w).mono ?_
  rintro e w' ⟨rfl, rfl⟩
  refine ⟨?_, rfl⟩
  rw [bsOf_list, ← Lib.contains_iff_indexByte]
  congr 2
  by_cases h : (35 : UInt8) ∈ L
  · rw [decide_eq_true h]; simpa using h
  · rw [decide_eq_false h]; simpa using h
theorem seal_len {L : List UInt8} (h : L.length ≤ 1000000) : (sealL L).length ≤ 1000022 := by
  have h1 := ck_lt L
  have h2 := itoa_len (n := (ck L : Int)) (by omega)
  unfold sealL
  rw [List.length_append, List.length_append]
  simp only [List.length_cons, List.length_nil]
  omega

set_option maxHeartbeats 800000 in
theorem implAp_any {L : List UInt8} {w : World} (hl : L.length ≤ 1000000) (ht : Tens w) :
    Calls Tryd.prog 15 #[.string (bsOf L)] w fun e w' => e = .returned (.tuple #[.string (bsOf (apL L)), .bool (apB L)]) ∧ Ext w w' := by
  obtain ⟨S, hS⟩ : ∃ S, S = bsOf L := ⟨_, rfl⟩
  have hSz : S.size = L.length := by rw [hS, bsOf_size]
  have hSt := fun (u : World) => stands_any (L := L) u
  have hC := fun (u : World) => checksum_any (w := u) hl
  have hck := ck_lt L
  have hsl := seal_len hl
  rw [← hS] at hSt hC ⊢
  replace hC := hid hC
  replace ht := hid ht
  by_cases h1 : L.length ≤ 4000
  · have hg1 : ¬ 4000 < S.size := by omega
    by_cases h2 : (35 : UInt8) ∈ L
    · have hb : apB L = false := by
        cases h : apB L with
        | false => rfl
        | true => exact absurd h2 (apB_iff.1 h).2.1
      have hv := hid (show apL L = [] by unfold apL; rw [hb]; rfl)
      have hq := hid (show apB L = false from hb)
      replace hb := hid hb
      rw [decide_eq_true h2] at hSt
      replace hSt := hid hSt
      replace hS := hid hS
      replace hSz := hid hSz
      go_enter Tryd.func15, Tryd.ntmps15
      go_wp2_with fail
      with_reducible refine (hSt.out w).mono ?_
      rintro e w2 ⟨rfl, rfl⟩
      go_wp2_with fail
      refine bodyPost_ret (v := .tuple #[.string { data := #[] }, .bool false]) (by simp [results, Tryd.results15, go_sem]) rfl ?_
      exact ⟨by rw [hv.out, hq.out]; rfl, Ext.same⟩
    · rw [decide_eq_false h2] at hSt
      replace hSt := hid hSt
      obtain ⟨c, hc⟩ : ∃ c, c = ck L := ⟨_, rfl⟩
      rw [← hc] at hC hck
      obtain ⟨T, hT⟩ : ∃ T, T = bsOf (Lib.itoa (c : Int)) := ⟨_, rfl⟩
      have hTz : T.size ≤ 21 := by rw [hT, bsOf_size]; exact itoa_len (by omega)
      have hN := fun (u : World) (h : Tens u) => dec_any (c : Int) (by omega) h
      rw [← hT] at hN
      replace hN := hid hN
      have hfin : S ++ { data := #[35] } ++ T = bsOf (sealL L) := by
        rw [hS, hT, show ({ data := #[35] } : ByteArray) = bsOf [35] from rfl, bsOf_append, bsOf_append, hc]
        rfl
      have hfz : S.size + 1 + T.size = (sealL L).length := by
        have h := congrArg ByteArray.size hfin
        rw [bsOf_size, ByteArray.size_append, ByteArray.size_append] at h
        exact h
      have hsz0 : ¬ 9223372036854775807 < S.size + 1 := by omega
      have hsz1 : ¬ 9223372036854775807 < S.size + 1 + T.size := by omega
      replace hT := hid hT
      replace hc := hid hc
      replace hfin := hid hfin
      by_cases h3 : (sealL L).length ≤ 4000
      · have hb : apB L = true := apB_iff.2 ⟨h1, h2, h3⟩
        have hv := hid (show apL L = sealL L by unfold apL; rw [hb]; rfl)
        have hq := hid (show apB L = true from hb)
        have hg3 : ¬ 4000 < S.size + 1 + T.size := by omega
        replace hb := hid hb
        replace hfz := hid hfz
        clear h3 hsl
        replace hS := hid hS
        replace hSz := hid hSz
        go_enter Tryd.func15, Tryd.ntmps15
        go_wp2_with fail
        with_reducible refine (hSt.out w).mono ?_
        rintro e w2 ⟨rfl, rfl⟩
        go_wp2_with fail
        with_reducible refine (hC.out _).mono ?_
        rintro e w2 ⟨rfl, e2⟩
        go_wp2_with fail
        with_reducible refine (hN.out w2 (ht.out.ext (w' := w2))).mono ?_
        rintro e w3 ⟨rfl, e3⟩
        go_wp2_with fail
        refine bodyPost_ret (v := .tuple #[.string (bsOf (sealL L)), .bool true]) (by simp [results, Tryd.results15, go_sem, hfin.out]) rfl ?_
        exact ⟨by rw [hv.out, hq.out], Ext.trans e2 e3⟩
      · have hb : apB L = false := by
          cases h : apB L with
          | false => rfl
          | true => exact absurd (apB_iff.1 h).2.2 h3
        have hv := hid (show apL L = [] by unfold apL; rw [hb]; rfl)
        have hq := hid (show apB L = false from hb)
        replace hb := hid hb
        have hg3 : 4000 < S.size + 1 + T.size := by omega
        replace hfz := hid hfz
        clear h3 hsl
        replace hS := hid hS
        replace hSz := hid hSz
        go_enter Tryd.func15, Tryd.ntmps15
        go_wp2_with fail
        with_reducible refine (hSt.out w).mono ?_
        rintro e w2 ⟨rfl, rfl⟩
        go_wp2_with fail
        with_reducible refine (hC.out _).mono ?_
        rintro e w2 ⟨rfl, e2⟩
        go_wp2_with fail
        with_reducible refine (hN.out w2 (ht.out.ext (w' := w2))).mono ?_
        rintro e w3 ⟨rfl, e3⟩
        go_wp2_with fail
        refine bodyPost_ret (v := .tuple #[.string { data := #[] }, .bool false]) (by simp [results, Tryd.results15, go_sem]) rfl ?_
        exact ⟨by rw [hv.out, hq.out]; rfl, Ext.trans e2 e3⟩
  · have hb : apB L = false := by
      cases h : apB L with
      | false => rfl
      | true => exact absurd (apB_iff.1 h).1 h1
    have hv := hid (show apL L = [] by unfold apL; rw [hb]; rfl)
    have hq := hid (show apB L = false from hb)
    replace hb := hid hb
    have hg1 : 4000 < S.size := by omega
    replace hSt := hid hSt
    replace hS := hid hS
    replace hSz := hid hSz
    go_enter Tryd.func15, Tryd.ntmps15
    go_wp2_with fail
    refine bodyPost_ret (v := .tuple #[.string { data := #[] }, .bool false]) (by simp [results, Tryd.results15, go_sem]) rfl ?_
    exact ⟨by rw [hv.out, hq.out]; rfl, Ext.same⟩

set_option maxHeartbeats 800000 in
theorem specAp_any {L : List UInt8} {w : World} (hl : L.length ≤ 1000000) :
    Calls Tryd.prog 16 #[.string (bsOf L)] w fun e w' => e = .returned (.tuple #[.string (bsOf (apL L)), .bool (apB L)]) ∧ Ext w w' := by
  obtain ⟨S, hS⟩ : ∃ S, S = bsOf L := ⟨_, rfl⟩
  have hSz : S.size = L.length := by rw [hS, bsOf_size]
  have hSt := fun (u : World) => l1Stands_any (w := u) hl
  have hC := fun (u : World) => l1Seal_any (w := u) hl
  obtain ⟨Z, hZ⟩ : ∃ Z, Z = bsOf (sealL L) := ⟨_, rfl⟩
  have hZz : Z.size = (sealL L).length := by rw [hZ, bsOf_size]
  rw [← hS] at hSt ⊢
  rw [← hS, ← hZ] at hC
  replace hC := hid hC
  by_cases h1 : L.length ≤ 4000
  · have hg1 : ¬ 4000 < S.size := by omega
    by_cases h2 : (35 : UInt8) ∈ L
    · have hb : apB L = false := by
        cases h : apB L with
        | false => rfl
        | true => exact absurd h2 (apB_iff.1 h).2.1
      have hv := hid (show apL L = [] by unfold apL; rw [hb]; rfl)
      have hq := hid (show apB L = false from hb)
      replace hb := hid hb
      rw [decide_eq_true h2] at hSt
      replace hSt := hid hSt
      replace hS := hid hS
      replace hSz := hid hSz
      replace hZ := hid hZ
      replace hZz := hid hZz
      go_enter Tryd.func16, Tryd.ntmps16
      go_wp2_with fail
      with_reducible refine (hSt.out w).mono ?_
      rintro e w2 ⟨rfl, e2⟩
      go_wp2_with fail
      refine bodyPost_ret (v := .tuple #[.string { data := #[] }, .bool false]) (by simp [results, Tryd.results16, go_sem]) rfl ?_
      exact ⟨by rw [hv.out, hq.out]; rfl, e2⟩
    · rw [decide_eq_false h2] at hSt
      replace hSt := hid hSt
      by_cases h3 : (sealL L).length ≤ 4000
      · have hb : apB L = true := apB_iff.2 ⟨h1, h2, h3⟩
        have hv := hid (show apL L = sealL L by unfold apL; rw [hb]; rfl)
        have hq := hid (show apB L = true from hb)
        have hg3 : ¬ 4000 < Z.size := by omega
        replace hb := hid hb
        replace hS := hid hS
        replace hSz := hid hSz
        replace hZ := hid hZ
        replace hZz := hid hZz
        go_enter Tryd.func16, Tryd.ntmps16
        go_wp2_with fail
        with_reducible refine (hSt.out w).mono ?_
        rintro e w2 ⟨rfl, e2⟩
        go_wp2_with fail
        with_reducible refine (hC.out _).mono ?_
        rintro e w3 ⟨rfl, e3⟩
        go_wp2_with fail
        with_reducible refine (hC.out _).mono ?_
        rintro e w4 ⟨rfl, e4⟩
        go_wp2_with fail
        refine bodyPost_ret (v := .tuple #[.string Z, .bool true]) (by simp [results, Tryd.results16, go_sem]) rfl ?_
        exact ⟨by rw [hv.out, hq.out, hZ.out], Ext.trans e2 (Ext.trans e3 e4)⟩
      · have hb : apB L = false := by
          cases h : apB L with
          | false => rfl
          | true => exact absurd (apB_iff.1 h).2.2 h3
        have hv := hid (show apL L = [] by unfold apL; rw [hb]; rfl)
        have hq := hid (show apB L = false from hb)
        replace hb := hid hb
        have hg3 : 4000 < Z.size := by omega
        replace hS := hid hS
        replace hSz := hid hSz
        replace hZ := hid hZ
        replace hZz := hid hZz
        go_enter Tryd.func16, Tryd.ntmps16
        go_wp2_with fail
        with_reducible refine (hSt.out w).mono ?_
        rintro e w2 ⟨rfl, e2⟩
        go_wp2_with fail
        with_reducible refine (hC.out _).mono ?_
        rintro e w3 ⟨rfl, e3⟩
        go_wp2_with fail
        refine bodyPost_ret (v := .tuple #[.string { data := #[] }, .bool false]) (by simp [results, Tryd.results16, go_sem]) rfl ?_
        exact ⟨by rw [hv.out, hq.out]; rfl, Ext.trans e2 e3⟩
  · have hb : apB L = false := by
      cases h : apB L with
      | false => rfl
      | true => exact absurd (apB_iff.1 h).1 h1
    have hv := hid (show apL L = [] by unfold apL; rw [hb]; rfl)
    have hq := hid (show apB L = false from hb)
    replace hb := hid hb
    have hg1 : 4000 < S.size := by omega
    replace hSt := hid hSt
    replace hS := hid hS
    replace hSz := hid hSz
    replace hZ := hid hZ
    replace hZz := hid hZz
    go_enter Tryd.func16, Tryd.ntmps16
    go_wp2_with fail
    refine bodyPost_ret (v := .tuple #[.string { data := #[] }, .bool false]) (by simp [results, Tryd.results16, go_sem]) rfl ?_
    exact ⟨by rw [hv.out, hq.out]; rfl, Ext.same⟩

set_option maxHeartbeats 800000 in
theorem implVr_any {L : List UInt8} {w : World} (hl : L.length ≤ 1000000) (ht : Tens w) (hm : Most w) :
    Calls Tryd.prog 17 #[.string (bsOf L)] w fun e w' => e = .returned (.tuple #[.string (bsOf (vrL L)), .bool (vrB L)]) ∧ Ext w w' := by
  obtain ⟨S, hS⟩ : ∃ S, S = bsOf L := ⟨_, rfl⟩
  have hSz : S.size = L.length := by rw [hS, bsOf_size]
  obtain ⟨m, hm⟩ := hm
  have hcut := Tryd.strings_Cut (bsOf L) { data := #[35] } m w (by rw [bsOf_size]; omega) hm
  rw [bsOf_list, show ({ data := #[35] } : ByteArray).data.toList = [35] from rfl] at hcut
  have hhl : (headL L).length ≤ L.length := by
    unfold headL Lib.cut
    split
    · simp only [List.length_take]; omega
    · simp
  obtain ⟨H, hH⟩ : ∃ H, H = bsOf (headL L) := ⟨_, rfl⟩
  have hA := fun (u : World) (h : Tens u) => implAp_any (L := headL L) (w := u) (by omega) h
  have hcut2 : Calls Tryd.prog 76 #[.string S, .string { data := #[35] }] w fun e w' => ∃ B f, e = .returned (.tuple #[.string H, .string B, .bool f]) ∧ Ext w w' := by
    rw [hS]
    refine hcut.mono ?_
    rintro e w' ⟨rfl, n, rfl⟩
    exact ⟨_, _, by rw [hH]; rfl, inferInstance⟩
  rw [← hH] at hA
  rw [← hS]
  replace hA := hid hA
  replace hcut2 := hid hcut2
  replace ht := hid ht
  clear hcut hm
  by_cases h1 : L.length ≤ 4000
  · have hg1 : ¬ 4000 < S.size := by omega
    cases hb : apB (headL L) with
    | false =>
      have hvb : vrB L = false := by unfold vrB; rw [hb]; simp
      have hv := hid (show vrL L = [] by unfold vrL; rw [hvb]; rfl)
      have hq := hid hvb
      rw [hb, show apL (headL L) = [] by unfold apL; rw [hb]; rfl] at hA
      replace hb := hid hb
      replace hS := hid hS
      replace hSz := hid hSz
      replace hH := hid hH
      go_enter Tryd.func17, Tryd.ntmps17
      go_wp2_with fail
      with_reducible refine hcut2.out.mono ?_
      rintro e w2 ⟨B, f, rfl, e2⟩
      go_wp2_with fail
      with_reducible refine (hA.out w2 (ht.out.ext (w' := w2))).mono ?_
      rintro e w3 ⟨rfl, e3⟩
      go_wp2_with fail
      refine bodyPost_ret (v := .tuple #[.string { data := #[] }, .bool false]) (by simp [results, Tryd.results17, go_sem]) rfl ?_
      exact ⟨by rw [hv.out, hq.out]; rfl, Ext.trans e2 e3⟩
    | true =>
      rw [hb, show apL (headL L) = sealL (headL L) by unfold apL; rw [hb]; rfl] at hA
      obtain ⟨Z, hZ⟩ : ∃ Z, Z = bsOf (sealL (headL L)) := ⟨_, rfl⟩
      rw [← hZ] at hA
      by_cases h2 : sealL (headL L) = L
      · have hvb : vrB L = true := by unfold vrB; rw [hb, decide_eq_true h1, decide_eq_true h2]; rfl
        have hv := hid (show vrL L = headL L by unfold vrL; rw [hvb]; rfl)
        have hq := hid hvb
        have hZS : Z = S := by rw [hZ, h2, hS]
        replace hb := hid hb
        replace h2 := hid h2
        subst hZS
        replace hS := hid hS
        replace hSz := hid hSz
        replace hH := hid hH
        replace hZ := hid hZ
        go_enter Tryd.func17, Tryd.ntmps17
        go_wp2_with fail
        with_reducible refine hcut2.out.mono ?_
        rintro e w2 ⟨B, f, rfl, e2⟩
        go_wp2_with fail
        with_reducible refine (hA.out w2 (ht.out.ext (w' := w2))).mono ?_
        rintro e w3 ⟨rfl, e3⟩
        go_wp2_with fail
        refine bodyPost_ret (v := .tuple #[.string H, .bool true]) (by simp [results, Tryd.results17, go_sem]) rfl ?_
        exact ⟨by rw [hv.out, hq.out, hH.out], Ext.trans e2 e3⟩
      · have hvb : vrB L = false := by unfold vrB; rw [decide_eq_false h2]; simp
        have hv := hid (show vrL L = [] by unfold vrL; rw [hvb]; rfl)
        have hq := hid hvb
        have hZS : (Z.toList == S.toList) = false := by rw [hZ, hS]; exact bs_beq h2
        replace hb := hid hb
        replace h2 := hid h2
        replace hS := hid hS
        replace hSz := hid hSz
        replace hH := hid hH
        replace hZ := hid hZ
        go_enter Tryd.func17, Tryd.ntmps17
        go_wp2_with fail
        with_reducible refine hcut2.out.mono ?_
        rintro e w2 ⟨B, f, rfl, e2⟩
        go_wp2_with fail
        with_reducible refine (hA.out w2 (ht.out.ext (w' := w2))).mono ?_
        rintro e w3 ⟨rfl, e3⟩
        go_wp2_with fail
        refine bodyPost_ret (v := .tuple #[.string { data := #[] }, .bool false]) (by simp [results, Tryd.results17, go_sem]) rfl ?_
        exact ⟨by rw [hv.out, hq.out]; rfl, Ext.trans e2 e3⟩
  · have hvb : vrB L = false := by unfold vrB; rw [decide_eq_false h1]; rfl
    have hv := hid (show vrL L = [] by unfold vrL; rw [hvb]; rfl)
    have hq := hid hvb
    have hg1 : 4000 < S.size := by omega
    replace hS := hid hS
    replace hSz := hid hSz
    replace hH := hid hH
    go_enter Tryd.func17, Tryd.ntmps17
    go_wp2_with fail
    refine bodyPost_ret (v := .tuple #[.string { data := #[] }, .bool false]) (by simp [results, Tryd.results17, go_sem]) rfl ?_
    exact ⟨by rw [hv.out, hq.out]; rfl, Ext.same⟩
end Go.Proofs.YtdohjmbhgjfcaaaDoor
