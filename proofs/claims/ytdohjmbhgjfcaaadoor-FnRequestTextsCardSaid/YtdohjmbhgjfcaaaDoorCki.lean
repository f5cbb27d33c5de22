/- Checksums of texts: the program's and the reference's. -/
import Derived.Test.YtdohjmbhgjfcaaaDoorCkp
import Derived.Test.YtdohjmbhgjfcaaaDoorNmi
import Derived.Test.YtdohjmbhgjfcaaaDoorTxc
import Derived.Lib.IndexAny
namespace Go.Proofs.YtdohjmbhgjfcaaaDoor
open Go.RowKit

theorem ckL_le (L : List UInt8) : ckL 7 L < 999979 := ck_lt L
set_option maxHeartbeats 800000 in
theorem checksum_any {L : List UInt8} {w : World} (_hl : L.length ≤ 1000000) :
    Calls Tryd.prog 73 #[.string (bsOf L)] w fun e w' => e = .returned (.int .i64 (ck L)) ∧ Ext w w' := by
  obtain ⟨S, hS⟩ : ∃ S, S = bsOf L := ⟨_, rfl⟩
  have hSz : S.size = L.length := by rw [hS, bsOf_size]
  rw [← hS]
  replace hS := hid hS
  go_enter Tryd.func73, Tryd.ntmps73
  go_wp2_with fail
  go_loopw [3, 7] (fun hv iv wr => ∃ i : Nat, i ≤ L.length ∧ iv = .int .i64 i ∧ hv = .int .i64 (ckL 7 (L.take i)) ∧ Ext w wr) (fun _ iv _ => L.length - (intOf iv).toNat)
  case atStart => exact ⟨0, by omega, rfl, rfl, Ext.refl _⟩
  case round =>
    obtain ⟨i, hil, rfl, rfl, hq⟩ := hrel
    obtain ⟨wq, rfl⟩ : ∃ y : World, y = wr := ⟨_, rfl⟩
    have hlt0 := ckL_le (L.take i)
    obtain ⟨h, hh⟩ : ∃ h, h = ckL 7 (L.take i) := ⟨_, rfl⟩
    rw [← hh] at hlt0 ⊢
    by_cases hlt : i < L.length
    · have hltS : i < S.size := by omega
      obtain ⟨b, hb⟩ : ∃ b, L[i]? = some b := ⟨_, List.getElem?_eq_getElem hlt⟩
      have hget : ∀ h : i < S.size, S[i]'h = b := by
        have h := bs_get hb
        rw [← hS.out] at h
        exact h
      have hb8 : b.toNat < 256 := b.toNat_lt
      have hnx := hid (show ckL 7 (L.take (i + 1)) = ckS h b by rw [List.take_add_one, hb, hh]; exact ckL_snoc 7 (L.take i) b)
      obtain ⟨z, hz⟩ : ∃ z, z = b.toNat := ⟨_, rfl⟩
      have hgz : ∀ h : i < S.size, (S[i]'h).toNat = z := fun h => by rw [hget h, hz]
      have hval : (41 * (h : Int) + (z : Int) + 1).tmod 999979 = ((ckS h b : Nat) : Int) := by
        rw [Int.tmod_eq_emod_of_nonneg (by omega), ckS, ← hz]
        omega
      have hz8 : z < 256 := by omega
      replace hb := hid hb
      replace hz := hid hz
      replace hget := hid hget
      replace hh := hid hh
      clear hb8
      go_wp2_with fail
      go_roundw
      case rel => exact ⟨i + 1, by omega, by go_num, by rw [hnx.out], hq⟩
      case measure => simp [intOf]; omega
    · have hend := hid (show h = ck L by rw [hh, show i = L.length by omega, List.take_length]; rfl)
      replace hh := hid hh
      go_wp2_with fail
      go_ret
      exact ⟨ret_int (by rw [hend.out]), hq⟩
set_option maxHeartbeats 800000 in
theorem l1Sum_any {L : List UInt8} {w : World} (_hl : L.length ≤ 1000000) :
    Calls Tryd.prog 122 #[.string (bsOf L)] w fun e w' => e = .returned (.int .i64 (ck L)) ∧ Ext w w' := by
  obtain ⟨S, hS⟩ : ∃ S, S = bsOf L := ⟨_, rfl⟩
  have hSz : S.size = L.length := by rw [hS, bsOf_size]
  rw [← hS]
  replace hS := hid hS
  go_enter Tryd.func122, Tryd.ntmps122
  go_wp2_with fail
  go_loopw [3, 4] (fun hv iv wr => ∃ i : Nat, i ≤ L.length ∧ iv = .int .i64 i ∧ hv = .int .i64 (ckL 7 (L.take i)) ∧ Ext w wr) (fun _ iv _ => L.length - (intOf iv).toNat)
  case atStart => exact ⟨0, by omega, rfl, rfl, Ext.refl _⟩
  case round =>
    obtain ⟨i, hil, rfl, rfl, hq⟩ := hrel
    obtain ⟨wq, rfl⟩ : ∃ y : World, y = wr := ⟨_, rfl⟩
    have hlt0 := ckL_le (L.take i)
    obtain ⟨h, hh⟩ : ∃ h, h = ckL 7 (L.take i) := ⟨_, rfl⟩
    rw [← hh] at hlt0 ⊢
    by_cases hlt : i < L.length
    · have hltS : i < S.size := by omega
      obtain ⟨b, hb⟩ : ∃ b, L[i]? = some b := ⟨_, List.getElem?_eq_getElem hlt⟩
      have hget : ∀ h : i < S.size, S[i]'h = b := by
        have h := bs_get hb
        rw [← hS.out] at h
        exact h
      have hb8 : b.toNat < 256 := b.toNat_lt
      have hnx := hid (show ckL 7 (L.take (i + 1)) = ckS h b by rw [List.take_add_one, hb, hh]; exact ckL_snoc 7 (L.take i) b)
      obtain ⟨z, hz⟩ : ∃ z, z = b.toNat := ⟨_, rfl⟩
      have hgz : ∀ h : i < S.size, (S[i]'h).toNat = z := fun h => by rw [hget h, hz]
      have hval : (41 * (h : Int) + (z : Int) + 1).tmod 999979 = ((ckS h b : Nat) : Int) := by
        rw [Int.tmod_eq_emod_of_nonneg (by omega), ckS, ← hz]
        omega
      have hz8 : z < 256 := by omega
      replace hb := hid hb
      replace hz := hid hz
      replace hget := hid hget
      replace hh := hid hh
      clear hb8
      go_wp2_with fail
      go_roundw
      case rel => exact ⟨i + 1, by omega, by go_num, by rw [hnx.out], hq⟩
      case measure => simp [intOf]; omega
    · have hend := hid (show h = ck L by rw [hh, show i = L.length by omega, List.take_length]; rfl)
      replace hh := hid hh
      go_wp2_with fail
      go_ret
      exact ⟨ret_int (by rw [hend.out]), hq⟩
set_option maxHeartbeats 800000 in
theorem l1Stands_any {L : List UInt8} {w : World} (_hl : L.length ≤ 1000000) :
    Calls Tryd.prog 74 #[.string (bsOf L), .int .u8 35] w fun e w' => e = .returned (.bool (decide (35 ∈ L))) ∧ Ext w w' := by
  obtain ⟨S, hS⟩ : ∃ S, S = bsOf L := ⟨_, rfl⟩
  have hSz : S.size = L.length := by rw [hS, bsOf_size]
  rw [← hS]
  replace hS := hid hS
  go_enter Tryd.func74, Tryd.ntmps74
  go_wp2_with fail
  go_loopw [5] (fun iv wr => ∃ i : Nat, i ≤ L.length ∧ iv = .int .i64 i ∧ Hid ((35 : UInt8) ∉ L.take i) ∧ Ext w wr) (fun iv _ => L.length - (intOf iv).toNat)
  case atStart => exact ⟨0, by omega, rfl, hid (by simp), Ext.refl _⟩
  case round =>
    obtain ⟨i, hil, rfl, hno, hq⟩ := hrel
    obtain ⟨wq, rfl⟩ : ∃ y : World, y = wr := ⟨_, rfl⟩
    by_cases hlt : i < L.length
    · have hltS : i < S.size := by omega
      obtain ⟨b, hb⟩ : ∃ b, L[i]? = some b := ⟨_, List.getElem?_eq_getElem hlt⟩
      have hget : ∀ h : i < S.size, S[i]'h = b := by
        have h := bs_get hb
        rw [← hS.out] at h
        exact h
      obtain ⟨z, hz⟩ : ∃ z, z = b.toNat := ⟨_, rfl⟩
      have hgz : ∀ h : i < S.size, (S[i]'h).toNat = z := fun h => by rw [hget h, hz]
      by_cases he : b = 35
      · have hr := hid (show decide ((35 : UInt8) ∈ L) = true from decide_eq_true (he ▸ List.mem_of_getElem? hb))
        have hz35 : z = 35 := by rw [hz, he]; rfl
        replace hb := hid hb
        replace hz := hid hz
        replace hget := hid hget
        replace he := hid he
        subst hz35
        go_wp2_with fail
        go_ret
        exact ⟨ret_bool hr.out.symm, hq⟩
      · have hno2 := hid (show (35 : UInt8) ∉ L.take (i + 1) by
          rw [List.take_add_one, hb]
          intro hm
          rcases List.mem_append.1 hm with h | h
          · exact hno.out h
          · simp at h; exact he h.symm)
        have hzn : ((z : Int) == 35) = false := by
          have h3 : z ≠ 35 := fun e => he (UInt8.toNat_inj.1 (by rw [← hz, e]; rfl))
          simp; omega
        replace hb := hid hb
        replace hz := hid hz
        replace hget := hid hget
        replace he := hid he
        go_wp2_with fail
        go_roundw
        case rel => exact ⟨i + 1, by omega, by go_num, hno2, hq⟩
        case measure => simp [intOf]; omega
    · have hr := hid (show decide ((35 : UInt8) ∈ L) = false from decide_eq_false (by
        have h := hno.out
        rw [show i = L.length by omega, List.take_length] at h
        exact h))
      go_wp2_with fail
      go_ret
      exact ⟨ret_bool hr.out.symm, hq⟩

set_option maxHeartbeats 800000 in
theorem l1Seal_any {L : List UInt8} {w : World} (hl : L.length ≤ 1000000) :
    Calls Tryd.prog 75 #[.string (bsOf L)] w fun e w' => e = .returned (.string (bsOf (sealL L))) ∧ Ext w w' := by
  obtain ⟨S, hS⟩ : ∃ S, S = bsOf L := ⟨_, rfl⟩
  have hSz : S.size ≤ 1000000 := by rw [hS, bsOf_size]; exact hl
  have hck := ck_lt L
  have hC := fun (u : World) => l1Sum_any (w := u) hl
  rw [← hS] at hC ⊢
  replace hC := hid hC
  have hsz0 : ¬ 9223372036854775807 < S.size + 1 := by omega
  obtain ⟨c, hc⟩ : ∃ c, c = ck L := ⟨_, rfl⟩
  rw [← hc] at hC hck
  obtain ⟨T, hT⟩ : ∃ T, T = bsOf (Lib.itoa (c : Int)) := ⟨_, rfl⟩
  have hTz : T.size ≤ 21 := by rw [hT, bsOf_size]; exact itoa_len (by omega)
  have hN := fun (u : World) => l1Num_any (c : Int) (by omega) u
  rw [← hT] at hN
  replace hN := hid hN
  have hfin : S ++ { data := #[35] } ++ T = bsOf (sealL L) := by
    rw [hS, hT, show ({ data := #[35] } : ByteArray) = bsOf [35] from rfl, bsOf_append, bsOf_append, hc]
    rfl
  have hsz1 : ¬ 9223372036854775807 < S.size + 1 + T.size := by omega
  replace hS := hid hS
  replace hT := hid hT
  replace hc := hid hc
  replace hfin := hid hfin
  go_enter Tryd.func75, Tryd.ntmps75
  go_wp2_with fail
  with_reducible refine (hC.out w).mono ?_
  rintro e w2 ⟨rfl, e2⟩
  go_wp2_with fail
  with_reducible refine (hN.out w2).mono ?_
  rintro e w3 ⟨rfl, e3⟩
  go_wp2_with fail
  refine bodyPost_ret (v := .string (bsOf (sealL L))) (by simp [results, Tryd.results75, go_sem, hfin.out]) rfl ?_
  exact ⟨rfl, Ext.trans e2 e3⟩
end Go.Proofs.YtdohjmbhgjfcaaaDoor
