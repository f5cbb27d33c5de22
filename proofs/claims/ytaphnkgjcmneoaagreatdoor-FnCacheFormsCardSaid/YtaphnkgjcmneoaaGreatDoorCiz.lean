/- The reference's cutting of a text at a byte, and the reading of a head. -/
import Derived.Test.YtaphnkgjcmneoaaGreatDoorRqi
import Derived.Test.YtaphnkgjcmneoaaGreatDoorPackB
import Derived.Test.YtaphnkgjcmneoaaGreatDoorCir
import Derived.BigQuiet
namespace Go.Proofs.YtaphnkgjcmneoaaGreatDoor
open Go.RowKit

/-- a text's cut as a result -/
def cutV (L : List UInt8) (b : UInt8) : Value := .tuple #[.string (bsOf (Lib.cut L [b]).1), .string (bsOf (Lib.cut L [b]).2.1), .bool (Lib.cut L [b]).2.2]
theorem cutV_at {L : List UInt8} {b : UInt8} {i : Nat} (h : L[i]? = some b) (hn : b ∉ L.take i) : cutV L b = .tuple #[.string (bsOf (L.take i)), .string (bsOf (L.drop (i + 1))), .bool true] := by
  have hl : i < L.length := (List.getElem?_eq_some_iff.1 h).1
  have hb : L[i]'hl = b := (List.getElem?_eq_some_iff.1 h).2
  have h1 : L = L.take i ++ b :: L.drop (i + 1) := by
    rw [← hb, ← List.drop_eq_getElem_cons hl, List.take_append_drop]
  have h2 := cut_at (b := b) (L.drop (i + 1)) hn
  rw [← h1] at h2
  unfold cutV
  rw [h2]
theorem cutV_no {L : List UInt8} {b : UInt8} (hn : b ∉ L) : cutV L b = .tuple #[.string (bsOf L), .string (bsOf []), .bool false] := by
  unfold cutV
  rw [cut_no hn]
theorem not_take {L : List UInt8} {b c : UInt8} {i : Nat} (h : L[i]? = some c) (hc : c ≠ b) (hn : b ∉ L.take i) : b ∉ L.take (i + 1) := by
  rw [List.take_add_one, h]
  intro hm
  rcases List.mem_append.1 hm with h1 | h1
  · exact hn h1
  · exact hc (by simp at h1; exact h1.symm)
theorem bs_nil : ({ data := #[] } : ByteArray) = bsOf [] := rfl
set_option maxHeartbeats 1600000 in
theorem l4Cut_any {L : List UInt8} (b : UInt8) {w : World} (hl : L.length ≤ 100000) :
    Calls Tryz.prog 48 #[.string (bsOf L), .int .u8 b.toNat] w fun e w' => e = .returned (cutV L b) ∧ Ext w w' := by
  obtain ⟨S, hS⟩ : ∃ S, S = bsOf L := ⟨_, rfl⟩
  have hSz : S.size = L.length := by rw [hS, bsOf_size]
  rw [← hS]
  replace hS := hid hS
  have hb8 : b.toNat < 256 := b.toNat_lt
  obtain ⟨y, hy⟩ : ∃ y, y = b.toNat := ⟨_, rfl⟩
  rw [← hy] at hb8 ⊢
  replace hy := hid hy
  go_enter Tryz.func48, Tryz.ntmps48
  go_upto_region 2 with fail
  go_loopw [7] (fun iv wr => ∃ i : Nat, i ≤ L.length ∧ iv = .int .i64 i ∧ Hid (b ∉ L.take i) ∧ wr = w) (fun iv _ => L.length - (intOf iv).toNat)
  case atStart => exact ⟨0, by omega, rfl, hid (by simp), rfl⟩
  case round =>
    obtain ⟨i, hi, rfl, hn, rfl⟩ := hrel
    by_cases hlt : i < L.length
    · have hltS : i < S.size := by omega
      obtain ⟨c, hc⟩ : ∃ c, L[i]? = some c := ⟨_, List.getElem?_eq_getElem hlt⟩
      have hget : ∀ h : i < S.size, S[i]'h = c := by
        have h := bs_get hc
        rw [← hS.out] at h
        exact h
      have hc8 : c.toNat < 256 := c.toNat_lt
      obtain ⟨z, hz⟩ : ∃ z, z = c.toNat := ⟨_, rfl⟩
      have hgz : ∀ h : i < S.size, (S[i]'h).toNat = z := fun h => by rw [hget h, hz]
      have hz8 : z < 256 := by omega
      by_cases he : c = b
      · have hzn : ((z : Int) == (y : Int)) = true := by rw [hz, hy.out, he]; exact beq_self_eq_true _
        rw [he] at hc
        have hV := cutV_at hc hn.out
        obtain ⟨T1, hT1⟩ : ∃ T, T = bsOf (L.take i) := ⟨_, rfl⟩
        obtain ⟨T2, hT2⟩ : ∃ T, T = bsOf (L.drop (i + 1)) := ⟨_, rfl⟩
        have hx1 : S.extract 0 i = T1 := by rw [hS.out, hT1, bs_cut, List.drop_zero]
        have hx2 : S.extract (i + 1) L.length = T2 := by rw [hS.out, hT2, bs_cut, List.take_length]
        rw [← hT1, ← hT2] at hV
        have hn2 : ¬ S.size < i := by omega
        have hn3 : ¬ S.size < i + 1 := by omega
        replace hV := hid hV
        replace hc := hid hc
        replace hz := hid hz
        replace hget := hid hget
        replace he := hid he
        replace hT1 := hid hT1
        replace hT2 := hid hT2
        clear hc8
        go_wp2_with (go_quiet (fail))
        refine bodyPost_ret (v := .tuple #[.string T1, .string T2, .bool true]) (by simp [results, Tryz.results48, go_sem]) rfl ?_
        exact ⟨by rw [hV.out], inferInstance⟩
      · have hzn : ((z : Int) == (y : Int)) = false := by
          have h3 : z ≠ y := fun e => he (UInt8.toNat_inj.1 (by rw [← hz, e, hy.out]))
          exact beq_eq_false_iff_ne.2 (by omega)
        have hn' := hid (not_take hc he hn.out)
        replace hc := hid hc
        replace hz := hid hz
        replace hget := hid hget
        replace he := hid he
        clear hc8
        go_wp2_with fail
        go_roundw
        case rel => exact ⟨i + 1, by omega, by go_num, hn', trivial⟩
        case measure => simp [intOf]; omega
    · have hV := cutV_no (L := L) (b := b) (by have := hn.out; rwa [List.take_of_length_le (by omega)] at this)
      rw [← hS.out, ← bs_nil] at hV
      replace hV := hid hV
      go_wp2_with fail
      refine bodyPost_ret (v := .tuple #[.string S, .string { data := #[] }, .bool false]) (by simp [results, Tryz.results48, go_sem]) rfl ?_
      exact ⟨by rw [hV.out], Ext.refl _⟩
end Go.Proofs.YtaphnkgjcmneoaaGreatDoor
