/- Words of a text: the program's and the reference's. -/
import Derived.Test.YtaphnkgjcmneoaaGreatDoorPackB
import Derived.Test.YtaphnkgjcmneoaaGreatDoorCkj
namespace Go.Proofs.YtaphnkgjcmneoaaGreatDoor
open Go.RowKit

theorem bs_cut (L : List UInt8) (a b : Nat) : (bsOf L).extract a b = bsOf ((L.take b).drop a) := by
  apply ByteArray.ext
  simp [bsOf, ByteArray.data_extract, List.drop_take]
set_option maxHeartbeats 1600000 in
set_option maxRecDepth 100000 in
theorem splitAt_any {L : List UInt8} {w : World} (hl : L.length ≤ 100000) :
    Calls Tryz.prog 37 #[.string (bsOf L), .int .u8 32] w fun e w' => ∃ v, e = .returned v ∧ Own w' w.heap.size [⟨9, 1, v, (spW 32 L).length, strV (spW 32 L)⟩] ∧ Ext w w' := by
  obtain ⟨S, hS⟩ : ∃ S, S = bsOf L := ⟨_, rfl⟩
  have hSz : S.size = L.length := by rw [hS, bsOf_size]
  rw [← hS]
  replace hS := hid hS
  have own1 : Own (w.alloc (.cells #[] 9)) w.heap.size [⟨9, 1, .slice (some ⟨w.heap.size, 0, none⟩) 0 0, ([] : List (List UInt8)).length, strV []⟩] := (Own.nil w w.heap.size).lit 9 1 0 #[] (Nat.le_refl _) (by unfold maxLen; omega) rfl
  have b1 : Below w.heap.size w (w.alloc (.cells #[] 9)) := (Below.refl _ w).alloc (Nat.le_refl _) _
  go_enter Tryz.func37, Tryz.ntmps37
  go_upto_region 2 with fail
  obtain ⟨B, hB0⟩ : ∃ b, b = w.heap.size := ⟨_, rfl⟩
  have hEx := hid (show ∀ u, Below B w u → Ext w u from fun u h => ⟨by rw [← hB0]; exact h⟩)
  have hBs := hid (show ∀ u, Below B w u → B ≤ u.heap.size from fun u h => by rw [hB0]; exact h.size)
  rw [← hB0] at own1 b1 ⊢
  replace hB0 := hid hB0
  generalize w.alloc (.cells #[] 9) = w1 at *
  go_wp2_with fail
  go_loopw [5, 6, 11] (fun u fv iv wr => ∃ (i f : Nat) (W : List (List UInt8)), i ≤ L.length ∧ f ≤ i ∧ W.length ≤ i ∧ fv = .int .i64 f ∧ iv = .int .i64 i ∧ Hid (spW 32 L = W ++ spF 32 (L.drop i) ((L.take i).drop f)) ∧ Own wr B [⟨9, 1, u, W.length, strV W⟩] ∧ Below B w wr) (fun _ _ iv _ => L.length - (intOf iv).toNat)
  case atStart => exact ⟨0, 0, [], by omega, by omega, by simp, rfl, rfl, hid rfl, own1, b1⟩
  case round =>
    clear own1 b1
    obtain ⟨i, f, W, hil, hfi, hWi, rfl, rfl, hsp, own, hbw⟩ := hrel
    obtain ⟨wo, rfl⟩ : ∃ y : World, y = wr := ⟨_, rfl⟩
    obtain ⟨dO, mO, hvO⟩ := own.form
    simp only at hvO
    subst hvO
    have hBo : B ≤ wo.heap.size := hBs.out _ hbw
    have eo : Ext w wo := hEx.out _ hbw
    by_cases hlt : i < L.length
    · have hltS : i < S.size := by omega
      obtain ⟨b, hb⟩ : ∃ b, L[i]? = some b := ⟨_, List.getElem?_eq_getElem hlt⟩
      have hat := spF_at (b := 32) hb hfi
      have hget : ∀ h : i < S.size, S[i]'h = b := by
        have h := bs_get hb
        rw [← hS.out] at h
        exact h
      have hb8 : b.toNat < 256 := b.toNat_lt
      obtain ⟨z, hz⟩ : ∃ z, z = b.toNat := ⟨_, rfl⟩
      have hgz : ∀ h : i < S.size, (S[i]'h).toNat = z := fun h => by rw [hget h, hz]
      have hz8 : z < 256 := by omega
      by_cases he : b = 32
      · have hz32 : z = 32 := by rw [hz, he]; rfl
        rw [if_pos he] at hat
        obtain ⟨T, hT⟩ : ∃ T, T = bsOf ((L.take i).drop f) := ⟨_, rfl⟩
        have hext : S.extract f i = T := by rw [hS.out, hT, bs_cut]
        have hs : strV (W ++ [(L.take i).drop f]) = strV W ++ [.string T] := by rw [strV, List.map_append, hT]; rfl
        have hn1 : ¬ i < f := by omega
        have hn2 : ¬ S.size < i := by omega
        have hWm : W.length ≤ 100000 := by omega
        have hsp2 := hid (show spW 32 L = (W ++ [(L.take i).drop f]) ++ spF 32 (L.drop (i + 1)) ((L.take (i + 1)).drop (i + 1)) by
          rw [hsp.out, hat, show (L.take (i + 1)).drop (i + 1) = [] from List.drop_eq_nil_of_le (by rw [List.length_take]; omega)]
          simp)
        have hWl : (W ++ [(L.take i).drop f]).length = W.length + 1 := by simp
        replace hb := hid hb
        replace hz := hid hz
        replace hget := hid hget
        replace he := hid he
        replace hat := hid hat
        replace hT := hid hT
        replace hs := hid hs
        replace hWl := hid hWl
        subst hz32
        clear hb8
        go_wp2_with (at_builtin; refine wpList_append1 rfl _ _ _ rfl elemStr rfl own hBo rfl rfl (by omega) (by omega) ?_; intro v6 w6 ho6 hb6)
        go_roundw
        case rel => exact ⟨i + 1, i + 1, W ++ [(L.take i).drop f], by omega, by omega, by rw [hWl.out]; omega, by go_num, by go_num, hsp2, by rw [hs.out, hWl.out]; exact ho6, hbw.trans hb6⟩
        case measure => simp [intOf]; omega
      · have hzn : ((z : Int) == 32) = false := by
          have h3 : z ≠ 32 := fun e => he (UInt8.toNat_inj.1 (by rw [← hz, e]; rfl))
          simp; omega
        rw [if_neg he] at hat
        have hsp2 := hid (show spW 32 L = W ++ spF 32 (L.drop (i + 1)) ((L.take (i + 1)).drop f) by rw [hsp.out, hat])
        replace hb := hid hb
        replace hz := hid hz
        replace hget := hid hget
        replace he := hid he
        replace hat := hid hat
        clear hb8
        go_wp2_with fail
        go_roundw
        case rel => exact ⟨i + 1, f, W, by omega, by omega, by omega, rfl, by go_num, hsp2, own, hbw⟩
        case measure => simp [intOf]; omega
    · have hiL : i = L.length := by omega
      obtain ⟨T, hT⟩ : ∃ T, T = bsOf (L.drop f) := ⟨_, rfl⟩
      have hext : S.extract f L.length = T := by rw [hS.out, hT, bs_cut, List.take_length]
      have hWm : W.length ≤ 100000 := by omega
      have hfin : spW 32 L = W ++ [L.drop f] := by
        rw [hsp.out, hiL, List.drop_eq_nil_of_le (Nat.le_refl _), List.take_length]; rfl
      have hs : strV (spW 32 L) = strV W ++ [.string T] := by rw [hfin, strV, List.map_append, hT]; rfl
      have hWl : (spW 32 L).length = W.length + 1 := by rw [hfin]; simp
      have hn1 : ¬ S.size < f := by omega
      replace hT := hid hT
      replace hs := hid hs
      replace hWl := hid hWl
      replace hfin := hid hfin
      go_wp2_with (at_builtin; refine wpList_append1 rfl _ _ _ rfl elemStr rfl own hBo rfl rfl (by omega) (by omega) ?_; intro v6 w6 ho6 hb6)
      refine bodyPost_ret (v := v6) (by simp [results, Tryz.results37, go_sem]) rfl ?_
      exact ⟨v6, rfl, by rw [hs.out, hWl.out, ← hB0.out]; exact ho6, hEx.out _ (hbw.trans hb6)⟩
set_option maxHeartbeats 1600000 in
set_option maxRecDepth 100000 in
theorem l1Split_any {L : List UInt8} {w : World} (hl : L.length ≤ 100000) :
    Calls Tryz.prog 46 #[.string (bsOf L), .int .u8 32] w fun e w' => ∃ v, e = .returned v ∧ Own w' w.heap.size [⟨9, 1, v, (spW 32 L).length, strV (spW 32 L)⟩] ∧ Ext w w' := by
  obtain ⟨S, hS⟩ : ∃ S, S = bsOf L := ⟨_, rfl⟩
  have hSz : S.size = L.length := by rw [hS, bsOf_size]
  rw [← hS]
  replace hS := hid hS
  have own1 : Own (w.alloc (.cells #[] 9)) w.heap.size [⟨9, 1, .slice (some ⟨w.heap.size, 0, none⟩) 0 0, ([] : List (List UInt8)).length, strV []⟩] := (Own.nil w w.heap.size).lit 9 1 0 #[] (Nat.le_refl _) (by unfold maxLen; omega) rfl
  have b1 : Below w.heap.size w (w.alloc (.cells #[] 9)) := (Below.refl _ w).alloc (Nat.le_refl _) _
  go_enter Tryz.func46, Tryz.ntmps46
  go_upto_region 2 with fail
  obtain ⟨B, hB0⟩ : ∃ b, b = w.heap.size := ⟨_, rfl⟩
  have hEx := hid (show ∀ u, Below B w u → Ext w u from fun u h => ⟨by rw [← hB0]; exact h⟩)
  have hBs := hid (show ∀ u, Below B w u → B ≤ u.heap.size from fun u h => by rw [hB0]; exact h.size)
  rw [← hB0] at own1 b1 ⊢
  replace hB0 := hid hB0
  generalize w.alloc (.cells #[] 9) = w1 at *
  go_wp2_with fail
  go_loopw [5, 6, 7] (fun u fv iv wr => ∃ (i f : Nat) (W : List (List UInt8)), i ≤ L.length ∧ f ≤ i ∧ W.length ≤ i ∧ fv = .int .i64 f ∧ iv = .int .i64 i ∧ Hid (spW 32 L = W ++ spF 32 (L.drop i) ((L.take i).drop f)) ∧ Own wr B [⟨9, 1, u, W.length, strV W⟩] ∧ Below B w wr) (fun _ _ iv _ => L.length - (intOf iv).toNat)
  case atStart => exact ⟨0, 0, [], by omega, by omega, by simp, rfl, rfl, hid rfl, own1, b1⟩
  case round =>
    clear own1 b1
    obtain ⟨i, f, W, hil, hfi, hWi, rfl, rfl, hsp, own, hbw⟩ := hrel
    obtain ⟨wo, rfl⟩ : ∃ y : World, y = wr := ⟨_, rfl⟩
    obtain ⟨dO, mO, hvO⟩ := own.form
    simp only at hvO
    subst hvO
    have hBo : B ≤ wo.heap.size := hBs.out _ hbw
    have eo : Ext w wo := hEx.out _ hbw
    by_cases hlt : i < L.length
    · have hltS : i < S.size := by omega
      obtain ⟨b, hb⟩ : ∃ b, L[i]? = some b := ⟨_, List.getElem?_eq_getElem hlt⟩
      have hat := spF_at (b := 32) hb hfi
      have hget : ∀ h : i < S.size, S[i]'h = b := by
        have h := bs_get hb
        rw [← hS.out] at h
        exact h
      have hb8 : b.toNat < 256 := b.toNat_lt
      obtain ⟨z, hz⟩ : ∃ z, z = b.toNat := ⟨_, rfl⟩
      have hgz : ∀ h : i < S.size, (S[i]'h).toNat = z := fun h => by rw [hget h, hz]
      have hz8 : z < 256 := by omega
      by_cases he : b = 32
      · have hz32 : z = 32 := by rw [hz, he]; rfl
        rw [if_pos he] at hat
        obtain ⟨T, hT⟩ : ∃ T, T = bsOf ((L.take i).drop f) := ⟨_, rfl⟩
        have hext : S.extract f i = T := by rw [hS.out, hT, bs_cut]
        have hs : strV (W ++ [(L.take i).drop f]) = strV W ++ [.string T] := by rw [strV, List.map_append, hT]; rfl
        have hn1 : ¬ i < f := by omega
        have hn2 : ¬ S.size < i := by omega
        have hWm : W.length ≤ 100000 := by omega
        have hsp2 := hid (show spW 32 L = (W ++ [(L.take i).drop f]) ++ spF 32 (L.drop (i + 1)) ((L.take (i + 1)).drop (i + 1)) by
          rw [hsp.out, hat, show (L.take (i + 1)).drop (i + 1) = [] from List.drop_eq_nil_of_le (by rw [List.length_take]; omega)]
          simp)
        have hWl : (W ++ [(L.take i).drop f]).length = W.length + 1 := by simp
        replace hb := hid hb
        replace hz := hid hz
        replace hget := hid hget
        replace he := hid he
        replace hat := hid hat
        replace hT := hid hT
        replace hs := hid hs
        replace hWl := hid hWl
        subst hz32
        clear hb8
        go_wp2_with (at_builtin; refine wpList_append1 rfl _ _ _ rfl elemStr rfl own hBo rfl rfl (by omega) (by omega) ?_; intro v6 w6 ho6 hb6)
        go_roundw
        case rel => exact ⟨i + 1, i + 1, W ++ [(L.take i).drop f], by omega, by omega, by rw [hWl.out]; omega, by go_num, by go_num, hsp2, by rw [hs.out, hWl.out]; exact ho6, hbw.trans hb6⟩
        case measure => simp [intOf]; omega
      · have hzn : ((z : Int) == 32) = false := by
          have h3 : z ≠ 32 := fun e => he (UInt8.toNat_inj.1 (by rw [← hz, e]; rfl))
          simp; omega
        rw [if_neg he] at hat
        have hsp2 := hid (show spW 32 L = W ++ spF 32 (L.drop (i + 1)) ((L.take (i + 1)).drop f) by rw [hsp.out, hat])
        replace hb := hid hb
        replace hz := hid hz
        replace hget := hid hget
        replace he := hid he
        replace hat := hid hat
        clear hb8
        go_wp2_with fail
        go_roundw
        case rel => exact ⟨i + 1, f, W, by omega, by omega, by omega, rfl, by go_num, hsp2, own, hbw⟩
        case measure => simp [intOf]; omega
    · have hiL : i = L.length := by omega
      obtain ⟨T, hT⟩ : ∃ T, T = bsOf (L.drop f) := ⟨_, rfl⟩
      have hext : S.extract f L.length = T := by rw [hS.out, hT, bs_cut, List.take_length]
      have hWm : W.length ≤ 100000 := by omega
      have hfin : spW 32 L = W ++ [L.drop f] := by
        rw [hsp.out, hiL, List.drop_eq_nil_of_le (Nat.le_refl _), List.take_length]; rfl
      have hs : strV (spW 32 L) = strV W ++ [.string T] := by rw [hfin, strV, List.map_append, hT]; rfl
      have hWl : (spW 32 L).length = W.length + 1 := by rw [hfin]; simp
      have hn1 : ¬ S.size < f := by omega
      replace hT := hid hT
      replace hs := hid hs
      replace hWl := hid hWl
      replace hfin := hid hfin
      go_wp2_with (at_builtin; refine wpList_append1 rfl _ _ _ rfl elemStr rfl own hBo rfl rfl (by omega) (by omega) ?_; intro v6 w6 ho6 hb6)
      refine bodyPost_ret (v := v6) (by simp [results, Tryz.results46, go_sem]) rfl ?_
      exact ⟨v6, rfl, by rw [hs.out, hWl.out, ← hB0.out]; exact ho6, hEx.out _ (hbw.trans hb6)⟩
end Go.Proofs.YtaphnkgjcmneoaaGreatDoor
