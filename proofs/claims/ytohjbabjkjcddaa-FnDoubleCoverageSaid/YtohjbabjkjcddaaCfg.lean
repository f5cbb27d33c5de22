/- The lists of all configurations, of the program and of the reference. -/
import Derived.Test.YtohjbabjkjcddaaCfgP
import Derived.Test.YtohjbabjkjcddaaTbl
namespace Go.Proofs.Ytohjbabjkjcddaa
open Go.RowKit

theorem Tab.drop {w : World} {B : Nat} {v : Value} {M : List (List Int)} {R : List Row} (h : Tab w B v M R) : Tab w B v M [] := by
  obtain ⟨vs, h1, h2⟩ := h
  exact ⟨vs, h1, by rw [List.append_nil]; exact h2.left⟩
theorem Tab.eq {w : World} {B : Nat} {v : Value} {M N : List (List Int)} {R : List Row} (h : Tab w B v M R) (e : M = N) : Tab w B v N R := e ▸ h
theorem Tab.with {w w' : World} {B : Nat} {v u : Value} {M L : List (List Int)} {R : List Row} (h : Tab w B v M R) (hn : Tab w' w.heap.size u L []) (e : Ext w w') (hB : B ≤ w.heap.size)
    (hs : ShortRows L.length) (hr : ∀ r ∈ L, Short r.length) (hi : ∀ r ∈ L, ∀ x ∈ r, I64 x) : ∃ R', Tab w' B v M R' ∧ ∀ z, Own z B R' → IsRows z u L := by
  obtain ⟨vs, h1, h2⟩ := h
  obtain ⟨us, h3, h4⟩ := hn
  have h5 := (Own.join h2 h4 hB).swap
  rw [List.append_assoc] at h5
  refine ⟨R ++ (rowsOf 24 3 u us L ++ []), ⟨vs, h1, h5⟩, fun z hz => ?_⟩
  exact hz.right.readsAll h3 hs hr hi
theorem confs_rows {n k f : Nat} (hn : n ≤ 6) (hk : k ≤ 3) : ShortRows (confs n k f).length ∧ (∀ r ∈ confs n k f, Short r.length) ∧ ∀ r ∈ confs n k f, ∀ x ∈ r, I64 x := by
  have h1 := confs_len hn k f
  have h2 : 6 ^ k ≤ 6 ^ 3 := Nat.pow_le_pow_right (by omega) hk
  refine ⟨by unfold ShortRows; omega, fun r hr => by have := (confs_mem hr).1; unfold Short; omega, fun r hr x hx => by have := (confs_mem hr).2 x hx; unfold I64; omega⟩

set_option maxHeartbeats 1600000 in
set_option maxRecDepth 100000 in
theorem configsOf_any {n : Nat} (hn : n ≤ 6) : ∀ (k f : Nat), k ≤ 3 → f ≤ 6 → ∀ w : World,
    Calls Try.prog 135 #[.int .i64 n, .int .i64 k, .int .i64 f] w fun e w' => ∃ v, e = .returned v ∧ Tab w' w.heap.size v (confs n k f) [] ∧ Ext w w'
  | 0, f, _, _, w => by
    go_enter Try.func135, Try.ntmps135
    go_wp2
    go_ret
    refine ⟨_, rfl, ?_, inferInstance⟩
    have h1 := (Own.nil w w.heap.size).lit 3 1 0 #[] (Nat.le_refl _) (by unfold maxLen; omega) rfl
    have h2 := h1.lit 24 1 1 #[.slice (some ⟨w.heap.size, 0, none⟩) 0 0] (by simp) (by unfold maxLen; omega) rfl
    rw [show (w.alloc (.cells #[] 3)).heap.size = w.heap.size + 1 by simp] at h2
    exact ⟨[.slice (some ⟨w.heap.size, 0, none⟩) 0 0], rfl, h2⟩
  | k + 1, f, hk, hf, w => by
    have ih := hid (configsOf_any hn k)
    have h6 : 6 ^ k ≤ 36 := by
      have : 6 ^ k ≤ 6 ^ 2 := Nat.pow_le_pow_right (by omega) (by omega)
      omega
    have hkk : ((k : Int) + 1 == 0) = false := by simp; omega
    have hk1 : ((k + 1 : Nat) : Int) = (k : Int) + 1 := by omega
    rw [hk1]
    replace hk1 := hid hk1
    go_enter Try.func135, Try.ntmps135
    go_upto_region 4 with fail
    have tab0 := Tab.start (Own.nil w w.heap.size) (Nat.le_refl _)
    have e0 : Ext w (w.alloc (.cells #[] 24)) := inferInstance
    have hS : Tab (w.alloc (.cells #[] 24)) w.heap.size (.slice (some ⟨w.heap.size, 0, none⟩) 0 0) (cfTo n k f f) [] := by rw [cfTo_zero]; exact tab0
    clear tab0
    obtain ⟨B, hB⟩ : ∃ b, b = w.heap.size := ⟨_, rfl⟩
    rw [← hB] at hS ⊢
    have b0 : Below B w (w.alloc (.cells #[] 24)) := by rw [hB]; exact e0.below
    have hl0 : B ≤ w.heap.size := Nat.le_of_eq hB
    generalize w.alloc (.cells #[] 24) = w1 at *
    replace hB := hid hB
    clear e0
    go_wp2
    go_loopw [7, 8] (fun v i wr => ∃ x : Nat, f ≤ x ∧ (x ≤ n ∨ x = f) ∧ i = .int .i64 x ∧ Tab wr B v (cfTo n k f x) [] ∧ Below B w wr) (fun _ i _ => n - (intOf i).toNat)
    case atStart => exact ⟨f, Nat.le_refl _, .inr rfl, rfl, hS, b0⟩
    case round =>
      obtain ⟨x, hfx, hxn, rfl, htab, hb⟩ := hrel
      obtain ⟨d, m, rfl⟩ := htab.form
      obtain ⟨wo, rfl⟩ : ∃ y : World, y = wr := ⟨_, rfl⟩
      have hBo : B ≤ wo.heap.size := Nat.le_trans hl0 hb.size
      by_cases hlt : x < n
      · go_wp2_with fail
        with_reducible refine (ih.out x (by omega) (by omega) wo).mono ?_
        rintro e w2 ⟨v, rfl, htab2, e2⟩
        obtain ⟨d2, m2, rfl⟩ := htab2.form
        obtain ⟨R, htab3, hR⟩ := htab.with htab2 e2 hBo (confs_rows hn (by omega)).1 (confs_rows hn (by omega)).2.1 (confs_rows hn (by omega)).2.2
        have hb2 : Below B w w2 := hb.trans (e2.below.mono hBo)
        have hlen := confs_len hn k x
        have hlen2 := cfTo_len (k := k) (f := f) hn (show x ≤ n by omega)
        have hsc := hid (cfTo_succ (n := n) (k := k) hfx)
        replace hR := hid hR
        clear htab htab2
        obtain ⟨L, hL⟩ : ∃ l, l = confs n k x := ⟨_, rfl⟩
        obtain ⟨T, hT⟩ : ∃ l, l = cfTo n k f x := ⟨_, rfl⟩
        rw [← hL] at hR hlen hsc ⊢
        rw [← hT] at htab3 hlen2 hsc ⊢
        have hLm := hid (show ∀ r ∈ L, r.length = k ∧ ∀ y ∈ r, I64 y from fun r hr => by
          rw [hL] at hr
          exact ⟨(confs_mem hr).1, fun y hy => by have := (confs_mem hr).2 y hy; unfold I64; omega⟩)
        replace hL := hid hL
        replace hT := hid hT
        have hS2 : Tab w2 B (.slice d T.length m) (T ++ (L.take 0).map (List.cons (x : Int))) R := by simpa using htab3
        clear htab3
        go_wp2_with fail
        go_loopw [7, 28] (fun v i wr => ∃ j : Nat, j ≤ L.length ∧ i = .int .i64 j ∧ Tab wr B v (T ++ (L.take j).map (List.cons (x : Int))) R ∧ Below B w wr) (fun _ i _ => L.length - (intOf i).toNat)
        case atStart => exact ⟨0, by omega, rfl, hS2, hb2⟩
        case round =>
          obtain ⟨j, hj, rfl, htab, hb⟩ := hrel
          obtain ⟨d3, m3, rfl⟩ := htab.form
          obtain ⟨wq, rfl⟩ : ∃ y : World, y = wr := ⟨_, rfl⟩
          have hBq : B ≤ wq.heap.size := Nat.le_trans hl0 hb.size
          have hlq : (T ++ (L.take j).map (List.cons (x : Int))).length ≤ 1000 := by simp; omega
          by_cases hltj : j < L.length
          · have hrows := hR.out wq htab.rest
            obtain ⟨b, o, dr, mr, hd2, hcr, hir, hlr⟩ := hrows.at (w' := wq) (k := j) hltj
            subst hd2
            have hrl := (hLm.out _ (row_mem hltj)).1
            have hsn := hid (show T ++ (L.take (j + 1)).map (List.cons (x : Int)) = (T ++ (L.take j).map (List.cons (x : Int))) ++ [(x : Int) :: row L j] by
              rw [take_succ_row hltj, List.map_append, List.append_assoc]; rfl)
            have tabL := htab.lit #[.int .i64 (x : Int)] [(x : Int)] hBq rfl rfl (by simp)
            have bL : Below B w (wq.alloc (.cells #[.int .i64 (x : Int)] 3)) := hb.alloc hBq _
            obtain ⟨Tj, hTj⟩ : ∃ l, l = T ++ (L.take j).map (List.cons (x : Int)) := ⟨_, rfl⟩
            rw [← hTj] at hlq tabL hsn ⊢
            replace hTj := hid hTj
            replace hrl := hid hrl
            have hBl : B ≤ (wq.alloc (.cells #[.int .i64 (x : Int)] 3)).heap.size := Nat.le_trans hl0 bL.size
            have hirl : IsInts (wq.alloc (.cells #[.int .i64 (x : Int)] 3)) (.slice dr (row L j).length mr) (row L j) := hir.ext
            go_wp2_with (first
              | (at_builtin; refine wpList_more rfl (.tmp 34) (.tmp 35) rfl rfl tabL hBl rfl hirl (by have := hrl.out; simp; omega) ?_; intro v4 w4 tab4 b4; obtain ⟨d4, m4, hv4⟩ := tab4.rform; subst hv4)
              | (at_builtin; refine wpList_push rfl (.tmp 32) (.tmp 37) rfl rfl tab4 (Nat.le_trans hl0 (bL.trans b4).size) rfl (by omega) ?_; intro v5 w5 tab5 b5))
            go_roundw
            case rel => exact ⟨j + 1, by omega, by go_num, by rw [hsn.out]; exact tab5, (bL.trans b4).trans b5⟩
            case measure => simp [intOf]; omega
          · have hjl : j = L.length := by omega
            go_wp2_with fail
            go_roundw
            case rel =>
              refine ⟨x + 1, by omega, .inl (by omega), by go_num, ?_, hb⟩
              exact htab.drop.eq (by rw [hsc.out, hjl, List.take_length])
            case measure => simp [intOf]; omega
      · have hrel2 : confs n (k + 1) f = cfTo n k f x := by
          rw [confs_succ]
          rcases hxn with h | h
          · rw [show x = n by omega]
          · subst h
            simp [cfTo, show n - x = 0 by omega]
        replace hrel2 := hid hrel2
        go_wp2_with fail
        go_ret
        exact ⟨_, rfl, by rw [hrel2.out, ← hB.out]; exact htab, ⟨by rw [← hB.out]; exact hb⟩⟩
end Go.Proofs.Ytohjbabjkjcddaa
