/- The costs of who serves each request next: flowOf of the program. -/
import Derived.Test.YtllfchcocgdcjaaGreatCat
import Derived.Test.YtllfchcocgdcjaaGreatUse
import Derived.Test.YtllfchcocgdcjaaGreatGrF
import Derived.Test.YtllfchcocgdcjaaGreatNxtS
namespace Go.Proofs.YtllfchcocgdcjaaGreat
open Go.RowKit

/-- the cost of row i at column k, 2^30 for none -/
def flC (M : List (List Int)) (a X : List Int) (i k : Nat) : Int := if k < a.length + i then cell M (nth (a ++ X) k).toNat (nth X i).toNat else 1073741824
/-- row i, as far as its first k columns -/
def flTo (M : List (List Int)) (a X : List Int) (i k : Nat) : List Int := (List.range (a.length + X.length)).map fun j => if j < k then flC M a X i j else 1073741824
def flRow (M : List (List Int)) (a X : List Int) (i : Nat) : List Int := (List.range (a.length + X.length)).map (flC M a X i)
def flL (M : List (List Int)) (a X : List Int) : List (List Int) := (List.range X.length).map (flRow M a X)
theorem flTo_len (M : List (List Int)) (a X : List Int) (i k : Nat) : (flTo M a X i k).length = a.length + X.length := by simp [flTo]
theorem flRow_len (M : List (List Int)) (a X : List Int) (i : Nat) : (flRow M a X i).length = a.length + X.length := by simp [flRow]
theorem flL_len (M : List (List Int)) (a X : List Int) : (flL M a X).length = X.length := by simp [flL]
theorem flTo_zero (M : List (List Int)) (a X : List Int) (i : Nat) : flTo M a X i 0 = List.replicate (a.length + X.length) 1073741824 := by
  apply List.ext_getElem
  · simp [flTo]
  · intro _ _ _
    simp [flTo]
theorem flTo_end (M : List (List Int)) (a X : List Int) (i : Nat) : flTo M a X i (a.length + i) = flRow M a X i := by
  apply List.map_congr_left
  intro j _
  by_cases h : j < a.length + i
  · rw [if_pos h]
  · rw [if_neg h, flC, if_neg h]
theorem flTo_succ {M : List (List Int)} {a X : List Int} {i k : Nat} (hk : k < a.length + i) : flTo M a X i (k + 1) = (flTo M a X i k).set k (cell M (nth (a ++ X) k).toNat (nth X i).toNat) := by
  apply List.ext_getElem
  · simp [flTo]
  · intro j h1 h2
    simp only [flTo, List.getElem_map, List.getElem_range, List.getElem_set]
    by_cases e : k = j
    · subst e
      rw [if_pos rfl, if_pos (by omega), flC, if_pos hk]
    · rw [if_neg e]
      by_cases h : j < k
      · rw [if_pos h, if_pos (by omega)]
      · rw [if_neg h, if_neg (by omega)]
theorem flL_take {M : List (List Int)} {a X : List Int} {i : Nat} (h : i < X.length) : (flL M a X).take (i + 1) = (flL M a X).take i ++ [flRow M a X i] := by
  rw [take_succ_row (by rw [flL_len]; exact h)]
  simp [flL, row, h]
theorem flL_at {M : List (List Int)} {a X : List Int} {i : Nat} (h : i < X.length) : row (flL M a X) i = flRow M a X i := by simp [flL, row, h]
theorem flC_bd {M : List (List Int)} {a X : List Int} (hM : metB M = true) (ha : ∀ x ∈ a, 0 ≤ x ∧ x < (M.length : Int)) (hX : ∀ x ∈ X, 0 ≤ x ∧ x < (M.length : Int)) {i k : Nat} (hi : i < X.length) (_hk : k < a.length + X.length) : 0 ≤ flC M a X i k ∧ (k < a.length + i → flC M a X i k ≤ 99) ∧ flC M a X i k ≤ 1073741824 := by
  unfold flC
  by_cases h : k < a.length + i
  · rw [if_pos h]
    have hk2 : k < (a ++ X).length := by rw [List.length_append]; omega
    have hp : 0 ≤ nth (a ++ X) k ∧ nth (a ++ X) k < (M.length : Int) := by
      have := nth_mem hk2
      rcases List.mem_append.1 this with h1 | h1
      · exact ha _ h1
      · exact hX _ h1
    have hr := hX _ (nth_mem hi)
    have ht : tableB M = true := by simp only [metB, Bool.and_eq_true] at hM; exact hM.1
    have := tableB_cell ht (x := (nth (a ++ X) k).toNat) (y := (nth X i).toNat) (by omega) (by omega)
    omega
  · rw [if_neg h]; omega
theorem flL_i64 {M : List (List Int)} {a X : List Int} (hM : metB M = true) (ha : ∀ x ∈ a, 0 ≤ x ∧ x < (M.length : Int)) (hX : ∀ x ∈ X, 0 ≤ x ∧ x < (M.length : Int)) : ∀ r ∈ flL M a X, ∀ x ∈ r, I64 x := by
  intro r hr x hx
  obtain ⟨i, hi, rfl⟩ := List.mem_map.1 hr
  obtain ⟨k, hk, rfl⟩ := List.mem_map.1 hx
  have := flC_bd hM ha hX (List.mem_range.1 hi) (List.mem_range.1 hk)
  unfold I64
  omega

/-- the box of a flow -/
def floRow (b : Nat) (cs : List Value) : Row := ⟨50, 2, .slice (some ⟨b, 0, none⟩) 1 1, 1, cs⟩
theorem TabX.setAt {w : World} {B g n c : Nat} {v : Value} {M : List (List Int)} {xs : List Int} {R : List Row} (h : TabX w B v M (.slice (some ⟨g, 0, none⟩) n c) xs R) {j : Nat} (hj : j < xs.length) (y : Int) :
    w.cell? ⟨g, j, none⟩ = some (.int .i64 (nth xs j)) ∧ w.frozen? ⟨g, j, none⟩ = false ∧ B ≤ g ∧ TabX (w.setCell ⟨g, j, none⟩ (.int .i64 y)) B v M (.slice (some ⟨g, 0, none⟩) n c) (xs.set j y) R := by
  obtain ⟨vs, hvl, own⟩ := h
  have hn : n = xs.length := by
    obtain ⟨d, m, h⟩ := own.form
    have h' : Value.slice (some ⟨g, 0, none⟩) n c = .slice d xs.length m := h
    cases h'
    rfl
  subst hn
  have own' : Own w B (⟨3, 1, .slice (some ⟨g, 0, none⟩) xs.length c, xs.length, xs.map (Value.int .i64)⟩ :: (rowsOf 27 3 v vs M ++ R)) := own
  refine ⟨?_, own'.frozenAt j, own'.lt.1, vs, hvl, ?_⟩
  · rw [own'.cellAt (w' := w) hj]; simp [nth, hj]
  · have h2 := own'.set j (.int .i64 y)
    rw [← List.map_set] at h2
    unfold intRowOf
    rw [List.length_set]
    exact h2
theorem TabX.some {w : World} {B n c : Nat} {d : Option Addr} {v : Value} {M : List (List Int)} {xs : List Int} {R : List Row} (h : TabX w B v M (.slice d n c) xs R) (hn : 0 < n) : ∃ g, d = Option.some ⟨g, 0, none⟩ := by
  obtain ⟨R', h2⟩ := h.own
  rcases h2.head.2 with ⟨h3, _⟩ | ⟨g, cap, cur, hv, _⟩
  · have h3' : Value.slice d n c = .slice none 0 0 := h3
    cases h3'
    omega
  · have hv' : Value.slice d n c = .slice (Option.some ⟨g, 0, none⟩) xs.length cap := hv
    cases hv'
    exact ⟨g, rfl⟩

set_option maxHeartbeats 1600000 in
set_option maxRecDepth 100000 in
theorem flowOf_any {v va vX : Value} {M : List (List Int)} {a X : List Int} {w0 w : World} [Ext w0 w] (hm : IsMet w0 v M) (ha : IsInts w0 va a) (hXi : IsInts w0 vX X) (hM : metB M = true) (hab : ∀ x ∈ a, 0 ≤ x ∧ x < (M.length : Int)) (hXb : ∀ x ∈ X, 0 ≤ x ∧ x < (M.length : Int)) (hal : 1 ≤ a.length ∧ a.length ≤ 3) (hXl : X.length ≤ 60) :
    Calls Tryz.prog 19 #[v, va, vX] w fun e w' => ∃ b cv B, e = .returned (.pointer (some ⟨b, 0, none⟩)) ∧ Tab w' B cv (flL M a X) [floRow b [.int .i64 a.length, cv]] ∧ w.heap.size ≤ B ∧ Ext w w' := by
  have hm' := hm
  obtain ⟨v1, rfl, hR⟩ := hm
  obtain ⟨a1, c1, rfl, l1⟩ := hR.form
  have ha' := ha
  obtain ⟨da, ma, rfl, la⟩ := ha.form
  have hX' := hXi
  obtain ⟨dx, mx, rfl, lx⟩ := hXi.form
  have hMl := met_len hM
  go_enter Tryz.func19, Tryz.ntmps19
  go_upto_region 1 with fail
  have e1 : Ext w (w.alloc (.cells #[.slice a1 M.length c1] 26)) := inferInstance
  have x0 : (w.alloc (.cells #[.slice a1 M.length c1] 26)).cell? ⟨w.heap.size, 0, none⟩ = some (.slice a1 M.length c1) := by go_simp
  obtain ⟨bx, hbx⟩ : ∃ q, q = w.heap.size := ⟨_, rfl⟩
  rw [← hbx] at x0 ⊢
  generalize w.alloc (.cells #[.slice a1 M.length c1] 26) = w1 at *
  replace hbx := hid hbx
  go_upto_region 2 with fail
  obtain ⟨B, hB⟩ : ∃ b, b = w1.heap.size := ⟨_, rfl⟩
  have own2 : Own (w1.alloc (.cells #[.int .i64 a.length, .slice none 0 0] 50)) B [floRow B [.int .i64 a.length, .slice none 0 0]] := by
    rw [hB]
    exact (Own.nil w1 w1.heap.size).lit 50 2 1 #[.int .i64 a.length, .slice none 0 0] (Nat.le_refl _) (by unfold maxLen; omega) rfl
  have b2 : Below B w1 (w1.alloc (.cells #[.int .i64 a.length, .slice none 0 0] 50)) := by rw [hB]; exact (Below.refl _ w1).alloc (Nat.le_refl _) _
  have hEx := hid (show ∀ u, Below B w1 u → Ext w1 u from fun u h => ⟨by rw [← hB]; exact h⟩)
  have hBs := hid (show ∀ u, Below B w1 u → B ≤ u.heap.size from fun u h => by rw [hB]; exact h.size)
  have hwB : w.heap.size ≤ B := by rw [hB]; exact e1.size
  rw [← hB]
  replace hB := hid hB
  generalize w1.alloc (.cells #[.int .i64 a.length, .slice none 0 0] 50) = w2 at *
  have hB2 := hBs.out _ b2
  have eL : Ext w2 (w2.alloc (.cells #[.slice da a.length ma, .slice dx X.length mx] 27)) := inferInstance
  have e02 : Ext w0 w2 := Ext.trans ‹Ext w0 w› (Ext.trans e1 (hEx.out _ b2))
  have e0L : Ext w0 (w2.alloc (.cells #[.slice da a.length ma, .slice dx X.length mx] 27)) := Ext.trans e02 eL
  have hrows : IsRows (w2.alloc (.cells #[.slice da a.length ma, .slice dx X.length mx] 27)) (.slice (some ⟨w2.heap.size, 0, none⟩) 2 2) [a, X] := by
    refine ⟨_, _, rfl, by unfold ShortRows; simp, fun j hj => ?_⟩
    match j, hj with
    | 0, _ => exact ⟨_, _, _, rfl, by simp, ha'.ext (e := e0L)⟩
    | 1, _ => exact ⟨_, _, _, rfl, by simp, hX'.ext (e := e0L)⟩
  have hsl : sumLen [a, X] ≤ 100000 := by simp only [sumLen]; omega
  have own2L := own2.ext (e := eL)
  have b2L : Below B w1 (w2.alloc (.cells #[.slice da a.length ma, .slice dx X.length mx] 27)) := b2.alloc hB2 _
  have hBL := hBs.out _ b2L
  clear own2
  go_wp2_with fail
  with_reducible refine (concat_any (w0 := w2.alloc (.cells #[.slice da a.length ma, .slice dx X.length mx] 27)) (w := w2.alloc (.cells #[.slice da a.length ma, .slice dx X.length mx] 27)) hrows hsl).mono ?_
  have hfl : ([a, X] : List (List Int)).flatten = a ++ X := by simp
  rw [hfl]
  rintro e w3 ⟨dA, mA, rfl, ownA, eA⟩
  obtain ⟨N, hN⟩ : ∃ N, N = (a ++ X).length := ⟨_, rfl⟩
  have own3 : Own w3 B [floRow B [.int .i64 a.length, .slice none 0 0], ⟨3, 1, .slice dA N mA, N, (a ++ X).map (Value.int .i64)⟩] := by
    rw [hN]
    exact Own.swap (R := [_]) (S := [_]) (Own.join own2L ownA hBL)
  have b3 : Below B w1 w3 := b2L.trans (eA.below.mono hBL)
  rw [← hN]
  have hNb : N ≤ a.length + X.length ∧ a.length + X.length ≤ N := by rw [hN, List.length_append]; omega
  have hNl := hid hN.symm
  have hNe := hid (show a.length + X.length = N by omega)
  clear hN hfl own2L ownA hrows hsl eL b2L hBL e0L
  have hi64 := hid (show ∀ y ∈ a ++ X, I64 y from fun y hy => by
    rcases List.mem_append.1 hy with h | h
    · exact ha'.all.2 y h
    · exact hX'.all.2 y h)
  have hpt := hid (show ∀ k, k < N → 0 ≤ nth (a ++ X) k ∧ nth (a ++ X) k < (M.length : Int) from fun k hk => by
    have h := nth_mem (xs := a ++ X) (k := k) (by rw [hNl.out]; exact hk)
    rcases List.mem_append.1 h with h1 | h1
    · exact hab _ h1
    · exact hXb _ h1)
  have hrq := hid (show ∀ k, k < X.length → 0 ≤ nth X k ∧ nth X k < (M.length : Int) from fun k hk => hXb _ (nth_mem hk))
  have hmr := hid (show ∀ x, x < M.length → (row M x).length = M.length from fun x hx => met_row hM hx)
  have hflen := hid (flL_len M a X)
  have tab3 : Tab w3 B (.slice none 0 0) ((flL M a X).take 0) [floRow B [.int .i64 a.length, .slice none 0 0], ⟨3, 1, .slice dA N mA, N, (a ++ X).map (Value.int .i64)⟩] := Tab.nil own3
  replace hM := hid hM
  replace hab := hid hab
  replace hXb := hid hXb
  clear own3 eA b2
  go_wp2_with fail
  go_loopw [24] (fun q wr => ∃ i : Nat, i ≤ X.length ∧ q = .int .i64 i ∧ (∃ cv, Tab wr B cv ((flL M a X).take i) [floRow B [.int .i64 a.length, cv], ⟨3, 1, .slice dA N mA, N, (a ++ X).map (Value.int .i64)⟩]) ∧ Below B w1 wr) (fun q _ => X.length - (intOf q).toNat)
  case atStart => exact ⟨0, by omega, rfl, ⟨_, tab3⟩, b3⟩
  case round =>
    clear tab3 b3
    obtain ⟨i, hi, rfl, ⟨cv, tab⟩, hb⟩ := hrel
    obtain ⟨wo, rfl⟩ : ∃ y : World, y = wr := ⟨_, rfl⟩
    obtain ⟨dC, nC, mC, rfl, hnC⟩ := tab.formN
    have hBo := hBs.out _ hb
    have eo : Ext w1 wo := hEx.out _ hb
    have e0o : Ext w0 wo := Ext.trans ‹Ext w0 w› (Ext.trans e1 eo)
    by_cases hlt : i < X.length
    · obtain ⟨bq, oq, hdq, hcq⟩ := hX'.at (w' := wo) hlt
      cases hdq
      obtain ⟨hr0, hr1⟩ := hrq.out i hlt
      obtain ⟨r, hr⟩ := Int.eq_ofNat_of_zero_le hr0
      rw [hr] at hcq hr1
      have hTs := hid (flL_take (M := M) (a := a) (X := X) hlt)
      have hT2 : ((flL M a X).take i).length ≤ 1000 := by rw [List.length_take]; omega
      have hz := flTo_zero M a X i
      have hen := flTo_end M a X i
      have hst := hid (show ∀ k, k < a.length + i → flTo M a X i (k + 1) = (flTo M a X i k).set k (cell M (nth (a ++ X) k).toNat r) from fun k hk => by
        rw [flTo_succ hk, hr, Int.toNat_natCast])
      have hlen := hid (show ∀ k, (flTo M a X i k).length = N from fun k => by rw [flTo_len, hNe.out])
      obtain ⟨T, hT⟩ : ∃ l, l = (flL M a X).take i := ⟨_, rfl⟩
      rw [← hT] at tab hTs hT2
      rw [hNe.out] at hz
      replace hr := hid hr
      replace hT := hid hT
      replace hz := hid hz
      replace hen := hid hen
      clear hnC hr0
      have eR : Ext wo (wo.alloc (.cells #[.int .i64 1073741824] 3)) := inferInstance
      have tabR := tab.ext (e := eR)
      have bR : Below B w1 (wo.alloc (.cells #[.int .i64 1073741824] 3)) := hb.alloc hBo _
      have ownR : Own (wo.alloc (.cells #[.int .i64 1073741824] 3)) wo.heap.size [intRowOf 3 (.slice (some ⟨wo.heap.size, 0, none⟩) ([1073741824] : List Int).length 1) [1073741824]] := Own.litInts (xs := [1073741824]) (Nat.le_refl _) rfl rfl (by simp) rfl
      have hrR : IsInts (wo.alloc (.cells #[.int .i64 1073741824] 3)) (.slice (some ⟨wo.heap.size, 0, none⟩) 1 1) [1073741824] := ownR.reads (by unfold Short; simp) (by simp [I64])
      have hBR := hBs.out _ bR
      clear ownR tab
      go_wp2_with fail
      with_reducible refine (sRepeatM_any (w0 := wo.alloc (.cells #[.int .i64 1073741824] 3)) (w := wo.alloc (.cells #[.int .i64 1073741824] 3)) (n := N) hrR (by omega)).mono ?_
      rintro e w5 ⟨dR, mR, rfl, ownR, e5⟩
      have tab5 : TabX w5 B (.slice dC nC mC) T (.slice dR N mR) (flTo M a X i 0) [floRow B [.int .i64 a.length, .slice dC nC mC], ⟨3, 1, .slice dA N mA, N, (a ++ X).map (Value.int .i64)⟩] := by
        have h : Own w5 (wo.alloc (.cells #[.int .i64 1073741824] 3)).heap.size [intRowOf 3 (.slice dR N mR) (flTo M a X i 0)] := by
          unfold intRowOf
          rw [hlen.out, hz.out]
          exact ownR
        exact tabR.join h e5 hBR
      have b5 : Below B w1 w5 := bR.trans (e5.below.mono hBR)
      clear ownR tabR hrR bR hBR eR e5
      obtain ⟨gR, rfl⟩ := tab5.some (by omega)
      have hrd0 : IsInts w5 (.slice dA N mA) (a ++ X) := (tab5.tab.rest.tail).readsN hNl.out (by omega) hi64.out
      have hcapA := hrd0.cap
      rw [hNl.out] at hcapA
      obtain ⟨bA, oA, rfl, _⟩ := hrd0.at (w' := w5) (k := 0) (by rw [hNl.out]; omega)
      clear hrd0
      have hai : a.length + i ≤ N := by omega
      go_wp2_with fail
      go_loopw [40] (fun q wr => ∃ k : Nat, k ≤ a.length + i ∧ q = .int .i64 k ∧ TabX wr B (.slice dC nC mC) T (.slice (some ⟨gR, 0, none⟩) N mR) (flTo M a X i k) [floRow B [.int .i64 a.length, .slice dC nC mC], ⟨3, 1, .slice (some ⟨bA, oA, none⟩) N mA, N, (a ++ X).map (Value.int .i64)⟩] ∧ Below B w1 wr) (fun q _ => a.length + i - (intOf q).toNat)
      case atStart => exact ⟨0, by omega, rfl, tab5, b5⟩
      case round =>
        clear tab5 b5
        obtain ⟨k, hk, rfl, tab, hb⟩ := hrel
        obtain ⟨wq, rfl⟩ : ∃ y : World, y = wr := ⟨_, rfl⟩
        have eq : Ext w1 wq := hEx.out _ hb
        have e0q : Ext w0 wq := Ext.trans ‹Ext w0 w› (Ext.trans e1 eq)
        by_cases hlk : k < a.length + i
        · have hkN : k < N := by omega
          have hrd : IsInts wq (.slice (some ⟨bA, oA, none⟩) N mA) (a ++ X) := (tab.tab.rest.tail).readsN hNl.out (by omega) hi64.out
          obtain ⟨bA', oA', hdA, hcA⟩ := hrd.at (w' := wq) (k := k) (by rw [hNl.out]; exact hkN)
          cases hdA
          obtain ⟨hp0, hp1⟩ := hpt.out k hkN
          obtain ⟨p, hp⟩ := Int.eq_ofNat_of_zero_le hp0
          rw [hp] at hcA hp1
          have hst2 := hid (show flTo M a X i (k + 1) = (flTo M a X i k).set k (cell M p r) by rw [hst.out k hlk, hp, Int.toNat_natCast])
          obtain ⟨bm, om, d4, m4, hdm, hcm, him, hlm⟩ := hR.at (w' := wq) (k := p) (by omega)
          cases hdm
          rw [hmr.out p (by omega)] at hcm him
          obtain ⟨bp, op, hdp, hcp⟩ := him.at (w' := wq) (k := r) (by rw [hmr.out p (by omega)]; omega)
          cases hdp
          have xq := eq.cell x0
          have hpM : p < M.length := by omega
          have hrM : r < M.length := by omega
          obtain ⟨s1, s2, s3, s4⟩ := tab.setAt (j := k) (by rw [hlen.out]; exact hkN) (cell M p r)
          rw [← hst2.out] at s4
          have hcp' : wq.cell? ⟨bp, op + r, none⟩ = some (.int .i64 (cell M p r)) := hcp
          have bS := hb.setCell (p := ⟨gR, k, none⟩) s3 (.int .i64 (cell M p r))
          generalize cell M p r = y at *
          replace hp := hid hp
          clear hcp him hlm hrd tab hp0
          go_wp2_with fail
          go_roundw
          case rel => exact ⟨k + 1, by omega, by go_num, s4, bS⟩
          case measure => simp [intOf]; omega
        · have hkk : k = a.length + i := by omega
          have tab8 : TabX wq B (.slice dC nC mC) T (.slice (some ⟨gR, 0, none⟩) N mR) (flRow M a X i) [floRow B [.int .i64 a.length, .slice dC nC mC], ⟨3, 1, .slice (some ⟨bA, oA, none⟩) N mA, N, (a ++ X).map (Value.int .i64)⟩] := by
            rw [← hen.out, ← hkk]; exact tab
          have y2 : wq.cell? ⟨B, 1, none⟩ = some (.slice dC nC mC) := (tab8.tab.boxAt (j := 1) (by omega)).1
          have hBq := hBs.out _ hb
          replace hkk := hid hkk
          clear tab
          go_wp2_with (at_builtin; refine wpList_push rfl (.tmp 61) (.tmp 63) rfl rfl tab8 hBq rfl (by omega) ?_; intro v9 w9 tab9 b9; obtain ⟨d9, n9, m9, hv9, hn9⟩ := tab9.formN; subst hv9; (have y9 := tab9.boxAt (j := 1) (by omega)); (have y9a : w9.cell? ⟨B, 1, none⟩ = some (.slice dC nC mC) := y9.1); have y9b := y9.2)
          have tabF := tab9.setBox 1 (.slice d9 n9 m9)
          go_roundw
          case rel => exact ⟨i + 1, by omega, by go_num, ⟨.slice d9 n9 m9, by rw [hTs.out]; exact tabF.1⟩, (hb.trans b9).setCell tabF.2 _⟩
          case measure => simp [intOf]; omega
    · have hil : i = X.length := by omega
      have htk : (flL M a X).take i = flL M a X := by rw [hil, ← hflen.out, List.take_length]
      rw [htk] at tab
      replace htk := hid htk
      replace hil := hid hil
      have eW : Ext w wo := Ext.trans e1 eo
      clear hnC
      have tabE : Tab wo B (.slice dC nC mC) (flL M a X) [floRow B [.int .i64 a.length, .slice dC nC mC]] := by
        obtain ⟨vs, h1, h2⟩ := tab
        exact ⟨vs, h1, h2.sub (List.Sublist.append_left (List.Sublist.cons_cons _ (List.nil_sublist _)) _)⟩
      clear tab
      go_wp2_with fail
      go_ret
      exact ⟨B, _, B, rfl, tabE, hwB, eW⟩
end Go.Proofs.YtllfchcocgdcjaaGreat
