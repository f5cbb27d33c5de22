/- Several texts in one: MtA MtB MtC MtD MtE. -/
import Derived.Test.YtllfchcocgdcjaaGreatGrK
import Derived.Test.YtllfchcocgdcjaaGreatGrG
import Derived.Test.YtllfchcocgdcjaaGreatSrs
/- Tables of distances that draws make: what they return reads as rows of numbers. -/
namespace Go.Proofs.YtllfchcocgdcjaaGreat
open Go.RowKit


/-- rows that are not too few for a table, numbers of a machine -/
def MOk (M : List (List Int)) : Prop := M.length ≤ 7 ∧ ∀ r ∈ M, M.length ≤ r.length ∧ r.length ≤ 8 ∧ ∀ x ∈ r, I64 x
/-- n rows of n numbers each -/
def SqOk (M : List (List Int)) (n : Nat) : Prop := M.length = n ∧ ∀ r ∈ M, r.length = n ∧ ∀ x ∈ r, I64 x
theorem SqOk.ok {M : List (List Int)} {n : Nat} (h : SqOk M n) (hn : n ≤ 7) : MOk M := ⟨by rw [h.1]; exact hn, fun r hr => by
  obtain ⟨h1, h2⟩ := h.2 r hr
  rw [h.1]
  exact ⟨by omega, by omega, h2⟩⟩
theorem MOk.nil : MOk [] := ⟨by simp, by simp⟩
theorem set_i64 {r : List Int} {q : Nat} {x : Int} (h : ∀ y ∈ r, I64 y) (hx : I64 x) : ∀ y ∈ r.set q x, I64 y := by
  intro y hy
  rcases List.mem_or_eq_of_mem_set hy with h1 | h1
  · exact h y h1
  · rw [h1]; exact hx
theorem SqOk.set {M : List (List Int)} {n j : Nat} (h : SqOk M n) (hj : j < n) (q : Nat) {x : Int} (hx : I64 x) : SqOk (M.set j ((row M j).set q x)) n := by
  refine ⟨by rw [List.length_set]; exact h.1, fun r hr => ?_⟩
  rcases List.mem_or_eq_of_mem_set hr with h1 | h1
  · exact h.2 r h1
  · obtain ⟨h2, h3⟩ := h.2 _ (row_mem (xss := M) (k := j) (by rw [h.1]; exact hj))
    rw [h1]
    exact ⟨by rw [List.length_set]; exact h2, set_i64 h3 hx⟩
theorem MOk.set {M : List (List Int)} {j : Nat} (h : MOk M) (hj : j < M.length) (q : Nat) {x : Int} (hx : I64 x) : MOk (M.set j ((row M j).set q x)) := by
  refine ⟨by rw [List.length_set]; exact h.1, fun r hr => ?_⟩
  rw [List.length_set]
  rcases List.mem_or_eq_of_mem_set hr with h1 | h1
  · exact h.2 r h1
  · obtain ⟨h2, h3, h4⟩ := h.2 _ (row_mem (xss := M) (k := j) hj)
    rw [h1, List.length_set]
    exact ⟨h2, h3, set_i64 h4 hx⟩
theorem SqOk.grow {M : List (List Int)} {n j : Nat} (h : SqOk M n) (hn : n ≤ 7) (hj : j < n) {x : Int} (hx : I64 x) : MOk (M.set j (row M j ++ [x])) := by
  refine ⟨by rw [List.length_set, h.1]; exact hn, fun r hr => ?_⟩
  rw [List.length_set, h.1]
  rcases List.mem_or_eq_of_mem_set hr with h1 | h1
  · obtain ⟨h2, h3⟩ := h.2 r h1
    exact ⟨by omega, by omega, h3⟩
  · obtain ⟨h2, h3⟩ := h.2 _ (row_mem (xss := M) (k := j) (by rw [h.1]; exact hj))
    rw [h1, List.length_append, h2]
    refine ⟨by simp, by simp; omega, fun y hy => ?_⟩
    rcases List.mem_append.1 hy with h4 | h4
    · exact h3 y h4
    · rw [List.mem_singleton.1 h4]; exact hx
theorem SqOk.uni {n : Nat} {d : Int} (hd : I64 d) : SqOk (uniTab (fun x y => if x = y then 0 else d) n n) n := by
  refine ⟨uniTab_length _ _ _, fun r hr => ?_⟩
  obtain ⟨x, hx, rfl⟩ := uniTab_row hr
  refine ⟨uniRow_length _ _ _, fun y hy => ?_⟩
  obtain ⟨z, _, rfl⟩ := List.mem_map.1 hy
  by_cases e : x = z
  · simp [e, I64]
  · simpa [e] using hd
theorem SqOk.rowlen {M : List (List Int)} {n j : Nat} (h : SqOk M n) (hj : j < n) : (row M j).length = n := (h.2 _ (row_mem (by rw [h.1]; exact hj))).1

set_option maxHeartbeats 1600000 in
set_option maxRecDepth 100000 in
theorem table7_any {w0 w : World} [Ext w0 w] {vc : Value} {nb : Nat} (hc : IsBytes w0 vc nb) {B c : Nat} {a : Int} {R : List Row} (own : CurAt w B c vc a R) (hwB : w0.heap.size ≤ B) (ha : 0 ≤ a) (ha2 : a ≤ 3000000) :
    Calls Tryz.prog 88 #[.pointer (some ⟨c, 0, none⟩)] w fun e w' => ∃ d0 m0 vs M a', e = .returned (.slice d0 (M : List (List Int)).length m0) ∧ vs.length = M.length ∧ MOk M ∧ a ≤ a' ∧ a' ≤ a + 2 ∧ CurAt w' B c vc a' (rowsOf 27 3 (.slice d0 M.length m0) vs M ++ R) ∧ Below B w w' := by
  go_enter Tryz.func88, Tryz.ntmps88
  go_wp2_with fail
  refine (one_any (w0 := w0) hc own hwB ha (by omega)).mono ?_
  rintro e w1 ⟨q, a1, rfl, h1, h2, own1, b1⟩
  have hB1 := own1.size
  cases q with
  | true =>
    go_wp2_with fail
    go_ret
    refine ⟨some ⟨w1.heap.size, 0, none⟩, 0, [], [], a1, rfl, rfl, MOk.nil, h1, h2, ?_, b1.alloc hB1 _⟩
    obtain ⟨s, h⟩ := own1
    exact ⟨s, (h.lit 27 1 0 #[] hB1 (by unfold maxLen; omega) rfl).perm (List.Perm.swap _ _ _)⟩
  | false =>
    have hfld := fieldDist
    go_wp2_with fail
    refine (l6Uniform_any (n := 7) (d := 2) (by omega) w1).mono ?_
    rintro e w2 ⟨d0, m0, vs, rfl, hvs, hown, e2⟩
    have hM : SqOk (uniTab (fun x y => if x = y then 0 else (2 : Int)) 7 7) 7 := SqOk.uni (by unfold I64; omega)
    generalize uniTab (fun x y => if x = y then 0 else (2 : Int)) 7 7 = M at *
    have own2 := own1.join hown hB1
    have b2 : Below B w w2 := b1.trans (e2.below.mono hB1)
    replace hM := hid hM
    go_wp2_with fail
    go_ret
    refine ⟨d0, m0, vs, M, a1, by rw [hM.out.1]; rfl, by rw [hM.out.1]; exact hvs, hM.out.ok (by omega), h1, h2, ?_, b2⟩
    rw [hM.out.1]
    exact own2

set_option maxHeartbeats 6400000 in
set_option maxRecDepth 100000 in
theorem table6_any {w0 w : World} [Ext w0 w] {vc : Value} {nb : Nat} (hc : IsBytes w0 vc nb) {B c : Nat} {a : Int} {R : List Row} (own : CurAt w B c vc a R) (hwB : w0.heap.size ≤ B) (ha : 0 ≤ a) (ha2 : a ≤ 2000000) :
    Calls Tryz.prog 63 #[.pointer (some ⟨c, 0, none⟩), .bool false] w fun e w' => ∃ d0 m0 vs M a', e = .returned (.agg #[.slice d0 (M : List (List Int)).length m0]) ∧ vs.length = M.length ∧ MOk M ∧ a ≤ a' ∧ a' ≤ a + 200 ∧ CurAt w' B c vc a' (rowsOf 27 3 (.slice d0 M.length m0) vs M ++ R) ∧ Below B w w' := by
  have hBw := own.size
  have hE : ∀ u, Below B w u → Ext w0 u := fun u h => ⟨(‹Ext w0 w›).below.trans (h.mono hwB)⟩
  replace hE := hid hE
  go_enter Tryz.func63, Tryz.ntmps63
  go_upto_region 1 with fail
  have own1 := own.box 26 1 #[.slice none 0 0] hBw rfl
  have b1 : Below B w (w.alloc (.cells #[.slice none 0 0] 26)) := (Below.refl B w).alloc hBw _
  obtain ⟨r, hr⟩ : ∃ r, r = w.heap.size := ⟨_, rfl⟩
  rw [← hr] at own1 ⊢
  replace hr := hid hr
  generalize w.alloc (.cells #[.slice none 0 0] 26) = w1 at *
  have e1 : Ext w0 w1 := hE.out _ b1
  go_wp2_with fail
  refine (among_any (w0 := w0) hc (own1.lit [1, 2, 3, 3, 4, 4, 5, 6] own1.size rfl rfl (by decide)) hwB (by omega) (by omega) (by decide) (by decide)).mono ?_
  rintro e w2 ⟨n, a2, rfl, hn, h21, h22, own2, b2⟩
  have hn6 : 1 ≤ n ∧ n ≤ 6 := by simp at hn; omega
  have own2' := own2.drop
  have b2' : Below B w w2 := b1.trans (((Below.refl B w1).alloc own1.size _).trans b2)
  obtain ⟨n, rfl⟩ := Int.eq_ofNat_of_zero_le (show 0 ≤ n by omega)
  clear own2 own1 b2 b1 e1 hn
  go_wp2_with fail
  refine (l6Uniform_any (n := n) (d := 1) (by omega) w2).mono ?_
  rintro e w3 ⟨d0, m0, vs, rfl, hvs, hown, e3⟩
  have hM0 : SqOk (uniTab (fun x y => if x = y then 0 else (1 : Int)) n n) n := SqOk.uni (by unfold I64; omega)
  generalize uniTab (fun x y => if x = y then 0 else (1 : Int)) n n = M0 at *
  have own3 := own2'.join hown own2'.size
  have b3 : Below B w w3 := b2'.trans (e3.below.mono own2'.size)
  have own4 := own3.box 26 1 #[.slice d0 n m0] own3.size rfl
  have b4 : Below B w (w3.alloc (.cells #[.slice d0 n m0] 26)) := b3.alloc own3.size _
  obtain ⟨b, hb⟩ : ∃ r, r = w3.heap.size := ⟨_, rfl⟩
  go_upto_region 3 with fail
  generalize w3.alloc (.cells #[.slice d0 n m0] 26) = w4 at *
  rw [← hb] at own4 ⊢
  replace hb := hid hb
  clear own2' own3 b2' b3 e3 hown
  have hdd : ∃ g, d0 = some ⟨g, 0, none⟩ := by
    obtain ⟨R', h⟩ := CurAt.tab (A := [boxRow 26 1 b [.slice d0 n m0]]) own4
    exact rw_addr h hvs (by omega)
  obtain ⟨g, rfl⟩ := hdd
  replace hvs := hid hvs
  replace hM0 := hid hM0
  go_wp2
  go_loopw [7] (fun i wr => ∃ x : Nat, x ≤ n ∧ i = .int .i64 x ∧ ∃ M ax, Hid (SqOk M n) ∧ a2 ≤ ax ∧ ax ≤ a2 + 24 * x ∧ Below B w wr ∧ CurAt wr B c vc ax (boxRow 26 1 b [.slice (some ⟨g, 0, none⟩) n m0] :: (rowsOf 27 3 (.slice (some ⟨g, 0, none⟩) n m0) vs M ++ (boxRow 26 1 r [.slice none 0 0] :: R)))) (fun i _ => n - (intOf i).toNat)
  case atStart => exact ⟨0, by omega, rfl, M0, a2, hM0, by omega, by omega, b4, own4⟩
  case round =>
    obtain ⟨x, hx, rfl, M, ax, hM, hax1, hax2, b5, own5⟩ := hrel
    obtain ⟨w5, rfl⟩ : ∃ y : World, y = wr := ⟨_, rfl⟩
    by_cases hlt : x < n
    · go_wp2
      go_loopw [8] (fun j wr => ∃ y : Nat, y ≤ x ∧ j = .int .i64 y ∧ ∃ M ay, Hid (SqOk M n) ∧ ax ≤ ay ∧ ay ≤ ax + 4 * y ∧ Below B w wr ∧ CurAt wr B c vc ay (boxRow 26 1 b [.slice (some ⟨g, 0, none⟩) n m0] :: (rowsOf 27 3 (.slice (some ⟨g, 0, none⟩) n m0) vs M ++ (boxRow 26 1 r [.slice none 0 0] :: R)))) (fun j _ => x - (intOf j).toNat)
      case atStart => exact ⟨0, by omega, rfl, M, ax, hM, by omega, by omega, b5, own5⟩
      case round =>
        obtain ⟨y, hy, rfl, M, ay, hM, hay1, hay2, b6, own6⟩ := hrel
        obtain ⟨w6, rfl⟩ : ∃ y : World, y = wr := ⟨_, rfl⟩
        by_cases hlty : y < x
        · have e6 : Ext w0 w6 := hE.out _ b6
          clear own5 b5 own4 b4 own
          go_wp2_with fail
          refine (among_any (w0 := w0) hc (own6.lit [1, 2, 3, 4, 5, 7, 9, 12] own6.size rfl rfl (by decide)) hwB (by omega) (by omega) (by decide) (by decide)).mono ?_
          rintro e w7 ⟨d, a7, rfl, hd, h71, h72, own7', b7⟩
          have hd12 : I64 d := by simp at hd; unfold I64; omega
          have own7 := own7'.drop
          have b7' : Below B w w7 := b6.trans (((Below.refl B w6).alloc own6.size _).trans b7)
          clear own7' own6 b6 b7 e6 hd
          have hMl := hid hM.out.1
          have hvM : vs.length = M.length := by rw [hvs.out, hMl.out]
          obtain ⟨R', htab⟩ := CurAt.tab (A := [boxRow 26 1 b [.slice (some ⟨g, 0, none⟩) n m0]]) own7
          have hrl := hM.out.rowlen hlt
          obtain ⟨gr, mr, hu, hBg⟩ := rw_form htab hvM (j := x) (by rw [hMl.out]; exact hlt) (by rw [hrl]; omega)
          rw [hrl] at hu
          have tb : w7.cell? ⟨b, 0, none⟩ = some (.slice (some ⟨g, 0, none⟩) n m0) := (own7.at (.head _) (j := 0) (by omega)).1
          have tg := (rw_cell htab hvs.out hu).1
          have tq := (rw_at htab (by rw [hMl.out]; exact hlt) hu hrl (show y < n by omega))
          have hput := CurAt.put (A := [boxRow 26 1 b [.slice (some ⟨g, 0, none⟩) n m0]]) own7 hvM (by rw [hMl.out]; exact hlt) hu hrl y d
          have hM2 := hid (hM.out.set hlt y hd12)
          have b8 := b7'.setCell hput.2 (p := ⟨gr, y, none⟩) (.int .i64 d)
          have own8 : CurAt (w7.setCell ⟨gr, y, none⟩ (.int .i64 d)) B c vc a7 (boxRow 26 1 b [.slice (some ⟨g, 0, none⟩) n m0] :: (rowsOf 27 3 (.slice (some ⟨g, 0, none⟩) n m0) vs (M.set x ((row M x).set y d)) ++ (boxRow 26 1 r [.slice none 0 0] :: R))) := hput.1
          obtain ⟨tq, tqf⟩ := tq
          clear hput htab b7'
          replace hu := hid hu
          replace hvM := hid hvM
          replace hrl := hid hrl
          go_upto_region 13 with fail
          clear tb tg tq tqf own7
          generalize w7.setCell ⟨gr, y, none⟩ (.int .i64 d) = w8 at *
          generalize M.set x ((row M x).set y d) = M2 at *
          have hMl2 := hid hM2.out.1
          have hvM2 : vs.length = M2.length := by rw [hvs.out, hMl2.out]
          obtain ⟨R', htab⟩ := CurAt.tab (A := [boxRow 26 1 b [.slice (some ⟨g, 0, none⟩) n m0]]) own8
          have hrl2 := hM2.out.rowlen (show y < n by omega)
          obtain ⟨gs, ms, hus, hBs⟩ := rw_form htab hvM2 (j := y) (by rw [hMl2.out]; omega) (by rw [hrl2]; omega)
          rw [hrl2] at hus
          have tb : w8.cell? ⟨b, 0, none⟩ = some (.slice (some ⟨g, 0, none⟩) n m0) := (own8.at (.head _) (j := 0) (by omega)).1
          have tg := (rw_cell htab hvs.out hus).1
          have tq := (rw_at htab (by rw [hMl2.out]; omega) hus hrl2 hlt)
          have hput := CurAt.put (A := [boxRow 26 1 b [.slice (some ⟨g, 0, none⟩) n m0]]) own8 hvM2 (by rw [hMl2.out]; omega) hus hrl2 x d
          have hM3 := hid (hM2.out.set (show y < n by omega) x hd12)
          have b9 := b8.setCell hput.2 (p := ⟨gs, x, none⟩) (.int .i64 d)
          have own9 : CurAt (w8.setCell ⟨gs, x, none⟩ (.int .i64 d)) B c vc a7 (boxRow 26 1 b [.slice (some ⟨g, 0, none⟩) n m0] :: (rowsOf 27 3 (.slice (some ⟨g, 0, none⟩) n m0) vs (M2.set y ((row M2 y).set x d)) ++ (boxRow 26 1 r [.slice none 0 0] :: R))) := hput.1
          obtain ⟨tq, tqf⟩ := tq
          clear hput htab
          replace hus := hid hus
          replace hvM2 := hid hvM2
          replace hrl2 := hid hrl2
          go_wp2_with fail
          go_roundw
          case rel => exact ⟨y + 1, by omega, by go_num, _, a7, hM3, by omega, by omega, b9, own9⟩
          case measure => simp [intOf]; omega
        · have hyx : y = x := by omega
          replace hyx := hid hyx
          go_wp2_with fail
          go_roundw
          case rel => exact ⟨x + 1, by omega, by go_num, M, ay, hM, by omega, by have := hyx.out; omega, b6, own6⟩
          case measure => simp [intOf]; omega
    · have hxn : x = n := by omega
      have hax3 : ax ≤ a2 + 144 := by omega
      replace hxn := hid hxn
      clear hax2 own4 b4 own
      have e5 : Ext w0 w5 := hE.out _ b5
      go_wp2_with fail
      refine (pick_any (w0 := w0) hc own5 hwB (by omega) (by omega)).mono ?_
      rintro e w6 ⟨x, a6, rfl, hx0, hx1, hx2, h61, h62, own6, b6⟩
      have b6' := b5.trans b6
      have e6 : Ext w0 w6 := hE.out _ b6'
      clear own5 b5 b6 e5
      go_wp2_with fail
      refine (pick_any (w0 := w0) hc own6 hwB (by omega) (by omega)).mono ?_
      rintro e w7 ⟨y, a7, rfl, hy0, hy1, hy2, h71, h72, own7, b7⟩
      have b7' := b6'.trans b7
      have e7 : Ext w0 w7 := hE.out _ b7'
      clear own6 b6' b7 e6
      have hxn2 := hx2 (by omega)
      have hyn2 := hy2 (by omega)
      clear hx2 hy2 hx1 hy1
      obtain ⟨x, rfl⟩ := Int.eq_ofNat_of_zero_le hx0
      obtain ⟨y, rfl⟩ := Int.eq_ofNat_of_zero_le hy0
      go_wp2_with fail
      refine (pick_any (w0 := w0) hc own7 hwB (by omega) (by omega)).mono ?_
      rintro e w8 ⟨z, a8, rfl, hz0, hz1, hz2, h81, h82, own8, b8⟩
      have b8' := b7'.trans b8
      have e8 : Ext w0 w8 := hE.out _ b8'
      clear own7 b7' b8 e7 hz1 hz2
      have hMl := hid hM.out.1
      have hvM := hid (show vs.length = M.length by rw [hvs.out, hMl.out])
      obtain ⟨gx, mx, hux⟩ : ∃ gk mk, vs[x]? = some (.slice (some ⟨gk, 0, none⟩) n mk) := by
        obtain ⟨R', hT⟩ := CurAt.tab (A := [_]) own8
        have hrl := hM.out.rowlen (j := x) (by omega)
        obtain ⟨gk, mk, hu, _⟩ := rw_form hT hvM.out (j := x) (by rw [hMl.out]; omega) (by rw [hrl]; omega)
        rw [hrl] at hu
        exact ⟨gk, mk, hu⟩
      obtain ⟨gy, my, huy⟩ : ∃ gk mk, vs[y]? = some (.slice (some ⟨gk, 0, none⟩) n mk) := by
        obtain ⟨R', hT⟩ := CurAt.tab (A := [_]) own8
        have hrl := hM.out.rowlen (j := y) (by omega)
        obtain ⟨gk, mk, hu, _⟩ := rw_form hT hvM.out (j := y) (by rw [hMl.out]; omega) (by rw [hrl]; omega)
        rw [hrl] at hu
        exact ⟨gk, mk, hu⟩
      have hfacts := hid (show ∀ u av M', M'.length = n → CurAt u B c vc av (boxRow 26 1 b [.slice (some ⟨g, 0, none⟩) n m0] :: (rowsOf 27 3 (.slice (some ⟨g, 0, none⟩) n m0) vs M' ++ (boxRow 26 1 r [.slice none 0 0] :: R))) →
        u.cell? ⟨b, 0, none⟩ = some (.slice (some ⟨g, 0, none⟩) n m0) ∧ u.cell? ⟨g, x, none⟩ = some (.slice (some ⟨gx, 0, none⟩) n mx) ∧ u.cell? ⟨g, y, none⟩ = some (.slice (some ⟨gy, 0, none⟩) n my) from fun u av M' hM' h => by
        have h1 : u.cell? ⟨b, 0, none⟩ = some (.slice (some ⟨g, 0, none⟩) n m0) := (h.at (.head _) (j := 0) (by omega)).1
        obtain ⟨R', hT⟩ := CurAt.tab (A := [_]) h
        exact ⟨h1, (rw_cell hT hvs.out hux).1, (rw_cell hT hvs.out huy).1⟩)
      replace hux := hid hux
      replace huy := hid huy
      have hrx := hid (hM.out.rowlen (j := x) (by omega))
      have hry := hid (hM.out.rowlen (j := y) (by omega))
      have hxM : x < M.length := by rw [hMl.out]; omega
      have hyM : y < M.length := by rw [hMl.out]; omega
      by_cases hq0 : z = 0
      · go_upto_region 17 with fail
        have own9 := own8.ext (w' := w8.drew)
        have b9 : Below B w w8.drew := b8'.drew
        have hf9 := hfacts.out _ _ M hMl.out own9
        clear own8 b8' e8
        refine wp_region_held_drew (S := fun w' => w'.cell? ⟨b, 0, none⟩ = some (.slice (some ⟨g, 0, none⟩) n m0) ∧ w'.cell? ⟨g, x, none⟩ = some (.slice (some ⟨gx, 0, none⟩) n mx) ∧ w'.cell? ⟨g, y, none⟩ = some (.slice (some ⟨gy, 0, none⟩) n my)) (by kernel_rfl) hf9 (fun hHeld0 => ?_)
        generalize w8.drew = w9 at *
        clear hf9
        refine wpAnyH_take (i := 0) (v := .pointer (some ⟨b, 0, none⟩)) rfl (by kernel_rfl) (by kernel_rfl) (by kernel_rfl) (fun _ _ _ h => h) (Or.inl ⟨by rfl, by intro wx hx; go_simp⟩) (by assumption) ?_
        try simp only [List.getElem_toArray, List.getElem_cons_zero, Act.put, List.setIfInBounds_toArray, List.set_cons_zero, List.set_cons_succ]
        refine wpAnyH_take (i := 1) (v := .slice (some ⟨g, 0, none⟩) n m0) rfl (by kernel_rfl) (by kernel_rfl) (by kernel_rfl) (fun _ _ _ h => h) (Or.inl ⟨by rfl, by intro wx hx; obtain ⟨_, _, _⟩ := hx; go_simp⟩) (by assumption) ?_
        try simp only [List.getElem_toArray, List.getElem_cons_succ, List.getElem_cons_zero, Act.put, List.setIfInBounds_toArray, List.set_cons_zero, List.set_cons_succ]
        refine wpAnyH_take (i := 2) (v := .int .i64 x) rfl (by kernel_rfl) (by kernel_rfl) (by kernel_rfl) (fun _ _ _ h => h) (Or.inl ⟨by rfl, by intro wx hx; go_simp⟩) (by assumption) ?_
        try simp only [List.getElem_toArray, List.getElem_cons_succ, List.getElem_cons_zero, Act.put, List.setIfInBounds_toArray, List.set_cons_zero, List.set_cons_succ]
        refine wpAnyH_take (i := 3) (v := .pointer (some ⟨g, x, none⟩)) rfl (by kernel_rfl) (by kernel_rfl) (by kernel_rfl) (fun _ _ _ h => h) (Or.inl ⟨by rfl, by intro wx hx; go_simp⟩) (by assumption) ?_
        try simp only [List.getElem_toArray, List.getElem_cons_succ, List.getElem_cons_zero, Act.put, List.setIfInBounds_toArray, List.set_cons_zero, List.set_cons_succ]
        refine wpAnyH_take (i := 4) (v := .slice (some ⟨gx, 0, none⟩) n mx) rfl (by kernel_rfl) (by kernel_rfl) (by kernel_rfl) (fun _ _ _ h => h) (Or.inl ⟨by rfl, by intro wx hx; obtain ⟨_, _, _⟩ := hx; go_simp⟩) (by assumption) ?_
        try simp only [List.getElem_toArray, List.getElem_cons_succ, List.getElem_cons_zero, Act.put, List.setIfInBounds_toArray, List.set_cons_zero, List.set_cons_succ]
        refine wpAnyH_take (i := 5) (v := .int .i64 y) rfl (by kernel_rfl) (by kernel_rfl) (by kernel_rfl) (fun _ _ _ h => h) (Or.inl ⟨by rfl, by intro wx hx; go_simp⟩) (by assumption) ?_
        try simp only [List.getElem_toArray, List.getElem_cons_succ, List.getElem_cons_zero, Act.put, List.setIfInBounds_toArray, List.set_cons_zero, List.set_cons_succ]
        refine wpAnyH_take (i := 6) (v := .pointer (some ⟨c, 0, none⟩)) rfl (by kernel_rfl) (by kernel_rfl) (by kernel_rfl) (fun _ _ _ h => h) (Or.inl ⟨by rfl, by intro wx hx; go_simp⟩) (by assumption) ?_
        try simp only [List.getElem_toArray, List.getElem_cons_succ, List.getElem_cons_zero, Act.put, List.setIfInBounds_toArray, List.set_cons_zero, List.set_cons_succ]
        have own10 := own9.lit (e := 3) (n := 5) (cs := #[.int .i64 (-1), .int .i64 0, .int .i64 99, .int .i64 100, .int .i64 4611686018427387904]) [-1, 0, 99, 100, 4611686018427387904] own9.size rfl rfl (by decide)
        have b10 : Below B w (w9.alloc (.cells #[.int .i64 (-1), .int .i64 0, .int .i64 99, .int .i64 100, .int .i64 4611686018427387904] 3)) := b9.alloc own9.size _
        have hf10 := hfacts.out _ _ M hMl.out own10.drop
        refine wpAnyH_ready (rs := [7]) (by kernel_rfl) (by simp) ?_
        refine AllReadyH.cons rfl (fun K hK => ?_) AllReadyH.nil
        go_simp
        refine hK.out _ _ hf10 (fun _ => ?_)
        clear hK K
        try simp only [List.getElem_toArray, List.getElem_cons_succ, List.getElem_cons_zero, Act.put, List.setIfInBounds_toArray, List.set_cons_zero, List.set_cons_succ]
        have e10 : Ext w0 (w9.alloc (.cells #[.int .i64 (-1), .int .i64 0, .int .i64 99, .int .i64 100, .int .i64 4611686018427387904] 3)) := hE.out _ b10
        refine wpAnyH_ready (rs := [8]) (by kernel_rfl) (by simp) ?_
        refine AllReadyH.cons rfl (fun K hK => ?_) AllReadyH.nil
        go_simp
        go_at_call 16
        refine (among_any (w0 := w0) hc own10 hwB (by omega) (by omega) (by decide) (by decide)).mono ?_
        rintro e w11 ⟨x11, a11, rfl, hx11, h111, h112, own11, b11⟩
        have hx11' : I64 x11 := by simp at hx11; unfold I64; omega
        have own11' := own11.drop
        have b11' := b10.trans b11
        have hf11 := hfacts.out _ _ M hMl.out own11'
        have hput := CurAt.put (A := [_]) own11' hvM.out hxM hux.out hrx.out y x11
        have hf12 := hfacts.out _ _ _ (by rw [List.length_set]; exact hMl.out) hput.1
        have hM2 := hid (hM.out.set (show x < n by omega) y hx11')
        have hgc : w11.cell? ⟨gx, y, none⟩ = some (.int .i64 (nth (row M x) y)) ∧ w11.frozen? ⟨gx, y, none⟩ = false := by
          obtain ⟨R', hT⟩ := CurAt.tab (A := [_]) own11'
          exact rw_at hT hxM hux.out hrx.out (by omega)
        have hgc0 := hgc.1
        have hgc1 := hgc.2
        go_wp2_with fail
        refine hK.out _ _ hf11 (fun _ => ?_)
        clear hK K
        try simp only [List.getElem_toArray, List.getElem_cons_succ, List.getElem_cons_zero, Act.put, List.setIfInBounds_toArray, List.set_cons_zero, List.set_cons_succ]
        refine wpAnyH_take (i := 9) (v := .pointer (some ⟨gx, y, none⟩)) rfl (by kernel_rfl) (by kernel_rfl) (by kernel_rfl) (fun _ _ _ h => h) (Or.inl ⟨by rfl, by intro wx hx; go_simp⟩) (by assumption) ?_
        try simp only [List.getElem_toArray, List.getElem_cons_succ, List.getElem_cons_zero, Act.put, List.setIfInBounds_toArray, List.set_cons_zero, List.set_cons_succ]
        refine wpAnyH_ready (rs := [10]) (by kernel_rfl) (by simp) ?_
        refine AllReadyH.cons rfl (fun K hK => ?_) AllReadyH.nil
        go_simp
        refine hK.out _ _ hf12 (fun _ => ?_)
        clear hK K
        try simp only [List.getElem_toArray, List.getElem_cons_succ, List.getElem_cons_zero, Act.put, List.setIfInBounds_toArray, List.set_cons_zero, List.set_cons_succ]
        refine wpAnyH_done (by kernel_rfl) ?_ _
        have own13 := hput.1
        have b13 := b11'.setCell hput.2 (p := ⟨gx, y, none⟩) (.int .i64 x11)
        generalize M.set x ((row M x).set y x11) = M2 at *
        go_upto_region 25 with fail
        generalize w11.setCell ⟨gx, y, none⟩ (.int .i64 x11) = w13 at *
        clear own9 own10 own11 own11' b9 b10 b11 b11' hf10 hf11 hf12 hput hgc hgc0 hgc1 e10
        obtain ⟨s9, h9⟩ := own13
        have tb9 : w13.cell? ⟨b, 0, none⟩ = some (.slice (some ⟨g, 0, none⟩) n m0) := ow_cell h9 (.tail _ (.head _)) (j := 0) (by omega)
        have hm9 : boxRow 26 1 r [.slice none 0 0] ∈ curRow c vc a11 s9 :: (boxRow 26 1 b [.slice (some ⟨g, 0, none⟩) n m0] :: (rowsOf 27 3 (.slice (some ⟨g, 0, none⟩) n m0) vs M2 ++ (boxRow 26 1 r [.slice none 0 0] :: R))) := by simp
        have rb9 : w13.cell? ⟨r, 0, none⟩ = some (.slice none 0 0) := ow_cell h9 hm9 (j := 0) (by omega)
        have rf9 := ow_frozen h9 hm9 0
        have hs9 := CurAt.set (A := boxRow 26 1 b [.slice (some ⟨g, 0, none⟩) n m0] :: rowsOf 27 3 (.slice (some ⟨g, 0, none⟩) n m0) vs M2) (L := R) ⟨s9, h9⟩ 0 (.slice (some ⟨g, 0, none⟩) n m0)
        have hz9 : (w13.setCell ⟨r, 0, none⟩ (.slice (some ⟨g, 0, none⟩) n m0)).cell? ⟨r, 0, none⟩ = some (.slice (some ⟨g, 0, none⟩) n m0) := by go_simp
        have own9 : CurAt (w13.setCell ⟨r, 0, none⟩ (.slice (some ⟨g, 0, none⟩) n m0)) B c vc a11 (rowsOf 27 3 (.slice (some ⟨g, 0, none⟩) n m0) vs M2 ++ R) := (hs9.1.drop).sub (List.Sublist.append_left (List.sublist_cons_self _ _) _)
        have b9 := (b13).setCell hs9.2 (p := ⟨r, 0, none⟩) (.slice (some ⟨g, 0, none⟩) n m0)
        clear h9 hm9 hs9
        go_wp2
        refine bodyPost_ret (v := .agg #[.slice (some ⟨g, 0, none⟩) n m0]) (by simp [results, Tryz.results63, go_sem, hz9]) rfl ?_
        have hL9 := hM2.out.1
        exact ⟨_, _, _, M2, a11, by rw [hL9], (by rw [hvs.out, hM2.out.1]), (hM2.out.ok (by omega)), by omega, by omega, by rw [hL9]; exact own9, b9⟩
      · by_cases hq1 : z = 1
        · go_upto_region 19 with fail
          have own9 := own8.ext (w' := w8.drew)
          have b9 : Below B w w8.drew := b8'.drew
          have hf9 := hfacts.out _ _ M hMl.out own9
          clear own8 b8' e8
          refine wp_region_held_drew (S := fun w' => w'.cell? ⟨b, 0, none⟩ = some (.slice (some ⟨g, 0, none⟩) n m0) ∧ True) (by kernel_rfl) ⟨hf9.1, trivial⟩ (fun hHeld0 => ?_)
          generalize w8.drew = w9 at *
          refine wpAnyH_take (i := 0) (v := .pointer (some ⟨b, 0, none⟩)) rfl (by kernel_rfl) (by kernel_rfl) (by kernel_rfl) (fun _ _ _ h => h) (Or.inl ⟨by rfl, by intro wx hx; go_simp⟩) (by assumption) ?_
          try simp only [List.getElem_toArray, List.getElem_cons_zero, Act.put, List.setIfInBounds_toArray, List.set_cons_zero, List.set_cons_succ]
          refine wpAnyH_take (i := 1) (v := .slice (some ⟨g, 0, none⟩) n m0) rfl (by kernel_rfl) (by kernel_rfl) (by kernel_rfl) (fun _ _ _ h => h) (Or.inl ⟨by rfl, by intro wx hx; obtain ⟨_, _⟩ := hx; go_simp⟩) (by assumption) ?_
          try simp only [List.getElem_toArray, List.getElem_cons_succ, List.getElem_cons_zero, Act.put, List.setIfInBounds_toArray, List.set_cons_zero, List.set_cons_succ]
          refine wpAnyH_take (i := 2) (v := .int .i64 x) rfl (by kernel_rfl) (by kernel_rfl) (by kernel_rfl) (fun _ _ _ h => h) (Or.inl ⟨by rfl, by intro wx hx; go_simp⟩) (by assumption) ?_
          try simp only [List.getElem_toArray, List.getElem_cons_succ, List.getElem_cons_zero, Act.put, List.setIfInBounds_toArray, List.set_cons_zero, List.set_cons_succ]
          refine wpAnyH_take (i := 3) (v := .pointer (some ⟨b, 0, none⟩)) rfl (by kernel_rfl) (by kernel_rfl) (by kernel_rfl) (fun _ _ _ h => h) (Or.inl ⟨by rfl, by intro wx hx; go_simp⟩) (by assumption) ?_
          try simp only [List.getElem_toArray, List.getElem_cons_succ, List.getElem_cons_zero, Act.put, List.setIfInBounds_toArray, List.set_cons_zero, List.set_cons_succ]
          refine wpAnyH_take (i := 4) (v := .slice (some ⟨g, 0, none⟩) n m0) rfl (by kernel_rfl) (by kernel_rfl) (by kernel_rfl) (fun _ _ _ h => h) (Or.inl ⟨by rfl, by intro wx hx; obtain ⟨_, _⟩ := hx; go_simp⟩) (by assumption) ?_
          try simp only [List.getElem_toArray, List.getElem_cons_succ, List.getElem_cons_zero, Act.put, List.setIfInBounds_toArray, List.set_cons_zero, List.set_cons_succ]
          refine wpAnyH_take (i := 5) (v := .int .i64 x) rfl (by kernel_rfl) (by kernel_rfl) (by kernel_rfl) (fun _ _ _ h => h) (Or.inl ⟨by rfl, by intro wx hx; go_simp⟩) (by assumption) ?_
          try simp only [List.getElem_toArray, List.getElem_cons_succ, List.getElem_cons_zero, Act.put, List.setIfInBounds_toArray, List.set_cons_zero, List.set_cons_succ]
          refine wpAnyH_take (i := 6) (v := .pointer (some ⟨g, x, none⟩)) rfl (by kernel_rfl) (by kernel_rfl) (by kernel_rfl) (fun _ _ _ h => h) (Or.inl ⟨by rfl, by intro wx hx; go_simp⟩) (by assumption) ?_
          try simp only [List.getElem_toArray, List.getElem_cons_succ, List.getElem_cons_zero, Act.put, List.setIfInBounds_toArray, List.set_cons_zero, List.set_cons_succ]
          have hf90 := hf9.1
          have hf91 := hf9.2.1
          have hB9 := own9.size
          obtain ⟨s9, h9⟩ := own9
          have h10 := ow_front (A := [curRow c vc a8 s9, boxRow 26 1 b [.slice (some ⟨g, 0, none⟩) n m0]]) (T := rowsOf 27 3 (.slice (some ⟨g, 0, none⟩) n m0) vs M) h9
          have hrow := rw_row h10 hxM hux.out
          have hro : Own w9 B (⟨3, 1, .slice (some ⟨gx, 0, none⟩) n mx, n, (row M x).map (Value.int .i64)⟩ :: (rowsOf 27 3 (.slice (some ⟨g, 0, none⟩) n m0) vs M ++ ([curRow c vc a8 s9, boxRow 26 1 b [.slice (some ⟨g, 0, none⟩) n m0]] ++ (boxRow 26 1 r [.slice none 0 0] :: R))).eraseIdx (x + 1)) := by
            have e : (⟨3, 1, .slice (some ⟨gx, 0, none⟩) n mx, n, (row M x).map (Value.int .i64)⟩ : Row) = intRowOf 3 (.slice (some ⟨gx, 0, none⟩) n mx) (row M x) := by
              unfold intRowOf
              rw [hrx.out]
            rw [e]
            exact hrow
          have OWa := hro.ext (w' := w9.alloc (.cells #[.int .i64 1] 3))
          have ea : Ext w9 (w9.alloc (.cells #[.int .i64 1] 3)) := inferInstance
          have hBa : B ≤ (w9.alloc (.cells #[.int .i64 1] 3)).heap.size := Nat.le_trans hB9 ea.size
          have hba : Below B w (w9.alloc (.cells #[.int .i64 1] 3)) := b9.alloc hB9 _
          clear hrow h10 h9 hro
          have hfa0 := ea.cell hf9.1
          have hfa1 := ea.cell hf91
          refine wpAnyH_ready (rs := [7, 8]) (by kernel_rfl) (by simp) ?_
          refine AllReadyH.cons rfl (fun K hK => ?_) (AllReadyH.cons rfl (fun K hK => ?_) AllReadyH.nil)
          · go_simp
            refine hK.out _ _ ⟨hf90, trivial⟩ (fun _ => ?_)
            clear hK K
            try simp only [List.getElem_toArray, List.getElem_cons_succ, List.getElem_cons_zero, Act.put, List.setIfInBounds_toArray, List.set_cons_zero, List.set_cons_succ]
            refine wpAnyH_ready (rs := [8]) (by kernel_rfl) (by simp) ?_
            refine AllReadyH.cons rfl (fun K hK => ?_) AllReadyH.nil
            go_simp
            refine hK.out _ _ ⟨hfa0, trivial⟩ (fun _ => ?_)
            clear hK K
            try simp only [List.getElem_toArray, List.getElem_cons_succ, List.getElem_cons_zero, Act.put, List.setIfInBounds_toArray, List.set_cons_zero, List.set_cons_succ]
            refine wpAnyH_ready (rs := [9]) (by kernel_rfl) (by simp) ?_
            refine AllReadyH.cons rfl (fun K hK => ?_) AllReadyH.nil
            refine step_append1z rfl (.tmp 80) (.tmp 81) 27 rfl elemInt rfl OWa hBa (us := [.int .i64 1]) rfl rfl ?_ (by intro u hu; simp at hu; subst hu; rfl) (by omega) (by omega) ?_
            · intro jj u hj
              match jj, hj with
              | 0, hj => simp at hj; subst hj; go_simp
            intro v4 w4 ho4 hb4
            obtain ⟨vd, vm4, hv4⟩ := ho4.form
            have hv4' : v4 = .slice vd (n + 1) vm4 := hv4
            subst hv4'
            clear hv4
            have ho5 : Own w4 B (intRowOf 3 (.slice vd (n + 1) vm4) (row M x ++ [1]) :: (rowsOf 27 3 (.slice (some ⟨g, 0, none⟩) n m0) vs M ++ ([curRow c vc a8 s9, boxRow 26 1 b [.slice (some ⟨g, 0, none⟩) n m0]] ++ (boxRow 26 1 r [.slice none 0 0] :: R))).eraseIdx (x + 1)) := by
              have e : intRowOf 3 (.slice vd (n + 1) vm4) (row M x ++ [1]) = (⟨3, 1, .slice vd (n + 1) vm4, n + 1, (row M x).map (Value.int .i64) ++ [.int .i64 1]⟩ : Row) := by
                unfold intRowOf
                rw [List.length_append, hrx.out, List.map_append]
                rfl
              rw [e]
              exact ho4
            obtain ⟨gc1, gc2, go1, gm1, gB⟩ := rw_grow ho5 hvs.out hMl.out (show x < n by omega)
            have hkw : vs.getD x undef = .slice (some ⟨gx, 0, none⟩) n mx := by rw [List.getD_eq_getElem?_getD, hux.out]; rfl
            rw [hkw] at gc1
            have hbx := (gm1 (boxRow 26 1 b [.slice (some ⟨g, 0, none⟩) n m0]) (by simp)).cellAt 0 (by show 0 < 1 * 1; omega)
            have hbx1 : w4.cell? ⟨b, 0, none⟩ = some (.slice (some ⟨g, 0, none⟩) n m0) := hbx
            refine hK.out _ _ ⟨hbx1, trivial⟩ (fun _ => ?_)
            clear hK K
            try simp only [List.getElem_toArray, List.getElem_cons_succ, List.getElem_cons_zero, Act.put, List.setIfInBounds_toArray, List.set_cons_zero, List.set_cons_succ]
            refine wpAnyH_take (i := 10) (v := .pointer (some ⟨g, x, none⟩)) rfl (by kernel_rfl) (by kernel_rfl) (by kernel_rfl) (fun _ _ _ h => h) (Or.inl ⟨by rfl, by intro wx hx; go_simp⟩) (by assumption) ?_
            try simp only [List.getElem_toArray, List.getElem_cons_succ, List.getElem_cons_zero, Act.put, List.setIfInBounds_toArray, List.set_cons_zero, List.set_cons_succ]
            have own13 : CurAt (w4.setCell ⟨g, x, none⟩ (.slice vd (n + 1) vm4)) B c vc a8 (boxRow 26 1 b [.slice (some ⟨g, 0, none⟩) n m0] :: (rowsOf 27 3 (.slice (some ⟨g, 0, none⟩) n m0) (vs.set x (.slice vd (n + 1) vm4)) (M.set x (row M x ++ [1])) ++ (boxRow 26 1 r [.slice none 0 0] :: R))) :=
              ⟨s9, ow_front (A := rowsOf 27 3 (.slice (some ⟨g, 0, none⟩) n m0) (vs.set x (.slice vd (n + 1) vm4)) (M.set x (row M x ++ [1]))) (T := [curRow c vc a8 s9, boxRow 26 1 b [.slice (some ⟨g, 0, none⟩) n m0]]) go1⟩
            have hMl2 := hid (show (M.set x (row M x ++ [1])).length = n by rw [List.length_set]; exact hMl.out)
            have hv2 := hid (show (vs.set x (.slice vd (n + 1) vm4)).length = n by rw [List.length_set]; exact hvs.out)
            have hok2 := hid (hM.out.grow (x := 1) (by omega) (show x < n by omega) (by unfold I64; omega))
            have b13 := (hba.trans hb4).setCell gB (p := ⟨g, x, none⟩) (.slice vd (n + 1) vm4)
            generalize M.set x (row M x ++ [1]) = M2 at *
            generalize vs.set x (.slice vd (n + 1) vm4) = vs2 at *
            have hfin1 : (w4.setCell ⟨g, x, none⟩ (.slice vd (n + 1) vm4)).cell? ⟨b, 0, none⟩ = some (.slice (some ⟨g, 0, none⟩) n m0) := (own13.at (.head _) (j := 0) (by omega)).1
            refine wpAnyH_ready (rs := [11]) (by kernel_rfl) (by simp) ?_
            refine AllReadyH.cons rfl (fun K hK => ?_) AllReadyH.nil
            go_simp
            refine hK.out _ _ ⟨hfin1, trivial⟩ (fun _ => ?_)
            clear hK K
            try simp only [List.getElem_toArray, List.getElem_cons_succ, List.getElem_cons_zero, Act.put, List.setIfInBounds_toArray, List.set_cons_zero, List.set_cons_succ]
            refine wpAnyH_done (by kernel_rfl) ?_ _
            generalize w4.setCell ⟨g, x, none⟩ (.slice vd (n + 1) vm4) = w13 at *
            clear ho4 ho5 go1 gm1 gc1 gc2 hbx hbx1 hfin1 hba hBa OWa
            go_upto_region 25 with fail
            obtain ⟨s9, h9⟩ := own13
            have tb9 : w13.cell? ⟨b, 0, none⟩ = some (.slice (some ⟨g, 0, none⟩) n m0) := ow_cell h9 (.tail _ (.head _)) (j := 0) (by omega)
            have hm9 : boxRow 26 1 r [.slice none 0 0] ∈ curRow c vc a8 s9 :: (boxRow 26 1 b [.slice (some ⟨g, 0, none⟩) n m0] :: (rowsOf 27 3 (.slice (some ⟨g, 0, none⟩) n m0) vs2 M2 ++ (boxRow 26 1 r [.slice none 0 0] :: R))) := by simp
            have rb9 : w13.cell? ⟨r, 0, none⟩ = some (.slice none 0 0) := ow_cell h9 hm9 (j := 0) (by omega)
            have rf9 := ow_frozen h9 hm9 0
            have hs9 := CurAt.set (A := boxRow 26 1 b [.slice (some ⟨g, 0, none⟩) n m0] :: rowsOf 27 3 (.slice (some ⟨g, 0, none⟩) n m0) vs2 M2) (L := R) ⟨s9, h9⟩ 0 (.slice (some ⟨g, 0, none⟩) n m0)
            have hz9 : (w13.setCell ⟨r, 0, none⟩ (.slice (some ⟨g, 0, none⟩) n m0)).cell? ⟨r, 0, none⟩ = some (.slice (some ⟨g, 0, none⟩) n m0) := by go_simp
            have own9 : CurAt (w13.setCell ⟨r, 0, none⟩ (.slice (some ⟨g, 0, none⟩) n m0)) B c vc a8 (rowsOf 27 3 (.slice (some ⟨g, 0, none⟩) n m0) vs2 M2 ++ R) := (hs9.1.drop).sub (List.Sublist.append_left (List.sublist_cons_self _ _) _)
            have b9 := (b13).setCell hs9.2 (p := ⟨r, 0, none⟩) (.slice (some ⟨g, 0, none⟩) n m0)
            clear h9 hm9 hs9
            go_wp2
            refine bodyPost_ret (v := .agg #[.slice (some ⟨g, 0, none⟩) n m0]) (by simp [results, Tryz.results63, go_sem, hz9]) rfl ?_
            have hL9 := hMl2.out
            exact ⟨_, _, _, M2, a8, by rw [hL9], (by rw [hv2.out, hMl2.out]), hok2.out, by omega, by omega, by rw [hL9]; exact own9, b9⟩
          · go_simp
            refine hK.out _ _ ⟨hfa0, trivial⟩ (fun _ => ?_)
            clear hK K
            try simp only [List.getElem_toArray, List.getElem_cons_succ, List.getElem_cons_zero, Act.put, List.setIfInBounds_toArray, List.set_cons_zero, List.set_cons_succ]
            refine wpAnyH_ready (rs := [7]) (by kernel_rfl) (by simp) ?_
            refine AllReadyH.cons rfl (fun K hK => ?_) AllReadyH.nil
            go_simp
            refine hK.out _ _ ⟨hfa0, trivial⟩ (fun _ => ?_)
            clear hK K
            try simp only [List.getElem_toArray, List.getElem_cons_succ, List.getElem_cons_zero, Act.put, List.setIfInBounds_toArray, List.set_cons_zero, List.set_cons_succ]
            refine wpAnyH_ready (rs := [9]) (by kernel_rfl) (by simp) ?_
            refine AllReadyH.cons rfl (fun K hK => ?_) AllReadyH.nil
            refine step_append1z rfl (.tmp 80) (.tmp 81) 27 rfl elemInt rfl OWa hBa (us := [.int .i64 1]) rfl rfl ?_ (by intro u hu; simp at hu; subst hu; rfl) (by omega) (by omega) ?_
            · intro jj u hj
              match jj, hj with
              | 0, hj => simp at hj; subst hj; go_simp
            intro v4 w4 ho4 hb4
            obtain ⟨vd, vm4, hv4⟩ := ho4.form
            have hv4' : v4 = .slice vd (n + 1) vm4 := hv4
            subst hv4'
            clear hv4
            have ho5 : Own w4 B (intRowOf 3 (.slice vd (n + 1) vm4) (row M x ++ [1]) :: (rowsOf 27 3 (.slice (some ⟨g, 0, none⟩) n m0) vs M ++ ([curRow c vc a8 s9, boxRow 26 1 b [.slice (some ⟨g, 0, none⟩) n m0]] ++ (boxRow 26 1 r [.slice none 0 0] :: R))).eraseIdx (x + 1)) := by
              have e : intRowOf 3 (.slice vd (n + 1) vm4) (row M x ++ [1]) = (⟨3, 1, .slice vd (n + 1) vm4, n + 1, (row M x).map (Value.int .i64) ++ [.int .i64 1]⟩ : Row) := by
                unfold intRowOf
                rw [List.length_append, hrx.out, List.map_append]
                rfl
              rw [e]
              exact ho4
            obtain ⟨gc1, gc2, go1, gm1, gB⟩ := rw_grow ho5 hvs.out hMl.out (show x < n by omega)
            have hkw : vs.getD x undef = .slice (some ⟨gx, 0, none⟩) n mx := by rw [List.getD_eq_getElem?_getD, hux.out]; rfl
            rw [hkw] at gc1
            have hbx := (gm1 (boxRow 26 1 b [.slice (some ⟨g, 0, none⟩) n m0]) (by simp)).cellAt 0 (by show 0 < 1 * 1; omega)
            have hbx1 : w4.cell? ⟨b, 0, none⟩ = some (.slice (some ⟨g, 0, none⟩) n m0) := hbx
            refine hK.out _ _ ⟨hbx1, trivial⟩ (fun _ => ?_)
            clear hK K
            try simp only [List.getElem_toArray, List.getElem_cons_succ, List.getElem_cons_zero, Act.put, List.setIfInBounds_toArray, List.set_cons_zero, List.set_cons_succ]
            refine wpAnyH_take (i := 10) (v := .pointer (some ⟨g, x, none⟩)) rfl (by kernel_rfl) (by kernel_rfl) (by kernel_rfl) (fun _ _ _ h => h) (Or.inl ⟨by rfl, by intro wx hx; go_simp⟩) (by assumption) ?_
            try simp only [List.getElem_toArray, List.getElem_cons_succ, List.getElem_cons_zero, Act.put, List.setIfInBounds_toArray, List.set_cons_zero, List.set_cons_succ]
            have own13 : CurAt (w4.setCell ⟨g, x, none⟩ (.slice vd (n + 1) vm4)) B c vc a8 (boxRow 26 1 b [.slice (some ⟨g, 0, none⟩) n m0] :: (rowsOf 27 3 (.slice (some ⟨g, 0, none⟩) n m0) (vs.set x (.slice vd (n + 1) vm4)) (M.set x (row M x ++ [1])) ++ (boxRow 26 1 r [.slice none 0 0] :: R))) :=
              ⟨s9, ow_front (A := rowsOf 27 3 (.slice (some ⟨g, 0, none⟩) n m0) (vs.set x (.slice vd (n + 1) vm4)) (M.set x (row M x ++ [1]))) (T := [curRow c vc a8 s9, boxRow 26 1 b [.slice (some ⟨g, 0, none⟩) n m0]]) go1⟩
            have hMl2 := hid (show (M.set x (row M x ++ [1])).length = n by rw [List.length_set]; exact hMl.out)
            have hv2 := hid (show (vs.set x (.slice vd (n + 1) vm4)).length = n by rw [List.length_set]; exact hvs.out)
            have hok2 := hid (hM.out.grow (x := 1) (by omega) (show x < n by omega) (by unfold I64; omega))
            have b13 := (hba.trans hb4).setCell gB (p := ⟨g, x, none⟩) (.slice vd (n + 1) vm4)
            generalize M.set x (row M x ++ [1]) = M2 at *
            generalize vs.set x (.slice vd (n + 1) vm4) = vs2 at *
            have hfin1 : (w4.setCell ⟨g, x, none⟩ (.slice vd (n + 1) vm4)).cell? ⟨b, 0, none⟩ = some (.slice (some ⟨g, 0, none⟩) n m0) := (own13.at (.head _) (j := 0) (by omega)).1
            refine wpAnyH_ready (rs := [11]) (by kernel_rfl) (by simp) ?_
            refine AllReadyH.cons rfl (fun K hK => ?_) AllReadyH.nil
            go_simp
            refine hK.out _ _ ⟨hfin1, trivial⟩ (fun _ => ?_)
            clear hK K
            try simp only [List.getElem_toArray, List.getElem_cons_succ, List.getElem_cons_zero, Act.put, List.setIfInBounds_toArray, List.set_cons_zero, List.set_cons_succ]
            refine wpAnyH_done (by kernel_rfl) ?_ _
            generalize w4.setCell ⟨g, x, none⟩ (.slice vd (n + 1) vm4) = w13 at *
            clear ho4 ho5 go1 gm1 gc1 gc2 hbx hbx1 hfin1 hba hBa OWa
            go_upto_region 25 with fail
            obtain ⟨s9, h9⟩ := own13
            have tb9 : w13.cell? ⟨b, 0, none⟩ = some (.slice (some ⟨g, 0, none⟩) n m0) := ow_cell h9 (.tail _ (.head _)) (j := 0) (by omega)
            have hm9 : boxRow 26 1 r [.slice none 0 0] ∈ curRow c vc a8 s9 :: (boxRow 26 1 b [.slice (some ⟨g, 0, none⟩) n m0] :: (rowsOf 27 3 (.slice (some ⟨g, 0, none⟩) n m0) vs2 M2 ++ (boxRow 26 1 r [.slice none 0 0] :: R))) := by simp
            have rb9 : w13.cell? ⟨r, 0, none⟩ = some (.slice none 0 0) := ow_cell h9 hm9 (j := 0) (by omega)
            have rf9 := ow_frozen h9 hm9 0
            have hs9 := CurAt.set (A := boxRow 26 1 b [.slice (some ⟨g, 0, none⟩) n m0] :: rowsOf 27 3 (.slice (some ⟨g, 0, none⟩) n m0) vs2 M2) (L := R) ⟨s9, h9⟩ 0 (.slice (some ⟨g, 0, none⟩) n m0)
            have hz9 : (w13.setCell ⟨r, 0, none⟩ (.slice (some ⟨g, 0, none⟩) n m0)).cell? ⟨r, 0, none⟩ = some (.slice (some ⟨g, 0, none⟩) n m0) := by go_simp
            have own9 : CurAt (w13.setCell ⟨r, 0, none⟩ (.slice (some ⟨g, 0, none⟩) n m0)) B c vc a8 (rowsOf 27 3 (.slice (some ⟨g, 0, none⟩) n m0) vs2 M2 ++ R) := (hs9.1.drop).sub (List.Sublist.append_left (List.sublist_cons_self _ _) _)
            have b9 := (b13).setCell hs9.2 (p := ⟨r, 0, none⟩) (.slice (some ⟨g, 0, none⟩) n m0)
            clear h9 hm9 hs9
            go_wp2
            refine bodyPost_ret (v := .agg #[.slice (some ⟨g, 0, none⟩) n m0]) (by simp [results, Tryz.results63, go_sem, hz9]) rfl ?_
            have hL9 := hMl2.out
            exact ⟨_, _, _, M2, a8, by rw [hL9], (by rw [hv2.out, hMl2.out]), hok2.out, by omega, by omega, by rw [hL9]; exact own9, b9⟩
        · by_cases hq2 : z = 2
          · go_wp2_with fail
            refine (table7_any (w0 := w0) hc own8 hwB (by omega) (by omega)).mono ?_
            rintro e w9 ⟨d5, m5, vs5, M5, a9, rfl, hv5, hM5, h91, h92, own9, b9⟩
            have b9' := b8'.trans b9
            have hset := CurAt.set (A := rowsOf 27 3 (.slice d5 M5.length m5) vs5 M5) own9 0 (.slice d5 M5.length m5)
            have b10 := b9'.setCell hset.2 (p := ⟨b, 0, none⟩) (.slice d5 M5.length m5)
            have tb : w9.cell? ⟨b, 0, none⟩ = some (.slice (some ⟨g, 0, none⟩) n m0) := (own9.at (e := 26) (z := 1) (b := b) (cs := [.slice (some ⟨g, 0, none⟩) n m0]) (List.mem_append_right _ (.head _)) (j := 0) (by omega)).1
            have tbf := (own9.at (e := 26) (z := 1) (b := b) (cs := [.slice (some ⟨g, 0, none⟩) n m0]) (List.mem_append_right _ (.head _)) (j := 0) (by omega)).2
            have own10 : CurAt (w9.setCell ⟨b, 0, none⟩ (.slice d5 M5.length m5)) B c vc a9 (boxRow 26 1 b [.slice d5 M5.length m5] :: (rowsOf 27 3 (.slice d5 M5.length m5) vs5 M5 ++ (boxRow 26 1 r [.slice none 0 0] :: R))) :=
              (hset.1.sub (List.Sublist.append_left ((List.sublist_append_right (rowsOf 27 3 (.slice (some ⟨g, 0, none⟩) n m0) vs M) _).cons_cons _) _)).perm List.perm_middle.symm
            clear own8 own9 hset b8' b9 b9'
            go_upto_region 25 with fail
            clear tb tbf
            generalize w9.setCell ⟨b, 0, none⟩ (.slice d5 M5.length m5) = w10 at *
            obtain ⟨s9, h9⟩ := own10
            have tb9 : w10.cell? ⟨b, 0, none⟩ = some (.slice d5 M5.length m5) := ow_cell h9 (.tail _ (.head _)) (j := 0) (by omega)
            have hm9 : boxRow 26 1 r [.slice none 0 0] ∈ curRow c vc a9 s9 :: (boxRow 26 1 b [.slice d5 M5.length m5] :: (rowsOf 27 3 (.slice d5 M5.length m5) vs5 M5 ++ (boxRow 26 1 r [.slice none 0 0] :: R))) := by simp
            have rb9 : w10.cell? ⟨r, 0, none⟩ = some (.slice none 0 0) := ow_cell h9 hm9 (j := 0) (by omega)
            have rf9 := ow_frozen h9 hm9 0
            have hs9 := CurAt.set (A := boxRow 26 1 b [.slice d5 M5.length m5] :: rowsOf 27 3 (.slice d5 M5.length m5) vs5 M5) (L := R) ⟨s9, h9⟩ 0 (.slice d5 M5.length m5)
            have hz9 : (w10.setCell ⟨r, 0, none⟩ (.slice d5 M5.length m5)).cell? ⟨r, 0, none⟩ = some (.slice d5 M5.length m5) := by go_simp
            have own9 : CurAt (w10.setCell ⟨r, 0, none⟩ (.slice d5 M5.length m5)) B c vc a9 (rowsOf 27 3 (.slice d5 M5.length m5) vs5 M5 ++ R) := (hs9.1.drop).sub (List.Sublist.append_left (List.sublist_cons_self _ _) _)
            have b9 := (b10).setCell hs9.2 (p := ⟨r, 0, none⟩) (.slice d5 M5.length m5)
            clear h9 hm9 hs9
            go_wp2
            refine bodyPost_ret (v := .agg #[.slice d5 M5.length m5]) (by simp [results, Tryz.results63, go_sem, hz9]) rfl ?_
            have hL9 := (rfl : M5.length = M5.length)
            exact ⟨_, _, _, M5, a9, by rw [hL9], hv5, hM5, by omega, by omega, by rw [hL9]; exact own9, b9⟩
          · by_cases hq3 : z = 3
            · have hput := CurAt.put (A := [_]) own8 hvM.out hxM hux.out hrx.out y 99
              have hM2 := hid (hM.out.set (show x < n by omega) y (x := 99) (by unfold I64; omega))
              have hgc : w8.cell? ⟨gx, y, none⟩ = some (.int .i64 (nth (row M x) y)) ∧ w8.frozen? ⟨gx, y, none⟩ = false := by
                obtain ⟨R', hT⟩ := CurAt.tab (A := [_]) own8
                exact rw_at hT hxM hux.out hrx.out (by omega)
              obtain ⟨hgc0, hgc1⟩ := hgc
              have hf8 := hfacts.out _ _ M hMl.out own8
              obtain ⟨hf81, hf82, hf83⟩ := hf8
              have own9 := hput.1
              have b9 := b8'.setCell hput.2 (p := ⟨gx, y, none⟩) (.int .i64 99)
              go_upto_region 24 with fail
              clear hgc0 hgc1 hf81 hf82 hf83 hput own8 b8' e8
              generalize w8.setCell ⟨gx, y, none⟩ (.int .i64 99) = w9 at *
              generalize M.set x ((row M x).set y 99) = M2 at *
              have hrl2 := hid (hM2.out.rowlen (show y < n by omega))
              have hMl2 := hid hM2.out.1
              have hyM2 : y < M2.length := by rw [hMl2.out]; omega
              have hput := CurAt.put (A := [_]) own9 (by rw [hvs.out, hMl2.out]) hyM2 huy.out hrl2.out x 99
              have hM3 := hid (hM2.out.set (show y < n by omega) x (x := 99) (by unfold I64; omega))
              have hgc : w9.cell? ⟨gy, x, none⟩ = some (.int .i64 (nth (row M2 y) x)) ∧ w9.frozen? ⟨gy, x, none⟩ = false := by
                obtain ⟨R', hT⟩ := CurAt.tab (A := [_]) own9
                exact rw_at hT hyM2 huy.out hrl2.out (by omega)
              obtain ⟨hgc0, hgc1⟩ := hgc
              have hf8 := hfacts.out _ _ M2 hMl2.out own9
              obtain ⟨hf81, hf82, hf83⟩ := hf8
              have own10 := hput.1
              have b10 := b9.setCell hput.2 (p := ⟨gy, x, none⟩) (.int .i64 99)
              go_upto_region 25 with fail
              clear hgc0 hgc1 hf81 hf82 hf83 hput own9 b9
              generalize w9.setCell ⟨gy, x, none⟩ (.int .i64 99) = w10 at *
              generalize M2.set y ((row M2 y).set x 99) = M3 at *
              obtain ⟨s9, h9⟩ := own10
              have tb9 : w10.cell? ⟨b, 0, none⟩ = some (.slice (some ⟨g, 0, none⟩) n m0) := ow_cell h9 (.tail _ (.head _)) (j := 0) (by omega)
              have hm9 : boxRow 26 1 r [.slice none 0 0] ∈ curRow c vc a8 s9 :: (boxRow 26 1 b [.slice (some ⟨g, 0, none⟩) n m0] :: (rowsOf 27 3 (.slice (some ⟨g, 0, none⟩) n m0) vs M3 ++ (boxRow 26 1 r [.slice none 0 0] :: R))) := by simp
              have rb9 : w10.cell? ⟨r, 0, none⟩ = some (.slice none 0 0) := ow_cell h9 hm9 (j := 0) (by omega)
              have rf9 := ow_frozen h9 hm9 0
              have hs9 := CurAt.set (A := boxRow 26 1 b [.slice (some ⟨g, 0, none⟩) n m0] :: rowsOf 27 3 (.slice (some ⟨g, 0, none⟩) n m0) vs M3) (L := R) ⟨s9, h9⟩ 0 (.slice (some ⟨g, 0, none⟩) n m0)
              have hz9 : (w10.setCell ⟨r, 0, none⟩ (.slice (some ⟨g, 0, none⟩) n m0)).cell? ⟨r, 0, none⟩ = some (.slice (some ⟨g, 0, none⟩) n m0) := by go_simp
              have own9 : CurAt (w10.setCell ⟨r, 0, none⟩ (.slice (some ⟨g, 0, none⟩) n m0)) B c vc a8 (rowsOf 27 3 (.slice (some ⟨g, 0, none⟩) n m0) vs M3 ++ R) := (hs9.1.drop).sub (List.Sublist.append_left (List.sublist_cons_self _ _) _)
              have b9 := (b10).setCell hs9.2 (p := ⟨r, 0, none⟩) (.slice (some ⟨g, 0, none⟩) n m0)
              clear h9 hm9 hs9
              go_wp2
              refine bodyPost_ret (v := .agg #[.slice (some ⟨g, 0, none⟩) n m0]) (by simp [results, Tryz.results63, go_sem, hz9]) rfl ?_
              have hL9 := hM3.out.1
              exact ⟨_, _, _, M3, a8, by rw [hL9], (by rw [hvs.out, hM3.out.1]), (hM3.out.ok (by omega)), by omega, by omega, by rw [hL9]; exact own9, b9⟩
            · go_upto_region 25 with fail
              obtain ⟨s9, h9⟩ := own8
              have tb9 : w8.cell? ⟨b, 0, none⟩ = some (.slice (some ⟨g, 0, none⟩) n m0) := ow_cell h9 (.tail _ (.head _)) (j := 0) (by omega)
              have hm9 : boxRow 26 1 r [.slice none 0 0] ∈ curRow c vc a8 s9 :: (boxRow 26 1 b [.slice (some ⟨g, 0, none⟩) n m0] :: (rowsOf 27 3 (.slice (some ⟨g, 0, none⟩) n m0) vs M ++ (boxRow 26 1 r [.slice none 0 0] :: R))) := by simp
              have rb9 : w8.cell? ⟨r, 0, none⟩ = some (.slice none 0 0) := ow_cell h9 hm9 (j := 0) (by omega)
              have rf9 := ow_frozen h9 hm9 0
              have hs9 := CurAt.set (A := boxRow 26 1 b [.slice (some ⟨g, 0, none⟩) n m0] :: rowsOf 27 3 (.slice (some ⟨g, 0, none⟩) n m0) vs M) (L := R) ⟨s9, h9⟩ 0 (.slice (some ⟨g, 0, none⟩) n m0)
              have hz9 : (w8.setCell ⟨r, 0, none⟩ (.slice (some ⟨g, 0, none⟩) n m0)).cell? ⟨r, 0, none⟩ = some (.slice (some ⟨g, 0, none⟩) n m0) := by go_simp
              have own9 : CurAt (w8.setCell ⟨r, 0, none⟩ (.slice (some ⟨g, 0, none⟩) n m0)) B c vc a8 (rowsOf 27 3 (.slice (some ⟨g, 0, none⟩) n m0) vs M ++ R) := (hs9.1.drop).sub (List.Sublist.append_left (List.sublist_cons_self _ _) _)
              have b9 := (b8').setCell hs9.2 (p := ⟨r, 0, none⟩) (.slice (some ⟨g, 0, none⟩) n m0)
              clear h9 hm9 hs9
              go_wp2
              refine bodyPost_ret (v := .agg #[.slice (some ⟨g, 0, none⟩) n m0]) (by simp [results, Tryz.results63, go_sem, hz9]) rfl ?_
              have hL9 := hMl.out
              exact ⟨_, _, _, M, a8, by rw [hL9], hvM.out, (hM.out.ok (by omega)), by omega, by omega, by rw [hL9]; exact own9, b9⟩
end Go.Proofs.YtllfchcocgdcjaaGreat

/- Distances of one's own, of a star; the least ones along paths. -/
namespace Go.Proofs.YtllfchcocgdcjaaGreat
open Go.RowKit

set_option maxHeartbeats 3200000 in
set_option maxRecDepth 100000 in
theorem l6Own_any {v : Value} {M : List (List Int)} {w0 w : World} [Ext w0 w] (hm : IsMet w0 v M) (hl : M.length ≤ 1000) :
    Calls Tryz.prog 89 #[v] w fun e w' => ∃ d0 m0 vs, e = .returned (.agg #[.slice d0 M.length m0]) ∧ vs.length = M.length ∧
      Own w' w.heap.size (rowsOf 27 3 (.slice d0 M.length m0) vs M) ∧ Ext w w' := by
  obtain ⟨v1, rfl, hR⟩ := hm
  obtain ⟨a1, c1, rfl, l1⟩ := hR.form
  go_enter Tryz.func89, Tryz.ntmps89
  go_upto_region 2 with fail
  generalize hW : (((w.alloc (.cells #[.slice a1 M.length c1] 26)).alloc (.cells #[.slice none 0 0] 26)).alloc (.cells #[] 27)).alloc (.cells #[.slice (some ⟨w.heap.size + 1 + 1, 0, none⟩) 0 0] 26) = W
  have eW : Ext w W := hW ▸ inferInstance
  have x0 : W.cell? ⟨w.heap.size + 1, 0, none⟩ = some (.slice none 0 0) := by subst hW; go_simp
  have xf : W.frozen? ⟨w.heap.size + 1, 0, none⟩ = false := by subst hW; go_simp
  have q0 : W.cell? ⟨w.heap.size, 0, none⟩ = some (.slice a1 M.length c1) := by subst hW; go_simp
  obtain ⟨b, hb⟩ : ∃ b, b = w.heap.size + 1 + 1 + 1 := ⟨_, rfl⟩
  rw [← hb]
  have own0 : Own W (w.heap.size + 1 + 1) (boxRow 26 1 b [.slice (some ⟨w.heap.size + 1 + 1, 0, none⟩) 0 0] :: (rowsOf 27 3 (.slice (some ⟨w.heap.size + 1 + 1, 0, none⟩) 0 0) [] [] ++ [])) := by
    subst hW
    have h := (Own.nil ((w.alloc (.cells #[.slice a1 M.length c1] 26)).alloc (.cells #[.slice none 0 0] 26)) (w.heap.size + 1 + 1)).lit 27 1 0 #[] (by simp) (by unfold maxLen; omega) rfl
    rw [show ((w.alloc (.cells #[.slice a1 M.length c1] 26)).alloc (.cells #[.slice none 0 0] 26)).heap.size = w.heap.size + 1 + 1 by simp] at h
    have h2 := h.lit 26 1 1 #[.slice (some ⟨w.heap.size + 1 + 1, 0, none⟩) 0 0] (by simp) (by unfold maxLen; omega) rfl
    rw [show (((w.alloc (.cells #[.slice a1 M.length c1] 26)).alloc (.cells #[.slice none 0 0] 26)).alloc (.cells #[] 27)).heap.size = b by simp; omega] at h2
    exact h2
  have hBW : w.heap.size + 1 + 1 ≤ W.heap.size := by subst hW; simp
  clear hW
  obtain ⟨B, hB⟩ : ∃ B, B = w.heap.size + 1 + 1 := ⟨_, rfl⟩
  rw [← hB] at own0 hBW
  have hq : w.heap.size < B := by omega
  have hr : w.heap.size + 1 < B := by omega
  have hlw : w.heap.size ≤ B := by omega
  generalize hqd : w.heap.size = q at *
  replace hqd := hid hqd
  replace hB := hid hB
  replace hb := hid hb
  obtain ⟨r, hrd⟩ : ∃ r, r = q + 1 := ⟨_, rfl⟩
  rw [← hrd] at x0 xf hr ⊢
  replace hrd := hid hrd
  have hE : ∀ u, Below B W u → Ext w u := fun u h => ⟨eW.below.trans (h.mono (by rw [hqd.out]; exact hlw))⟩
  replace hE := hid hE
  go_wp2
  go_loopw [4] (fun i wr => ∃ x : Nat, x ≤ M.length ∧ i = .int .i64 x ∧ Below B W wr ∧ ∃ d0 m0 vs, Hid (vs.length = x) ∧ Own wr B (boxRow 26 1 b [.slice d0 x m0] :: (rowsOf 27 3 (.slice d0 x m0) vs (M.take x) ++ []))) (fun i _ => M.length - (intOf i).toNat)
  case atStart => exact ⟨0, by omega, rfl, Below.refl _ _, _, _, [], hid rfl, own0⟩
  case round =>
    obtain ⟨x, hx, rfl, hb0, d0, m0, vs, hvs, hown⟩ := hrel
    obtain ⟨wo, rfl⟩ : ∃ y : World, y = wr := ⟨_, rfl⟩
    have hqo : wo.cell? ⟨q, 0, none⟩ = some (.slice a1 M.length c1) := (hb0.cell (p := ⟨q, 0, none⟩) hq).trans q0
    by_cases hlt : x < M.length
    · go_upto_region 5 with fail
      have ownd := hown.ext (w' := wo.drew)
      have bd : Below B W wo.drew := hb0.drew
      clear hown hb0 hqo
      have e01 : Ext w0 wo.drew := Ext.trans ‹Ext w0 w› (hE.out _ bd)
      obtain ⟨bM, oM, dr, mr, rfl, hcr0, hir, _⟩ := hR.at (w' := w0) hlt
      have hfc := hid (show ∀ u, Below B W u → u.cell? ⟨q, 0, none⟩ = some (.slice (some ⟨bM, oM, none⟩) M.length c1) ∧ u.cell? ⟨bM, oM + x, none⟩ = some (.slice dr (row M x).length mr) from fun u hu =>
        ⟨(hu.cell (p := ⟨q, 0, none⟩) hq).trans q0, (Ext.trans ‹Ext w0 w› (hE.out _ hu)).cell hcr0⟩)
      have hrl := hid (show (row M x).length ≤ 17592186044415 from by obtain ⟨_, _, h, h2⟩ := hir.form; exact h2)
      have hts := hid (take_succ_row hlt)
      have hBd : B ≤ wo.drew.heap.size := Nat.le_trans hBW bd.size
      have h1 := rw_out (A := []) (W := boxRow 26 1 b [.slice d0 x m0]) ownd
      have tb : wo.drew.cell? ⟨b, 0, none⟩ = some (.slice d0 x m0) := ow_cell ownd (.head _) (j := 0) (by omega)
      rw [hvs.out] at h1
      have hf1 := hfc.out _ bd
      refine wp_region_E_drew (X := fun i => i == 12) (S := fun w' => w'.cell? ⟨b, 0, none⟩ = some (.slice d0 x m0) ∧ w'.cell? ⟨q, 0, none⟩ = some (.slice (some ⟨bM, oM, none⟩) M.length c1) ∧ w'.cell? ⟨bM, oM + x, none⟩ = some (.slice dr (row M x).length mr)) (by kernel_rfl) ⟨tb, hf1.1, hf1.2⟩ (fun hHeld0 => ?_)
      generalize wo.drew = w1 at *
      refine wpAnyE_take (i := 0) (v := .pointer (some ⟨b, 0, none⟩)) rfl (by kernel_rfl) (by kernel_rfl) (by kernel_rfl) (fun _ _ _ h => h) (Or.inl ⟨by rfl, by intro wx hx; go_simp⟩) (by assumption) ?_
      try simp only [List.getElem_toArray, List.getElem_cons_zero, Act.put, List.setIfInBounds_toArray, List.set_cons_zero, List.set_cons_succ]
      refine wpAnyE_take (i := 1) (v := .slice d0 x m0) rfl (by kernel_rfl) (by kernel_rfl) (by kernel_rfl) (fun _ _ _ h => h) (Or.inl ⟨by rfl, by intro wx hx; obtain ⟨_, _, _⟩ := hx; go_simp⟩) (by assumption) ?_
      try simp only [List.getElem_toArray, List.getElem_cons_succ, List.getElem_cons_zero, Act.put, List.setIfInBounds_toArray, List.set_cons_zero, List.set_cons_succ]
      refine wpAnyE_take (i := 3) (v := .pointer (some ⟨q, 0, none⟩)) rfl (by kernel_rfl) (by kernel_rfl) (by kernel_rfl) (fun _ _ _ h => h) (Or.inl ⟨by rfl, by intro wx hx; go_simp⟩) (by assumption) ?_
      try simp only [List.getElem_toArray, List.getElem_cons_succ, List.getElem_cons_zero, Act.put, List.setIfInBounds_toArray, List.set_cons_zero, List.set_cons_succ]
      refine wpAnyE_take (i := 4) (v := .slice (some ⟨bM, oM, none⟩) M.length c1) rfl (by kernel_rfl) (by kernel_rfl) (by kernel_rfl) (fun _ _ _ h => h) (Or.inl ⟨by rfl, by intro wx hx; obtain ⟨_, _, _⟩ := hx; go_simp⟩) (by assumption) ?_
      try simp only [List.getElem_toArray, List.getElem_cons_succ, List.getElem_cons_zero, Act.put, List.setIfInBounds_toArray, List.set_cons_zero, List.set_cons_succ]
      refine wpAnyE_take (i := 5) (v := .int .i64 x) rfl (by kernel_rfl) (by kernel_rfl) (by kernel_rfl) (fun _ _ _ h => h) (Or.inl ⟨by rfl, by intro wx hx; go_simp⟩) (by assumption) ?_
      try simp only [List.getElem_toArray, List.getElem_cons_succ, List.getElem_cons_zero, Act.put, List.setIfInBounds_toArray, List.set_cons_zero, List.set_cons_succ]
      refine wpAnyE_take (i := 6) (v := .pointer (some ⟨bM, oM + x, none⟩)) rfl (by kernel_rfl) (by kernel_rfl) (by kernel_rfl) (fun _ _ _ h => h) (Or.inl ⟨by rfl, by intro wx hx; go_simp⟩) (by assumption) ?_
      try simp only [List.getElem_toArray, List.getElem_cons_succ, List.getElem_cons_zero, Act.put, List.setIfInBounds_toArray, List.set_cons_zero, List.set_cons_succ]
      refine wpAnyE_take (i := 7) (v := .slice dr (row M x).length mr) rfl (by kernel_rfl) (by kernel_rfl) (by kernel_rfl) (fun _ _ _ h => h) (Or.inl ⟨by rfl, by intro wx hx; obtain ⟨_, _, _⟩ := hx; go_simp⟩) (by assumption) ?_
      try simp only [List.getElem_toArray, List.getElem_cons_succ, List.getElem_cons_zero, Act.put, List.setIfInBounds_toArray, List.set_cons_zero, List.set_cons_succ]
      refine wpAnyE_ready (rs := [2]) (by kernel_rfl) (by simp) ?_
      refine AllReadyE.cons rfl (fun K hK => ?_) AllReadyE.nil
      go_simp
      have own2 := h1.lit 3 1 0 #[] hBd (by unfold maxLen; omega) rfl
      have b2 : Below B W (w1.alloc (.cells #[] 3)) := bd.alloc hBd _
      have hs2 := And.intro (show (w1.alloc (.cells #[] 3)).cell? ⟨b, 0, none⟩ = some (.slice d0 x m0) from ow_cell own2 (.tail _ (.tail _ (.head _))) (j := 0) (by omega)) (hfc.out _ b2)
      refine hK.out _ _ (.inr hs2) (fun _ => ?_)
      clear hK K
      try simp only [List.getElem_toArray, List.getElem_cons_succ, List.getElem_cons_zero, Act.put, List.setIfInBounds_toArray, List.set_cons_zero, List.set_cons_succ]
      generalize w1.alloc (.cells #[] 3) = w2 at *
      generalize w1.heap.size = g2 at *
      have hB2 : B ≤ w2.heap.size := Nat.le_trans hBW b2.size
      have e02 : Ext w0 w2 := Ext.trans ‹Ext w0 w› (hE.out _ b2)
      refine wpAnyE_ready (rs := [8]) (by kernel_rfl) (by simp) ?_
      refine AllReadyE.cons rfl (fun K hK => ?_) AllReadyE.nil
      refine stp_ints rfl (.tmp 16) (.tmp 21) 27 rfl elemInt rfl own2 hB2 rfl (hir.ext (w' := w2)) (by have := hrl.out; omega) ?_
      intro v4 w4 ho4 hb4
      have o4 : Own w4 B (intRowOf 3 v4 (row M x) :: (⟨27, 1, .slice d0 x m0, x, vs⟩ :: (boxRow 26 1 b [.slice d0 x m0] :: ([] ++ (List.zipWith (intRowOf 3) vs (M.take x) ++ []))))) := by
        have h := own_more (xs := []) ho4 rfl
        rwa [List.nil_append] at h
      obtain ⟨d4, n4, m4, hv4, hn4⟩ := own_formN o4
      subst hv4
      have b4 := b2.trans hb4
      have hs4 := And.intro (show w4.cell? ⟨b, 0, none⟩ = some (.slice d0 x m0) from ow_cell o4 (.tail _ (.tail _ (.head _))) (j := 0) (by omega)) (hfc.out _ b4)
      refine hK.out _ _ (.inr hs4) (fun _ => ?_)
      clear hK K
      try simp only [List.getElem_toArray, List.getElem_cons_succ, List.getElem_cons_zero, Act.put, List.setIfInBounds_toArray, List.set_cons_zero, List.set_cons_succ]
      have hB4 : B ≤ w4.heap.size := Nat.le_trans hBW b4.size
      refine wpAnyE_ready (rs := [9]) (by kernel_rfl) (by simp) ?_
      refine AllReadyE.cons rfl (fun K hK => ?_) AllReadyE.nil
      go_simp
      have o6 := o4.lit 27 1 1 #[.slice d4 n4 m4] hB4 (by unfold maxLen; omega) rfl
      have b6 : Below B W (w4.alloc (.cells #[.slice d4 n4 m4] 27)) := b4.alloc hB4 _
      have hs6 := And.intro (show (w4.alloc (.cells #[.slice d4 n4 m4] 27)).cell? ⟨b, 0, none⟩ = some (.slice d0 x m0) from ow_cell o6 (.tail _ (.tail _ (.tail _ (.head _)))) (j := 0) (by omega)) (hfc.out _ b6)
      have hn6 : (w4.alloc (.cells #[.slice d4 n4 m4] 27)).cell? ⟨w4.heap.size, 0, none⟩ = some (.slice d4 n4 m4) := by go_simp
      refine hK.out _ _ (.inr hs6) (fun _ => ?_)
      clear hK K
      try simp only [List.getElem_toArray, List.getElem_cons_succ, List.getElem_cons_zero, Act.put, List.setIfInBounds_toArray, List.set_cons_zero, List.set_cons_succ]
      have o7 := o6.tail.perm (List.Perm.swap _ _ _)
      clear o6 o4 own2 ho4 h1 ownd
      generalize w4.alloc (.cells #[.slice d4 n4 m4] 27) = w6 at *
      generalize w4.heap.size = g6 at *
      have hB6 : B ≤ w6.heap.size := Nat.le_trans hBW b6.size
      refine wpAnyE_ready (rs := [10]) (by kernel_rfl) (by simp) ?_
      refine AllReadyE.cons rfl (fun K hK => ?_) AllReadyE.nil
      refine stp_one rfl (.tmp 15) (.tmp 23) 24 rfl elemInts rfl o7 hB6 (us := [.slice d4 n4 m4]) rfl rfl ?_ (by intro u hu; simp at hu; subst hu; rfl) (by omega) (by omega) ?_
      · intro jj u hj
        match jj, hj with
        | 0, hj => simp at hj; subst hj; exact hn6
      intro v8 w8 ho8 hb8
      obtain ⟨d8, m8, hv8⟩ := ho8.form
      have hv8' : v8 = .slice d8 (x + 1) m8 := hv8
      subst hv8'
      clear hv8
      have b8 := b6.trans hb8
      have hs8 := And.intro (show w8.cell? ⟨b, 0, none⟩ = some (.slice d0 x m0) from ow_cell ho8 (.tail _ (.tail _ (.head _))) (j := 0) (by omega)) (hfc.out _ b8)
      have ho8' := ho8
      rw [← hvs.out] at ho8'
      have ho9 := rw_in (A := [boxRow 26 1 b [.slice d0 vs.length m0]]) (R := []) ho8' (by rw [hvs.out, List.length_take]; omega)
      rw [hvs.out] at ho9
      have ho10 := ow_set (A := []) ho9 0 (.slice d8 (x + 1) m8)
      have hbB : B ≤ b := ((ho8.1 _ (.tail _ (.tail _ (.head _)))).lt b rfl).1
      have b10 := b8.setCell hbB (p := ⟨b, 0, none⟩) (.slice d8 (x + 1) m8)
      have hff := ow_frozen ho8 (.tail _ (.tail _ (.head _))) 0
      have hvs2 := hid (show (vs ++ [Value.slice d4 n4 m4]).length = x + 1 by rw [List.length_append, hvs.out]; rfl)
      rw [← hts.out] at ho10
      refine hK.out _ _ (.inr hs8) (fun _ => ?_)
      clear hK K
      try simp only [List.getElem_toArray, List.getElem_cons_succ, List.getElem_cons_zero, Act.put, List.setIfInBounds_toArray, List.set_cons_zero, List.set_cons_succ]
      refine wpAnyE_take (i := 11) (v := .pointer (some ⟨b, 0, none⟩)) rfl (by kernel_rfl) (by kernel_rfl) (by kernel_rfl) (fun _ _ _ h => h) (Or.inl ⟨by rfl, by intro wx hx; go_simp⟩) (by assumption) ?_
      try simp only [List.getElem_toArray, List.getElem_cons_succ, List.getElem_cons_zero, Act.put, List.setIfInBounds_toArray, List.set_cons_zero, List.set_cons_succ]
      refine wpAnyE_ready (rs := [12]) (by kernel_rfl) (by simp) ?_
      refine AllReadyE.cons rfl (fun K hK => ?_) AllReadyE.nil
      go_simp
      refine hK.out _ _ (.inl rfl) (fun _ => ?_)
      clear hK K
      try simp only [List.getElem_toArray, List.getElem_cons_succ, List.getElem_cons_zero, Act.put, List.setIfInBounds_toArray, List.set_cons_zero, List.set_cons_succ]
      refine wpAnyE_done (by kernel_rfl) ?_ _
      clear ho8 ho8' ho9 hs8 hff o7
      generalize w8.setCell ⟨b, 0, none⟩ (.slice d8 (x + 1) m8) = w10 at *
      go_wp2_with fail
      go_roundw
      case rel => exact ⟨x + 1, by omega, by go_num, b10, d8, m8, _, hvs2, ho10⟩
      case measure => simp [intOf]; omega
    · have hxn : x = M.length := by omega
      subst hxn
      have tb : wo.cell? ⟨b, 0, none⟩ = some (.slice d0 M.length m0) := ow_cell hown (.head _) (j := 0) (by omega)
      have xr : wo.cell? ⟨r, 0, none⟩ = some (.slice none 0 0) := (hb0.cell (p := ⟨r, 0, none⟩) hr).trans x0
      have xrf : wo.frozen? ⟨r, 0, none⟩ = false := (hb0.frozen (p := ⟨r, 0, none⟩) hr).trans xf
      have hset : (wo.setCell ⟨r, 0, none⟩ (.slice d0 M.length m0)).cell? ⟨r, 0, none⟩ = some (.slice d0 M.length m0) := by go_simp
      have hown3 := (hown.tail.setBelow (p := ⟨r, 0, none⟩) hr (.slice d0 M.length m0)).mono (show q ≤ B from hlw)
      have eF : Ext w (wo.setCell ⟨r, 0, none⟩ (.slice d0 M.length m0)) := ⟨eW.below.trans ((hb0.mono (by rw [hqd.out]; exact hlw)).setCell (by rw [hqd.out, hrd.out]; exact Nat.le_succ _) _)⟩
      go_wp2
      refine bodyPost_ret (v := .agg #[.slice d0 M.length m0]) (by simp [results, Tryz.results89, go_sem, hset]) rfl ?_
      rw [List.append_nil, List.take_length] at hown3
      exact ⟨_, _, vs, rfl, hvs.out, by rw [hqd.out]; exact hown3, eF⟩

theorem wrap_i64 (z : Int) : I64 (IntKind.i64.wrap z) := by
  simp only [IntKind.wrap, IntKind.bits, IntKind.signed]
  unfold I64
  simp
  omega
theorem MOk.at {N : List (List Int)} {x y : Nat} (h : MOk N) (hx : x < N.length) (hy : y < N.length) : y < (row N x).length ∧ I64 (nth (row N x) y) := by
  obtain ⟨h1, h2, h3⟩ := h.2 _ (row_mem hx)
  exact ⟨by omega, h3 _ (nth_mem (by omega))⟩

set_option maxHeartbeats 3200000 in
set_option maxRecDepth 100000 in
theorem l6Close_any {v : Value} {M : List (List Int)} {w0 w : World} [Ext w0 w] (hm : IsMet w0 v M) (hM : MOk M) :
    Calls Tryz.prog 64 #[v] w fun e w' => ∃ d0 m0 vs N, e = .returned (.agg #[.slice d0 (N : List (List Int)).length m0]) ∧ vs.length = N.length ∧ MOk N ∧
      Own w' w.heap.size (rowsOf 27 3 (.slice d0 N.length m0) vs N) ∧ Ext w w' := by
  have hm' := hm
  obtain ⟨v1, rfl, hR⟩ := hm
  obtain ⟨a1, c1, rfl, l1⟩ := hR.form
  have hn7 := hM.1
  obtain ⟨n, hn⟩ : ∃ n, n = M.length := ⟨_, rfl⟩
  rw [← hn] at hn7
  go_enter Tryz.func64, Tryz.ntmps64
  go_upto_region 1 with fail
  have ez : Ext w ((w.alloc (.cells #[.slice a1 M.length c1] 26)).alloc (.cells #[.slice none 0 0] 26)) := inferInstance
  have q0 : ((w.alloc (.cells #[.slice a1 M.length c1] 26)).alloc (.cells #[.slice none 0 0] 26)).cell? ⟨w.heap.size, 0, none⟩ = some (.slice a1 M.length c1) := by go_simp
  have z0 : ((w.alloc (.cells #[.slice a1 M.length c1] 26)).alloc (.cells #[.slice none 0 0] 26)).cell? ⟨w.heap.size + 1, 0, none⟩ = some (.slice none 0 0) := by go_simp
  have zf : ((w.alloc (.cells #[.slice a1 M.length c1] 26)).alloc (.cells #[.slice none 0 0] 26)).frozen? ⟨w.heap.size + 1, 0, none⟩ = false := by go_simp
  have zs : ((w.alloc (.cells #[.slice a1 M.length c1] 26)).alloc (.cells #[.slice none 0 0] 26)).heap.size = w.heap.size + 2 := by simp
  generalize (w.alloc (.cells #[.slice a1 M.length c1] 26)).alloc (.cells #[.slice none 0 0] 26) = wa at *
  obtain ⟨r, hr⟩ : ∃ r, r = w.heap.size + 1 := ⟨_, rfl⟩
  rw [← hr] at z0 zf ⊢
  replace hr := hid hr
  replace zs := hid zs
  have e0a : Ext w0 wa := Ext.trans ‹Ext w0 w› ez
  replace hn := hid hn
  go_wp2_with fail
  with_reducible refine (l6Own_any (w0 := w0) hm' (by rw [← hn.out]; omega)).mono ?_
  rintro e w1 ⟨d0, m0, vs, rfl, hvs, hown, he1⟩
  rw [← hn.out] at hvs hown q0 ⊢
  rw [zs.out] at hown
  have hB1 : w.heap.size + 2 ≤ w1.heap.size := by have := he1.size; have := zs.out; omega
  have own0 : Own (w1.alloc (.cells #[.slice d0 n m0] 26)) (w.heap.size + 2) (rowsOf 27 3 (.slice d0 n m0) vs M ++ [boxRow 26 1 w1.heap.size [.slice d0 n m0]]) := by
    have h2 := hown.lit 26 1 1 #[.slice d0 n m0] hB1 (by unfold maxLen; omega) rfl
    exact h2.perm (List.perm_append_comm (l₁ := rowsOf _ _ _ _ _) (l₂ := [_]))
  have eW : Ext w (w1.alloc (.cells #[.slice d0 n m0] 26)) := Ext.trans ez (Ext.trans he1 inferInstance)
  have e1W : Ext wa (w1.alloc (.cells #[.slice d0 n m0] 26)) := Ext.trans he1 inferInstance
  have x0 := e1W.cell z0
  have xf := e1W.frozen z0 zf
  have q1 := e1W.cell q0
  have hBW : w.heap.size + 2 ≤ (w1.alloc (.cells #[.slice d0 n m0] 26)).heap.size := Nat.le_trans hB1 (Ext.size (a := w1) inferInstance)
  obtain ⟨b, hbb⟩ : ∃ b, b = w1.heap.size := ⟨_, rfl⟩
  rw [← hbb] at own0
  go_upto_region 2 with fail
  clear z0 zf hown q0 e1W
  generalize w1.alloc (.cells #[.slice d0 n m0] 26) = W at *
  rw [← hbb]
  replace hbb := hid hbb
  replace hvs := hid hvs
  obtain ⟨B, hB⟩ : ∃ B, B = w.heap.size + 2 := ⟨_, rfl⟩
  rw [← hB] at own0 hBW
  have hrB : r < B := by have := hr.out; omega
  have hlw : w.heap.size ≤ B := by omega
  replace hB := hid hB
  have hrw := hid (show w.heap.size ≤ r by have := hr.out; omega)
  go_upto_region 3 with fail
  clear q1
  have hfacts := hid (show ∀ u N, N.length = n → MOk N → Own u B (rowsOf 27 3 (.slice d0 n m0) vs N ++ [boxRow 26 1 b [.slice d0 n m0]]) → ∀ x, x < n → ∃ g gx mx, d0 = some ⟨g, 0, none⟩ ∧ u.cell? ⟨b, 0, none⟩ = some (.slice (some ⟨g, 0, none⟩) n m0) ∧ u.cell? ⟨g, x, none⟩ = some (.slice (some ⟨gx, 0, none⟩) (row N x).length mx) ∧ vs[x]? = some (.slice (some ⟨gx, 0, none⟩) (row N x).length mx) ∧ B ≤ gx from fun u N hN hok h x hx => by
    obtain ⟨gx, mx, hu, hBg⟩ := rw_form h (by rw [hvs.out, hN]) (j := x) (by omega) (by have := (hok.at (x := x) (y := x) (by omega) (by omega)).1; omega)
    obtain ⟨g, rfl⟩ := rw_addr h hvs.out (by omega)
    exact ⟨g, gx, mx, rfl, ow_cell h (List.mem_append_right _ (List.Mem.head _)) (j := 0) (by omega), (rw_cell h hvs.out hu).1, hu, hBg⟩)
  go_wp2
  go_loopw [5] (fun i wr => ∃ y : Nat, y ≤ n ∧ i = .int .i64 y ∧ Below B W wr ∧ ∃ N, Hid (N.length = n) ∧ MOk N ∧ Own wr B (rowsOf 27 3 (.slice d0 n m0) vs N ++ [boxRow 26 1 b [.slice d0 n m0]])) (fun i _ => n - (intOf i).toNat)
  case atStart => exact ⟨0, by omega, rfl, Below.refl _ _, M, hid hn.out.symm, hM, own0⟩
  case round =>
    obtain ⟨y, hy, rfl, hb0, N, hN, hok, hown⟩ := hrel
    obtain ⟨wo, rfl⟩ : ∃ y : World, y = wr := ⟨_, rfl⟩
    by_cases hlty : y < n
    · go_wp2
      go_loopw [6] (fun i wr => ∃ x : Nat, x ≤ n ∧ i = .int .i64 x ∧ Below B W wr ∧ ∃ N, Hid (N.length = n) ∧ MOk N ∧ Own wr B (rowsOf 27 3 (.slice d0 n m0) vs N ++ [boxRow 26 1 b [.slice d0 n m0]])) (fun i _ => n - (intOf i).toNat)
      case atStart => exact ⟨0, by omega, rfl, hb0, N, hN, hok, hown⟩
      case round =>
        obtain ⟨x, hx, rfl, hb1, N1, hN1, hok1, hown1⟩ := hrel
        obtain ⟨wp, rfl⟩ : ∃ y : World, y = wr := ⟨_, rfl⟩
        by_cases hltx : x < n
        · go_wp2
          go_loopw [7] (fun i wr => ∃ z : Nat, z ≤ n ∧ i = .int .i64 z ∧ Below B W wr ∧ ∃ N, Hid (N.length = n) ∧ MOk N ∧ Own wr B (rowsOf 27 3 (.slice d0 n m0) vs N ++ [boxRow 26 1 b [.slice d0 n m0]])) (fun i _ => n - (intOf i).toNat)
          case atStart => exact ⟨0, by omega, rfl, hb1, N1, hN1, hok1, hown1⟩
          case round =>
            obtain ⟨z, hz, rfl, hb2, N2, hN2, hok2, hown2⟩ := hrel
            obtain ⟨wq, rfl⟩ : ∃ y : World, y = wr := ⟨_, rfl⟩
            by_cases hltz : z < n
            · have hxl := hok2.at (x := x) (y := y) (by rw [hN2.out]; exact hltx) (by rw [hN2.out]; exact hlty)
              have hyl := hok2.at (x := y) (y := z) (by rw [hN2.out]; exact hlty) (by rw [hN2.out]; exact hltz)
              have hzl := hok2.at (x := x) (y := z) (by rw [hN2.out]; exact hltx) (by rw [hN2.out]; exact hltz)
              obtain ⟨g, gx, mx, rfl, tb, tx, hux, hBx⟩ := hfacts.out _ N2 hN2.out hok2 hown2 x hltx
              obtain ⟨g', gy, my, hg', _, ty, huy, hBy⟩ := hfacts.out _ N2 hN2.out hok2 hown2 y hlty
              cases hg'
              have cxy := rw_at hown2 (by rw [hN2.out]; exact hltx) hux rfl hxl.1
              have cyz := rw_at hown2 (by rw [hN2.out]; exact hlty) huy rfl hyl.1
              have cxz := rw_at hown2 (by rw [hN2.out]; exact hltx) hux rfl hzl.1
              have hok3 := fun p (hp : I64 p) => hok2.set (j := x) (by rw [hN2.out]; exact hltx) z hp
              have hN3 := fun p => (show (N2.set x ((row N2 x).set z p)).length = n by rw [List.length_set]; exact hN2.out)
              replace hok3 := hid hok3
              replace hN3 := hid hN3
              replace hux := hid hux
              replace huy := hid huy
              obtain ⟨cxy, _⟩ := cxy
              obtain ⟨cyz, _⟩ := cyz
              obtain ⟨cxz, cxzf⟩ := cxz
              have hxl1 := hxl.1
              have hyl1 := hyl.1
              have hzl1 := hzl.1
              clear hxl hyl hzl hown hown1 hok hok1
              generalize hlx : (row N2 x).length = lx at *
              generalize hly : (row N2 y).length = ly at *
              replace hlx := hid hlx
              replace hly := hid hly
              generalize nth (row N2 x) y = p1 at *
              generalize nth (row N2 y) z = p2 at *
              generalize nth (row N2 x) z = p3 at *
              by_cases h1 : p1 < 0
              · clear hok3 hN3
                go_wp2_with fail
                go_roundw
                case rel => exact ⟨z + 1, by omega, by go_num, hb2, N2, hN2, hok2, hown2⟩
                case measure => simp [intOf]; omega
              · by_cases h2 : p2 < 0
                · clear hok3 hN3
                  go_wp2_with fail
                  go_roundw
                  case rel => exact ⟨z + 1, by omega, by go_num, hb2, N2, hN2, hok2, hown2⟩
                  case measure => simp [intOf]; omega
                · go_upto_region 14 with (go_quiet (fail))
                  generalize hw3 : wq.drewN nq = w3
                  have ed : Ext wq w3 := hw3 ▸ inferInstance
                  have b3 : Below B W w3 := hb2.trans (ed.below.mono (Nat.le_trans hBW hb2.size))
                  have own3 := hown2.ext (w' := w3)
                  clear hw3 hown2 hb2
                  obtain ⟨D, hD⟩ : ∃ D, D = wrap64 (p1 + p2) := ⟨_, rfl⟩
                  rw [← hD]
                  have hDi : I64 D := by rw [hD]; unfold I64 wrap64; omega
                  replace hD := hid hD
                  have tb3 := ed.cell tb
                  have tx3 := ed.cell tx
                  have cz3 := ed.cell cxz
                  have cf3 := ed.frozen cxz cxzf
                  clear tb tx ty cxy cyz cxz cxzf h1 h2
                  have hput := rw_put own3 (by rw [hvs.out, hN2.out]) (by rw [hN2.out]; exact hltx) hux.out hlx.out z D
                  have hok4 := hok3.out D hDi
                  have hN4 := hid (hN3.out D)
                  have b4 := b3.setCell hBx (p := ⟨gx, z, none⟩) (.int .i64 D)
                  by_cases h3 : p3 < 0
                  · go_wp2_with fail
                    go_roundw
                    case rel => exact ⟨z + 1, by omega, by go_num, b4, _, hN4, hok4, hput⟩
                    case measure => simp [intOf]; omega
                  · by_cases h4 : D < p3
                    · go_wp2_with fail
                      go_roundw
                      case rel => exact ⟨z + 1, by omega, by go_num, b4, _, hN4, hok4, hput⟩
                      case measure => simp [intOf]; omega
                    · clear hput b4
                      go_wp2_with fail
                      go_roundw
                      case rel => exact ⟨z + 1, by omega, by go_num, b3, N2, hN2, hok2, own3⟩
                      case measure => simp [intOf]; omega
            · have hzn : z = n := by omega
              replace hzn := hid hzn
              go_wp2_with fail
              go_roundw
              case rel => exact ⟨x + 1, by omega, by go_num, hb2, N2, hN2, hok2, hown2⟩
              case measure => simp [intOf]; omega
        · have hxn : x = n := by omega
          replace hxn := hid hxn
          go_wp2_with fail
          go_roundw
          case rel => exact ⟨y + 1, by omega, by go_num, hb1, N1, hN1, hok1, hown1⟩
          case measure => simp [intOf]; omega
    · have hyn : y = n := by omega
      have tb : wo.cell? ⟨b, 0, none⟩ = some (.slice d0 n m0) := ow_cell hown (List.mem_append_right _ (List.Mem.head _)) (j := 0) (by omega)
      have xr : wo.cell? ⟨r, 0, none⟩ = some (.slice none 0 0) := (hb0.cell (p := ⟨r, 0, none⟩) hrB).trans x0
      have xrf : wo.frozen? ⟨r, 0, none⟩ = false := (hb0.frozen (p := ⟨r, 0, none⟩) hrB).trans xf
      have hset : (wo.setCell ⟨r, 0, none⟩ (.slice d0 n m0)).cell? ⟨r, 0, none⟩ = some (.slice d0 n m0) := by go_simp
      have hown3 := (hown.left.setBelow (p := ⟨r, 0, none⟩) hrB (.slice d0 n m0)).mono hlw
      have eF : Ext w (wo.setCell ⟨r, 0, none⟩ (.slice d0 n m0)) := ⟨eW.below.trans ((hb0.mono hlw).setCell hrw.out _)⟩
      replace hyn := hid hyn
      go_wp2
      refine bodyPost_ret (v := .agg #[.slice d0 n m0]) (by simp [results, Tryz.results64, go_sem, hset]) rfl ?_
      exact ⟨d0, m0, vs, N, by rw [hN.out], by rw [hvs.out, hN.out], hok, by rw [hN.out]; exact hown3, eF⟩
end Go.Proofs.YtllfchcocgdcjaaGreat

/- The metric of a star, as draws make it. -/
namespace Go.Proofs.YtllfchcocgdcjaaGreat
open Go.RowKit

set_option maxHeartbeats 3200000 in
set_option maxRecDepth 100000 in
theorem starMetric_any {v : Value} {P : List Int} {w0 w : World} [Ext w0 w] (hP : IsInts w0 v P) (h1 : 1 ≤ P.length) (hl : P.length ≤ 6) (hb : ∀ j, j < P.length → 1 ≤ nth P j ∧ nth P j ≤ 49) :
    Calls Tryz.prog 62 #[v] w fun e w' => ∃ d0 m0 vs M, e = .returned (.tuple #[.agg #[.slice d0 P.length m0], .bool true]) ∧ vs.length = P.length ∧ SqOk M P.length ∧
      Own w' w.heap.size (rowsOf 27 3 (.slice d0 P.length m0) vs M) ∧ Ext w w' := by
  obtain ⟨aP, cP, rfl, lP⟩ := hP.form
  have hin := hid (show inB P.length 1 6 = true from inB_true.2 (by omega))
  replace hb := hid hb
  have hPc := hid (show ∀ x, x < P.length → (∃ b o, aP = some ⟨b, o, none⟩ ∧ w0.cell? ⟨b, o + x, none⟩ = some (.int .i64 (nth P x))) from fun x hx => by
    obtain ⟨b, o, h1, h2⟩ := hP.at (w' := w0) hx
    exact ⟨b, o, h1, h2⟩)
  go_enter Tryz.func62, Tryz.ntmps62
  go_upto_region 1 with fail
  have ez : Ext w (w.alloc (.cells #[.slice none 0 0] 26)) := inferInstance
  have z0 : (w.alloc (.cells #[.slice none 0 0] 26)).cell? ⟨w.heap.size, 0, none⟩ = some (.slice none 0 0) := by go_simp
  have zf : (w.alloc (.cells #[.slice none 0 0] 26)).frozen? ⟨w.heap.size, 0, none⟩ = false := by go_simp
  have zs : (w.alloc (.cells #[.slice none 0 0] 26)).heap.size = w.heap.size + 1 := by simp
  generalize w.alloc (.cells #[.slice none 0 0] 26) = wa at *
  replace zs := hid zs
  have e0a : Ext w0 wa := Ext.trans ‹Ext w0 w› ez
  go_wp2_with fail
  with_reducible refine (l1In_any _ _ _ _).mono ?_
  rw [hin.out]
  rintro e wx ⟨rfl, rfl⟩
  go_wp2_with fail
  go_loopw [4] (fun i wr => ∃ x : Nat, x ≤ P.length ∧ i = .int .i64 x ∧ Ext wa wr) (fun i _ => P.length - (intOf i).toNat)
  case atStart => exact ⟨0, by omega, rfl, Ext.refl _⟩
  case round =>
    obtain ⟨x, hx, rfl, eb⟩ := hrel
    obtain ⟨wb, rfl⟩ : ∃ y : World, y = wr := ⟨_, rfl⟩
    have e0b : Ext w0 wb := Ext.trans e0a eb
    by_cases hlt : x < P.length
    · obtain ⟨bp, op, rfl, hcx⟩ := hP.at (w' := wb) hlt
      have hbx := hid (show inB (nth P x) 1 49 = true from inB_true.2 (hb.out x hlt))
      generalize nth P x = px at *
      go_wp2_with fail
      with_reducible refine (l1In_any _ _ _ _).mono ?_
      rw [hbx.out]
      rintro e wx ⟨rfl, rfl⟩
      go_wp2_with fail
      go_roundw
      case rel => exact ⟨x + 1, by omega, by go_num, eb⟩
      case measure => simp [intOf]; omega
    · have hxP : x = P.length := by omega
      replace hxP := hid hxP
      replace zf := eb.frozen z0 zf
      replace z0 := eb.cell z0
      have zsz := hid (show w.heap.size + 1 ≤ wb.heap.size by have := eb.size; have := zs.out; omega)
      go_wp2_with fail
      refine (l6Uniform_any (n := P.length) (d := 0) (by omega) wb).mono ?_
      rintro e w1 ⟨d0, m0, vs, rfl, hvs, hown, he1⟩
      have hM0 : SqOk (uniTab (fun x y => if x = y then 0 else (0 : Int)) P.length P.length) P.length := SqOk.uni (by unfold I64; omega)
      generalize uniTab (fun x y => if x = y then 0 else (0 : Int)) P.length P.length = M0 at *
      have hownB := hown.mono zsz.out
      have hB1 : w.heap.size + 1 ≤ w1.heap.size := Nat.le_trans zsz.out he1.size
      have own0 : Own (w1.alloc (.cells #[.slice d0 P.length m0] 26)) (w.heap.size + 1) (rowsOf 27 3 (.slice d0 P.length m0) vs M0 ++ [boxRow 26 1 w1.heap.size [.slice d0 P.length m0]]) := by
        have h2 := hownB.lit 26 1 1 #[.slice d0 P.length m0] hB1 (by unfold maxLen; omega) rfl
        exact h2.perm (List.perm_append_comm (l₁ := rowsOf _ _ _ _ _) (l₂ := [_]))
      have eb1 : Ext wb (w1.alloc (.cells #[.slice d0 P.length m0] 26)) := Ext.trans he1 inferInstance
      have eW : Ext w (w1.alloc (.cells #[.slice d0 P.length m0] 26)) := Ext.trans ez (Ext.trans eb eb1)
      have x0 := eb1.cell z0
      have xf := eb1.frozen z0 zf
      have hBW : w.heap.size + 1 ≤ (w1.alloc (.cells #[.slice d0 P.length m0] 26)).heap.size := Nat.le_trans hB1 (Ext.size (a := w1) inferInstance)
      obtain ⟨b, hbb⟩ : ∃ b, b = w1.heap.size := ⟨_, rfl⟩
      rw [← hbb] at own0
      go_upto_region 9 with fail
      clear z0 zf hown hownB eb1
      generalize w1.alloc (.cells #[.slice d0 P.length m0] 26) = W at *
      rw [← hbb]
      replace hbb := hid hbb
      replace hvs := hid hvs
      replace hM0 := hid hM0
      go_wp2
      go_loopw [6] (fun i wr => ∃ x : Nat, x ≤ P.length ∧ i = .int .i64 x ∧ Below (w.heap.size + 1) W wr ∧ ∃ M, Hid (SqOk M P.length) ∧ Own wr (w.heap.size + 1) (rowsOf 27 3 (.slice d0 P.length m0) vs M ++ [boxRow 26 1 b [.slice d0 P.length m0]])) (fun i _ => P.length - (intOf i).toNat)
      case atStart => exact ⟨0, by omega, rfl, Below.refl _ _, _, hM0, own0⟩
      case round =>
        obtain ⟨x, hx, rfl, hb0, M, hM, hown⟩ := hrel
        obtain ⟨wo, rfl⟩ : ∃ y : World, y = wr := ⟨_, rfl⟩
        by_cases hlt : x < P.length
        · go_wp2
          go_loopw [7] (fun j wr => ∃ y : Nat, y ≤ P.length ∧ j = .int .i64 y ∧ Below (w.heap.size + 1) W wr ∧ ∃ M, Hid (SqOk M P.length) ∧ Own wr (w.heap.size + 1) (rowsOf 27 3 (.slice d0 P.length m0) vs M ++ [boxRow 26 1 b [.slice d0 P.length m0]])) (fun j _ => P.length - (intOf j).toNat)
          case atStart => exact ⟨0, by omega, rfl, hb0, M, hM, hown⟩
          case round =>
            obtain ⟨y, hy, rfl, hb1, M1, hM1, hown1⟩ := hrel
            obtain ⟨wq, rfl⟩ : ∃ y : World, y = wr := ⟨_, rfl⟩
            by_cases hlty : y < P.length
            · by_cases hxy : x = y
              · have hcc : ((x : Int) != (y : Int)) = false := by rw [hxy]; simp
                replace hxy := hid hxy
                go_wp2_with fail
                go_roundw
                case rel => exact ⟨y + 1, by omega, by go_num, hb1, M1, hM1, hown1⟩
                case measure => simp [intOf]; omega
              · have hcc : ((x : Int) != (y : Int)) = true := by simp; omega
                have eq : Ext w wq := ⟨eW.below.trans (hb1.mono (Nat.le_succ _))⟩
                have e0q : Ext w0 wq := Ext.trans ‹Ext w0 w› eq
                obtain ⟨bp, op, rfl, hcx⟩ := hP.at (w' := wq) hlt
                obtain ⟨bp2, op2, hpp, hcy⟩ := hP.at (w' := wq) hlty
                cases hpp
                have hbx := hb.out x hlt
                have hby := hb.out y hlty
                have hl1 := hid hM1.out.1
                have hrl := hid (hM1.out.rowlen hlt)
                obtain ⟨gr, mr, hu, hBg⟩ := rw_form hown1 (by rw [hvs.out, hl1.out]) (j := x) (by rw [hl1.out]; exact hlt) (by rw [hrl.out]; omega)
                rw [hrl.out] at hu
                obtain ⟨gd, rfl⟩ := rw_addr hown1 hvs.out (by omega)
                have tb : wq.cell? ⟨b, 0, none⟩ = some (.slice (some ⟨gd, 0, none⟩) P.length m0) := ow_cell hown1 (List.mem_append_right _ (List.Mem.head _)) (j := 0) (by omega)
                have tg := (rw_cell hown1 hvs.out hu).1
                have tq := (rw_at hown1 (by rw [hl1.out]; exact hlt) hu hrl.out hlty)
                obtain ⟨px, hpx⟩ : ∃ q, q = nth P x := ⟨_, rfl⟩
                obtain ⟨py, hpy⟩ : ∃ q, q = nth P y := ⟨_, rfl⟩
                rw [← hpx] at hcx hbx
                rw [← hpy] at hcy hby
                clear hpx hpy
                have hnew := rw_put hown1 (by rw [hvs.out, hl1.out]) (by rw [hl1.out]; exact hlt) hu hrl.out y (px + py)
                have hMn := hid (hM1.out.set hlt y (x := px + py) (by unfold I64; omega))
                obtain ⟨tq, tqf⟩ := tq
                go_upto_region 16 with fail
                have ed : Ext wq wq.drew := inferInstance
                have tb' := ed.cell tb
                have tg' := ed.cell tg
                have cx' := ed.cell hcx
                have cy' := ed.cell hcy
                have tq' := ed.cell tq
                have tqf' := ed.frozen tq tqf
                have hbd : Below (w.heap.size + 1) W wq.drew := hb1.drew
                have hnew' : Own (wq.drew.setCell ⟨gr, y, none⟩ (.int .i64 (px + py))) (w.heap.size + 1) (rowsOf 27 3 (.slice (some ⟨gd, 0, none⟩) P.length m0) vs (M1.set x ((row M1 x).set y (px + py))) ++ [boxRow 26 1 b [.slice (some ⟨gd, 0, none⟩) P.length m0]]) := hnew
                clear tb tg hcx hcy hnew ed hb1 tq tqf hown hown1
                refine wp_region_held_drew (S := fun w' => w'.cell? ⟨b, 0, none⟩ = some (.slice (some ⟨gd, 0, none⟩) P.length m0) ∧ w'.cell? ⟨gd, x, none⟩ = some (.slice (some ⟨gr, 0, none⟩) P.length mr) ∧ w'.cell? ⟨bp, op + x, none⟩ = some (.int .i64 px) ∧ w'.cell? ⟨bp, op + y, none⟩ = some (.int .i64 py)) (by kernel_rfl) ⟨tb', tg', cx', cy'⟩ (fun hHeld0 => ?_)
                generalize wq.drew = wd at *
                have hcu := hu
                replace hu := hid hu
                have hbW : Below (w.heap.size + 1) W (wd.setCell ⟨gr, y, none⟩ (.int .i64 (px + py))) := hbd.setCell hBg _
                have hSf : (wd.setCell ⟨gr, y, none⟩ (.int .i64 (px + py))).cell? ⟨b, 0, none⟩ = some (.slice (some ⟨gd, 0, none⟩) P.length m0) ∧ (wd.setCell ⟨gr, y, none⟩ (.int .i64 (px + py))).cell? ⟨gd, x, none⟩ = some (.slice (some ⟨gr, 0, none⟩) P.length mr) ∧ (wd.setCell ⟨gr, y, none⟩ (.int .i64 (px + py))).cell? ⟨bp, op + x, none⟩ = some (.int .i64 px) ∧ (wd.setCell ⟨gr, y, none⟩ (.int .i64 (px + py))).cell? ⟨bp, op + y, none⟩ = some (.int .i64 py) := by
                  have hne : bp ≠ gr := by
                    obtain ⟨b1, o1, h4, h5⟩ := hPc.out x hlt
                    cases h4
                    have h1 := World.block_lt_of_cell? w0 _ h5
                    have h2 := (‹Ext w0 w›).size
                    intro e
                    subst e
                    simp at h1
                    omega
                  refine ⟨ow_cell hnew' (List.mem_append_right _ (List.Mem.head _)) (j := 0) (by omega), (rw_cell hnew' hvs.out hcu).1, ?_, ?_⟩
                  · rw [World.cell?_setCell_far _ _ _ _ hne.symm]; exact cx'
                  · rw [World.cell?_setCell_far _ _ _ _ hne.symm]; exact cy'
                replace hSf := hid hSf
                clear hcu
                refine wpAnyH_take (i := 0) (v := .pointer (some ⟨b, 0, none⟩)) rfl (by kernel_rfl) (by kernel_rfl) (by kernel_rfl) (fun _ _ _ h => h) (Or.inl ⟨by rfl, by intro wx hx; go_simp⟩) (by assumption) ?_
                try simp only [List.getElem_toArray, List.getElem_cons_zero, Act.put, List.setIfInBounds_toArray, List.set_cons_zero, List.set_cons_succ]
                refine wpAnyH_take (i := 1) (v := .slice (some ⟨gd, 0, none⟩) P.length m0) rfl (by kernel_rfl) (by kernel_rfl) (by kernel_rfl) (fun _ _ _ h => h) (Or.inl ⟨by rfl, by intro wx hx; obtain ⟨_, _, _, _⟩ := hx; go_simp⟩) (by assumption) ?_
                try simp only [List.getElem_toArray, List.getElem_cons_succ, List.getElem_cons_zero, Act.put, List.setIfInBounds_toArray, List.set_cons_zero, List.set_cons_succ]
                refine wpAnyH_take (i := 2) (v := .int .i64 x) rfl (by kernel_rfl) (by kernel_rfl) (by kernel_rfl) (fun _ _ _ h => h) (Or.inl ⟨by rfl, by intro wx hx; go_simp⟩) (by assumption) ?_
                try simp only [List.getElem_toArray, List.getElem_cons_succ, List.getElem_cons_zero, Act.put, List.setIfInBounds_toArray, List.set_cons_zero, List.set_cons_succ]
                refine wpAnyH_take (i := 3) (v := .pointer (some ⟨gd, x, none⟩)) rfl (by kernel_rfl) (by kernel_rfl) (by kernel_rfl) (fun _ _ _ h => h) (Or.inl ⟨by rfl, by intro wx hx; go_simp⟩) (by assumption) ?_
                try simp only [List.getElem_toArray, List.getElem_cons_succ, List.getElem_cons_zero, Act.put, List.setIfInBounds_toArray, List.set_cons_zero, List.set_cons_succ]
                refine wpAnyH_take (i := 4) (v := .slice (some ⟨gr, 0, none⟩) P.length mr) rfl (by kernel_rfl) (by kernel_rfl) (by kernel_rfl) (fun _ _ _ h => h) (Or.inl ⟨by rfl, by intro wx hx; obtain ⟨_, _, _, _⟩ := hx; go_simp⟩) (by assumption) ?_
                try simp only [List.getElem_toArray, List.getElem_cons_succ, List.getElem_cons_zero, Act.put, List.setIfInBounds_toArray, List.set_cons_zero, List.set_cons_succ]
                refine wpAnyH_take (i := 5) (v := .int .i64 y) rfl (by kernel_rfl) (by kernel_rfl) (by kernel_rfl) (fun _ _ _ h => h) (Or.inl ⟨by rfl, by intro wx hx; go_simp⟩) (by assumption) ?_
                try simp only [List.getElem_toArray, List.getElem_cons_succ, List.getElem_cons_zero, Act.put, List.setIfInBounds_toArray, List.set_cons_zero, List.set_cons_succ]
                refine wpAnyH_take (i := 6) (v := .slice (some ⟨bp, op, none⟩) P.length cP) rfl (by kernel_rfl) (by kernel_rfl) (by kernel_rfl) (fun _ _ _ h => h) (Or.inl ⟨by rfl, by intro wx hx; go_simp⟩) (by assumption) ?_
                try simp only [List.getElem_toArray, List.getElem_cons_succ, List.getElem_cons_zero, Act.put, List.setIfInBounds_toArray, List.set_cons_zero, List.set_cons_succ]
                refine wpAnyH_take (i := 7) (v := .int .i64 x) rfl (by kernel_rfl) (by kernel_rfl) (by kernel_rfl) (fun _ _ _ h => h) (Or.inl ⟨by rfl, by intro wx hx; go_simp⟩) (by assumption) ?_
                try simp only [List.getElem_toArray, List.getElem_cons_succ, List.getElem_cons_zero, Act.put, List.setIfInBounds_toArray, List.set_cons_zero, List.set_cons_succ]
                refine wpAnyH_take (i := 8) (v := .pointer (some ⟨bp, op + x, none⟩)) rfl (by kernel_rfl) (by kernel_rfl) (by kernel_rfl) (fun _ _ _ h => h) (Or.inl ⟨by rfl, by intro wx hx; go_simp⟩) (by assumption) ?_
                try simp only [List.getElem_toArray, List.getElem_cons_succ, List.getElem_cons_zero, Act.put, List.setIfInBounds_toArray, List.set_cons_zero, List.set_cons_succ]
                refine wpAnyH_take (i := 9) (v := .int .i64 px) rfl (by kernel_rfl) (by kernel_rfl) (by kernel_rfl) (fun _ _ _ h => h) (Or.inl ⟨by rfl, by intro wx hx; obtain ⟨_, _, _, _⟩ := hx; go_simp⟩) (by assumption) ?_
                try simp only [List.getElem_toArray, List.getElem_cons_succ, List.getElem_cons_zero, Act.put, List.setIfInBounds_toArray, List.set_cons_zero, List.set_cons_succ]
                refine wpAnyH_take (i := 10) (v := .slice (some ⟨bp, op, none⟩) P.length cP) rfl (by kernel_rfl) (by kernel_rfl) (by kernel_rfl) (fun _ _ _ h => h) (Or.inl ⟨by rfl, by intro wx hx; go_simp⟩) (by assumption) ?_
                try simp only [List.getElem_toArray, List.getElem_cons_succ, List.getElem_cons_zero, Act.put, List.setIfInBounds_toArray, List.set_cons_zero, List.set_cons_succ]
                refine wpAnyH_take (i := 11) (v := .int .i64 y) rfl (by kernel_rfl) (by kernel_rfl) (by kernel_rfl) (fun _ _ _ h => h) (Or.inl ⟨by rfl, by intro wx hx; go_simp⟩) (by assumption) ?_
                try simp only [List.getElem_toArray, List.getElem_cons_succ, List.getElem_cons_zero, Act.put, List.setIfInBounds_toArray, List.set_cons_zero, List.set_cons_succ]
                refine wpAnyH_take (i := 12) (v := .pointer (some ⟨bp, op + y, none⟩)) rfl (by kernel_rfl) (by kernel_rfl) (by kernel_rfl) (fun _ _ _ h => h) (Or.inl ⟨by rfl, by intro wx hx; go_simp⟩) (by assumption) ?_
                try simp only [List.getElem_toArray, List.getElem_cons_succ, List.getElem_cons_zero, Act.put, List.setIfInBounds_toArray, List.set_cons_zero, List.set_cons_succ]
                refine wpAnyH_take (i := 13) (v := .int .i64 py) rfl (by kernel_rfl) (by kernel_rfl) (by kernel_rfl) (fun _ _ _ h => h) (Or.inl ⟨by rfl, by intro wx hx; obtain ⟨_, _, _, _⟩ := hx; go_simp⟩) (by assumption) ?_
                try simp only [List.getElem_toArray, List.getElem_cons_succ, List.getElem_cons_zero, Act.put, List.setIfInBounds_toArray, List.set_cons_zero, List.set_cons_succ]
                refine wpAnyH_take (i := 14) (v := .int .i64 (px + py)) rfl (by kernel_rfl) (by kernel_rfl) (by kernel_rfl) (fun _ _ _ h => h) (Or.inl ⟨by rfl, by intro wx hx; go_simp; exact IntWalk.i64_in _ (by omega)⟩) (by assumption) ?_
                try simp only [List.getElem_toArray, List.getElem_cons_succ, List.getElem_cons_zero, Act.put, List.setIfInBounds_toArray, List.set_cons_zero, List.set_cons_succ]
                refine wpAnyH_take (i := 15) (v := .pointer (some ⟨gr, y, none⟩)) rfl (by kernel_rfl) (by kernel_rfl) (by kernel_rfl) (fun _ _ _ h => h) (Or.inl ⟨by rfl, by intro wx hx; go_simp⟩) (by assumption) ?_
                try simp only [List.getElem_toArray, List.getElem_cons_succ, List.getElem_cons_zero, Act.put, List.setIfInBounds_toArray, List.set_cons_zero, List.set_cons_succ]
                refine wpAnyH_ready (rs := [16]) (by kernel_rfl) (by simp) ?_
                refine AllReadyH.cons rfl (fun K hK => ?_) AllReadyH.nil
                go_simp
                refine hK.out _ _ hSf.out (fun _ => ?_)
                clear hK K
                try simp only [List.getElem_toArray, List.getElem_cons_succ, List.getElem_cons_zero, Act.put, List.setIfInBounds_toArray, List.set_cons_zero, List.set_cons_succ]
                refine wpAnyH_done (by kernel_rfl) ?_ _
                go_wp2_with fail
                go_roundw
                case rel => exact ⟨y + 1, by omega, by go_num, hbW, _, hMn, hnew'⟩
                case measure => simp [intOf]; omega
            · have hyn : y = P.length := by omega
              replace hyn := hid hyn
              go_wp2
              go_roundw
              case rel => exact ⟨x + 1, by omega, by go_num, hb1, M1, hM1, hown1⟩
              case measure => simp [intOf]; omega
        · have hxn : x = P.length := by omega
          replace hxn := hid hxn
          have tb : wo.cell? ⟨b, 0, none⟩ = some (.slice d0 P.length m0) := ow_cell hown (List.mem_append_right _ (List.Mem.head _)) (j := 0) (by omega)
          have xr : wo.cell? ⟨w.heap.size, 0, none⟩ = some (.slice none 0 0) := (hb0.cell (p := ⟨w.heap.size, 0, none⟩) (Nat.lt_succ_self _)).trans x0
          have xrf : wo.frozen? ⟨w.heap.size, 0, none⟩ = false := (hb0.frozen (p := ⟨w.heap.size, 0, none⟩) (Nat.lt_succ_self _)).trans xf
          have hset : (wo.setCell ⟨w.heap.size, 0, none⟩ (.slice d0 P.length m0)).cell? ⟨w.heap.size, 0, none⟩ = some (.slice d0 P.length m0) := by go_simp
          have hown3 := (hown.left.setBelow (p := ⟨w.heap.size, 0, none⟩) (Nat.lt_succ_self _) (.slice d0 P.length m0)).mono (Nat.le_succ _)
          have eF : Ext w (wo.setCell ⟨w.heap.size, 0, none⟩ (.slice d0 P.length m0)) := ⟨eW.below.trans ((hb0.mono (Nat.le_succ _)).setCell (Nat.le_refl _) _)⟩
          go_wp2
          refine bodyPost_ret (v := .tuple #[.agg #[.slice d0 P.length m0], .bool true]) (by simp [results, Tryz.results62, go_sem, hset]) rfl ?_
          exact ⟨_, _, vs, M, rfl, hvs.out, hM.out, hown3, eF⟩
end Go.Proofs.YtllfchcocgdcjaaGreat

/- The metric that a draw makes: what it returns reads as rows of numbers. -/
namespace Go.Proofs.YtllfchcocgdcjaaGreat
open Go.RowKit

theorem TabOk.sq {M : List (List Int)} {n : Nat} (h : TabOk M n) : SqOk M n := ⟨h.1, fun r hr => by
  obtain ⟨k, hk, rfl⟩ := mem_iff_row.1 hr
  have hk' : k < n := by rw [← h.1]; exact hk
  refine ⟨(h.2 k hk').1, fun x hx => ?_⟩
  obtain ⟨q, hq, rfl⟩ := mem_iff_nth.1 hx
  rw [(h.2 k hk').1] at hq
  have := (h.2 k hk').2 q hq
  unfold cell at this
  unfold I64
  omega⟩
theorem MOk.short {M : List (List Int)} (h : MOk M) : ShortRows M.length ∧ (∀ r ∈ M, Short r.length) ∧ ∀ r ∈ M, ∀ x ∈ r, I64 x :=
  ⟨by have := h.1; unfold ShortRows; omega, fun r hr => by have := (h.2 r hr).2.1; unfold Short; omega, fun r hr => (h.2 r hr).2.2⟩
/-- own rows read as a metric -/
theorem met_own {w : World} {B n m : Nat} {d : Option Addr} {vs : List Value} {M : List (List Int)} {R : List Row} (h : Own w B (rowsOf 27 3 (.slice d n m) vs M ++ R)) (hv : vs.length = M.length) (hM : MOk M) : IsMet w (.agg #[.slice d n m]) M :=
  ⟨_, rfl, Own.readsAll h hv hM.short.1 hM.short.2.1 hM.short.2.2⟩

set_option maxHeartbeats 6400000 in
set_option maxRecDepth 100000 in
theorem metricD_any {w0 w : World} [Ext w0 w] {vc : Value} {nb : Nat} (hc : IsBytes w0 vc nb) {B c : Nat} {a : Int} {R : List Row} (own : CurAt w B c vc a R) (hwB : w0.heap.size ≤ B) (ha : 0 ≤ a) (ha2 : a ≤ 1000000) :
    Calls Tryz.prog 34 #[.pointer (some ⟨c, 0, none⟩)] w fun e w' => ∃ d0 m0 vs M a', e = .returned (.agg #[.slice d0 (M : List (List Int)).length m0]) ∧ vs.length = M.length ∧ MOk M ∧ a ≤ a' ∧ a' ≤ a + 300 ∧ CurAt w' B c vc a' (rowsOf 27 3 (.slice d0 M.length m0) vs M ++ R) ∧ Below B w w' := by
  have hBw := own.size
  have hE : ∀ u, Below B w u → Ext w0 u := fun u h => ⟨(‹Ext w0 w›).below.trans (h.mono hwB)⟩
  replace hE := hid hE
  go_enter Tryz.func34, Tryz.ntmps34
  go_upto_region 1 with fail
  have own1 := own.box 26 1 #[.slice none 0 0] hBw rfl
  have b1' : Below B w (w.alloc (.cells #[.slice none 0 0] 26)) := (Below.refl B w).alloc hBw _
  obtain ⟨r, hr⟩ : ∃ r, r = w.heap.size := ⟨_, rfl⟩
  rw [← hr] at own1 ⊢
  replace hr := hid hr
  generalize w.alloc (.cells #[.slice none 0 0] 26) = w1 at *
  have e1 : Ext w0 w1 := hE.out _ b1'
  clear own
  obtain ⟨a1, ha1⟩ : ∃ z, z = a := ⟨_, rfl⟩
  rw [← ha1] at own1
  go_wp2_with fail
  refine (pick_any (w0 := w0) hc own1 hwB (by omega) (by omega)).mono ?_
  rintro e w2 ⟨x2, a2, rfl, h2_0, h2_1, h2_2, h2_3, h2_4, own2, b2⟩
  have b2' := b1'.trans b2
  have e2 : Ext w0 w2 := hE.out _ b2'
  have hx2 := h2_2 (by omega)
  clear own1 b1' b2 e1 h2_1 h2_2
  by_cases hk0 : x2 = 0
  · skip
    go_wp2_with fail
    refine (pick_any (w0 := w0) hc own2 hwB (by omega) (by omega)).mono ?_
    rintro e w3 ⟨x3, a3, rfl, h3_0, h3_1, h3_2, h3_3, h3_4, own3, b3⟩
    have b3' := b2'.trans b3
    have e3 : Ext w0 w3 := hE.out _ b3'
    have hx3 := h3_2 (by omega)
    clear own2 b2' b3 e2 h3_1 h3_2
    go_wp2_with fail
    refine (pick_any (w0 := w0) hc own3 hwB (by omega) (by omega)).mono ?_
    rintro e w4 ⟨x4, a4, rfl, h4_0, h4_1, h4_2, h4_3, h4_4, own4, b4⟩
    have b4' := b3'.trans b4
    have e4 : Ext w0 w4 := hE.out _ b4'
    have hx4 := h4_2 (by omega)
    clear own3 b3' b4 e3 h4_1 h4_2
    go_wp2_with fail
    refine (pick_any (w0 := w0) hc own4 hwB (by omega) (by omega)).mono ?_
    rintro e w5 ⟨x5, a5, rfl, h5_0, h5_1, h5_2, h5_3, h5_4, own5, b5⟩
    have b5' := b4'.trans b5
    have e5 : Ext w0 w5 := hE.out _ b5'
    have hx5 := h5_2 (by omega)
    clear own4 b4' b5 e4 h5_1 h5_2
    have own6 := own5.lit (e := 3) (n := 4) (cs := #[.int .i64 x3, .int .i64 (4 + x4), .int .i64 9, .int .i64 (14 + x5)]) [x3, 4 + x4, 9, 14 + x5] own5.size rfl rfl (by simp)
    have b6' : Below B w (w5.alloc (.cells #[.int .i64 x3, .int .i64 (4 + x4), .int .i64 9, .int .i64 (14 + x5)] 3)) := b5'.alloc own5.size _
    have e6 : Ext w0 (w5.alloc (.cells #[.int .i64 x3, .int .i64 (4 + x4), .int .i64 9, .int .i64 (14 + x5)] 3)) := hE.out _ b6'
    go_wp2_with fail
    refine (pick_any (w0 := w0) hc own6 hwB (by omega) (by omega)).mono ?_
    rintro e w7 ⟨x7, a7, rfl, h7_0, h7_1, h7_2, h7_3, h7_4, own7, b7⟩
    have b7' := b6'.trans b7
    have hx7 := h7_2 (by omega)
    clear own5 own6 b6' b7 e5 e6 h7_1 h7_2
    obtain ⟨n, hn⟩ : ∃ n : Nat, (n : Int) = 2 + x7 := ⟨(2 + x7).toNat, by omega⟩
    have hPI := own7.rows.reads (by unfold Short; simp) (by
      intro x hx
      simp at hx
      unfold I64
      omega)
    have hPT := hPI.take (k := n) (by simp; omega)
    have hPl : ([x3, 4 + x4, 9, 14 + x5].take n).length = n := by rw [List.length_take]; simp; omega
    have hPb : ∀ j, j < ([x3, 4 + x4, 9, 14 + x5].take n).length → 0 ≤ nth ([x3, 4 + x4, 9, 14 + x5].take n) j ∧ nth ([x3, 4 + x4, 9, 14 + x5].take n) j ≤ 100000 := by
      intro j hj
      have := List.mem_of_mem_take (nth_mem hj)
      simp at this
      omega
    generalize [x3, 4 + x4, 9, 14 + x5].take n = P at *
    have own8 := own7.drop
    clear own7 hPI
    replace hPl := hid hPl
    replace hPb := hid hPb
    have hn4 : n ≤ 4 := by omega
    have hn2 := hid hn
    have hn0 : (0 : Int) ≤ 2 + x7 ∧ 2 + x7 ≤ 4 := by omega
    have htn : (2 + x7).toNat = n := by omega
    go_wp2_with fail
    refine (l6Line_any (w0 := w7) (w := w7) hPT (by rw [hPl.out]; omega) hPb.out).mono ?_
    rintro e w9 ⟨d1, m1, vs1, M1, rfl, hvs1, hM1, hown1, he1⟩
    rw [hPl.out] at hvs1 hM1 hown1
    rw [hPl.out]
    have own9 := own8.join hown1 own8.size
    have b9' := b7'.trans (he1.below.mono own8.size)
    have own10 := own9.perm List.perm_middle.symm
    have hsq := hid hM1.sq
    have rb9 := (own10.at (.head _) (j := 0) (by omega))
    obtain ⟨rb9, rf9⟩ := rb9
    have rb9' : w9.cell? ⟨r, 0, none⟩ = some (.slice none 0 0) := rb9
    have hs9 := CurAt.set (A := []) own10 0 (.slice d1 n m1)
    have hz9 : (w9.setCell ⟨r, 0, none⟩ (.slice d1 n m1)).cell? ⟨r, 0, none⟩ = some (.slice d1 n m1) := by go_simp
    have own9 := hs9.1.drop
    have b9 := (b9').setCell hs9.2 (p := ⟨r, 0, none⟩) (.slice d1 n m1)
    clear rb9 hs9
    go_wp2_with fail
    refine bodyPost_ret (v := .agg #[.slice d1 n m1]) (by simp [results, Tryz.results34, go_sem, hz9]) rfl ?_
    have hL9 := hsq.out.1
    exact ⟨_, _, _, M1, a7, by rw [hL9], (by rw [hvs1, hsq.out.1]), (hsq.out.ok (by omega)), by omega, by omega, by rw [hL9]; exact own9, b9⟩
  · by_cases hk1 : x2 = 1
    · skip
      go_wp2_with fail
      refine (pick_any (w0 := w0) hc own2 hwB (by omega) (by omega)).mono ?_
      rintro e w3 ⟨x3, a3, rfl, h3_0, h3_1, h3_2, h3_3, h3_4, own3, b3⟩
      have b3' := b2'.trans b3
      have e3 : Ext w0 w3 := hE.out _ b3'
      have hx3 := h3_2 (by omega)
      clear own2 b2' b3 e2 h3_1 h3_2
      go_wp2_with fail
      refine (pick_any (w0 := w0) hc own3 hwB (by omega) (by omega)).mono ?_
      rintro e w4 ⟨x4, a4, rfl, h4_0, h4_1, h4_2, h4_3, h4_4, own4, b4⟩
      have b4' := b3'.trans b4
      have e4 : Ext w0 w4 := hE.out _ b4'
      have hx4 := h4_2 (by omega)
      clear own3 b3' b4 e3 h4_1 h4_2
      obtain ⟨n, hn⟩ : ∃ n : Nat, (n : Int) = 2 + x3 := ⟨(2 + x3).toNat, by omega⟩
      rw [← hn]
      have hn7 : n ≤ 7 := by omega
      have hd1 : I64 (1 + x4) := by unfold I64; omega
      replace hn := hid hn
      go_wp2_with fail
      refine (l6Uniform_any (n := n) (d := 1 + x4) (by omega) w4).mono ?_
      rintro e w5 ⟨d0, m0, vs, rfl, hvs, hown, he⟩
      have hM0 : SqOk (uniTab (fun x y => if x = y then 0 else (1 + x4)) n n) n := SqOk.uni hd1
      generalize uniTab (fun x y => if x = y then 0 else (1 + x4)) n n = M1 at *
      have own5 := own4.join hown own4.size
      have b5' := b4'.trans (he.below.mono own4.size)
      have own10 := own5.perm List.perm_middle.symm
      have hsq := hid hM0
      have rb9 := (own10.at (.head _) (j := 0) (by omega))
      obtain ⟨rb9, rf9⟩ := rb9
      have rb9' : w5.cell? ⟨r, 0, none⟩ = some (.slice none 0 0) := rb9
      have hs9 := CurAt.set (A := []) own10 0 (.slice d0 n m0)
      have hz9 : (w5.setCell ⟨r, 0, none⟩ (.slice d0 n m0)).cell? ⟨r, 0, none⟩ = some (.slice d0 n m0) := by go_simp
      have own9 := hs9.1.drop
      have b9 := (b5').setCell hs9.2 (p := ⟨r, 0, none⟩) (.slice d0 n m0)
      clear rb9 hs9
      go_wp2_with fail
      refine bodyPost_ret (v := .agg #[.slice d0 n m0]) (by simp [results, Tryz.results34, go_sem, hz9]) rfl ?_
      have hL9 := hsq.out.1
      exact ⟨_, _, _, M1, a4, by rw [hL9], (by rw [hvs, hsq.out.1]), (hsq.out.ok (by omega)), by omega, by omega, by rw [hL9]; exact own9, b9⟩
    · by_cases hk2 : x2 = 2
      · skip
        go_wp2_with fail
        refine (pick_any (w0 := w0) hc own2 hwB (by omega) (by omega)).mono ?_
        rintro e w3 ⟨x3, a3, rfl, h3_0, h3_1, h3_2, h3_3, h3_4, own3, b3⟩
        have b3' := b2'.trans b3
        have e3 : Ext w0 w3 := hE.out _ b3'
        have hx3 := h3_2 (by omega)
        clear own2 b2' b3 e2 h3_1 h3_2
        go_wp2_with fail
        refine (pick_any (w0 := w0) hc own3 hwB (by omega) (by omega)).mono ?_
        rintro e w4 ⟨x4, a4, rfl, h4_0, h4_1, h4_2, h4_3, h4_4, own4, b4⟩
        have b4' := b3'.trans b4
        have e4 : Ext w0 w4 := hE.out _ b4'
        have hx4 := h4_2 (by omega)
        clear own3 b3' b4 e3 h4_1 h4_2
        go_wp2_with fail
        refine (pick_any (w0 := w0) hc own4 hwB (by omega) (by omega)).mono ?_
        rintro e w5 ⟨x5, a5, rfl, h5_0, h5_1, h5_2, h5_3, h5_4, own5, b5⟩
        have b5' := b4'.trans b5
        have e5 : Ext w0 w5 := hE.out _ b5'
        have hx5 := h5_2 (by omega)
        clear own4 b4' b5 e4 h5_1 h5_2
        have own6 := own5.lit (e := 3) (n := 4) (cs := #[.int .i64 (1 + x3), .int .i64 (1 + x4), .int .i64 (1 + x5), .int .i64 2]) [1 + x3, 1 + x4, 1 + x5, 2] own5.size rfl rfl (by simp)
        have b6' : Below B w (w5.alloc (.cells #[.int .i64 (1 + x3), .int .i64 (1 + x4), .int .i64 (1 + x5), .int .i64 2] 3)) := b5'.alloc own5.size _
        have e6 : Ext w0 (w5.alloc (.cells #[.int .i64 (1 + x3), .int .i64 (1 + x4), .int .i64 (1 + x5), .int .i64 2] 3)) := hE.out _ b6'
        go_wp2_with fail
        refine (pick_any (w0 := w0) hc own6 hwB (by omega) (by omega)).mono ?_
        rintro e w7 ⟨x7, a7, rfl, h7_0, h7_1, h7_2, h7_3, h7_4, own7, b7⟩
        have b7' := b6'.trans b7
        have hx7 := h7_2 (by omega)
        clear own5 own6 b6' b7 e5 e6 h7_1 h7_2
        obtain ⟨n, hn⟩ : ∃ n : Nat, (n : Int) = 2 + x7 := ⟨(2 + x7).toNat, by omega⟩
        have hPI := own7.rows.reads (by unfold Short; simp) (by
          intro x hx
          simp at hx
          unfold I64
          omega)
        have hPT := hPI.take (k := n) (by simp; omega)
        have hPl : ([1 + x3, 1 + x4, 1 + x5, 2].take n).length = n := by rw [List.length_take]; simp; omega
        have hPb : ∀ j, j < ([1 + x3, 1 + x4, 1 + x5, 2].take n).length → 1 ≤ nth ([1 + x3, 1 + x4, 1 + x5, 2].take n) j ∧ nth ([1 + x3, 1 + x4, 1 + x5, 2].take n) j ≤ 49 := by
          intro j hj
          have := List.mem_of_mem_take (nth_mem hj)
          simp at this
          omega
        generalize [1 + x3, 1 + x4, 1 + x5, 2].take n = P at *
        have own8 := own7.drop
        clear own7 hPI
        replace hPl := hid hPl
        replace hPb := hid hPb
        have hn4 : n ≤ 4 := by omega
        have hn2 : 2 ≤ n := by omega
        have hn0 : (0 : Int) ≤ 2 + x7 ∧ 2 + x7 ≤ 4 := by omega
        have htn : (2 + x7).toNat = n := by omega
        go_wp2_with fail
        refine (starMetric_any (w0 := w7) (w := w7) hPT (by rw [hPl.out]; omega) (by rw [hPl.out]; omega) hPb.out).mono ?_
        rintro e w9 ⟨d1, m1, vs1, M1, rfl, hvs1, hM1, hown1, he1⟩
        rw [hPl.out] at hvs1 hM1 hown1
        rw [hPl.out]
        have own9 := own8.join hown1 own8.size
        have b9' := b7'.trans (he1.below.mono own8.size)
        have hsq := hid hM1
        have own10 := own9.box 26 1 #[.slice d1 n m1] own9.size rfl
        have b10' := b9'.alloc own9.size (.cells #[.slice d1 n m1] 26)
        go_upto_region 8 with fail
        obtain ⟨tp, htp⟩ : ∃ z, z = w9.heap.size := ⟨_, rfl⟩
        rw [← htp] at own10 ⊢
        generalize w9.alloc (.cells #[.slice d1 n m1] 26) = w10 at *
        replace htp := hid htp
        have ctp : w10.cell? ⟨tp, 0, none⟩ = some (.slice d1 n m1) := (own10.at (.head _) (j := 0) (by omega)).1
        have own11 := own10.drop.perm List.perm_middle.symm
        clear own8 own9 own10 hown1 he1
        have rb9 := (own11.at (.head _) (j := 0) (by omega))
        obtain ⟨rb9, rf9⟩ := rb9
        have rb9' : w10.cell? ⟨r, 0, none⟩ = some (.slice none 0 0) := rb9
        have hs9 := CurAt.set (A := []) own11 0 (.slice d1 n m1)
        have hz9 : (w10.setCell ⟨r, 0, none⟩ (.slice d1 n m1)).cell? ⟨r, 0, none⟩ = some (.slice d1 n m1) := by go_simp
        have own9 := hs9.1.drop
        have b9 := (b10').setCell hs9.2 (p := ⟨r, 0, none⟩) (.slice d1 n m1)
        clear rb9 hs9
        go_wp2_with fail
        refine bodyPost_ret (v := .agg #[.slice d1 n m1]) (by simp [results, Tryz.results34, go_sem, hz9]) rfl ?_
        have hL9 := hsq.out.1
        exact ⟨_, _, _, M1, a7, by rw [hL9], (by rw [hvs1, hsq.out.1]), (hsq.out.ok (by omega)), by omega, by omega, by rw [hL9]; exact own9, b9⟩
      · by_cases hk3 : x2 = 3
        · go_wp2_with fail
          refine (table6_any (w0 := w0) hc own2 hwB (by omega) (by omega)).mono ?_
          rintro e w3 ⟨d0, m0, vs, M, a3, rfl, hvs, hM, h31, h32, own3, b3⟩
          have b3' := b2'.trans b3
          have own10 := own3.perm List.perm_middle.symm
          have rb9 := (own10.at (.head _) (j := 0) (by omega))
          obtain ⟨rb9, rf9⟩ := rb9
          have rb9' : w3.cell? ⟨r, 0, none⟩ = some (.slice none 0 0) := rb9
          have hs9 := CurAt.set (A := []) own10 0 (.slice d0 M.length m0)
          have hz9 : (w3.setCell ⟨r, 0, none⟩ (.slice d0 M.length m0)).cell? ⟨r, 0, none⟩ = some (.slice d0 M.length m0) := by go_simp
          have own9 := hs9.1.drop
          have b9 := (b3').setCell hs9.2 (p := ⟨r, 0, none⟩) (.slice d0 M.length m0)
          clear rb9 hs9
          go_wp2_with fail
          refine bodyPost_ret (v := .agg #[.slice d0 M.length m0]) (by simp [results, Tryz.results34, go_sem, hz9]) rfl ?_
          have hL9 := (rfl : M.length = M.length)
          exact ⟨_, _, _, M, a3, by rw [hL9], hvs, hM, by omega, by omega, by rw [hL9]; exact own9, b9⟩
        · go_wp2_with fail
          refine (table6_any (w0 := w0) hc own2 hwB (by omega) (by omega)).mono ?_
          rintro e w3 ⟨d0, m0, vs, M, a3, rfl, hvs, hM, h31, h32, own3, b3⟩
          have b3' := b2'.trans b3
          have hmet := met_own own3.rows hvs hM
          go_wp2_with fail
          with_reducible refine (l6Close_any (w0 := w3) (w := w3) hmet hM).mono ?_
          rintro e w4 ⟨d4, m4, vs4, N, rfl, hvs4, hN, hown4, e4⟩
          have own4 := own3.join hown4 own3.size
          have b4' := b3'.trans (e4.below.mono own3.size)
          have own5 := own4.box 26 1 #[.slice d4 N.length m4] own4.size rfl
          have b5' := b4'.alloc own4.size (.cells #[.slice d4 N.length m4] 26)
          go_upto_region 12 with fail
          obtain ⟨tp, htp⟩ : ∃ z, z = w4.heap.size := ⟨_, rfl⟩
          rw [← htp] at own5 ⊢
          generalize w4.alloc (.cells #[.slice d4 N.length m4] 26) = w5 at *
          replace htp := hid htp
          have ctp : w5.cell? ⟨tp, 0, none⟩ = some (.slice d4 N.length m4) := (own5.at (.head _) (j := 0) (by omega)).1
          have own11 := (own5.drop.sub (List.Sublist.append_left (List.sublist_append_right (rowsOf 27 3 (.slice d0 M.length m0) vs M) _) (rowsOf 27 3 (.slice d4 N.length m4) vs4 N))).perm List.perm_middle.symm
          clear own2 own3 own4 own5 hown4 e4 hmet
          have rb9 := (own11.at (.head _) (j := 0) (by omega))
          obtain ⟨rb9, rf9⟩ := rb9
          have rb9' : w5.cell? ⟨r, 0, none⟩ = some (.slice none 0 0) := rb9
          have hs9 := CurAt.set (A := []) own11 0 (.slice d4 N.length m4)
          have hz9 : (w5.setCell ⟨r, 0, none⟩ (.slice d4 N.length m4)).cell? ⟨r, 0, none⟩ = some (.slice d4 N.length m4) := by go_simp
          have own9 := hs9.1.drop
          have b9 := (b5').setCell hs9.2 (p := ⟨r, 0, none⟩) (.slice d4 N.length m4)
          clear rb9 hs9
          go_wp2_with fail
          refine bodyPost_ret (v := .agg #[.slice d4 N.length m4]) (by simp [results, Tryz.results34, go_sem, hz9]) rfl ?_
          have hL9 := (rfl : N.length = N.length)
          exact ⟨_, _, _, N, a3, by rw [hL9], hvs4, hN, by omega, by omega, by rw [hL9]; exact own9, b9⟩
end Go.Proofs.YtllfchcocgdcjaaGreat

/- Configurations and sequences that draws make for servers. -/
namespace Go.Proofs.YtllfchcocgdcjaaGreat
open Go.RowKit

theorem sortL_i64 {X : List Int} (h : ∀ x ∈ X, -1 ≤ x ∧ x ≤ 65535) : ∀ x ∈ sortL X, -1 ≤ x ∧ x ≤ 65535 := fun x hx => h x ((sortL_perm X).mem_iff.1 hx)
theorem app_i64 {X : List Int} {y : Int} (h : ∀ x ∈ X, -1 ≤ x ∧ x ≤ 65535) (hy : -1 ≤ y ∧ y ≤ 65535) : ∀ x ∈ X ++ [y], -1 ≤ x ∧ x ≤ 65535 := fun x hx => by
  rcases List.mem_append.1 hx with h1 | h1
  · exact h x h1
  · rw [List.mem_singleton.1 h1]; exact hy
theorem small_i64 {X : List Int} (h : ∀ x ∈ X, -1 ≤ x ∧ x ≤ 65535) : ∀ x ∈ X, I64 x := fun x hx => by have := h x hx; unfold I64; omega

set_option maxHeartbeats 3200000 in
set_option maxRecDepth 100000 in
theorem config_any {w0 w : World} [Ext w0 w] {vc : Value} {nb : Nat} (hc : IsBytes w0 vc nb) {B c : Nat} {a : Int} {R : List Row} (own : CurAt w B c vc a R) (hwB : w0.heap.size ≤ B) (ha : 0 ≤ a) (ha2 : a ≤ 2000000) {n : Int} {k : Nat} (hn : 0 ≤ n ∧ n ≤ 1000) (hk : k ≤ 10) :
    Calls Tryz.prog 35 #[.pointer (some ⟨c, 0, none⟩), .int .i64 n, .int .i64 k] w fun e w' => ∃ v X a', e = .returned v ∧ X.length ≤ 20 ∧ (∀ x ∈ X, -1 ≤ x ∧ x ≤ 65535) ∧ a ≤ a' ∧ a' ≤ a + 30 ∧ CurAt w' B c vc a' (intRowOf 3 v X :: R) ∧ Below B w w' := by
  have hBw := own.size
  have hE : ∀ u, Below B w u → Ext w0 u := fun u h => ⟨(‹Ext w0 w›).below.trans (h.mono hwB)⟩
  replace hE := hid hE
  go_enter Tryz.func35, Tryz.ntmps35
  go_upto_region 2 with fail
  have own1 := own.lit (e := 3) (n := 0) (cs := #[]) [] own.size rfl rfl (by simp)
  have b1' : Below B w (w.alloc (.cells #[] 3)) := (Below.refl B w).alloc hBw _
  generalize w.alloc (.cells #[] 3) = w1 at *
  generalize w.heap.size = gl at *
  have e1 : Ext w0 w1 := hE.out _ b1'
  clear own
  go_wp2
  go_loopw [7, 8] (fun v t wr => ∃ i : Nat, i ≤ k ∧ t = .int .i64 i ∧ ∃ X ax, Hid (X.length = i) ∧ (∀ x ∈ X, -1 ≤ x ∧ x ≤ 65535) ∧ a ≤ ax ∧ ax ≤ a + 2 * i ∧ Below B w wr ∧ CurAt wr B c vc ax (intRowOf 3 v X :: R)) (fun _ t _ => k - (intOf t).toNat)
  case atStart => exact ⟨0, by omega, rfl, [], a, hid rfl, by simp, by omega, by omega, b1', own1⟩
  case round =>
    obtain ⟨i, hi, rfl, X, a2, hXl, hXb, ha21, ha22, b2', own2⟩ := hrel
    obtain ⟨w2, rfl⟩ : ∃ y : World, y = wr := ⟨_, rfl⟩
    obtain ⟨vd, vm, rfl⟩ := ow_ints own2.rows
    have e2 : Ext w0 w2 := hE.out _ b2'
    clear own1 b1' e1
    have hX10 := hXl.out
    by_cases hlt : i < k
    · skip
      go_wp2_with fail
      refine (pick_any (w0 := w0) hc own2 hwB (by omega) (by omega)).mono ?_
      rintro e w3 ⟨x3, a3, rfl, h3_0, h3_1, h3_2, h3_3, h3_4, own3, b3⟩
      have b3' := b2'.trans b3
      have e3 : Ext w0 w3 := hE.out _ b3'
      clear own2 b2' b3 e2
      obtain ⟨s3, h3⟩ := own3
      have hB3 := CurAt.size ⟨s3, h3⟩
      have h3' := h3.perm (List.Perm.swap _ _ _)
      clear h3 hX10
      have hXs : X.length ≤ 10 := by rw [hXl.out]; omega
      go_wp2_with (at_builtin; refine wpList_append1 rfl _ _ _ rfl elemInt rfl h3' hB3 rfl rfl (by omega) (by omega) ?_; intro v1 w6 ho hb6)
      go_roundw
      case rel =>
        exact ⟨i + 1, by omega, by go_num, X ++ [x3], a3, hid (by rw [List.length_append, hXl.out]; rfl), app_i64 hXb (by omega), by omega, by omega, b3'.trans hb6, ⟨s3, (ow_snoc ho rfl).perm (List.Perm.swap _ _ _)⟩⟩
      case measure => simp [intOf]; omega
    · have hik : i = k := by omega
      replace hik := hid hik
      clear hX10
      have hXs : X.length ≤ 10 := by rw [hXl.out]; omega
      have hXi : IsInts w2 (.slice vd X.length vm) X := own2.rows.reads (by unfold Short; omega) (small_i64 hXb)
      go_wp2_with fail
      with_reducible refine (l6Sort_any (w0 := w2) (w := w2) hXi (by omega)).mono ?_
      rintro e w3 ⟨u, rfl, own3', e3'⟩
      have own3 : CurAt w3 B c vc a2 (intRowOf 3 u (sortL X) :: R) := (own2.join own3' own2.size).sub ((List.sublist_cons_self _ _).cons_cons _)
      have b3' : Below B w w3 := b2'.trans (e3'.below.mono own2.size)
      have e3 : Ext w0 w3 := hE.out _ b3'
      have hYb := sortL_i64 hXb
      have hYs : (sortL X).length ≤ 10 := by rw [sortL_len]; exact hXs
      clear own2 own3' e3' b2' e2 hXi
      generalize sortL X = Y at *
      obtain ⟨ud, um, rfl⟩ := ow_ints own3.rows
      go_wp2_with fail
      refine (pick_any (w0 := w0) hc own3 hwB (by omega) (by omega)).mono ?_
      rintro e w4 ⟨x4, a4, rfl, h4_0, h4_1, h4_2, h4_3, h4_4, own4, b4⟩
      have b4' := b3'.trans b4
      have e4 : Ext w0 w4 := hE.out _ b4'
      clear own3 b3' b4 e3
      clear h4_1
      have hB4 := own4.size
      have hYi : IsInts w4 (.slice ud Y.length um) Y := own4.rows.reads (by unfold Short; omega) (small_i64 hYb)
      by_cases hq0 : x4 = 0
      · obtain ⟨s4, h4⟩ := own4
        have h4' := h4.perm (List.Perm.swap _ _ _)
        go_wp2_with (at_builtin; refine wpList_append1 rfl _ _ _ rfl elemInt rfl h4' hB4 rfl rfl (by omega) (by omega) ?_; intro v1 w6 ho hb6)
        go_ret
        exact ⟨_, Y ++ [n], a4, rfl, by simp; omega, app_i64 hYb (by omega), by omega, by omega, ⟨s4, (ow_snoc ho rfl).perm (List.Perm.swap _ _ _)⟩, b4'.trans hb6⟩
      · by_cases hq1 : x4 = 1
        · have hBz : B ≤ (w4.alloc (.cells #[.int .i64 (-1)] 3)).heap.size := Nat.le_trans hB4 (Ext.size (a := w4) inferInstance)
          have bz : Below B w (w4.alloc (.cells #[.int .i64 (-1)] 3)) := b4'.alloc hB4 _
          have hYz : IsInts (w4.alloc (.cells #[.int .i64 (-1)] 3)) (.slice ud Y.length um) Y := hYi.ext
          obtain ⟨s4, h4⟩ := own4
          have hz := h4.lit 3 1 1 #[.int .i64 (-1)] hB4 (by unfold maxLen; omega) rfl
          go_wp2_with (at_builtin; refine wpList_appendInts rfl _ _ _ rfl elemInt rfl hz hBz rfl hYz (by omega) ?_; intro v1 w6 ho hb6)
          go_ret
          refine ⟨_, -1 :: Y, a4, rfl, by simp; omega, ?_, by omega, by omega, ⟨s4, ?_⟩, bz.trans hb6⟩
          · intro x hx
            rcases List.mem_cons.1 hx with h1 | h1
            · omega
            · exact hYb x h1
          · have h1 : Own w6 B (intRowOf 3 v1 (-1 :: Y) :: curRow c vc a4 s4 :: intRowOf 3 (.slice ud Y.length um) Y :: R) := by
              have e : (intRowOf 3 v1 (-1 :: Y) : Row) = ⟨3, 1, v1, 1 + Y.length, #[Value.int .i64 (-1)].toList ++ Y.map (Value.int .i64)⟩ := by
                unfold intRowOf
                rw [List.length_cons, Nat.add_comm]
                rfl
              rw [e]
              exact ho
            exact (h1.perm (List.Perm.swap _ _ _)).sub (((List.sublist_cons_self _ _).cons_cons _).cons_cons _)
        · by_cases hq2 : x4 = 2
          · obtain ⟨s4, h4⟩ := own4
            have h4' := h4.perm (List.Perm.swap _ _ _)
            go_wp2_with (at_builtin; refine wpList_append1 rfl _ _ _ rfl elemInt rfl h4' hB4 rfl rfl (by omega) (by omega) ?_; intro v1 w6 ho hb6)
            go_ret
            exact ⟨_, Y ++ [0], a4, rfl, by simp; omega, app_i64 hYb (by omega), by omega, by omega, ⟨s4, (ow_snoc ho rfl).perm (List.Perm.swap _ _ _)⟩, b4'.trans hb6⟩
          · by_cases hq3 : x4 = 3
            · have own5 := own4.drop.lit (e := 3) (n := 0) (cs := #[]) [] hB4 rfl rfl (by simp)
              have b5' : Below B w (w4.alloc (.cells #[] 3)) := b4'.alloc hB4 _
              go_wp2_with fail
              go_ret
              exact ⟨_, [], a4, rfl, by simp, by simp, by omega, by omega, own5, b5'⟩
            · go_wp2_with fail
              go_ret
              exact ⟨_, Y, a4, rfl, by omega, hYb, by omega, by omega, own4, b4'⟩
end Go.Proofs.YtllfchcocgdcjaaGreat

