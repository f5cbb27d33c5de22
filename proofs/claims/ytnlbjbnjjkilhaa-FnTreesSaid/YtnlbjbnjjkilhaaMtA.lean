/- Tables of distances that draws make: what they return reads as rows of numbers. -/
import Derived.Test.YtnlbjbnjjkilhaaProb
import Derived.Test.YtnlbjbnjjkilhaaPackA
namespace Go.Proofs.Ytnlbjbnjjkilhaa
open Go.RowKit


/-- rows that are not too few for a table, numbers of a machine -/
def MOk (M : List (List Int)) : Prop := M.length ≤ 7 ∧ ∀ r ∈ M, M.length ≤ r.length ∧ r.length ≤ 8 ∧ ∀ x ∈ r, I64 x
/-- n rows of n numbers each -/
def SqOk (M : List (List Int)) (n : Nat) : Prop := M.length = n ∧ ∀ r ∈ M, r.length = n ∧ ∀ x ∈ r, I64 x
theorem SqOk.ok {M : List (List Int)} {n : Nat} (h : SqOk M n) (hn : n ≤ 7) : MOk M := ⟨by rw [h.1]; exact hn, fun r hr => by
  obtain ⟨h1, h2⟩ := h.2 r hr
  rw [h.1]
  exact ⟨by omega, by omega, h2⟩⟩
theorem MOk.nil : MOk [] := ⟨by simp, by simp⟩
theorem set_i64 {r : List Int} {q : Nat} {x : Int} (h : ∀ y ∈ r, I64 y) (hx : I64 x) : ∀ y ∈ r.set q x, I64 y := by
  intro y hy
  rcases List.mem_or_eq_of_mem_set hy with h1 | h1
  · exact h y h1
  · rw [h1]; exact hx
theorem SqOk.set {M : List (List Int)} {n j : Nat} (h : SqOk M n) (hj : j < n) (q : Nat) {x : Int} (hx : I64 x) : SqOk (M.set j ((row M j).set q x)) n := by
  refine ⟨by rw [List.length_set]; exact h.1, fun r hr => ?_⟩
  rcases List.mem_or_eq_of_mem_set hr with h1 | h1
  · exact h.2 r h1
  · obtain ⟨h2, h3⟩ := h.2 _ (row_mem (xss := M) (k := j) (by rw [h.1]; exact hj))
    rw [h1]
    exact ⟨by rw [List.length_set]; exact h2, set_i64 h3 hx⟩
theorem MOk.set {M : List (List Int)} {j : Nat} (h : MOk M) (hj : j < M.length) (q : Nat) {x : Int} (hx : I64 x) : MOk (M.set j ((row M j).set q x)) := by
  refine ⟨by rw [List.length_set]; exact h.1, fun r hr => ?_⟩
  rw [List.length_set]
  rcases List.mem_or_eq_of_mem_set hr with h1 | h1
  · exact h.2 r h1
  · obtain ⟨h2, h3, h4⟩ := h.2 _ (row_mem (xss := M) (k := j) hj)
    rw [h1, List.length_set]
    exact ⟨h2, h3, set_i64 h4 hx⟩
theorem SqOk.grow {M : List (List Int)} {n j : Nat} (h : SqOk M n) (hn : n ≤ 7) (hj : j < n) {x : Int} (hx : I64 x) : MOk (M.set j (row M j ++ [x])) := by
  refine ⟨by rw [List.length_set, h.1]; exact hn, fun r hr => ?_⟩
  rw [List.length_set, h.1]
  rcases List.mem_or_eq_of_mem_set hr with h1 | h1
  · obtain ⟨h2, h3⟩ := h.2 r h1
    exact ⟨by omega, by omega, h3⟩
  · obtain ⟨h2, h3⟩ := h.2 _ (row_mem (xss := M) (k := j) (by rw [h.1]; exact hj))
    rw [h1, List.length_append, h2]
    refine ⟨by simp, by simp; omega, fun y hy => ?_⟩
    rcases List.mem_append.1 hy with h4 | h4
    · exact h3 y h4
    · rw [List.mem_singleton.1 h4]; exact hx
theorem SqOk.uni {n : Nat} {d : Int} (hd : I64 d) : SqOk (uniTab (fun x y => if x = y then 0 else d) n n) n := by
  refine ⟨uniTab_length _ _ _, fun r hr => ?_⟩
  obtain ⟨x, hx, rfl⟩ := uniTab_row hr
  refine ⟨uniRow_length _ _ _, fun y hy => ?_⟩
  obtain ⟨z, _, rfl⟩ := List.mem_map.1 hy
  by_cases e : x = z
  · simp [e, I64]
  · simpa [e] using hd
theorem SqOk.rowlen {M : List (List Int)} {n j : Nat} (h : SqOk M n) (hj : j < n) : (row M j).length = n := (h.2 _ (row_mem (by rw [h.1]; exact hj))).1
set_option maxHeartbeats 1600000 in
set_option maxRecDepth 100000 in
theorem table7_any {w0 w : World} [Ext w0 w] {vc : Value} {nb : Nat} (hc : IsBytes w0 vc nb) {B c : Nat} {a : Int} {R : List Row} (own : CurAt w B c vc a R) (hwB : w0.heap.size ≤ B) (ha : 0 ≤ a) (ha2 : a ≤ 3000000) :
    Calls Try.prog 84 #[.pointer (some ⟨c, 0, none⟩)] w fun e w' => ∃ d0 m0 vs M a', e = .returned (.slice d0 (M : List (List Int)).length m0) ∧ vs.length = M.length ∧ MOk M ∧ a ≤ a' ∧ a' ≤ a + 2 ∧ CurAt w' B c vc a' (rowsOf 24 3 (.slice d0 M.length m0) vs M ++ R) ∧ Below B w w' := by
  go_enter Try.func84, Try.ntmps84
  go_wp2_with fail
  refine (one_any (w0 := w0) hc own hwB ha (by omega)).mono ?_
  rintro e w1 ⟨q, a1, rfl, h1, h2, own1, b1⟩
  have hB1 := own1.size
  cases q with
  | true =>
    go_wp2_with fail
    go_ret
    refine ⟨some ⟨w1.heap.size, 0, none⟩, 0, [], [], a1, rfl, rfl, MOk.nil, h1, h2, ?_, b1.alloc hB1 _⟩
    obtain ⟨s, h⟩ := own1
    exact ⟨s, (h.lit 24 1 0 #[] hB1 (by unfold maxLen; omega) rfl).perm (List.Perm.swap _ _ _)⟩
  | false =>
    have hfld := fieldDist
    go_wp2_with fail
    refine (l6Uniform_any (n := 7) (d := 2) (by omega) w1).mono ?_
    rintro e w2 ⟨d0, m0, vs, rfl, hvs, hown, e2⟩
    have hM : SqOk (uniTab (fun x y => if x = y then 0 else (2 : Int)) 7 7) 7 := SqOk.uni (by unfold I64; omega)
    generalize uniTab (fun x y => if x = y then 0 else (2 : Int)) 7 7 = M at *
    have own2 := own1.join hown hB1
    have b2 : Below B w w2 := b1.trans (e2.below.mono hB1)
    replace hM := hid hM
    go_wp2_with fail
    go_ret
    refine ⟨d0, m0, vs, M, a1, by rw [hM.out.1]; rfl, by rw [hM.out.1]; exact hvs, hM.out.ok (by omega), h1, h2, ?_, b2⟩
    rw [hM.out.1]
    exact own2
set_option maxHeartbeats 6400000 in
set_option maxRecDepth 100000 in
theorem table6_any {w0 w : World} [Ext w0 w] {vc : Value} {nb : Nat} (hc : IsBytes w0 vc nb) {B c : Nat} {a : Int} {R : List Row} (own : CurAt w B c vc a R) (hwB : w0.heap.size ≤ B) (ha : 0 ≤ a) (ha2 : a ≤ 2000000) :
    Calls Try.prog 58 #[.pointer (some ⟨c, 0, none⟩), .bool false] w fun e w' => ∃ d0 m0 vs M a', e = .returned (.agg #[.slice d0 (M : List (List Int)).length m0]) ∧ vs.length = M.length ∧ MOk M ∧ a ≤ a' ∧ a' ≤ a + 200 ∧ CurAt w' B c vc a' (rowsOf 24 3 (.slice d0 M.length m0) vs M ++ R) ∧ Below B w w' := by
  have hBw := own.size
  have hE : ∀ u, Below B w u → Ext w0 u := fun u h => ⟨(‹Ext w0 w›).below.trans (h.mono hwB)⟩
  replace hE := hid hE
  go_enter Try.func58, Try.ntmps58
  go_upto_region 1 with fail
  have own1 := own.box 29 1 #[.slice none 0 0] hBw rfl
  have b1 : Below B w (w.alloc (.cells #[.slice none 0 0] 29)) := (Below.refl B w).alloc hBw _
  obtain ⟨r, hr⟩ : ∃ r, r = w.heap.size := ⟨_, rfl⟩
  rw [← hr] at own1 ⊢
  replace hr := hid hr
  generalize w.alloc (.cells #[.slice none 0 0] 29) = w1 at *
  have e1 : Ext w0 w1 := hE.out _ b1
  go_wp2_with fail
  refine (among_any (w0 := w0) hc (own1.lit [1, 2, 3, 3, 4, 4, 5, 6] own1.size rfl rfl (by decide)) hwB (by omega) (by omega) (by decide) (by decide)).mono ?_
  rintro e w2 ⟨n, a2, rfl, hn, h21, h22, own2, b2⟩
  have hn6 : 1 ≤ n ∧ n ≤ 6 := by simp at hn; omega
  have own2' := own2.drop
  have b2' : Below B w w2 := b1.trans (((Below.refl B w1).alloc own1.size _).trans b2)
  obtain ⟨n, rfl⟩ := Int.eq_ofNat_of_zero_le (show 0 ≤ n by omega)
  clear own2 own1 b2 b1 e1 hn
  go_wp2_with fail
  refine (l6Uniform_any (n := n) (d := 1) (by omega) w2).mono ?_
  rintro e w3 ⟨d0, m0, vs, rfl, hvs, hown, e3⟩
  have hM0 : SqOk (uniTab (fun x y => if x = y then 0 else (1 : Int)) n n) n := SqOk.uni (by unfold I64; omega)
  generalize uniTab (fun x y => if x = y then 0 else (1 : Int)) n n = M0 at *
  have own3 := own2'.join hown own2'.size
  have b3 : Below B w w3 := b2'.trans (e3.below.mono own2'.size)
  have own4 := own3.box 29 1 #[.slice d0 n m0] own3.size rfl
  have b4 : Below B w (w3.alloc (.cells #[.slice d0 n m0] 29)) := b3.alloc own3.size _
  obtain ⟨b, hb⟩ : ∃ r, r = w3.heap.size := ⟨_, rfl⟩
  go_upto_region 3 with fail
  generalize w3.alloc (.cells #[.slice d0 n m0] 29) = w4 at *
  rw [← hb] at own4 ⊢
  replace hb := hid hb
  clear own2' own3 b2' b3 e3 hown
  have hdd : ∃ g, d0 = some ⟨g, 0, none⟩ := by
    obtain ⟨R', h⟩ := CurAt.tab (A := [boxRow 29 1 b [.slice d0 n m0]]) own4
    exact rw_addr h hvs (by omega)
  obtain ⟨g, rfl⟩ := hdd
  replace hvs := hid hvs
  replace hM0 := hid hM0
  go_wp2
  go_loopw [7] (fun i wr => ∃ x : Nat, x ≤ n ∧ i = .int .i64 x ∧ ∃ M ax, Hid (SqOk M n) ∧ a2 ≤ ax ∧ ax ≤ a2 + 24 * x ∧ Below B w wr ∧ CurAt wr B c vc ax (boxRow 29 1 b [.slice (some ⟨g, 0, none⟩) n m0] :: (rowsOf 24 3 (.slice (some ⟨g, 0, none⟩) n m0) vs M ++ (boxRow 29 1 r [.slice none 0 0] :: R)))) (fun i _ => n - (intOf i).toNat)
  case atStart => exact ⟨0, by omega, rfl, M0, a2, hM0, by omega, by omega, b4, own4⟩
  case round =>
    obtain ⟨x, hx, rfl, M, ax, hM, hax1, hax2, b5, own5⟩ := hrel
    obtain ⟨w5, rfl⟩ : ∃ y : World, y = wr := ⟨_, rfl⟩
    by_cases hlt : x < n
    · go_wp2
      go_loopw [8] (fun j wr => ∃ y : Nat, y ≤ x ∧ j = .int .i64 y ∧ ∃ M ay, Hid (SqOk M n) ∧ ax ≤ ay ∧ ay ≤ ax + 4 * y ∧ Below B w wr ∧ CurAt wr B c vc ay (boxRow 29 1 b [.slice (some ⟨g, 0, none⟩) n m0] :: (rowsOf 24 3 (.slice (some ⟨g, 0, none⟩) n m0) vs M ++ (boxRow 29 1 r [.slice none 0 0] :: R)))) (fun j _ => x - (intOf j).toNat)
      case atStart => exact ⟨0, by omega, rfl, M, ax, hM, by omega, by omega, b5, own5⟩
      case round =>
        obtain ⟨y, hy, rfl, M, ay, hM, hay1, hay2, b6, own6⟩ := hrel
        obtain ⟨w6, rfl⟩ : ∃ y : World, y = wr := ⟨_, rfl⟩
        by_cases hlty : y < x
        · have e6 : Ext w0 w6 := hE.out _ b6
          clear own5 b5 own4 b4 own
          go_wp2_with fail
          refine (among_any (w0 := w0) hc (own6.lit [1, 2, 3, 4, 5, 7, 9, 12] own6.size rfl rfl (by decide)) hwB (by omega) (by omega) (by decide) (by decide)).mono ?_
          rintro e w7 ⟨d, a7, rfl, hd, h71, h72, own7', b7⟩
          have hd12 : I64 d := by simp at hd; unfold I64; omega
          have own7 := own7'.drop
          have b7' : Below B w w7 := b6.trans (((Below.refl B w6).alloc own6.size _).trans b7)
          clear own7' own6 b6 b7 e6 hd
          have hMl := hid hM.out.1
          have hvM : vs.length = M.length := by rw [hvs.out, hMl.out]
          obtain ⟨R', htab⟩ := CurAt.tab (A := [boxRow 29 1 b [.slice (some ⟨g, 0, none⟩) n m0]]) own7
          have hrl := hM.out.rowlen hlt
          obtain ⟨gr, mr, hu, hBg⟩ := rw_form htab hvM (j := x) (by rw [hMl.out]; exact hlt) (by rw [hrl]; omega)
          rw [hrl] at hu
          have tb : w7.cell? ⟨b, 0, none⟩ = some (.slice (some ⟨g, 0, none⟩) n m0) := (own7.at (.head _) (j := 0) (by omega)).1
          have tg := (rw_cell htab hvs.out hu).1
          have tq := (rw_at htab (by rw [hMl.out]; exact hlt) hu hrl (show y < n by omega))
          have hput := CurAt.put (A := [boxRow 29 1 b [.slice (some ⟨g, 0, none⟩) n m0]]) own7 hvM (by rw [hMl.out]; exact hlt) hu hrl y d
          have hM2 := hid (hM.out.set hlt y hd12)
          have b8 := b7'.setCell hput.2 (p := ⟨gr, y, none⟩) (.int .i64 d)
          have own8 : CurAt (w7.setCell ⟨gr, y, none⟩ (.int .i64 d)) B c vc a7 (boxRow 29 1 b [.slice (some ⟨g, 0, none⟩) n m0] :: (rowsOf 24 3 (.slice (some ⟨g, 0, none⟩) n m0) vs (M.set x ((row M x).set y d)) ++ (boxRow 29 1 r [.slice none 0 0] :: R))) := hput.1
          obtain ⟨tq, tqf⟩ := tq
          clear hput htab b7'
          replace hu := hid hu
          replace hvM := hid hvM
          replace hrl := hid hrl
          go_upto_region 13 with fail
          clear tb tg tq tqf own7
          generalize w7.setCell ⟨gr, y, none⟩ (.int .i64 d) = w8 at *
          generalize M.set x ((row M x).set y d) = M2 at *
          have hMl2 := hid hM2.out.1
          have hvM2 : vs.length = M2.length := by rw [hvs.out, hMl2.out]
          obtain ⟨R', htab⟩ := CurAt.tab (A := [boxRow 29 1 b [.slice (some ⟨g, 0, none⟩) n m0]]) own8
          have hrl2 := hM2.out.rowlen (show y < n by omega)
          obtain ⟨gs, ms, hus, hBs⟩ := rw_form htab hvM2 (j := y) (by rw [hMl2.out]; omega) (by rw [hrl2]; omega)
          rw [hrl2] at hus
          have tb : w8.cell? ⟨b, 0, none⟩ = some (.slice (some ⟨g, 0, none⟩) n m0) := (own8.at (.head _) (j := 0) (by omega)).1
          have tg := (rw_cell htab hvs.out hus).1
          have tq := (rw_at htab (by rw [hMl2.out]; omega) hus hrl2 hlt)
          have hput := CurAt.put (A := [boxRow 29 1 b [.slice (some ⟨g, 0, none⟩) n m0]]) own8 hvM2 (by rw [hMl2.out]; omega) hus hrl2 x d
          have hM3 := hid (hM2.out.set (show y < n by omega) x hd12)
          have b9 := b8.setCell hput.2 (p := ⟨gs, x, none⟩) (.int .i64 d)
          have own9 : CurAt (w8.setCell ⟨gs, x, none⟩ (.int .i64 d)) B c vc a7 (boxRow 29 1 b [.slice (some ⟨g, 0, none⟩) n m0] :: (rowsOf 24 3 (.slice (some ⟨g, 0, none⟩) n m0) vs (M2.set y ((row M2 y).set x d)) ++ (boxRow 29 1 r [.slice none 0 0] :: R))) := hput.1
          obtain ⟨tq, tqf⟩ := tq
          clear hput htab
          replace hus := hid hus
          replace hvM2 := hid hvM2
          replace hrl2 := hid hrl2
          go_wp2_with fail
          go_roundw
          case rel => exact ⟨y + 1, by omega, by go_num, _, a7, hM3, by omega, by omega, b9, own9⟩
          case measure => simp [intOf]; omega
        · have hyx : y = x := by omega
          replace hyx := hid hyx
          go_wp2_with fail
          go_roundw
          case rel => exact ⟨x + 1, by omega, by go_num, M, ay, hM, by omega, by have := hyx.out; omega, b6, own6⟩
          case measure => simp [intOf]; omega
    · have hxn : x = n := by omega
      have hax3 : ax ≤ a2 + 144 := by omega
      replace hxn := hid hxn
      clear hax2 own4 b4 own
      have e5 : Ext w0 w5 := hE.out _ b5
      go_wp2_with fail
      refine (pick_any (w0 := w0) hc own5 hwB (by omega) (by omega)).mono ?_
      rintro e w6 ⟨x, a6, rfl, hx0, hx1, hx2, h61, h62, own6, b6⟩
      have b6' := b5.trans b6
      have e6 : Ext w0 w6 := hE.out _ b6'
      clear own5 b5 b6 e5
      go_wp2_with fail
      refine (pick_any (w0 := w0) hc own6 hwB (by omega) (by omega)).mono ?_
      rintro e w7 ⟨y, a7, rfl, hy0, hy1, hy2, h71, h72, own7, b7⟩
      have b7' := b6'.trans b7
      have e7 : Ext w0 w7 := hE.out _ b7'
      clear own6 b6' b7 e6
      have hxn2 := hx2 (by omega)
      have hyn2 := hy2 (by omega)
      clear hx2 hy2 hx1 hy1
      obtain ⟨x, rfl⟩ := Int.eq_ofNat_of_zero_le hx0
      obtain ⟨y, rfl⟩ := Int.eq_ofNat_of_zero_le hy0
      go_wp2_with fail
      refine (pick_any (w0 := w0) hc own7 hwB (by omega) (by omega)).mono ?_
      rintro e w8 ⟨z, a8, rfl, hz0, hz1, hz2, h81, h82, own8, b8⟩
      have b8' := b7'.trans b8
      have e8 : Ext w0 w8 := hE.out _ b8'
      clear own7 b7' b8 e7 hz1 hz2
      have hMl := hid hM.out.1
      have hvM := hid (show vs.length = M.length by rw [hvs.out, hMl.out])
      obtain ⟨gx, mx, hux⟩ : ∃ gk mk, vs[x]? = some (.slice (some ⟨gk, 0, none⟩) n mk) := by
        obtain ⟨R', hT⟩ := CurAt.tab (A := [_]) own8
        have hrl := hM.out.rowlen (j := x) (by omega)
        obtain ⟨gk, mk, hu, _⟩ := rw_form hT hvM.out (j := x) (by rw [hMl.out]; omega) (by rw [hrl]; omega)
        rw [hrl] at hu
        exact ⟨gk, mk, hu⟩
      obtain ⟨gy, my, huy⟩ : ∃ gk mk, vs[y]? = some (.slice (some ⟨gk, 0, none⟩) n mk) := by
        obtain ⟨R', hT⟩ := CurAt.tab (A := [_]) own8
        have hrl := hM.out.rowlen (j := y) (by omega)
        obtain ⟨gk, mk, hu, _⟩ := rw_form hT hvM.out (j := y) (by rw [hMl.out]; omega) (by rw [hrl]; omega)
        rw [hrl] at hu
        exact ⟨gk, mk, hu⟩
      have hfacts := hid (show ∀ u av M', M'.length = n → CurAt u B c vc av (boxRow 29 1 b [.slice (some ⟨g, 0, none⟩) n m0] :: (rowsOf 24 3 (.slice (some ⟨g, 0, none⟩) n m0) vs M' ++ (boxRow 29 1 r [.slice none 0 0] :: R))) →
        u.cell? ⟨b, 0, none⟩ = some (.slice (some ⟨g, 0, none⟩) n m0) ∧ u.cell? ⟨g, x, none⟩ = some (.slice (some ⟨gx, 0, none⟩) n mx) ∧ u.cell? ⟨g, y, none⟩ = some (.slice (some ⟨gy, 0, none⟩) n my) from fun u av M' hM' h => by
        have h1 : u.cell? ⟨b, 0, none⟩ = some (.slice (some ⟨g, 0, none⟩) n m0) := (h.at (.head _) (j := 0) (by omega)).1
        obtain ⟨R', hT⟩ := CurAt.tab (A := [_]) h
        exact ⟨h1, (rw_cell hT hvs.out hux).1, (rw_cell hT hvs.out huy).1⟩)
      replace hux := hid hux
      replace huy := hid huy
      have hrx := hid (hM.out.rowlen (j := x) (by omega))
      have hry := hid (hM.out.rowlen (j := y) (by omega))
      have hxM : x < M.length := by rw [hMl.out]; omega
      have hyM : y < M.length := by rw [hMl.out]; omega
      by_cases hq0 : z = 0
      · go_upto_region 17 with fail
        have own9 := own8.ext (w' := w8.drew)
        have b9 : Below B w w8.drew := b8'.drew
        have hf9 := hfacts.out _ _ M hMl.out own9
        clear own8 b8' e8
        refine wp_region_held_drew (S := fun w' => w'.cell? ⟨b, 0, none⟩ = some (.slice (some ⟨g, 0, none⟩) n m0) ∧ w'.cell? ⟨g, x, none⟩ = some (.slice (some ⟨gx, 0, none⟩) n mx) ∧ w'.cell? ⟨g, y, none⟩ = some (.slice (some ⟨gy, 0, none⟩) n my)) (by kernel_rfl) hf9 (fun hHeld0 => ?_)
        generalize w8.drew = w9 at *
        clear hf9
        refine wpAnyH_take (i := 0) (v := .pointer (some ⟨b, 0, none⟩)) rfl (by kernel_rfl) (by kernel_rfl) (by kernel_rfl) (fun _ _ _ h => h) (Or.inl ⟨by rfl, by intro wx hx; go_simp⟩) (by assumption) ?_
        try simp only [List.getElem_toArray, List.getElem_cons_zero, Act.put, List.setIfInBounds_toArray, List.set_cons_zero, List.set_cons_succ]
        refine wpAnyH_take (i := 1) (v := .slice (some ⟨g, 0, none⟩) n m0) rfl (by kernel_rfl) (by kernel_rfl) (by kernel_rfl) (fun _ _ _ h => h) (Or.inl ⟨by rfl, by intro wx hx; obtain ⟨_, _, _⟩ := hx; go_simp⟩) (by assumption) ?_
        try simp only [List.getElem_toArray, List.getElem_cons_succ, List.getElem_cons_zero, Act.put, List.setIfInBounds_toArray, List.set_cons_zero, List.set_cons_succ]
        refine wpAnyH_take (i := 2) (v := .int .i64 x) rfl (by kernel_rfl) (by kernel_rfl) (by kernel_rfl) (fun _ _ _ h => h) (Or.inl ⟨by rfl, by intro wx hx; go_simp⟩) (by assumption) ?_
        try simp only [List.getElem_toArray, List.getElem_cons_succ, List.getElem_cons_zero, Act.put, List.setIfInBounds_toArray, List.set_cons_zero, List.set_cons_succ]
        refine wpAnyH_take (i := 3) (v := .pointer (some ⟨g, x, none⟩)) rfl (by kernel_rfl) (by kernel_rfl) (by kernel_rfl) (fun _ _ _ h => h) (Or.inl ⟨by rfl, by intro wx hx; go_simp⟩) (by assumption) ?_
        try simp only [List.getElem_toArray, List.getElem_cons_succ, List.getElem_cons_zero, Act.put, List.setIfInBounds_toArray, List.set_cons_zero, List.set_cons_succ]
        refine wpAnyH_take (i := 4) (v := .slice (some ⟨gx, 0, none⟩) n mx) rfl (by kernel_rfl) (by kernel_rfl) (by kernel_rfl) (fun _ _ _ h => h) (Or.inl ⟨by rfl, by intro wx hx; obtain ⟨_, _, _⟩ := hx; go_simp⟩) (by assumption) ?_
        try simp only [List.getElem_toArray, List.getElem_cons_succ, List.getElem_cons_zero, Act.put, List.setIfInBounds_toArray, List.set_cons_zero, List.set_cons_succ]
        refine wpAnyH_take (i := 5) (v := .int .i64 y) rfl (by kernel_rfl) (by kernel_rfl) (by kernel_rfl) (fun _ _ _ h => h) (Or.inl ⟨by rfl, by intro wx hx; go_simp⟩) (by assumption) ?_
        try simp only [List.getElem_toArray, List.getElem_cons_succ, List.getElem_cons_zero, Act.put, List.setIfInBounds_toArray, List.set_cons_zero, List.set_cons_succ]
        refine wpAnyH_take (i := 6) (v := .pointer (some ⟨c, 0, none⟩)) rfl (by kernel_rfl) (by kernel_rfl) (by kernel_rfl) (fun _ _ _ h => h) (Or.inl ⟨by rfl, by intro wx hx; go_simp⟩) (by assumption) ?_
        try simp only [List.getElem_toArray, List.getElem_cons_succ, List.getElem_cons_zero, Act.put, List.setIfInBounds_toArray, List.set_cons_zero, List.set_cons_succ]
        have own10 := own9.lit (e := 3) (n := 5) (cs := #[.int .i64 (-1), .int .i64 0, .int .i64 99, .int .i64 100, .int .i64 4611686018427387904]) [-1, 0, 99, 100, 4611686018427387904] own9.size rfl rfl (by decide)
        have b10 : Below B w (w9.alloc (.cells #[.int .i64 (-1), .int .i64 0, .int .i64 99, .int .i64 100, .int .i64 4611686018427387904] 3)) := b9.alloc own9.size _
        have hf10 := hfacts.out _ _ M hMl.out own10.drop
        refine wpAnyH_ready (rs := [7]) (by kernel_rfl) (by simp) ?_
        refine AllReadyH.cons rfl (fun K hK => ?_) AllReadyH.nil
        go_simp
        refine hK.out _ _ hf10 (fun _ => ?_)
        clear hK K
        try simp only [List.getElem_toArray, List.getElem_cons_succ, List.getElem_cons_zero, Act.put, List.setIfInBounds_toArray, List.set_cons_zero, List.set_cons_succ]
        have e10 : Ext w0 (w9.alloc (.cells #[.int .i64 (-1), .int .i64 0, .int .i64 99, .int .i64 100, .int .i64 4611686018427387904] 3)) := hE.out _ b10
        refine wpAnyH_ready (rs := [8]) (by kernel_rfl) (by simp) ?_
        refine AllReadyH.cons rfl (fun K hK => ?_) AllReadyH.nil
        go_simp
        go_at_call 21
        refine (among_any (w0 := w0) hc own10 hwB (by omega) (by omega) (by decide) (by decide)).mono ?_
        rintro e w11 ⟨x11, a11, rfl, hx11, h111, h112, own11, b11⟩
        have hx11' : I64 x11 := by simp at hx11; unfold I64; omega
        have own11' := own11.drop
        have b11' := b10.trans b11
        have hf11 := hfacts.out _ _ M hMl.out own11'
        have hput := CurAt.put (A := [_]) own11' hvM.out hxM hux.out hrx.out y x11
        have hf12 := hfacts.out _ _ _ (by rw [List.length_set]; exact hMl.out) hput.1
        have hM2 := hid (hM.out.set (show x < n by omega) y hx11')
        have hgc : w11.cell? ⟨gx, y, none⟩ = some (.int .i64 (nth (row M x) y)) ∧ w11.frozen? ⟨gx, y, none⟩ = false := by
          obtain ⟨R', hT⟩ := CurAt.tab (A := [_]) own11'
          exact rw_at hT hxM hux.out hrx.out (by omega)
        have hgc0 := hgc.1
        have hgc1 := hgc.2
        go_wp2_with fail
        refine hK.out _ _ hf11 (fun _ => ?_)
        clear hK K
        try simp only [List.getElem_toArray, List.getElem_cons_succ, List.getElem_cons_zero, Act.put, List.setIfInBounds_toArray, List.set_cons_zero, List.set_cons_succ]
        refine wpAnyH_take (i := 9) (v := .pointer (some ⟨gx, y, none⟩)) rfl (by kernel_rfl) (by kernel_rfl) (by kernel_rfl) (fun _ _ _ h => h) (Or.inl ⟨by rfl, by intro wx hx; go_simp⟩) (by assumption) ?_
        try simp only [List.getElem_toArray, List.getElem_cons_succ, List.getElem_cons_zero, Act.put, List.setIfInBounds_toArray, List.set_cons_zero, List.set_cons_succ]
        refine wpAnyH_ready (rs := [10]) (by kernel_rfl) (by simp) ?_
        refine AllReadyH.cons rfl (fun K hK => ?_) AllReadyH.nil
        go_simp
        refine hK.out _ _ hf12 (fun _ => ?_)
        clear hK K
        try simp only [List.getElem_toArray, List.getElem_cons_succ, List.getElem_cons_zero, Act.put, List.setIfInBounds_toArray, List.set_cons_zero, List.set_cons_succ]
        refine wpAnyH_done (by kernel_rfl) ?_ _
        have own13 := hput.1
        have b13 := b11'.setCell hput.2 (p := ⟨gx, y, none⟩) (.int .i64 x11)
        generalize M.set x ((row M x).set y x11) = M2 at *
        go_upto_region 25 with fail
        generalize w11.setCell ⟨gx, y, none⟩ (.int .i64 x11) = w13 at *
        clear own9 own10 own11 own11' b9 b10 b11 b11' hf10 hf11 hf12 hput hgc hgc0 hgc1 e10
        obtain ⟨s9, h9⟩ := own13
        have tb9 : w13.cell? ⟨b, 0, none⟩ = some (.slice (some ⟨g, 0, none⟩) n m0) := ow_cell h9 (.tail _ (.head _)) (j := 0) (by omega)
        have hm9 : boxRow 29 1 r [.slice none 0 0] ∈ curRow c vc a11 s9 :: (boxRow 29 1 b [.slice (some ⟨g, 0, none⟩) n m0] :: (rowsOf 24 3 (.slice (some ⟨g, 0, none⟩) n m0) vs M2 ++ (boxRow 29 1 r [.slice none 0 0] :: R))) := by simp
        have rb9 : w13.cell? ⟨r, 0, none⟩ = some (.slice none 0 0) := ow_cell h9 hm9 (j := 0) (by omega)
        have rf9 := ow_frozen h9 hm9 0
        have hs9 := CurAt.set (A := boxRow 29 1 b [.slice (some ⟨g, 0, none⟩) n m0] :: rowsOf 24 3 (.slice (some ⟨g, 0, none⟩) n m0) vs M2) (L := R) ⟨s9, h9⟩ 0 (.slice (some ⟨g, 0, none⟩) n m0)
        have hz9 : (w13.setCell ⟨r, 0, none⟩ (.slice (some ⟨g, 0, none⟩) n m0)).cell? ⟨r, 0, none⟩ = some (.slice (some ⟨g, 0, none⟩) n m0) := by go_simp
        have own9 : CurAt (w13.setCell ⟨r, 0, none⟩ (.slice (some ⟨g, 0, none⟩) n m0)) B c vc a11 (rowsOf 24 3 (.slice (some ⟨g, 0, none⟩) n m0) vs M2 ++ R) := (hs9.1.drop).sub (List.Sublist.append_left (List.sublist_cons_self _ _) _)
        have b9 := (b13).setCell hs9.2 (p := ⟨r, 0, none⟩) (.slice (some ⟨g, 0, none⟩) n m0)
        clear h9 hm9 hs9
        go_wp2
        refine bodyPost_ret (v := .agg #[.slice (some ⟨g, 0, none⟩) n m0]) (by simp [results, Try.results58, go_sem, hz9]) rfl ?_
        have hL9 := hM2.out.1
        exact ⟨_, _, _, M2, a11, by rw [hL9], (by rw [hvs.out, hM2.out.1]), (hM2.out.ok (by omega)), by omega, by omega, by rw [hL9]; exact own9, b9⟩
      · by_cases hq1 : z = 1
        · go_upto_region 19 with fail
          have own9 := own8.ext (w' := w8.drew)
          have b9 : Below B w w8.drew := b8'.drew
          have hf9 := hfacts.out _ _ M hMl.out own9
          clear own8 b8' e8
          refine wp_region_held_drew (S := fun w' => w'.cell? ⟨b, 0, none⟩ = some (.slice (some ⟨g, 0, none⟩) n m0) ∧ True) (by kernel_rfl) ⟨hf9.1, trivial⟩ (fun hHeld0 => ?_)
          generalize w8.drew = w9 at *
          refine wpAnyH_take (i := 0) (v := .pointer (some ⟨b, 0, none⟩)) rfl (by kernel_rfl) (by kernel_rfl) (by kernel_rfl) (fun _ _ _ h => h) (Or.inl ⟨by rfl, by intro wx hx; go_simp⟩) (by assumption) ?_
          try simp only [List.getElem_toArray, List.getElem_cons_zero, Act.put, List.setIfInBounds_toArray, List.set_cons_zero, List.set_cons_succ]
          refine wpAnyH_take (i := 1) (v := .slice (some ⟨g, 0, none⟩) n m0) rfl (by kernel_rfl) (by kernel_rfl) (by kernel_rfl) (fun _ _ _ h => h) (Or.inl ⟨by rfl, by intro wx hx; obtain ⟨_, _⟩ := hx; go_simp⟩) (by assumption) ?_
          try simp only [List.getElem_toArray, List.getElem_cons_succ, List.getElem_cons_zero, Act.put, List.setIfInBounds_toArray, List.set_cons_zero, List.set_cons_succ]
          refine wpAnyH_take (i := 2) (v := .int .i64 x) rfl (by kernel_rfl) (by kernel_rfl) (by kernel_rfl) (fun _ _ _ h => h) (Or.inl ⟨by rfl, by intro wx hx; go_simp⟩) (by assumption) ?_
          try simp only [List.getElem_toArray, List.getElem_cons_succ, List.getElem_cons_zero, Act.put, List.setIfInBounds_toArray, List.set_cons_zero, List.set_cons_succ]
          refine wpAnyH_take (i := 3) (v := .pointer (some ⟨b, 0, none⟩)) rfl (by kernel_rfl) (by kernel_rfl) (by kernel_rfl) (fun _ _ _ h => h) (Or.inl ⟨by rfl, by intro wx hx; go_simp⟩) (by assumption) ?_
          try simp only [List.getElem_toArray, List.getElem_cons_succ, List.getElem_cons_zero, Act.put, List.setIfInBounds_toArray, List.set_cons_zero, List.set_cons_succ]
          refine wpAnyH_take (i := 4) (v := .slice (some ⟨g, 0, none⟩) n m0) rfl (by kernel_rfl) (by kernel_rfl) (by kernel_rfl) (fun _ _ _ h => h) (Or.inl ⟨by rfl, by intro wx hx; obtain ⟨_, _⟩ := hx; go_simp⟩) (by assumption) ?_
          try simp only [List.getElem_toArray, List.getElem_cons_succ, List.getElem_cons_zero, Act.put, List.setIfInBounds_toArray, List.set_cons_zero, List.set_cons_succ]
          refine wpAnyH_take (i := 5) (v := .int .i64 x) rfl (by kernel_rfl) (by kernel_rfl) (by kernel_rfl) (fun _ _ _ h => h) (Or.inl ⟨by rfl, by intro wx hx; go_simp⟩) (by assumption) ?_
          try simp only [List.getElem_toArray, List.getElem_cons_succ, List.getElem_cons_zero, Act.put, List.setIfInBounds_toArray, List.set_cons_zero, List.set_cons_succ]
          refine wpAnyH_take (i := 6) (v := .pointer (some ⟨g, x, none⟩)) rfl (by kernel_rfl) (by kernel_rfl) (by kernel_rfl) (fun _ _ _ h => h) (Or.inl ⟨by rfl, by intro wx hx; go_simp⟩) (by assumption) ?_
          try simp only [List.getElem_toArray, List.getElem_cons_succ, List.getElem_cons_zero, Act.put, List.setIfInBounds_toArray, List.set_cons_zero, List.set_cons_succ]
          have hf90 := hf9.1
          have hf91 := hf9.2.1
          have hB9 := own9.size
          obtain ⟨s9, h9⟩ := own9
          have h10 := ow_front (A := [curRow c vc a8 s9, boxRow 29 1 b [.slice (some ⟨g, 0, none⟩) n m0]]) (T := rowsOf 24 3 (.slice (some ⟨g, 0, none⟩) n m0) vs M) h9
          have hrow := rw_row h10 hxM hux.out
          have hro : Own w9 B (⟨3, 1, .slice (some ⟨gx, 0, none⟩) n mx, n, (row M x).map (Value.int .i64)⟩ :: (rowsOf 24 3 (.slice (some ⟨g, 0, none⟩) n m0) vs M ++ ([curRow c vc a8 s9, boxRow 29 1 b [.slice (some ⟨g, 0, none⟩) n m0]] ++ (boxRow 29 1 r [.slice none 0 0] :: R))).eraseIdx (x + 1)) := by
            have e : (⟨3, 1, .slice (some ⟨gx, 0, none⟩) n mx, n, (row M x).map (Value.int .i64)⟩ : Row) = intRowOf 3 (.slice (some ⟨gx, 0, none⟩) n mx) (row M x) := by
              unfold intRowOf
              rw [hrx.out]
            rw [e]
            exact hrow
          have OWa := hro.ext (w' := w9.alloc (.cells #[.int .i64 1] 3))
          have ea : Ext w9 (w9.alloc (.cells #[.int .i64 1] 3)) := inferInstance
          have hBa : B ≤ (w9.alloc (.cells #[.int .i64 1] 3)).heap.size := Nat.le_trans hB9 ea.size
          have hba : Below B w (w9.alloc (.cells #[.int .i64 1] 3)) := b9.alloc hB9 _
          clear hrow h10 h9 hro
          have hfa0 := ea.cell hf9.1
          have hfa1 := ea.cell hf91
          refine wpAnyH_ready (rs := [7, 8]) (by kernel_rfl) (by simp) ?_
          refine AllReadyH.cons rfl (fun K hK => ?_) (AllReadyH.cons rfl (fun K hK => ?_) AllReadyH.nil)
          · go_simp
            refine hK.out _ _ ⟨hf90, trivial⟩ (fun _ => ?_)
            clear hK K
            try simp only [List.getElem_toArray, List.getElem_cons_succ, List.getElem_cons_zero, Act.put, List.setIfInBounds_toArray, List.set_cons_zero, List.set_cons_succ]
            refine wpAnyH_ready (rs := [8]) (by kernel_rfl) (by simp) ?_
            refine AllReadyH.cons rfl (fun K hK => ?_) AllReadyH.nil
            go_simp
            refine hK.out _ _ ⟨hfa0, trivial⟩ (fun _ => ?_)
            clear hK K
            try simp only [List.getElem_toArray, List.getElem_cons_succ, List.getElem_cons_zero, Act.put, List.setIfInBounds_toArray, List.set_cons_zero, List.set_cons_succ]
            refine wpAnyH_ready (rs := [9]) (by kernel_rfl) (by simp) ?_
            refine AllReadyH.cons rfl (fun K hK => ?_) AllReadyH.nil
            refine step_append1z rfl (.tmp 80) (.tmp 81) 24 rfl elemInt rfl OWa hBa (us := [.int .i64 1]) rfl rfl ?_ (by intro u hu; simp at hu; subst hu; rfl) (by omega) (by omega) ?_
            · intro jj u hj
              match jj, hj with
              | 0, hj => simp at hj; subst hj; go_simp
            intro v4 w4 ho4 hb4
            obtain ⟨vd, vm4, hv4⟩ := ho4.form
            have hv4' : v4 = .slice vd (n + 1) vm4 := hv4
            subst hv4'
            clear hv4
            have ho5 : Own w4 B (intRowOf 3 (.slice vd (n + 1) vm4) (row M x ++ [1]) :: (rowsOf 24 3 (.slice (some ⟨g, 0, none⟩) n m0) vs M ++ ([curRow c vc a8 s9, boxRow 29 1 b [.slice (some ⟨g, 0, none⟩) n m0]] ++ (boxRow 29 1 r [.slice none 0 0] :: R))).eraseIdx (x + 1)) := by
              have e : intRowOf 3 (.slice vd (n + 1) vm4) (row M x ++ [1]) = (⟨3, 1, .slice vd (n + 1) vm4, n + 1, (row M x).map (Value.int .i64) ++ [.int .i64 1]⟩ : Row) := by
                unfold intRowOf
                rw [List.length_append, hrx.out, List.map_append]
                rfl
              rw [e]
              exact ho4
            obtain ⟨gc1, gc2, go1, gm1, gB⟩ := rw_grow ho5 hvs.out hMl.out (show x < n by omega)
            have hkw : vs.getD x undef = .slice (some ⟨gx, 0, none⟩) n mx := by rw [List.getD_eq_getElem?_getD, hux.out]; rfl
            rw [hkw] at gc1
            have hbx := (gm1 (boxRow 29 1 b [.slice (some ⟨g, 0, none⟩) n m0]) (by simp)).cellAt 0 (by show 0 < 1 * 1; omega)
            have hbx1 : w4.cell? ⟨b, 0, none⟩ = some (.slice (some ⟨g, 0, none⟩) n m0) := hbx
            refine hK.out _ _ ⟨hbx1, trivial⟩ (fun _ => ?_)
            clear hK K
            try simp only [List.getElem_toArray, List.getElem_cons_succ, List.getElem_cons_zero, Act.put, List.setIfInBounds_toArray, List.set_cons_zero, List.set_cons_succ]
            refine wpAnyH_take (i := 10) (v := .pointer (some ⟨g, x, none⟩)) rfl (by kernel_rfl) (by kernel_rfl) (by kernel_rfl) (fun _ _ _ h => h) (Or.inl ⟨by rfl, by intro wx hx; go_simp⟩) (by assumption) ?_
            try simp only [List.getElem_toArray, List.getElem_cons_succ, List.getElem_cons_zero, Act.put, List.setIfInBounds_toArray, List.set_cons_zero, List.set_cons_succ]
            have own13 : CurAt (w4.setCell ⟨g, x, none⟩ (.slice vd (n + 1) vm4)) B c vc a8 (boxRow 29 1 b [.slice (some ⟨g, 0, none⟩) n m0] :: (rowsOf 24 3 (.slice (some ⟨g, 0, none⟩) n m0) (vs.set x (.slice vd (n + 1) vm4)) (M.set x (row M x ++ [1])) ++ (boxRow 29 1 r [.slice none 0 0] :: R))) :=
              ⟨s9, ow_front (A := rowsOf 24 3 (.slice (some ⟨g, 0, none⟩) n m0) (vs.set x (.slice vd (n + 1) vm4)) (M.set x (row M x ++ [1]))) (T := [curRow c vc a8 s9, boxRow 29 1 b [.slice (some ⟨g, 0, none⟩) n m0]]) go1⟩
            have hMl2 := hid (show (M.set x (row M x ++ [1])).length = n by rw [List.length_set]; exact hMl.out)
            have hv2 := hid (show (vs.set x (.slice vd (n + 1) vm4)).length = n by rw [List.length_set]; exact hvs.out)
            have hok2 := hid (hM.out.grow (x := 1) (by omega) (show x < n by omega) (by unfold I64; omega))
            have b13 := (hba.trans hb4).setCell gB (p := ⟨g, x, none⟩) (.slice vd (n + 1) vm4)
            generalize M.set x (row M x ++ [1]) = M2 at *
            generalize vs.set x (.slice vd (n + 1) vm4) = vs2 at *
            have hfin1 : (w4.setCell ⟨g, x, none⟩ (.slice vd (n + 1) vm4)).cell? ⟨b, 0, none⟩ = some (.slice (some ⟨g, 0, none⟩) n m0) := (own13.at (.head _) (j := 0) (by omega)).1
            refine wpAnyH_ready (rs := [11]) (by kernel_rfl) (by simp) ?_
            refine AllReadyH.cons rfl (fun K hK => ?_) AllReadyH.nil
            go_simp
            refine hK.out _ _ ⟨hfin1, trivial⟩ (fun _ => ?_)
            clear hK K
            try simp only [List.getElem_toArray, List.getElem_cons_succ, List.getElem_cons_zero, Act.put, List.setIfInBounds_toArray, List.set_cons_zero, List.set_cons_succ]
            refine wpAnyH_done (by kernel_rfl) ?_ _
            generalize w4.setCell ⟨g, x, none⟩ (.slice vd (n + 1) vm4) = w13 at *
            clear ho4 ho5 go1 gm1 gc1 gc2 hbx hbx1 hfin1 hba hBa OWa
            go_upto_region 25 with fail
            obtain ⟨s9, h9⟩ := own13
            have tb9 : w13.cell? ⟨b, 0, none⟩ = some (.slice (some ⟨g, 0, none⟩) n m0) := ow_cell h9 (.tail _ (.head _)) (j := 0) (by omega)
            have hm9 : boxRow 29 1 r [.slice none 0 0] ∈ curRow c vc a8 s9 :: (boxRow 29 1 b [.slice (some ⟨g, 0, none⟩) n m0] :: (rowsOf 24 3 (.slice (some ⟨g, 0, none⟩) n m0) vs2 M2 ++ (boxRow 29 1 r [.slice none 0 0] :: R))) := by simp
            have rb9 : w13.cell? ⟨r, 0, none⟩ = some (.slice none 0 0) := ow_cell h9 hm9 (j := 0) (by omega)
            have rf9 := ow_frozen h9 hm9 0
            have hs9 := CurAt.set (A := boxRow 29 1 b [.slice (some ⟨g, 0, none⟩) n m0] :: rowsOf 24 3 (.slice (some ⟨g, 0, none⟩) n m0) vs2 M2) (L := R) ⟨s9, h9⟩ 0 (.slice (some ⟨g, 0, none⟩) n m0)
            have hz9 : (w13.setCell ⟨r, 0, none⟩ (.slice (some ⟨g, 0, none⟩) n m0)).cell? ⟨r, 0, none⟩ = some (.slice (some ⟨g, 0, none⟩) n m0) := by go_simp
            have own9 : CurAt (w13.setCell ⟨r, 0, none⟩ (.slice (some ⟨g, 0, none⟩) n m0)) B c vc a8 (rowsOf 24 3 (.slice (some ⟨g, 0, none⟩) n m0) vs2 M2 ++ R) := (hs9.1.drop).sub (List.Sublist.append_left (List.sublist_cons_self _ _) _)
            have b9 := (b13).setCell hs9.2 (p := ⟨r, 0, none⟩) (.slice (some ⟨g, 0, none⟩) n m0)
            clear h9 hm9 hs9
            go_wp2
            refine bodyPost_ret (v := .agg #[.slice (some ⟨g, 0, none⟩) n m0]) (by simp [results, Try.results58, go_sem, hz9]) rfl ?_
            have hL9 := hMl2.out
            exact ⟨_, _, _, M2, a8, by rw [hL9], (by rw [hv2.out, hMl2.out]), hok2.out, by omega, by omega, by rw [hL9]; exact own9, b9⟩
          · go_simp
            refine hK.out _ _ ⟨hfa0, trivial⟩ (fun _ => ?_)
            clear hK K
            try simp only [List.getElem_toArray, List.getElem_cons_succ, List.getElem_cons_zero, Act.put, List.setIfInBounds_toArray, List.set_cons_zero, List.set_cons_succ]
            refine wpAnyH_ready (rs := [7]) (by kernel_rfl) (by simp) ?_
            refine AllReadyH.cons rfl (fun K hK => ?_) AllReadyH.nil
            go_simp
            refine hK.out _ _ ⟨hfa0, trivial⟩ (fun _ => ?_)
            clear hK K
            try simp only [List.getElem_toArray, List.getElem_cons_succ, List.getElem_cons_zero, Act.put, List.setIfInBounds_toArray, List.set_cons_zero, List.set_cons_succ]
            refine wpAnyH_ready (rs := [9]) (by kernel_rfl) (by simp) ?_
            refine AllReadyH.cons rfl (fun K hK => ?_) AllReadyH.nil
            refine step_append1z rfl (.tmp 80) (.tmp 81) 24 rfl elemInt rfl OWa hBa (us := [.int .i64 1]) rfl rfl ?_ (by intro u hu; simp at hu; subst hu; rfl) (by omega) (by omega) ?_
            · intro jj u hj
              match jj, hj with
              | 0, hj => simp at hj; subst hj; go_simp
            intro v4 w4 ho4 hb4
            obtain ⟨vd, vm4, hv4⟩ := ho4.form
            have hv4' : v4 = .slice vd (n + 1) vm4 := hv4
            subst hv4'
            clear hv4
            have ho5 : Own w4 B (intRowOf 3 (.slice vd (n + 1) vm4) (row M x ++ [1]) :: (rowsOf 24 3 (.slice (some ⟨g, 0, none⟩) n m0) vs M ++ ([curRow c vc a8 s9, boxRow 29 1 b [.slice (some ⟨g, 0, none⟩) n m0]] ++ (boxRow 29 1 r [.slice none 0 0] :: R))).eraseIdx (x + 1)) := by
              have e : intRowOf 3 (.slice vd (n + 1) vm4) (row M x ++ [1]) = (⟨3, 1, .slice vd (n + 1) vm4, n + 1, (row M x).map (Value.int .i64) ++ [.int .i64 1]⟩ : Row) := by
                unfold intRowOf
                rw [List.length_append, hrx.out, List.map_append]
                rfl
              rw [e]
              exact ho4
            obtain ⟨gc1, gc2, go1, gm1, gB⟩ := rw_grow ho5 hvs.out hMl.out (show x < n by omega)
            have hkw : vs.getD x undef = .slice (some ⟨gx, 0, none⟩) n mx := by rw [List.getD_eq_getElem?_getD, hux.out]; rfl
            rw [hkw] at gc1
            have hbx := (gm1 (boxRow 29 1 b [.slice (some ⟨g, 0, none⟩) n m0]) (by simp)).cellAt 0 (by show 0 < 1 * 1; omega)
            have hbx1 : w4.cell? ⟨b, 0, none⟩ = some (.slice (some ⟨g, 0, none⟩) n m0) := hbx
            refine hK.out _ _ ⟨hbx1, trivial⟩ (fun _ => ?_)
            clear hK K
            try simp only [List.getElem_toArray, List.getElem_cons_succ, List.getElem_cons_zero, Act.put, List.setIfInBounds_toArray, List.set_cons_zero, List.set_cons_succ]
            refine wpAnyH_take (i := 10) (v := .pointer (some ⟨g, x, none⟩)) rfl (by kernel_rfl) (by kernel_rfl) (by kernel_rfl) (fun _ _ _ h => h) (Or.inl ⟨by rfl, by intro wx hx; go_simp⟩) (by assumption) ?_
            try simp only [List.getElem_toArray, List.getElem_cons_succ, List.getElem_cons_zero, Act.put, List.setIfInBounds_toArray, List.set_cons_zero, List.set_cons_succ]
            have own13 : CurAt (w4.setCell ⟨g, x, none⟩ (.slice vd (n + 1) vm4)) B c vc a8 (boxRow 29 1 b [.slice (some ⟨g, 0, none⟩) n m0] :: (rowsOf 24 3 (.slice (some ⟨g, 0, none⟩) n m0) (vs.set x (.slice vd (n + 1) vm4)) (M.set x (row M x ++ [1])) ++ (boxRow 29 1 r [.slice none 0 0] :: R))) :=
              ⟨s9, ow_front (A := rowsOf 24 3 (.slice (some ⟨g, 0, none⟩) n m0) (vs.set x (.slice vd (n + 1) vm4)) (M.set x (row M x ++ [1]))) (T := [curRow c vc a8 s9, boxRow 29 1 b [.slice (some ⟨g, 0, none⟩) n m0]]) go1⟩
            have hMl2 := hid (show (M.set x (row M x ++ [1])).length = n by rw [List.length_set]; exact hMl.out)
            have hv2 := hid (show (vs.set x (.slice vd (n + 1) vm4)).length = n by rw [List.length_set]; exact hvs.out)
            have hok2 := hid (hM.out.grow (x := 1) (by omega) (show x < n by omega) (by unfold I64; omega))
            have b13 := (hba.trans hb4).setCell gB (p := ⟨g, x, none⟩) (.slice vd (n + 1) vm4)
            generalize M.set x (row M x ++ [1]) = M2 at *
            generalize vs.set x (.slice vd (n + 1) vm4) = vs2 at *
            have hfin1 : (w4.setCell ⟨g, x, none⟩ (.slice vd (n + 1) vm4)).cell? ⟨b, 0, none⟩ = some (.slice (some ⟨g, 0, none⟩) n m0) := (own13.at (.head _) (j := 0) (by omega)).1
            refine wpAnyH_ready (rs := [11]) (by kernel_rfl) (by simp) ?_
            refine AllReadyH.cons rfl (fun K hK => ?_) AllReadyH.nil
            go_simp
            refine hK.out _ _ ⟨hfin1, trivial⟩ (fun _ => ?_)
            clear hK K
            try simp only [List.getElem_toArray, List.getElem_cons_succ, List.getElem_cons_zero, Act.put, List.setIfInBounds_toArray, List.set_cons_zero, List.set_cons_succ]
            refine wpAnyH_done (by kernel_rfl) ?_ _
            generalize w4.setCell ⟨g, x, none⟩ (.slice vd (n + 1) vm4) = w13 at *
            clear ho4 ho5 go1 gm1 gc1 gc2 hbx hbx1 hfin1 hba hBa OWa
            go_upto_region 25 with fail
            obtain ⟨s9, h9⟩ := own13
            have tb9 : w13.cell? ⟨b, 0, none⟩ = some (.slice (some ⟨g, 0, none⟩) n m0) := ow_cell h9 (.tail _ (.head _)) (j := 0) (by omega)
            have hm9 : boxRow 29 1 r [.slice none 0 0] ∈ curRow c vc a8 s9 :: (boxRow 29 1 b [.slice (some ⟨g, 0, none⟩) n m0] :: (rowsOf 24 3 (.slice (some ⟨g, 0, none⟩) n m0) vs2 M2 ++ (boxRow 29 1 r [.slice none 0 0] :: R))) := by simp
            have rb9 : w13.cell? ⟨r, 0, none⟩ = some (.slice none 0 0) := ow_cell h9 hm9 (j := 0) (by omega)
            have rf9 := ow_frozen h9 hm9 0
            have hs9 := CurAt.set (A := boxRow 29 1 b [.slice (some ⟨g, 0, none⟩) n m0] :: rowsOf 24 3 (.slice (some ⟨g, 0, none⟩) n m0) vs2 M2) (L := R) ⟨s9, h9⟩ 0 (.slice (some ⟨g, 0, none⟩) n m0)
            have hz9 : (w13.setCell ⟨r, 0, none⟩ (.slice (some ⟨g, 0, none⟩) n m0)).cell? ⟨r, 0, none⟩ = some (.slice (some ⟨g, 0, none⟩) n m0) := by go_simp
            have own9 : CurAt (w13.setCell ⟨r, 0, none⟩ (.slice (some ⟨g, 0, none⟩) n m0)) B c vc a8 (rowsOf 24 3 (.slice (some ⟨g, 0, none⟩) n m0) vs2 M2 ++ R) := (hs9.1.drop).sub (List.Sublist.append_left (List.sublist_cons_self _ _) _)
            have b9 := (b13).setCell hs9.2 (p := ⟨r, 0, none⟩) (.slice (some ⟨g, 0, none⟩) n m0)
            clear h9 hm9 hs9
            go_wp2
            refine bodyPost_ret (v := .agg #[.slice (some ⟨g, 0, none⟩) n m0]) (by simp [results, Try.results58, go_sem, hz9]) rfl ?_
            have hL9 := hMl2.out
            exact ⟨_, _, _, M2, a8, by rw [hL9], (by rw [hv2.out, hMl2.out]), hok2.out, by omega, by omega, by rw [hL9]; exact own9, b9⟩
        · by_cases hq2 : z = 2
          · go_wp2_with fail
            refine (table7_any (w0 := w0) hc own8 hwB (by omega) (by omega)).mono ?_
            rintro e w9 ⟨d5, m5, vs5, M5, a9, rfl, hv5, hM5, h91, h92, own9, b9⟩
            have b9' := b8'.trans b9
            have hset := CurAt.set (A := rowsOf 24 3 (.slice d5 M5.length m5) vs5 M5) own9 0 (.slice d5 M5.length m5)
            have b10 := b9'.setCell hset.2 (p := ⟨b, 0, none⟩) (.slice d5 M5.length m5)
            have tb : w9.cell? ⟨b, 0, none⟩ = some (.slice (some ⟨g, 0, none⟩) n m0) := (own9.at (e := 29) (z := 1) (b := b) (cs := [.slice (some ⟨g, 0, none⟩) n m0]) (List.mem_append_right _ (.head _)) (j := 0) (by omega)).1
            have tbf := (own9.at (e := 29) (z := 1) (b := b) (cs := [.slice (some ⟨g, 0, none⟩) n m0]) (List.mem_append_right _ (.head _)) (j := 0) (by omega)).2
            have own10 : CurAt (w9.setCell ⟨b, 0, none⟩ (.slice d5 M5.length m5)) B c vc a9 (boxRow 29 1 b [.slice d5 M5.length m5] :: (rowsOf 24 3 (.slice d5 M5.length m5) vs5 M5 ++ (boxRow 29 1 r [.slice none 0 0] :: R))) :=
              (hset.1.sub (List.Sublist.append_left ((List.sublist_append_right (rowsOf 24 3 (.slice (some ⟨g, 0, none⟩) n m0) vs M) _).cons_cons _) _)).perm List.perm_middle.symm
            clear own8 own9 hset b8' b9 b9'
            go_upto_region 25 with fail
            clear tb tbf
            generalize w9.setCell ⟨b, 0, none⟩ (.slice d5 M5.length m5) = w10 at *
            obtain ⟨s9, h9⟩ := own10
            have tb9 : w10.cell? ⟨b, 0, none⟩ = some (.slice d5 M5.length m5) := ow_cell h9 (.tail _ (.head _)) (j := 0) (by omega)
            have hm9 : boxRow 29 1 r [.slice none 0 0] ∈ curRow c vc a9 s9 :: (boxRow 29 1 b [.slice d5 M5.length m5] :: (rowsOf 24 3 (.slice d5 M5.length m5) vs5 M5 ++ (boxRow 29 1 r [.slice none 0 0] :: R))) := by simp
            have rb9 : w10.cell? ⟨r, 0, none⟩ = some (.slice none 0 0) := ow_cell h9 hm9 (j := 0) (by omega)
            have rf9 := ow_frozen h9 hm9 0
            have hs9 := CurAt.set (A := boxRow 29 1 b [.slice d5 M5.length m5] :: rowsOf 24 3 (.slice d5 M5.length m5) vs5 M5) (L := R) ⟨s9, h9⟩ 0 (.slice d5 M5.length m5)
            have hz9 : (w10.setCell ⟨r, 0, none⟩ (.slice d5 M5.length m5)).cell? ⟨r, 0, none⟩ = some (.slice d5 M5.length m5) := by go_simp
            have own9 : CurAt (w10.setCell ⟨r, 0, none⟩ (.slice d5 M5.length m5)) B c vc a9 (rowsOf 24 3 (.slice d5 M5.length m5) vs5 M5 ++ R) := (hs9.1.drop).sub (List.Sublist.append_left (List.sublist_cons_self _ _) _)
            have b9 := (b10).setCell hs9.2 (p := ⟨r, 0, none⟩) (.slice d5 M5.length m5)
            clear h9 hm9 hs9
            go_wp2
            refine bodyPost_ret (v := .agg #[.slice d5 M5.length m5]) (by simp [results, Try.results58, go_sem, hz9]) rfl ?_
            have hL9 := (rfl : M5.length = M5.length)
            exact ⟨_, _, _, M5, a9, by rw [hL9], hv5, hM5, by omega, by omega, by rw [hL9]; exact own9, b9⟩
          · by_cases hq3 : z = 3
            · have hput := CurAt.put (A := [_]) own8 hvM.out hxM hux.out hrx.out y 99
              have hM2 := hid (hM.out.set (show x < n by omega) y (x := 99) (by unfold I64; omega))
              have hgc : w8.cell? ⟨gx, y, none⟩ = some (.int .i64 (nth (row M x) y)) ∧ w8.frozen? ⟨gx, y, none⟩ = false := by
                obtain ⟨R', hT⟩ := CurAt.tab (A := [_]) own8
                exact rw_at hT hxM hux.out hrx.out (by omega)
              obtain ⟨hgc0, hgc1⟩ := hgc
              have hf8 := hfacts.out _ _ M hMl.out own8
              obtain ⟨hf81, hf82, hf83⟩ := hf8
              have own9 := hput.1
              have b9 := b8'.setCell hput.2 (p := ⟨gx, y, none⟩) (.int .i64 99)
              go_upto_region 24 with fail
              clear hgc0 hgc1 hf81 hf82 hf83 hput own8 b8' e8
              generalize w8.setCell ⟨gx, y, none⟩ (.int .i64 99) = w9 at *
              generalize M.set x ((row M x).set y 99) = M2 at *
              have hrl2 := hid (hM2.out.rowlen (show y < n by omega))
              have hMl2 := hid hM2.out.1
              have hyM2 : y < M2.length := by rw [hMl2.out]; omega
              have hput := CurAt.put (A := [_]) own9 (by rw [hvs.out, hMl2.out]) hyM2 huy.out hrl2.out x 99
              have hM3 := hid (hM2.out.set (show y < n by omega) x (x := 99) (by unfold I64; omega))
              have hgc : w9.cell? ⟨gy, x, none⟩ = some (.int .i64 (nth (row M2 y) x)) ∧ w9.frozen? ⟨gy, x, none⟩ = false := by
                obtain ⟨R', hT⟩ := CurAt.tab (A := [_]) own9
                exact rw_at hT hyM2 huy.out hrl2.out (by omega)
              obtain ⟨hgc0, hgc1⟩ := hgc
              have hf8 := hfacts.out _ _ M2 hMl2.out own9
              obtain ⟨hf81, hf82, hf83⟩ := hf8
              have own10 := hput.1
              have b10 := b9.setCell hput.2 (p := ⟨gy, x, none⟩) (.int .i64 99)
              go_upto_region 25 with fail
              clear hgc0 hgc1 hf81 hf82 hf83 hput own9 b9
              generalize w9.setCell ⟨gy, x, none⟩ (.int .i64 99) = w10 at *
              generalize M2.set y ((row M2 y).set x 99) = M3 at *
              obtain ⟨s9, h9⟩ := own10
              have tb9 : w10.cell? ⟨b, 0, none⟩ = some (.slice (some ⟨g, 0, none⟩) n m0) := ow_cell h9 (.tail _ (.head _)) (j := 0) (by omega)
              have hm9 : boxRow 29 1 r [.slice none 0 0] ∈ curRow c vc a8 s9 :: (boxRow 29 1 b [.slice (some ⟨g, 0, none⟩) n m0] :: (rowsOf 24 3 (.slice (some ⟨g, 0, none⟩) n m0) vs M3 ++ (boxRow 29 1 r [.slice none 0 0] :: R))) := by simp
              have rb9 : w10.cell? ⟨r, 0, none⟩ = some (.slice none 0 0) := ow_cell h9 hm9 (j := 0) (by omega)
              have rf9 := ow_frozen h9 hm9 0
              have hs9 := CurAt.set (A := boxRow 29 1 b [.slice (some ⟨g, 0, none⟩) n m0] :: rowsOf 24 3 (.slice (some ⟨g, 0, none⟩) n m0) vs M3) (L := R) ⟨s9, h9⟩ 0 (.slice (some ⟨g, 0, none⟩) n m0)
              have hz9 : (w10.setCell ⟨r, 0, none⟩ (.slice (some ⟨g, 0, none⟩) n m0)).cell? ⟨r, 0, none⟩ = some (.slice (some ⟨g, 0, none⟩) n m0) := by go_simp
              have own9 : CurAt (w10.setCell ⟨r, 0, none⟩ (.slice (some ⟨g, 0, none⟩) n m0)) B c vc a8 (rowsOf 24 3 (.slice (some ⟨g, 0, none⟩) n m0) vs M3 ++ R) := (hs9.1.drop).sub (List.Sublist.append_left (List.sublist_cons_self _ _) _)
              have b9 := (b10).setCell hs9.2 (p := ⟨r, 0, none⟩) (.slice (some ⟨g, 0, none⟩) n m0)
              clear h9 hm9 hs9
              go_wp2
              refine bodyPost_ret (v := .agg #[.slice (some ⟨g, 0, none⟩) n m0]) (by simp [results, Try.results58, go_sem, hz9]) rfl ?_
              have hL9 := hM3.out.1
              exact ⟨_, _, _, M3, a8, by rw [hL9], (by rw [hvs.out, hM3.out.1]), (hM3.out.ok (by omega)), by omega, by omega, by rw [hL9]; exact own9, b9⟩
            · go_upto_region 25 with fail
              obtain ⟨s9, h9⟩ := own8
              have tb9 : w8.cell? ⟨b, 0, none⟩ = some (.slice (some ⟨g, 0, none⟩) n m0) := ow_cell h9 (.tail _ (.head _)) (j := 0) (by omega)
              have hm9 : boxRow 29 1 r [.slice none 0 0] ∈ curRow c vc a8 s9 :: (boxRow 29 1 b [.slice (some ⟨g, 0, none⟩) n m0] :: (rowsOf 24 3 (.slice (some ⟨g, 0, none⟩) n m0) vs M ++ (boxRow 29 1 r [.slice none 0 0] :: R))) := by simp
              have rb9 : w8.cell? ⟨r, 0, none⟩ = some (.slice none 0 0) := ow_cell h9 hm9 (j := 0) (by omega)
              have rf9 := ow_frozen h9 hm9 0
              have hs9 := CurAt.set (A := boxRow 29 1 b [.slice (some ⟨g, 0, none⟩) n m0] :: rowsOf 24 3 (.slice (some ⟨g, 0, none⟩) n m0) vs M) (L := R) ⟨s9, h9⟩ 0 (.slice (some ⟨g, 0, none⟩) n m0)
              have hz9 : (w8.setCell ⟨r, 0, none⟩ (.slice (some ⟨g, 0, none⟩) n m0)).cell? ⟨r, 0, none⟩ = some (.slice (some ⟨g, 0, none⟩) n m0) := by go_simp
              have own9 : CurAt (w8.setCell ⟨r, 0, none⟩ (.slice (some ⟨g, 0, none⟩) n m0)) B c vc a8 (rowsOf 24 3 (.slice (some ⟨g, 0, none⟩) n m0) vs M ++ R) := (hs9.1.drop).sub (List.Sublist.append_left (List.sublist_cons_self _ _) _)
              have b9 := (b8').setCell hs9.2 (p := ⟨r, 0, none⟩) (.slice (some ⟨g, 0, none⟩) n m0)
              clear h9 hm9 hs9
              go_wp2
              refine bodyPost_ret (v := .agg #[.slice (some ⟨g, 0, none⟩) n m0]) (by simp [results, Try.results58, go_sem, hz9]) rfl ?_
              have hL9 := hMl.out
              exact ⟨_, _, _, M, a8, by rw [hL9], hvM.out, (hM.out.ok (by omega)), by omega, by omega, by rw [hL9]; exact own9, b9⟩
end Go.Proofs.Ytnlbjbnjjkilhaa
