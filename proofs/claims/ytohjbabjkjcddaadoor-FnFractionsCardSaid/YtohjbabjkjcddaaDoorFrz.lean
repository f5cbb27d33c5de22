/- Fractions drawn from a code. -/
import Derived.Test.YtohjbabjkjcddaaDoorFrt
namespace Go.Proofs.YtohjbabjkjcddaaDoor
open Go.RowKit

def frRow (g : Nat) (n d : Int) : Row := ⟨25, 2, .slice (some ⟨g, 0, none⟩) 1 1, 1, [.int .i64 n, .int .i64 d]⟩
theorem CurAt.frac {w : World} {B c : Nat} {vc : Value} {a : Int} {R : List Row} (h : CurAt w B c vc a R) (n d : Int) :
    CurAt (w.alloc (.cells #[.int .i64 n, .int .i64 d] 25)) B c vc a (frRow w.heap.size n d :: R) := by
  have hB := h.sz
  obtain ⟨s, h⟩ := h
  have h1 := h.lit 25 2 1 #[.int .i64 n, .int .i64 d] hB (by unfold maxLen; omega) rfl
  exact ⟨s, h1.perm (List.Perm.swap _ _ _)⟩
theorem CurAt.frac0 {w : World} {B c : Nat} {vc : Value} {a : Int} {R : List Row} {g : Nat} {n d : Int} (h : CurAt w B c vc a (frRow g n d :: R)) :
    w.cell? ⟨g, 0, none⟩ = some (.int .i64 n) ∧ w.cell? ⟨g, 1, none⟩ = some (.int .i64 d) ∧ w.frozen? ⟨g, 0, none⟩ = false ∧ w.frozen? ⟨g, 1, none⟩ = false ∧ B ≤ g := by
  have o := h.rows
  refine ⟨ow_cell o (.head _) (j := 0) (by omega), ow_cell o (.head _) (j := 1) (by omega), ow_frozen o (.head _) 0, ow_frozen o (.head _) 1, (ow_lt o).1⟩
theorem CurAt.frSet {w : World} {B c : Nat} {vc : Value} {a : Int} {R : List Row} {g : Nat} {n d : Int} (h : CurAt w B c vc a (frRow g n d :: R)) (n' d' : Int) :
    CurAt ((w.setCell ⟨g, 0, none⟩ (.int .i64 n')).setCell ⟨g, 1, none⟩ (.int .i64 d')) B c vc a (frRow g n' d' :: R) := by
  obtain ⟨s, h⟩ := h
  have h1 := ow_set (A := [curRow c vc a s]) (L := R) h 0 (.int .i64 n')
  have h2 := ow_set (A := [curRow c vc a s]) (L := R) h1 1 (.int .i64 d')
  exact ⟨s, h2⟩
theorem CurAt.frBelow {w : World} {B g : Nat} (hg : B ≤ g) (u v : Value) : Below B w ((w.setCell ⟨g, 0, none⟩ u).setCell ⟨g, 1, none⟩ v) :=
  ((Below.refl B w).setCell (p := ⟨g, 0, none⟩) hg u).setCell (p := ⟨g, 1, none⟩) hg v
theorem CurAt.swap {w : World} {B c : Nat} {vc : Value} {a : Int} {R : List Row} {r1 r2 : Row} (h : CurAt w B c vc a (r1 :: r2 :: R)) : CurAt w B c vc a (r2 :: r1 :: R) := h.perm (List.Perm.swap _ _ _)
def FrPost (w : World) (B c : Nat) (vc : Value) (a : Int) (R : List Row) (e : Ending) (w' : World) : Prop :=
  ∃ n d a' : Int, e = .returned (.agg #[.int .i64 n, .int .i64 d]) ∧ a ≤ a' ∧ a' ≤ a + 12 ∧ CurAt w' B c vc a' R ∧ Below B w w'
set_option maxHeartbeats 3200000 in
theorem frac_any {w0 w : World} [Ext w0 w] {vc : Value} {nb : Nat} (hc : IsBytes w0 vc nb) {B c : Nat} {a : Int} {R : List Row} (own : CurAt w B c vc a R) (hwB : w0.heap.size ≤ B) (ha : 0 ≤ a) (ha2 : a ≤ 1000000) :
    Calls Tryd.prog 22 #[.pointer (some ⟨c, 0, none⟩)] w fun e w' => FrPost w B c vc a R e w' := by
  have hBw := own.sz
  obtain ⟨g, hg⟩ : ∃ g, g = w.heap.size := ⟨_, rfl⟩
  obtain ⟨W, hW⟩ : ∃ W, W = w.alloc (.cells #[.int .i64 0, .int .i64 0] 25) := ⟨_, rfl⟩
  have own1 : CurAt W B c vc a (frRow g 0 0 :: R) := by rw [hW, hg]; exact own.frac 0 0
  have b1 : Below B w W := by rw [hW]; exact (Below.refl B w).alloc hBw _
  have hgB : B ≤ g := by omega
  have hE := hid (show ∀ u, Below B w u → Ext w0 u from fun u h => ⟨(‹Ext w0 w›).below.trans (h.mono hwB)⟩)
  go_enter Tryd.func22, Tryd.ntmps22
  go_upto_region 1 with fail
  rw [← hW, ← hg]
  replace hW := hid hW
  replace hg := hid hg
  have eW := hE.out _ b1
  go_wp2_with fail
  refine (pick_any (w0 := w0) hc own1 hwB (by omega) (by omega)).mono ?_
  rintro e w2 ⟨x, a2, rfl, hx0, hx1, hx2, h2a, h2b, own2, b2'⟩
  have hx3 := hx2 (by omega)
  have b2 := b1.trans b2'
  have e2 := hE.out _ b2
  go_wp2_with fail
  refine (one_any (w0 := w0) hc own2 hwB (by omega) (by omega)).mono ?_
  rintro e w3 ⟨bo, a3, rfl, h3a, h3b, own3, b3'⟩
  have b3 := b2.trans b3'
  have e3 := hE.out _ b3
  go_upto_if 11 with fail
  go_cut [3] (fun v wx => ∃ m ax : Int, v = .int .i64 m ∧ (-100000000 ≤ m ∧ m ≤ 100000000) ∧ a ≤ ax ∧ ax ≤ a + 6 ∧ CurAt wx B c vc ax (frRow g 0 0 :: R) ∧ Below B w wx)
  case first =>
    cases bo with
    | false =>
      go_wp2_with fail
      go_meet
      exact ⟨x - 12, a3, rfl, by omega, by omega, by omega, own3, b3⟩
    | true =>
      have oL1 := own3.lit (e := 3) (n := 6) (cs := #[.int .i64 0, .int .i64 100000000, .int .i64 (-100000000), .int .i64 99999999, .int .i64 12345, .int .i64 (-7654321)]) [0, 100000000, -100000000, 99999999, 12345, -7654321] own3.sz rfl rfl (by simp)
      have bL1 := (b3).trans ((Below.refl B w3).alloc own3.sz (.cells #[.int .i64 0, .int .i64 100000000, .int .i64 (-100000000), .int .i64 99999999, .int .i64 12345, .int .i64 (-7654321)] 3))
      have eL1 := hE.out _ bL1
      have ham1 := among_any (w0 := w0) hc oL1 hwB (by omega) (by omega) (by simp) (by simp)
      replace ham1 := hid ham1
      replace bL1 := hid bL1
      clear oL1
      go_wp2_with fail
      refine ham1.out.mono ?_
      rintro e w4 ⟨y, ay, rfl, hy, hya, hyb, own3y, by1⟩
      replace own3y := own3y.drop
      have bw4 := bL1.out.trans by1
      have ew4 := hE.out _ bw4
      have hyr : -100000000 ≤ y ∧ y ≤ 100000000 := by simp at hy; omega
      go_wp2_with fail
      go_meet
      exact ⟨y, ay, rfl, hyr, by omega, by omega, own3y, bw4⟩
  case rest =>
    obtain ⟨m, a5, rfl, hm, h5a, h5b, own5, b5⟩ := hcut
    obtain ⟨w5, rfl⟩ : ∃ z : World, z = wc := ⟨_, rfl⟩
    have e5 := hE.out _ b5
    have oL2 := own5.lit (e := 3) (n := 12) (cs := #[.int .i64 1, .int .i64 1, .int .i64 2, .int .i64 3, .int .i64 4, .int .i64 5, .int .i64 6, .int .i64 7, .int .i64 12, .int .i64 100000, .int .i64 99999, .int .i64 720]) [1, 1, 2, 3, 4, 5, 6, 7, 12, 100000, 99999, 720] own5.sz rfl rfl (by simp)
    have bL2 := (b5).trans ((Below.refl B w5).alloc own5.sz (.cells #[.int .i64 1, .int .i64 1, .int .i64 2, .int .i64 3, .int .i64 4, .int .i64 5, .int .i64 6, .int .i64 7, .int .i64 12, .int .i64 100000, .int .i64 99999, .int .i64 720] 3))
    have eL2 := hE.out _ bL2
    have ham2 := among_any (w0 := w0) hc oL2 hwB (by omega) (by omega) (by simp) (by simp)
    replace ham2 := hid ham2
    replace bL2 := hid bL2
    clear oL2
    go_wp2_with fail
    refine ham2.out.mono ?_
    rintro e w6 ⟨y, ay, rfl, hy, hya, hyb, own5y, by2⟩
    replace own5y := own5y.drop
    have bw6 := bL2.out.trans by2
    have ew6 := hE.out _ bw6
    have hyr : 1 ≤ y ∧ y ≤ 100000 := by simp at hy; omega
    clear hy
    have hM := fun (u : World) => l2Make_any (n := m) (d := y) (by omega) (by omega) (by omega) (by omega) u
    obtain ⟨rn, hrn⟩ : ∃ q, q = mrN m y := ⟨_, rfl⟩
    obtain ⟨rd, hrd⟩ : ∃ q, q = mrD m y := ⟨_, rfl⟩
    obtain ⟨rb, hrb⟩ : ∃ q, q = mkB m y := ⟨_, rfl⟩
    rw [mkA_eq, ← hrn, ← hrd, ← hrb] at hM
    replace hM := hid hM
    replace hrn := hid hrn
    replace hrd := hid hrd
    replace hrb := hid hrb
    go_wp2_with fail
    refine (hM.out w6).mono ?_
    rintro e w7 ⟨rfl, e67⟩
    have b7 : Below B w w7 := bw6.trans (e67.below.mono own5y.sz)
    have own7 := own5y.ext (w' := w7)
    have own8 := own7.frac rn rd
    have b8 := b7.trans ((Below.refl B w7).alloc own7.sz (.cells #[.int .i64 rn, .int .i64 rd] 25))
    obtain ⟨g8, hg8⟩ : ∃ q, q = w7.heap.size := ⟨_, rfl⟩
    go_upto_if 25 with fail
    rw [← hg8] at own8 ⊢
    replace hg8 := hid hg8
    generalize w7.alloc (.cells #[.int .i64 rn, .int .i64 rd] 25) = w8 at *
    obtain ⟨v0, v1, v2, v3, hg8B⟩ := own8.frac0
    go_cut [] (fun wx => ∃ p q : Int, CurAt wx B c vc ay (frRow g8 p q :: frRow g 0 0 :: R) ∧ Below B w wx)
    case first =>
      cases rb with
      | true =>
        go_wp2_with fail
        go_meet
        exact ⟨_, _, own8, b8⟩
      | false =>
        have hbw := CurAt.frBelow (w := w8) (B := B) hg8B (.int .i64 m) (.int .i64 1)
        have hfs := own8.frSet m 1
        replace hbw := hid hbw
        replace hfs := hid hfs
        go_wp2_with fail
        go_meet
        exact ⟨_, _, hfs.out, b8.trans hbw.out⟩
    case rest =>
      obtain ⟨p, q, own9, b9⟩ := hcut
      obtain ⟨w9, rfl⟩ : ∃ z : World, z = wc := ⟨_, rfl⟩
      have e9 := hE.out _ b9
      clear v0 v1 v2 v3
      go_wp2_with fail
      refine (pick_any (w0 := w0) hc own9 hwB (by omega) (by omega)).mono ?_
      rintro e wq ⟨z, az, rfl, hz0, hz1, hz2, hza, hzb, ownq, bq'⟩
      have hz3 := hz2 (by omega)
      have bq := b9.trans bq'
      have eq := hE.out _ bq
      by_cases hz : z = 0
      · subst hz
        obtain ⟨c0, c1, c2, c3, _⟩ := ownq.swap.frac0
        go_wp2_with fail
        have hbw := CurAt.frBelow (w := wq) (B := B) (g := g) hgB (.int .i64 2) (.int .i64 4)
        have hfs := ownq.swap.frSet 2 4
        have hfc := hfs.frac0
        replace hbw := hid hbw
        obtain ⟨c0, c1, _, _, _⟩ := hfc
        refine bodyPost_ret (v := .agg #[.int .i64 2, .int .i64 4]) (by simp [results, Tryd.results22, go_sem, c0, c1]) rfl ?_
        exact ⟨_, _, _, rfl, by omega, by omega, hfs.drop.drop, (bq).trans hbw.out⟩
      · have hz' : (z == 0) = false := beq_eq_false_iff_ne.2 hz
        by_cases hy1 : z = 1
        · subst hy1
          have oL3 := ownq.lit (e := 3) (n := 4) (cs := #[.int .i64 0, .int .i64 (-1), .int .i64 100001, .int .i64 4611686018427387904]) [0, -1, 100001, 4611686018427387904] ownq.sz rfl rfl (by simp)
          have bL3 := (bq).trans ((Below.refl B wq).alloc ownq.sz (.cells #[.int .i64 0, .int .i64 (-1), .int .i64 100001, .int .i64 4611686018427387904] 3))
          have eL3 := hE.out _ bL3
          have ham3 := among_any (w0 := w0) hc oL3 hwB (by omega) (by omega) (by simp) (by simp)
          replace ham3 := hid ham3
          replace bL3 := hid bL3
          clear oL3
          go_wp2_with fail
          refine ham3.out.mono ?_
          rintro e wr ⟨y, ay, rfl, hy, hya, hyb, ownqy, by3⟩
          replace ownqy := ownqy.drop
          have bwr := bL3.out.trans by3
          have ewr := hE.out _ bwr
          obtain ⟨c0, c1, c2, c3, _⟩ := ownqy.swap.frac0
          go_wp2_with fail
          have hbw := CurAt.frBelow (w := wr) (B := B) (g := g) hgB (.int .i64 m) (.int .i64 y)
          have hfs := ownqy.swap.frSet m y
          have hfc := hfs.frac0
          replace hbw := hid hbw
          obtain ⟨c0, c1, _, _, _⟩ := hfc
          refine bodyPost_ret (v := .agg #[.int .i64 m, .int .i64 y]) (by simp [results, Tryd.results22, go_sem, c0, c1]) rfl ?_
          exact ⟨_, _, _, rfl, by omega, by omega, hfs.drop.drop, (bwr).trans hbw.out⟩
        · have hy1' : (z == 1) = false := beq_eq_false_iff_ne.2 hy1
          by_cases hy2 : z = 2
          · subst hy2
            have oL4 := ownq.lit (e := 3) (n := 4) (cs := #[.int .i64 100000001, .int .i64 (-9223372036854775808), .int .i64 9223372036854775807, .int .i64 (-100000001)]) [100000001, -9223372036854775808, 9223372036854775807, -100000001] ownq.sz rfl rfl (by simp)
            have bL4 := (bq).trans ((Below.refl B wq).alloc ownq.sz (.cells #[.int .i64 100000001, .int .i64 (-9223372036854775808), .int .i64 9223372036854775807, .int .i64 (-100000001)] 3))
            have eL4 := hE.out _ bL4
            have ham4 := among_any (w0 := w0) hc oL4 hwB (by omega) (by omega) (by simp) (by simp)
            replace ham4 := hid ham4
            replace bL4 := hid bL4
            clear oL4
            go_wp2_with fail
            refine ham4.out.mono ?_
            rintro e wr ⟨y, ay, rfl, hy, hya, hyb, ownqy, by4⟩
            replace ownqy := ownqy.drop
            have bwr := bL4.out.trans by4
            have ewr := hE.out _ bwr
            obtain ⟨c0, c1, c2, c3, _⟩ := ownqy.swap.frac0
            go_wp2_with fail
            have hbw := CurAt.frBelow (w := wr) (B := B) (g := g) hgB (.int .i64 y) (.int .i64 1)
            have hfs := ownqy.swap.frSet y 1
            have hfc := hfs.frac0
            replace hbw := hid hbw
            obtain ⟨c0, c1, _, _, _⟩ := hfc
            refine bodyPost_ret (v := .agg #[.int .i64 y, .int .i64 1]) (by simp [results, Tryd.results22, go_sem, c0, c1]) rfl ?_
            exact ⟨_, _, _, rfl, by omega, by omega, hfs.drop.drop, (bwr).trans hbw.out⟩
          · have hy2' : (z == 2) = false := beq_eq_false_iff_ne.2 hy2
            obtain ⟨d0, d1, d2, d3, _⟩ := ownq.frac0
            obtain ⟨c0, c1, c2, c3, _⟩ := ownq.swap.frac0
            go_wp2_with fail
            have hbw := CurAt.frBelow (w := wq) (B := B) (g := g) hgB (.int .i64 p) (.int .i64 q)
            have hfs := ownq.swap.frSet p q
            have hfc := hfs.frac0
            replace hbw := hid hbw
            obtain ⟨c0, c1, _, _, _⟩ := hfc
            refine bodyPost_ret (v := .agg #[.int .i64 p, .int .i64 q]) (by simp [results, Tryd.results22, go_sem, c0, c1]) rfl ?_
            exact ⟨_, _, _, rfl, by omega, by omega, hfs.drop.drop, (bq).trans hbw.out⟩
def AfPost (w : World) (e : Ending) (w' : World) : Prop :=
  ∃ n d n2 d2 : Int, e = .returned (.tuple #[.agg #[.int .i64 n, .int .i64 d], .agg #[.int .i64 n2, .int .i64 d2]]) ∧ Ext w w'
theorem own_two (w : World) (vc : Value) : CurAt (((w.alloc (.cells #[.int .i64 0, .int .i64 0] 25)).alloc (.cells #[.int .i64 0, .int .i64 0] 25)).alloc (.cells #[vc, .int .i64 0, .int .u64 0] 41)) w.heap.size (w.heap.size + 1 + 1) vc 0 [frRow (w.heap.size + 1) 0 0, frRow w.heap.size 0 0] ∧ Below w.heap.size w (((w.alloc (.cells #[.int .i64 0, .int .i64 0] 25)).alloc (.cells #[.int .i64 0, .int .i64 0] 25)).alloc (.cells #[vc, .int .i64 0, .int .u64 0] 41)) := by
  have o1 := (Own.nil w w.heap.size).lit 25 2 1 #[.int .i64 0, .int .i64 0] (Nat.le_refl _) (by unfold maxLen; omega) rfl
  have s1 : (w.alloc (.cells #[.int .i64 0, .int .i64 0] 25)).heap.size = w.heap.size + 1 := by go_simp
  have o2 := o1.lit 25 2 1 #[.int .i64 0, .int .i64 0] (by omega) (by unfold maxLen; omega) rfl
  have s2 : ((w.alloc (.cells #[.int .i64 0, .int .i64 0] 25)).alloc (.cells #[.int .i64 0, .int .i64 0] 25)).heap.size = w.heap.size + 1 + 1 := by go_simp
  have o3 := CurAt.begin0 (vc := vc) o2 (by omega)
  rw [s2, s1] at o3
  exact ⟨o3, (((Below.refl _ w).alloc (Nat.le_refl _) _).alloc (by omega) _).alloc (by omega) _⟩
set_option maxHeartbeats 3200000 in
theorem drawAF_any {w0 w : World} [Ext w0 w] {vc : Value} {nb : Nat} (hc : IsBytes w0 vc nb) :
    Calls Tryd.prog 5 #[vc] w fun e w' => AfPost w e w' := by
  obtain ⟨ac, cc, rfl⟩ := hc.form
  have hsz : w0.heap.size ≤ w.heap.size := (‹Ext w0 w›).size
  obtain ⟨own1, b1⟩ := own_two w (.slice ac nb cc)
  obtain ⟨B, hB⟩ : ∃ B, B = w.heap.size := ⟨_, rfl⟩
  have hwB : w0.heap.size ≤ B := by omega
  have hE := hid (show ∀ u, Below B w u → Ext w u from fun u h => ⟨by rw [← hB]; exact h⟩)
  rw [← hB] at own1 b1
  go_enter Tryd.func5, Tryd.ntmps5
  go_upto_region 2 with fail
  rw [← hB]
  replace hB := hid hB
  generalize ((w.alloc (.cells #[.int .i64 0, .int .i64 0] 25)).alloc (.cells #[.int .i64 0, .int .i64 0] 25)).alloc (.cells #[.slice ac nb cc, .int .i64 0, .int .u64 0] 41) = w1 at *
  have e1 : Ext w0 w1 := Ext.trans ‹Ext w0 w› (hE.out _ b1)
  go_wp2_with fail
  refine (frac_any (w0 := w0) hc own1 hwB (by omega) (by omega)).mono ?_
  rintro e w2 ⟨n1, d1, a2, rfl, h2a, h2b, own2, b2'⟩
  have b2 := b1.trans b2'
  have e2 : Ext w0 w2 := Ext.trans ‹Ext w0 w› (hE.out _ b2)
  go_wp2_with fail
  refine (frac_any (w0 := w0) hc own2 hwB (by omega) (by omega)).mono ?_
  rintro e w3 ⟨n2, d2, a3, rfl, h3a, h3b, own3, b3'⟩
  have b3 := b2.trans b3'
  have e3 : Ext w0 w3 := Ext.trans ‹Ext w0 w› (hE.out _ b3)
  obtain ⟨t0, t1, t2, t3, _⟩ := own3.swap.frac0
  obtain ⟨u0, u1, u2, u3, _⟩ := own3.frac0
  go_wp2_with fail
  have hs1 := (own3).swap.frSet n1 d1
  have hw1 := CurAt.frBelow (w := w3) (B := B) (g := B) (Nat.le_refl B) (.int .i64 n1) (.int .i64 d1)
  have hs2 := hs1.swap.frSet n2 d2
  obtain ⟨c0, c1, c2, c3, _⟩ := hs2.frac0
  obtain ⟨d0', d1', _, _, _⟩ := hs2.swap.frac0
  have hw2 := (b3).trans (hw1.trans (CurAt.frBelow (B := B) (g := B + 1) (Nat.le_succ B) (.int .i64 n2) (.int .i64 d2)))
  replace hw2 := hid hw2
  clear hw1 hs1 hs2
  refine bodyPost_ret (v := .tuple #[.agg #[.int .i64 n1, .int .i64 d1], .agg #[.int .i64 n2, .int .i64 d2]]) (by simp [results, Tryd.results5, go_sem, c0, c1, d0', d1']) rfl ?_
  exact ⟨_, _, _, _, rfl, hE.out _ hw2.out⟩
end Go.Proofs.YtohjbabjkjcddaaDoor
