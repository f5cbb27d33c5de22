/- The pairs and their steps, as the reference finds them. -/
import Derived.Test.YtobfehekjapnhaaFlatW
import Derived.Test.YtobfehekjapnhaaPairP
import Derived.Test.YtobfehekjapnhaaBestP
namespace Go.Proofs.Ytobfehekjapnhaa
open Go.RowKit

/-- the offsets' graph -/
def grOf (M S N : List (List Int)) (s n : Nat) : Gr := ⟨M, S, N, offStp M S s n, offGrw M S s n⟩
/-- the rows of the reference's graph: its box, and its two lists -/
def grRows (bg : Nat) (pd sd : Option Addr) (pm sm : Nat) (svs : List Value) (bad : Bool) (L : List (List Int)) (Ms : List (List (List Int))) : List Row :=
  ⟨76, 3, .slice (some ⟨bg, 0, none⟩) 1 1, 1, [.slice pd L.length pm, .slice sd Ms.length sm, .bool bad]⟩ :: flatRowOf 59 2 (.slice pd L.length pm) L :: (rowsF 115 114 3 (.slice sd Ms.length sm) svs Ms ++ [])
/-- all is well behind n rounds -/
def PrInv (g : Gr) (k s B bg : Nat) (wb : World) (n : Nat) (wi : World) : Prop :=
  n ≤ 600 ∧ (prLst g s n).length ≤ 600 ∧ prOk g k (prLst g s n) ∧ prGo g s (700 - n) n = prEnd g s ∧ n ≤ (prLst g s n).length ∧ Below B wb wi ∧
  ∃ pd sd pm sm svs, svs.length = n ∧ Own wi B (grRows bg pd sd pm sm svs false (prLst g s n) (prSt g s n))
/-- there are too many pairs -/
def PrBad (g : Gr) (s B bg : Nat) (wb : World) (wi : World) : Prop :=
  prEnd g s = none ∧ Below B wb wi ∧ ∃ pd pn pm sd sn sm, wi.cell? ⟨bg, 0, none⟩ = some (.slice pd pn pm) ∧ wi.cell? ⟨bg, 1, none⟩ = some (.slice sd sn sm) ∧ wi.cell? ⟨bg, 2, none⟩ = some (.bool true)
def PrRow (g : Gr) (l : List (List Int)) (Ms : List (List (List Int))) (n B bg : Nat) (wb : World) (sd : Option Addr) (sm : Nat) (svs : List Value) (r : Nat) (av : Value) (wi : World) : Prop :=
  Below B wb wi ∧ ∃ pd pm, Own wi B (flatRowOf 114 3 av (rowSt g l n r) :: grRows bg pd sd pm sm svs false (rowPr g l n r) Ms)
theorem prOk_flat {g : Gr} {n : Nat} {l : List (List Int)} (h : prOk g n l) : (∀ x ∈ l, x.length = 2) ∧ (n ≤ 400 → g.M.length ≤ 400 → ∀ x ∈ l, ∀ y ∈ x, I64 y) := by
  refine ⟨fun x hx => ?_, fun hn hm x hx y hy => ?_⟩
  · obtain ⟨a, b, rfl, _⟩ := h x hx
    rfl
  · obtain ⟨a, b, rfl, h1, h2⟩ := h x hx
    simp only [List.mem_cons, List.not_mem_nil, or_false] at hy
    unfold I64
    rcases hy with rfl | rfl <;> omega
theorem prSt_read {g : Gr} {n s m : Nat} (hg : g.Ok n) (hs : s < g.M.length) (h : prEnd g s = some m) : ∀ L ∈ prSt g s m, L.length ≤ 1000000 ∧ (∀ x ∈ L, x.length = 3) ∧ ∀ x ∈ L, ∀ y ∈ x, I64 y := by
  intro L hL
  obtain ⟨i, hi, rfl⟩ := List.mem_map.1 hL
  have hi' := List.mem_range.1 hi
  have hn := probB_len hg.prob
  have h6 := (prEnd_some hg hs h).2.1
  refine ⟨by rw [rowSt_length]; omega, fun x hx => ?_, fun x hx y hy => ?_⟩
  all_goals
    obtain ⟨r, hr, rfl⟩ := List.mem_map.1 hx
    have hr' := List.mem_range.1 hr
  · rfl
  · obtain ⟨t, c, z, e, h1, h2, h3, h4, h5, h7⟩ := stepAt_in hg hs h hi' hr'
    have e' : stpRow g (prLst g s i) i r = [t, c, z] := e
    rw [e'] at hy
    simp only [List.mem_cons, List.not_mem_nil, or_false] at hy
    unfold I64
    rcases hy with rfl | rfl | rfl <;> omega
theorem prOk_cell {l : List (List Int)} {i : Nat} (h : row l i = [(stOf l i : Int), (ofOf l i : Int)]) : cell l i 0 = stOf l i ∧ cell l i 1 = ofOf l i := by
  unfold cell
  rw [h]
  exact ⟨rfl, rfl⟩
def makePost (M S N : List (List Int)) (s : Nat) (e : Ending) (w' : World) : Prop :=
  ((offEnd M S s = none ∨ ∃ n, offEnd M S s = some n ∧ prEnd (grOf M S N s n) s = none) ∧ ∃ d1 n1 m1 d2 n2 m2, e = .returned (.agg #[.slice d1 n1 m1, .slice d2 n2 m2, .bool true])) ∨
  ∃ n m, offEnd M S s = some n ∧ prEnd (grOf M S N s n) s = some m ∧ ∃ pd pm sd sm, e = .returned (.agg #[.slice pd (prLst (grOf M S N s n) s m).length pm, .slice sd (prSt (grOf M S N s n) s m).length sm, .bool false]) ∧
    IsFlat w' (.slice pd (prLst (grOf M S N s n) s m).length pm) 2 (prLst (grOf M S N s n) s m) ∧ IsFlats w' (.slice sd (prSt (grOf M S N s n) s m).length sm) 3 (prSt (grOf M S N s n) s m)

set_option maxHeartbeats 3200000 in
set_option maxRecDepth 100000 in
theorem l9Make_any {v1 v2 vN : Value} {M S N : List (List Int)} {s : Int} {w0 w : World} [Ext w0 w] (hM : IsRows w0 v1 M) (hS : IsRows w0 v2 S) (hN : IsRows w0 vN N) (h0 : startB M S s [] = true) (ha : algB M S N = true) :
    Calls Try.prog 89 #[.agg #[v1, v2], vN, .int .i64 s] w fun e w' => makePost M S N s.toNat e w' ∧ Ext w w' := by
  have hM' := hM
  have hS' := hS
  have hN' := hN
  obtain ⟨a1, c1, rfl, l1⟩ := hM.form
  obtain ⟨a2, c2, rfl, l2⟩ := hS.form
  obtain ⟨aN, cN, rfl, lN⟩ := hN.form
  have hsI := startB_state h0
  obtain ⟨s, rfl⟩ := Int.eq_ofNat_of_zero_le hsI.1
  rw [Int.toNat_natCast]
  have hs : s < M.length := by omega
  have hp := hid (startB_prob h0)
  have hn := hid (probB_len hp.out)
  replace h0 := hid h0
  replace ha := hid ha
  clear hsI
  obtain ⟨W, hW⟩ : ∃ W, W = (w.alloc (.cells #[.slice a1 M.length c1, .slice a2 S.length c2] 29)).alloc (.cells #[.slice none 0 0, .slice none 0 0, .bool false] 76) := ⟨_, rfl⟩
  have eW : Ext w W := by rw [hW]; infer_instance
  have k0 : W.cell? ⟨w.heap.size, 0, none⟩ = some (.slice a1 M.length c1) := by rw [hW]; go_simp
  have k1 : W.cell? ⟨w.heap.size, 1, none⟩ = some (.slice a2 S.length c2) := by rw [hW]; go_simp
  have c0 : W.cell? ⟨w.heap.size + 1, 0, none⟩ = some (.slice none 0 0) := by rw [hW]; go_simp
  have c1' : W.cell? ⟨w.heap.size + 1, 1, none⟩ = some (.slice none 0 0) := by rw [hW]; go_simp
  have c2' : W.cell? ⟨w.heap.size + 1, 2, none⟩ = some (.bool false) := by rw [hW]; go_simp
  have f0 : ∀ j, W.frozen? ⟨w.heap.size + 1, j, none⟩ = false := by intro j; rw [hW]; go_simp
  have eW0 : Ext w0 W := Ext.trans ‹Ext w0 w› eW
  go_enter Try.func89, Try.ntmps89
  go_upto_region 1 with fail
  rw [← hW]
  clear hW
  go_wp2_with fail
  refine (l8All_any (w0 := w0) hM' hS' hp.out hs).mono ?_
  rintro e w1 ⟨hpost, hb1⟩
  rcases hpost with ⟨hoff, d1, n1, m1, d2, n2, m2, d3, n3, m3, rfl⟩ | ⟨n, hoff, ld, lm, xd, xm, gd, gm, rfl, hLr, hXr, hGr⟩
  · replace hoff := hid hoff
    have rc0 := hb1.cell c0
    have rc1 := hb1.cell c1'
    have rc2 := hb1.cell c2'
    have rf : ∀ j, w1.frozen? ⟨w.heap.size + 1, j, none⟩ = false := fun j => (World.frozen?_of_block (a := ⟨w.heap.size + 1, j, none⟩) (hb1.below.block (w.heap.size + 1) (World.block_lt_of_cell? W _ c0))).trans (f0 j)
    obtain ⟨wb, hwb⟩ : ∃ x, x = ((w1.alloc (.cells #[.slice d1 n1 m1, .slice d2 n2 m2, .slice d3 n3 m3, .bool true] 141)).alloc (.cells #[.int .i64 s, .int .i64 0] 59)).alloc (.cells #[.slice (some ⟨w1.heap.size + 1, 0, none⟩) 1 1, .slice none 0 0, .bool true] 76) := ⟨_, rfl⟩
    have ewb : Ext w1 wb := by rw [hwb]; infer_instance
    have g0 : wb.cell? ⟨w1.heap.size + 1 + 1, 0, none⟩ = some (.slice (some ⟨w1.heap.size + 1, 0, none⟩) 1 1) := by rw [hwb]; go_simp
    have g1 : wb.cell? ⟨w1.heap.size + 1 + 1, 1, none⟩ = some (.slice none 0 0) := by rw [hwb]; go_simp
    have g2 : wb.cell? ⟨w1.heap.size + 1 + 1, 2, none⟩ = some (.bool true) := by rw [hwb]; go_simp
    go_upto_region 3 with fail
    rw [← hwb]
    clear hwb
    have z0 := ewb.cell rc0
    have z1 := ewb.cell rc1
    have z2 := ewb.cell rc2
    have zf : ∀ j, wb.frozen? ⟨w.heap.size + 1, j, none⟩ = false := fun j => (World.frozen?_of_block (a := ⟨w.heap.size + 1, j, none⟩) (ewb.below.block (w.heap.size + 1) (World.block_lt_of_cell? w1 _ rc0))).trans (rf j)
    have zf0 := zf 0
    have zf1 := zf 1
    have zf2 := zf 2
    have ew : Ext w wb := Ext.trans eW (Ext.trans hb1 ewb)
    generalize w1.heap.size + 1 + 1 = bg at *
    clear rc0 rc1 rc2 rf ewb
    go_wp2
    go_loopw [9] (fun i wi => i = .int .i64 0 ∧ wi = wb) (fun _ _ => 0)
    case atStart => exact ⟨rfl, rfl⟩
    case round =>
      obtain ⟨rfl, hwr⟩ := hrel
      subst hwr
      go_wp2_with fail
      refine bodyPost_ret (v := .agg #[.slice (some ⟨w1.heap.size + 1, 0, none⟩) 1 1, .slice none 0 0, .bool true]) (by simp [results, Try.results89, go_sem, z0, z1, z2]) rfl ?_
      refine ⟨.inl ⟨.inl hoff.out, _, _, _, _, _, _, rfl⟩, ?_⟩
      exact @Ext.set _ _ (@Ext.set _ _ (@Ext.set _ _ ew ⟨w.heap.size + 1, 0, none⟩ (Nat.le_succ _) _) ⟨w.heap.size + 1, 1, none⟩ (Nat.le_succ _) _) ⟨w.heap.size + 1, 2, none⟩ (Nat.le_succ _) _
  · have rc0 := hb1.cell c0
    have rc1 := hb1.cell c1'
    have rc2 := hb1.cell c2'
    have rf : ∀ j, w1.frozen? ⟨w.heap.size + 1, j, none⟩ = false := fun j => (World.frozen?_of_block (a := ⟨w.heap.size + 1, j, none⟩) (hb1.below.block (w.heap.size + 1) (World.block_lt_of_cell? W _ c0))).trans (f0 j)
    have rk0 := hb1.cell k0
    have rk1 := hb1.cell k1
    have hgk := hid (gr_ok h0.out ha.out hoff)
    rw [Int.toNat_natCast] at hgk
    have hgdef : grOf M S N s n = ⟨M, S, N, offStp M S s n, offGrw M S s n⟩ := rfl
    rw [← hgdef] at hgk
    obtain ⟨g, hg⟩ : ∃ g, g = grOf M S N s n := ⟨_, rfl⟩
    have hgM : g.M = M := by rw [hg]; rfl
    have hgS : g.S = S := by rw [hg]; rfl
    have hgN : g.N = N := by rw [hg]; rfl
    have hgT : g.T = offStp M S s n := by rw [hg]; rfl
    have hgG : g.G = offGrw M S s n := by rw [hg]; rfl
    rw [← hg] at hgk
    rw [← hgT] at hXr
    rw [← hgG] at hGr
    obtain ⟨wT, hwT⟩ : ∃ x, x = w1.alloc (.cells #[.slice ld (offLst M S s n).length lm, .slice xd (offStp M S s n).length xm, .slice gd (offGrw M S s n).length gm, .bool false] 141) := ⟨_, rfl⟩
    have hTs : wT.heap.size = w1.heap.size + 1 := by rw [hwT]; simp
    have e1T : Ext w1 wT := by rw [hwT]; infer_instance
    have tT1 : wT.cell? ⟨w1.heap.size, 1, none⟩ = some (.slice xd (offStp M S s n).length xm) := by rw [hwT]; go_simp
    have tT2 : wT.cell? ⟨w1.heap.size, 2, none⟩ = some (.slice gd (offGrw M S s n).length gm) := by rw [hwT]; go_simp
    obtain ⟨wb, hwb⟩ : ∃ x, x = ((w1.alloc (.cells #[.slice ld (offLst M S s n).length lm, .slice xd (offStp M S s n).length xm, .slice gd (offGrw M S s n).length gm, .bool false] 141)).alloc (.cells #[.int .i64 s, .int .i64 0] 59)).alloc (.cells #[.slice (some ⟨w1.heap.size + 1, 0, none⟩) 1 1, .slice none 0 0, .bool false] 76) := ⟨_, rfl⟩
    have ewT : Ext wT wb := by rw [hwb, hwT]; infer_instance
    have own0 : Own wb (w1.heap.size + 1) (grRows (w1.heap.size + 1 + 1) (some ⟨w1.heap.size + 1, 0, none⟩) none 1 0 [] false (prLst g s 0) (prSt g s 0)) := by
      have q1 := (Own.nil (w1.alloc (.cells #[.slice ld (offLst M S s n).length lm, .slice xd (offStp M S s n).length xm, .slice gd (offGrw M S s n).length gm, .bool false] 141)) (w1.heap.size + 1)).lit 59 2 1 #[.int .i64 s, .int .i64 0] (by simp) (by unfold maxLen; omega) rfl
      have q2 := q1.lit 76 3 1 #[.slice (some ⟨w1.heap.size + 1, 0, none⟩) 1 1, .slice none 0 0, .bool false] (by simp) (by unfold maxLen; omega) rfl
      have q3 := q2.cons_nil 115 1
      rw [hwb]
      rw [show ((w1.alloc (.cells #[.slice ld (offLst M S s n).length lm, .slice xd (offStp M S s n).length xm, .slice gd (offGrw M S s n).length gm, .bool false] 141)).alloc (.cells #[.int .i64 s, .int .i64 0] 59)).heap.size = w1.heap.size + 1 + 1 by simp, show (w1.alloc (.cells #[.slice ld (offLst M S s n).length lm, .slice xd (offStp M S s n).length xm, .slice gd (offGrw M S s n).length gm, .bool false] 141)).heap.size = w1.heap.size + 1 by simp] at q3
      exact q3.perm (List.perm_append_comm (l₁ := [_, _]) (l₂ := [_]))
    have ewb : Ext w1 wb := by rw [hwb]; infer_instance
    clear hwT
    go_upto_region 3 with fail
    rw [← hwb]
    have hBb : w1.heap.size + 1 ≤ wb.heap.size := by rw [hwb]; simp
    clear hwb
    rw [← hgT] at tT1
    rw [← hgG] at tT2
    have z0 := ewb.cell rc0
    have z1 := ewb.cell rc1
    have z2 := ewb.cell rc2
    have tk0 := e1T.cell rk0
    have tk1 := e1T.cell rk1
    have e0T : Ext w0 wT := Ext.trans eW0 (Ext.trans hb1 e1T)
    replace hTs := hid hTs
    have zf := hid (fun (j : Nat) => (World.frozen?_of_block (a := ⟨w.heap.size + 1, j, none⟩) (ewb.below.block (w.heap.size + 1) (World.block_lt_of_cell? w1 _ rc0))).trans (rf j))
    have ew : Ext w wb := Ext.trans eW (Ext.trans hb1 ewb)
    have hwlt : w.heap.size + 1 < w1.heap.size := World.block_lt_of_cell? w1 _ rc0
    have hInv0 : PrInv g n s (w1.heap.size + 1) (w1.heap.size + 1 + 1) wb 0 wb := ⟨by omega, by show [[(s : Int), 0]].length ≤ 600; simp, prOk_first (by rw [hgM]; exact hs) hgk.out.n1.1, rfl, Nat.zero_le _, Below.refl _ _, _, _, _, _, _, rfl, own0⟩
    generalize hbg : w1.heap.size + 1 + 1 = bg at *
    replace hbg := hid hbg
    obtain ⟨B, hB⟩ : ∃ B, B = w1.heap.size + 1 := ⟨_, rfl⟩
    rw [← hB] at hInv0 hBb
    replace hB := hid hB
    replace hInv0 := hid hInv0
    replace hwlt := hid hwlt
    replace hg := hid hg
    replace hgM := hid hgM
    replace hgS := hid hgS
    replace hgN := hid hgN
    replace hgT := hid hgT
    replace hgG := hid hgG
    clear hgdef
    clear own0 rc0 rc1 rc2 rf hLr
    go_wp2
    go_loopw [9] (fun i wi => ∃ m : Nat, i = .int .i64 m ∧ (PrInv g n s B bg wb m wi ∨ (m ≤ 601 ∧ PrBad g s B bg wb wi))) (fun i _ => 602 - (intOf i).toNat)
    case atStart => exact ⟨0, rfl, .inl hInv0.out⟩
    case round =>
      obtain ⟨m, rfl, hrel⟩ := hrel
      obtain ⟨wo, rfl⟩ : ∃ x : World, x = wr := ⟨_, rfl⟩
      rcases hrel with ⟨hm6, hl6, hok, hgo, hml, hb0, pd, sd, pm, sm, svs, hsv, hown⟩ | ⟨hm6, hpe, hb0, pd, pn, pm, sd, sn, sm, t0, t1, t2⟩
      · have hwB : w.heap.size + 1 < B := by have := hB.out; have := hwlt.out; omega
        have hbtB : w1.heap.size < B := by have := hB.out; omega
        have eo : Ext w wo := ⟨ew.below.trans (hb0.mono (by omega))⟩
        have eo0 : Ext w0 wo := Ext.trans ‹Ext w0 w› eo
        have hBo : B ≤ wo.heap.size := by have := hb0.size; omega
        have t0 : wo.cell? ⟨bg, 0, none⟩ = some (.slice pd (prLst g s m).length pm) := hown.cellIn (List.Mem.head _) (j := 0) (by omega)
        have t1 : wo.cell? ⟨bg, 1, none⟩ = some (.slice sd (prSt g s m).length sm) := hown.cellIn (List.Mem.head _) (j := 1) (by omega)
        have t2 : wo.cell? ⟨bg, 2, none⟩ = some (.bool false) := hown.cellIn (List.Mem.head _) (j := 2) (by omega)
        replace hsv := hid hsv
        replace hok := hid hok
        replace hgo := hid hgo
        by_cases hlt : m < (prLst g s m).length
        · have hat := prOk_at hok.out hlt
          have hpf := prOk_flat hok.out
          have hLr := hown.tail.readsFlat (by omega) hpf.1 (hpf.2 hgk.out.n1.2 (by rw [hgM.out]; have := hn.out; omega))
          clear hpf
          obtain ⟨bp, op, rfl, hcp⟩ := hLr.at (w' := wo) hlt
          have hcp0 : wo.cell? ⟨bp, op + m * 2, none⟩ = some (.int .i64 (stOf (prLst g s m) m)) := by
            have := hcp 0 (by omega)
            rw [Nat.add_zero] at this
            rw [this, prOk_cell hat.1 |>.1]
          have hcp1 : wo.cell? ⟨bp, op + m * 2 + 1, none⟩ = some (.int .i64 (ofOf (prLst g s m) m)) := by
            rw [hcp 1 (by omega), prOk_cell hat.1 |>.2]
          have hltI : decide ((m : Int) < ((prLst g s m).length : Int)) = true := by simpa using hlt
          clear hcp
          go_upto_region 7 with (go_quiet (fail))
          have eqq : Ext wo (wo.drewN nq) := inferInstance
          have hbq : Below B wb (wo.drewN nq) := hb0.trans (eqq.below.mono hBo)
          have hownq := hown.ext (w' := wo.drewN nq)
          have hBq : B ≤ (wo.drewN nq).heap.size := Nat.le_trans hBo eqq.size
          generalize wo.drewN nq = wq at *
          clear hown t0 t1 t2 hcp0 hcp1 hLr
          have hnext := hid (show prLst g s (m + 1) = rowPr g (prLst g s m) m g.S.length from rfl)
          have hsX := hid (prSt_succ g s m)
          have hmoreG := hid (fun h4 : ¬ 600 < (prLst g s (m + 1)).length => prGo_more (g := g) (s := s) (f := 699 - m) hlt h4)
          have hbigG := hid (fun h4 : 600 < (prLst g s (m + 1)).length => prGo_big (g := g) (s := s) (f := 699 - m) hlt h4)
          have hXl := hid (prSt_length g s m)
          generalize hln : prLst g s (m + 1) = lnext at *
          replace hln := hid hln
          generalize hl0 : prLst g s m = l at *
          replace hl0 := hid hl0
          generalize prSt g s m = Ms at *
          have hst := hat.2.1
          have hof := hat.2.2
          have hatr := hid hat.1
          clear hat
          generalize hstl : stOf l m = st at *
          generalize hofl : ofOf l m = of_ at *
          replace hstl := hid hstl
          replace hofl := hid hofl
          have hR0 : PrRow g l Ms m B bg wb sd sm svs 0 (.slice (some ⟨wq.heap.size, 0, none⟩) ([] : List (List Int)).length 0) (wq.alloc (.cells #[] 114)) := by
            refine ⟨hbq.alloc hBq _, some ⟨bp, op, none⟩, pm, ?_⟩
            exact hownq.lit 114 3 0 #[] hBq (by unfold maxLen; omega) rfl
          go_upto_region 8 with fail
          have eqa : Ext wq (wq.alloc (.cells #[] 114)) := inferInstance
          generalize wq.alloc (.cells #[] 114) = wp at *
          replace hR0 := hid hR0
          have hSl : g.S.length = S.length := by rw [hgS.out]
          replace hSl := hid hSl
          go_wp2
          go_loopw [12, 13] (fun av i wi => ∃ r : Nat, r ≤ S.length ∧ i = .int .i64 r ∧ PrRow g l Ms m B bg wb sd sm svs r av wi) (fun _ i _ => S.length - (intOf i).toNat)
          case atStart => exact ⟨0, by omega, rfl, hR0.out⟩
          case round =>
            obtain ⟨r, hr, rfl, hb2, pd2, pm2, hown2⟩ := hrel
            obtain ⟨ad, am, rfl⟩ := Own.formFlat hown2
            obtain ⟨wi, rfl⟩ : ∃ x : World, x = wr := ⟨_, rfl⟩
            have eTi : Ext wT wi := ⟨ewT.below.trans (hb2.mono (by have := hB.out; have := hTs.out; omega))⟩
            have e1i : Ext w1 wi := Ext.trans e1T eTi
            have ei : Ext w wi := ⟨ew.below.trans (hb2.mono (by omega))⟩
            have ei0 : Ext w0 wi := Ext.trans ‹Ext w0 w› ei
            have hBi : B ≤ wi.heap.size := by have := hb2.size; omega
            have u0 := e1i.cell rk0
            have u1 := e1i.cell rk1
            have v1 := eTi.cell tT1
            have tg0 : wi.cell? ⟨bg, 0, none⟩ = some (.slice pd2 (rowPr g l m r).length pm2) := hown2.cellIn (.tail _ (.head _)) (j := 0) (by omega)
            by_cases hltr : r < S.length
            · have hrS : r < g.S.length := by rw [hSl.out]; exact hltr
              have hrL := hid (rowPr_len g l m r)
              have hokr := hid (rowPr_ok hgk.out hok.out hlt (r := r) (by omega))
              obtain ⟨a, b, hnx, haM, hbn, hca, hcb⟩ := nxP_ok hgk.out hok.out hlt hrS
              rw [hstl.out] at hca
              rw [hofl.out] at hcb
              have hstM : st < M.length := by rw [← hgM.out]; exact hst
              have haM' : a < M.length := by rw [← hgM.out]; exact haM
              have hNl : st < N.length := by rw [algB_len ha.out]; exact hstM
              obtain ⟨b5, o5, d5, m5, rfl, hc5, hr5, _⟩ := hN.at (w' := w0) hNl
              have hNr := algB_row ha.out hstM
              rw [hNr] at hr5 hc5
              obtain ⟨b6, o6, rfl, hc6⟩ := hr5.at (w' := w0) (k := r) (by rw [hNr]; exact hltr)
              have hc6' : w0.cell? ⟨b6, o6 + r, none⟩ = some (.int .i64 a) := by
                rw [hc6, ← hca, hgN.out]; rfl
              clear hc6 hNr
              have hT1 : of_ < g.T.length := by rw [hgk.out.tl]; exact hof
              obtain ⟨b7, o7, d7, m7, rfl, hc7, hr7, _⟩ := hXr.at (w' := w1) hT1
              have hTr := hgk.out.tr of_ hof
              rw [hSl.out] at hTr
              rw [hTr] at hr7 hc7
              obtain ⟨b8, o8, rfl, hc8⟩ := hr7.at (w' := w1) (k := r) (by rw [hTr]; exact hltr)
              have hc8' : w1.cell? ⟨b8, o8 + r, none⟩ = some (.int .i64 b) := by
                rw [hc8, ← hcb]; rfl
              clear hc8 hTr
              have f5 := ei0.cell hc5
              have f6 := ei0.cell hc6'
              have f7 := e1i.cell hc7
              have f8 := e1i.cell hc8'
              obtain ⟨b9, o9, d9, m9, rfl, hc9, hr9, _⟩ := hM.at (w' := wT) hstM
              have hMr := probB_sq hp.out hstM
              rw [hMr] at hr9 hc9
              obtain ⟨b10, o10, rfl, hc10⟩ := hr9.at (w' := wT) (k := a) (by rw [hMr]; exact haM')
              have hc10' : wT.cell? ⟨b10, o10 + a, none⟩ = some (.int .i64 (cell M st a)) := hc10
              clear hc10 hMr
              obtain ⟨b11, o11, d11, m11, rfl, hc11, hr11, _⟩ := hS.at (w' := wT) hltr
              have hSr := (probB_row hp.out hltr).1
              rw [hSr] at hr11 hc11
              obtain ⟨b12, o12, rfl, hc12⟩ := hr11.at (w' := wT) (k := a) (by rw [hSr]; exact haM')
              have hc12' : wT.cell? ⟨b12, o12 + a, none⟩ = some (.int .i64 (cell S r a)) := hc12
              clear hc12 hSr
              have hG1 : of_ < g.G.length := by rw [hgk.out.gl]; exact hof
              obtain ⟨b13, o13, d13, m13, rfl, hc13, hr13, _⟩ := hGr.at (w' := wT) hG1
              have hGl := hgk.out.gr of_ hof
              rw [hSl.out] at hGl
              rw [hGl] at hr13 hc13
              obtain ⟨b14, o14, rfl, hc14⟩ := hr13.at (w' := wT) (k := r) (by rw [hGl]; exact hltr)
              have hc14' : wT.cell? ⟨b14, o14 + r, none⟩ = some (.int .i64 (cell g.G of_ r)) := hc14
              clear hc14 hGl
              have q2 := probB_serve hp.out hltr haM'
              have q3 := probB_move hp.out hstM haM'
              have hix := hid (show toAt g l m r = ixL (fun o => decide (o = nxP g l m r)) (rowPr g l m r) 0 from rfl)
              have hto := hid (show toOf g l m r = if toAt g l m r < 0 then ((rowPr g l m r).length : Int) else toAt g l m r from rfl)
              have hsL := hid (show rowPr g l m (r + 1) = if toAt g l m r < 0 then rowPr g l m r ++ [nxP g l m r] else rowPr g l m r from rfl)
              have hsR := hid (rowSt_succ g l m r)
              have hRl := hid (rowSt_length g l m r)
              have hstp := hid (show stpRow g l m r = [toOf g l m r, cell M st a + cell S r a, cell g.G of_ r] by
                rw [stpRow, hstl.out, hofl.out, hca, hgM.out, hgS.out, Int.toNat_natCast])
              rw [hnx] at hix hsL
              replace hnx := hid hnx
              replace hca := hid hca
              replace hcb := hid hcb
              have hlr6 : (rowPr g l m r).length ≤ 604 := by have := hrL.out.2; have := hn.out; omega
              generalize hlr1 : rowPr g l m (r + 1) = lr1 at *
              replace hlr1 := hid hlr1
              generalize hlr : rowPr g l m r = lr at *
              replace hlr := hid hlr
              generalize hra1 : rowSt g l m (r + 1) = ra1 at *
              replace hra1 := hid hra1
              generalize hra : rowSt g l m r = ra at *
              replace hra := hid hra
              generalize toAt g l m r = ix at *
              generalize toOf g l m r = tt at *
              go_upto_region 13 with fail
              have epx : Ext wi (wi.alloc (.cells #[.int .i64 a, .int .i64 b] 59)) := inferInstance
              have x0 : (wi.alloc (.cells #[.int .i64 a, .int .i64 b] 59)).cell? ⟨wi.heap.size, 0, none⟩ = some (.int .i64 a) := by go_simp
              have x1 : (wi.alloc (.cells #[.int .i64 a, .int .i64 b] 59)).cell? ⟨wi.heap.size, 1, none⟩ = some (.int .i64 b) := by go_simp
              generalize wi.alloc (.cells #[.int .i64 a, .int .i64 b] 59) = wx at *
              have hpf := prOk_flat hokr.out
              have hlf := hown2.tail.tail.readsFlat (by omega) hpf.1 (hpf.2 hgk.out.n1.2 (by rw [hgM.out]; have := hn.out; omega))
              clear hpf u0 u1 v1 f5 f6 f7 f8
              have tg1 := epx.cell tg0
              go_wp2
              go_loopw [16] (fun i wj => ∃ q : Nat, q ≤ lr.length ∧ i = .int .i64 q ∧ Hid (∀ j, j < q → (fun o => decide (o = [(a : Int), (b : Int)])) (row lr j) = false) ∧ Ext wx wj) (fun i _ => lr.length - (intOf i).toNat)
              case atStart => exact ⟨0, by omega, rfl, by intro x hx; omega, Ext.refl _⟩
              case round =>
                obtain ⟨q, hq, rfl, hno, hex⟩ := hrel
                have hxj : Ext wi wr := Ext.trans epx hex
                have y0 := hex.cell x0
                have y1 := hex.cell x1
                have tg := hex.cell tg1
                by_cases hql : q < lr.length
                · have hqlI : decide ((q : Int) < (lr.length : Int)) = true := by simpa using hql
                  have hqat := (prOk_at hokr.out hql).1
                  obtain ⟨bl, ol, rfl, hcl⟩ := hlf.at (w' := wr) hql
                  have hcl0 : wr.cell? ⟨bl, ol + q * 2, none⟩ = some (.int .i64 (stOf lr q)) := by
                    have := hcl 0 (by omega)
                    rw [Nat.add_zero] at this
                    rw [this, prOk_cell hqat |>.1]
                  have hcl1 : wr.cell? ⟨bl, ol + q * 2 + 1, none⟩ = some (.int .i64 (ofOf lr q)) := by
                    rw [hcl 1 (by omega), prOk_cell hqat |>.2]
                  clear hcl
                  generalize stOf lr q = xa at *
                  generalize ofOf lr q = xb at *
                  replace hqat := hid hqat
                  by_cases hsame : xa = a ∧ xb = b
                  · have heqp := equalPair_yes (a := xa) (b := xb) (c := a) (d := b) (by omega)
                    have hixq := hid (ixL_some (p := fun o => decide (o = [(a : Int), (b : Int)])) (xs := lr) (i := 0) hql (by rw [decide_eq_true_eq, hqat.out, hsame.1, hsame.2]) (fun j hj => hno.out j hj))
                    rw [Nat.zero_add, ← hix.out] at hixq
                    replace hsame := hid hsame
                    have hneg : ¬ ix < 0 := by have := hixq.out; omega
                    have hL1 := hid (hsL.out.trans (if_neg hneg))
                    have hat := hid (show tt = (q : Int) by rw [hto.out, if_neg hneg]; exact hixq.out)
                    have hqe : ((q : Int) == (lr.length : Int)) = false := by simp; omega
                    replace hneg := hid hneg
                    go_upto_region 16 with (go_quiet (fail))
                    have exz : Ext wi (wr.drewN nq) := Ext.trans hxj inferInstance
                    generalize wr.drewN nq = wz at *
                    have OWS : Own wz B (flatRowOf 114 3 (.slice ad ra.length am) ra :: grRows bg (some ⟨bl, ol, none⟩) sd pm2 sm svs false lr1 Ms) := by
                      rw [hL1.out]
                      exact hown2.ext (w' := wz)
                    have hbS : Below B wb wz := hb2.trans (exz.below.mono hBi)
                    have hBS : B ≤ wz.heap.size := Nat.le_trans hBi exz.size
                    have eTS : Ext wT wz := Ext.trans eTi exz
                    have tgS : wz.cell? ⟨bg, 0, none⟩ = some (.slice (some ⟨bl, ol, none⟩) lr.length pm2) := exz.cell tg0
                    go_upto_region 18 with fail
                    have ed : Ext wT (wz).drew := Ext.trans eTS inferInstance
                    refine wp_region_held_drew (S := fun w' => Ext wT w' ∧ w'.cell? ⟨w.heap.size, 0, none⟩ = some (.slice (some ⟨b9, o9, none⟩) M.length c1) ∧ w'.cell? ⟨w.heap.size, 1, none⟩ = some (.slice (some ⟨b11, o11, none⟩) S.length c2) ∧ w'.cell? ⟨b9, o9 + st, none⟩ = some (.slice (some ⟨b10, o10, none⟩) M.length m9) ∧ w'.cell? ⟨b10, o10 + a, none⟩ = some (.int .i64 (cell M st a)) ∧ w'.cell? ⟨b11, o11 + r, none⟩ = some (.slice (some ⟨b12, o12, none⟩) M.length m11) ∧ w'.cell? ⟨b12, o12 + a, none⟩ = some (.int .i64 (cell S r a)) ∧ w'.cell? ⟨w1.heap.size, 2, none⟩ = some (.slice (some ⟨b13, o13, none⟩) g.G.length gm) ∧ w'.cell? ⟨b13, o13 + of_, none⟩ = some (.slice (some ⟨b14, o14, none⟩) S.length m13) ∧ w'.cell? ⟨b14, o14 + r, none⟩ = some (.int .i64 (cell g.G of_ r))) (by kernel_rfl) ⟨ed, ed.cell tk0, ed.cell tk1, ed.cell hc9, ed.cell hc10', ed.cell hc11, ed.cell hc12', ed.cell tT2, ed.cell hc13, ed.cell hc14'⟩ (fun hHeld0 => ?_)
                    refine wpAnyH_take (i := 0) (v := .slice ad ra.length am) rfl (by kernel_rfl) (by kernel_rfl) (by kernel_rfl) (fun _ _ _ h => h) (Or.inl ⟨by rfl, by intro wx hx; go_simp⟩) (by assumption) ?_
                    try simp only [List.getElem_toArray, List.getElem_cons_zero, Act.put, List.setIfInBounds_toArray, List.set_cons_zero, List.set_cons_succ]
                    refine wpAnyH_take (i := 1) (v := .int .i64 q) rfl (by kernel_rfl) (by kernel_rfl) (by kernel_rfl) (fun _ _ _ h => h) (Or.inl ⟨by rfl, by intro wx hx; go_simp⟩) (by assumption) ?_
                    try simp only [List.getElem_toArray, List.getElem_cons_succ, List.getElem_cons_zero, Act.put, List.setIfInBounds_toArray, List.set_cons_zero, List.set_cons_succ]
                    refine wpAnyH_take (i := 2) (v := .pointer (some ⟨w.heap.size, 0, none⟩)) rfl (by kernel_rfl) (by kernel_rfl) (by kernel_rfl) (fun _ _ _ h => h) (Or.inl ⟨by rfl, by intro wx hx; go_simp⟩) (by assumption) ?_
                    try simp only [List.getElem_toArray, List.getElem_cons_succ, List.getElem_cons_zero, Act.put, List.setIfInBounds_toArray, List.set_cons_zero, List.set_cons_succ]
                    refine wpAnyH_take (i := 3) (v := .slice (some ⟨b9, o9, none⟩) M.length c1) rfl (by kernel_rfl) (by kernel_rfl) (by kernel_rfl) (fun _ _ _ h => h) (Or.inl ⟨by rfl, by intro wx hx; obtain ⟨_, _, _, _, _, _, _, _, _, _⟩ := hx; go_simp⟩) (by assumption) ?_
                    try simp only [List.getElem_toArray, List.getElem_cons_succ, List.getElem_cons_zero, Act.put, List.setIfInBounds_toArray, List.set_cons_zero, List.set_cons_succ]
                    refine wpAnyH_take (i := 4) (v := .int .i64 st) rfl (by kernel_rfl) (by kernel_rfl) (by kernel_rfl) (fun _ _ _ h => h) (Or.inl ⟨by rfl, by intro wx hx; go_simp⟩) (by assumption) ?_
                    try simp only [List.getElem_toArray, List.getElem_cons_succ, List.getElem_cons_zero, Act.put, List.setIfInBounds_toArray, List.set_cons_zero, List.set_cons_succ]
                    refine wpAnyH_take (i := 5) (v := .pointer (some ⟨b9, o9 + st, none⟩)) rfl (by kernel_rfl) (by kernel_rfl) (by kernel_rfl) (fun _ _ _ h => h) (Or.inl ⟨by rfl, by intro wx hx; go_simp⟩) (by assumption) ?_
                    try simp only [List.getElem_toArray, List.getElem_cons_succ, List.getElem_cons_zero, Act.put, List.setIfInBounds_toArray, List.set_cons_zero, List.set_cons_succ]
                    refine wpAnyH_take (i := 6) (v := .slice (some ⟨b10, o10, none⟩) M.length m9) rfl (by kernel_rfl) (by kernel_rfl) (by kernel_rfl) (fun _ _ _ h => h) (Or.inl ⟨by rfl, by intro wx hx; obtain ⟨_, _, _, _, _, _, _, _, _, _⟩ := hx; go_simp⟩) (by assumption) ?_
                    try simp only [List.getElem_toArray, List.getElem_cons_succ, List.getElem_cons_zero, Act.put, List.setIfInBounds_toArray, List.set_cons_zero, List.set_cons_succ]
                    refine wpAnyH_take (i := 7) (v := .int .i64 a) rfl (by kernel_rfl) (by kernel_rfl) (by kernel_rfl) (fun _ _ _ h => h) (Or.inl ⟨by rfl, by intro wx hx; go_simp⟩) (by assumption) ?_
                    try simp only [List.getElem_toArray, List.getElem_cons_succ, List.getElem_cons_zero, Act.put, List.setIfInBounds_toArray, List.set_cons_zero, List.set_cons_succ]
                    refine wpAnyH_take (i := 8) (v := .pointer (some ⟨b10, o10 + a, none⟩)) rfl (by kernel_rfl) (by kernel_rfl) (by kernel_rfl) (fun _ _ _ h => h) (Or.inl ⟨by rfl, by intro wx hx; go_simp⟩) (by assumption) ?_
                    try simp only [List.getElem_toArray, List.getElem_cons_succ, List.getElem_cons_zero, Act.put, List.setIfInBounds_toArray, List.set_cons_zero, List.set_cons_succ]
                    refine wpAnyH_take (i := 9) (v := .int .i64 (cell M st a)) rfl (by kernel_rfl) (by kernel_rfl) (by kernel_rfl) (fun _ _ _ h => h) (Or.inl ⟨by rfl, by intro wx hx; obtain ⟨_, _, _, _, _, _, _, _, _, _⟩ := hx; go_simp⟩) (by assumption) ?_
                    try simp only [List.getElem_toArray, List.getElem_cons_succ, List.getElem_cons_zero, Act.put, List.setIfInBounds_toArray, List.set_cons_zero, List.set_cons_succ]
                    refine wpAnyH_take (i := 10) (v := .pointer (some ⟨w.heap.size, 1, none⟩)) rfl (by kernel_rfl) (by kernel_rfl) (by kernel_rfl) (fun _ _ _ h => h) (Or.inl ⟨by rfl, by intro wx hx; go_simp⟩) (by assumption) ?_
                    try simp only [List.getElem_toArray, List.getElem_cons_succ, List.getElem_cons_zero, Act.put, List.setIfInBounds_toArray, List.set_cons_zero, List.set_cons_succ]
                    refine wpAnyH_take (i := 11) (v := .slice (some ⟨b11, o11, none⟩) S.length c2) rfl (by kernel_rfl) (by kernel_rfl) (by kernel_rfl) (fun _ _ _ h => h) (Or.inl ⟨by rfl, by intro wx hx; obtain ⟨_, _, _, _, _, _, _, _, _, _⟩ := hx; go_simp⟩) (by assumption) ?_
                    try simp only [List.getElem_toArray, List.getElem_cons_succ, List.getElem_cons_zero, Act.put, List.setIfInBounds_toArray, List.set_cons_zero, List.set_cons_succ]
                    refine wpAnyH_take (i := 12) (v := .int .i64 r) rfl (by kernel_rfl) (by kernel_rfl) (by kernel_rfl) (fun _ _ _ h => h) (Or.inl ⟨by rfl, by intro wx hx; go_simp⟩) (by assumption) ?_
                    try simp only [List.getElem_toArray, List.getElem_cons_succ, List.getElem_cons_zero, Act.put, List.setIfInBounds_toArray, List.set_cons_zero, List.set_cons_succ]
                    refine wpAnyH_take (i := 13) (v := .pointer (some ⟨b11, o11 + r, none⟩)) rfl (by kernel_rfl) (by kernel_rfl) (by kernel_rfl) (fun _ _ _ h => h) (Or.inl ⟨by rfl, by intro wx hx; go_simp⟩) (by assumption) ?_
                    try simp only [List.getElem_toArray, List.getElem_cons_succ, List.getElem_cons_zero, Act.put, List.setIfInBounds_toArray, List.set_cons_zero, List.set_cons_succ]
                    refine wpAnyH_take (i := 14) (v := .slice (some ⟨b12, o12, none⟩) M.length m11) rfl (by kernel_rfl) (by kernel_rfl) (by kernel_rfl) (fun _ _ _ h => h) (Or.inl ⟨by rfl, by intro wx hx; obtain ⟨_, _, _, _, _, _, _, _, _, _⟩ := hx; go_simp⟩) (by assumption) ?_
                    try simp only [List.getElem_toArray, List.getElem_cons_succ, List.getElem_cons_zero, Act.put, List.setIfInBounds_toArray, List.set_cons_zero, List.set_cons_succ]
                    refine wpAnyH_take (i := 15) (v := .int .i64 a) rfl (by kernel_rfl) (by kernel_rfl) (by kernel_rfl) (fun _ _ _ h => h) (Or.inl ⟨by rfl, by intro wx hx; go_simp⟩) (by assumption) ?_
                    try simp only [List.getElem_toArray, List.getElem_cons_succ, List.getElem_cons_zero, Act.put, List.setIfInBounds_toArray, List.set_cons_zero, List.set_cons_succ]
                    refine wpAnyH_take (i := 16) (v := .pointer (some ⟨b12, o12 + a, none⟩)) rfl (by kernel_rfl) (by kernel_rfl) (by kernel_rfl) (fun _ _ _ h => h) (Or.inl ⟨by rfl, by intro wx hx; go_simp⟩) (by assumption) ?_
                    try simp only [List.getElem_toArray, List.getElem_cons_succ, List.getElem_cons_zero, Act.put, List.setIfInBounds_toArray, List.set_cons_zero, List.set_cons_succ]
                    refine wpAnyH_take (i := 17) (v := .int .i64 (cell S r a)) rfl (by kernel_rfl) (by kernel_rfl) (by kernel_rfl) (fun _ _ _ h => h) (Or.inl ⟨by rfl, by intro wx hx; obtain ⟨_, _, _, _, _, _, _, _, _, _⟩ := hx; go_simp⟩) (by assumption) ?_
                    try simp only [List.getElem_toArray, List.getElem_cons_succ, List.getElem_cons_zero, Act.put, List.setIfInBounds_toArray, List.set_cons_zero, List.set_cons_succ]
                    refine wpAnyH_take (i := 18) (v := .int .i64 (cell M st a + cell S r a)) rfl (by kernel_rfl) (by kernel_rfl) (by kernel_rfl) (fun _ _ _ h => h) (Or.inl ⟨by rfl, by intro wx hx; go_simp; exact IntWalk.i64_in _ (by omega)⟩) (by assumption) ?_
                    try simp only [List.getElem_toArray, List.getElem_cons_succ, List.getElem_cons_zero, Act.put, List.setIfInBounds_toArray, List.set_cons_zero, List.set_cons_succ]
                    refine wpAnyH_take (i := 19) (v := .pointer (some ⟨w1.heap.size, 2, none⟩)) rfl (by kernel_rfl) (by kernel_rfl) (by kernel_rfl) (fun _ _ _ h => h) (Or.inl ⟨by rfl, by intro wx hx; go_simp⟩) (by assumption) ?_
                    try simp only [List.getElem_toArray, List.getElem_cons_succ, List.getElem_cons_zero, Act.put, List.setIfInBounds_toArray, List.set_cons_zero, List.set_cons_succ]
                    refine wpAnyH_take (i := 20) (v := .slice (some ⟨b13, o13, none⟩) g.G.length gm) rfl (by kernel_rfl) (by kernel_rfl) (by kernel_rfl) (fun _ _ _ h => h) (Or.inl ⟨by rfl, by intro wx hx; obtain ⟨_, _, _, _, _, _, _, _, _, _⟩ := hx; go_simp⟩) (by assumption) ?_
                    try simp only [List.getElem_toArray, List.getElem_cons_succ, List.getElem_cons_zero, Act.put, List.setIfInBounds_toArray, List.set_cons_zero, List.set_cons_succ]
                    refine wpAnyH_take (i := 21) (v := .int .i64 of_) rfl (by kernel_rfl) (by kernel_rfl) (by kernel_rfl) (fun _ _ _ h => h) (Or.inl ⟨by rfl, by intro wx hx; go_simp⟩) (by assumption) ?_
                    try simp only [List.getElem_toArray, List.getElem_cons_succ, List.getElem_cons_zero, Act.put, List.setIfInBounds_toArray, List.set_cons_zero, List.set_cons_succ]
                    refine wpAnyH_take (i := 22) (v := .pointer (some ⟨b13, o13 + of_, none⟩)) rfl (by kernel_rfl) (by kernel_rfl) (by kernel_rfl) (fun _ _ _ h => h) (Or.inl ⟨by rfl, by intro wx hx; go_simp⟩) (by assumption) ?_
                    try simp only [List.getElem_toArray, List.getElem_cons_succ, List.getElem_cons_zero, Act.put, List.setIfInBounds_toArray, List.set_cons_zero, List.set_cons_succ]
                    refine wpAnyH_take (i := 23) (v := .slice (some ⟨b14, o14, none⟩) S.length m13) rfl (by kernel_rfl) (by kernel_rfl) (by kernel_rfl) (fun _ _ _ h => h) (Or.inl ⟨by rfl, by intro wx hx; obtain ⟨_, _, _, _, _, _, _, _, _, _⟩ := hx; go_simp⟩) (by assumption) ?_
                    try simp only [List.getElem_toArray, List.getElem_cons_succ, List.getElem_cons_zero, Act.put, List.setIfInBounds_toArray, List.set_cons_zero, List.set_cons_succ]
                    refine wpAnyH_take (i := 24) (v := .int .i64 r) rfl (by kernel_rfl) (by kernel_rfl) (by kernel_rfl) (fun _ _ _ h => h) (Or.inl ⟨by rfl, by intro wx hx; go_simp⟩) (by assumption) ?_
                    try simp only [List.getElem_toArray, List.getElem_cons_succ, List.getElem_cons_zero, Act.put, List.setIfInBounds_toArray, List.set_cons_zero, List.set_cons_succ]
                    refine wpAnyH_take (i := 25) (v := .pointer (some ⟨b14, o14 + r, none⟩)) rfl (by kernel_rfl) (by kernel_rfl) (by kernel_rfl) (fun _ _ _ h => h) (Or.inl ⟨by rfl, by intro wx hx; go_simp⟩) (by assumption) ?_
                    try simp only [List.getElem_toArray, List.getElem_cons_succ, List.getElem_cons_zero, Act.put, List.setIfInBounds_toArray, List.set_cons_zero, List.set_cons_succ]
                    refine wpAnyH_take (i := 26) (v := .int .i64 (cell g.G of_ r)) rfl (by kernel_rfl) (by kernel_rfl) (by kernel_rfl) (fun _ _ _ h => h) (Or.inl ⟨by rfl, by intro wx hx; obtain ⟨_, _, _, _, _, _, _, _, _, _⟩ := hx; go_simp⟩) (by assumption) ?_
                    try simp only [List.getElem_toArray, List.getElem_cons_succ, List.getElem_cons_zero, Act.put, List.setIfInBounds_toArray, List.set_cons_zero, List.set_cons_succ]
                    refine wpAnyH_take (i := 27) (v := .agg #[.int .i64 q, .int .i64 (cell M st a + cell S r a), .int .i64 (cell g.G of_ r)]) rfl (by kernel_rfl) (by kernel_rfl) (by kernel_rfl) (fun _ _ _ h => h) (Or.inl ⟨by rfl, by intro wx hx; go_simp⟩) (by assumption) ?_
                    try simp only [List.getElem_toArray, List.getElem_cons_succ, List.getElem_cons_zero, Act.put, List.setIfInBounds_toArray, List.set_cons_zero, List.set_cons_succ]
                    refine wpAnyH_ready (rs := [28]) (by kernel_rfl) (by simp) ?_
                    refine AllReadyH.cons rfl (fun K hK => ?_) AllReadyH.nil
                    go_simp
                    have ea : Ext wT ((wz.alloc (.cells #[.int .i64 q, .int .i64 (cell M st a + cell S r a), .int .i64 (cell g.G of_ r)] 114)).drew) := Ext.trans eTS inferInstance
                    have OWa := OWS.ext (w' := (wz.alloc (.cells #[.int .i64 q, .int .i64 (cell M st a + cell S r a), .int .i64 (cell g.G of_ r)] 114)).drew)
                    have hba : Below B wb ((wz.alloc (.cells #[.int .i64 q, .int .i64 (cell M st a + cell S r a), .int .i64 (cell g.G of_ r)] 114)).drew) := (hbS.alloc hBS _).drew
                    have hBa : B ≤ ((wz.alloc (.cells #[.int .i64 q, .int .i64 (cell M st a + cell S r a), .int .i64 (cell g.G of_ r)] 114)).drew).heap.size := by simp; omega
                    refine hK.out _ _ ⟨ea, ea.cell tk0, ea.cell tk1, ea.cell hc9, ea.cell hc10', ea.cell hc11, ea.cell hc12', ea.cell tT2, ea.cell hc13, ea.cell hc14'⟩ (fun hHeld1 => ?_)
                    clear hK K hHeld0
                    try simp only [List.getElem_toArray, List.getElem_cons_succ, List.getElem_cons_zero, Act.put, List.setIfInBounds_toArray, List.set_cons_zero, List.set_cons_succ]
                    refine wpAnyH_ready (rs := [29]) (by kernel_rfl) (by simp) ?_
                    refine AllReadyH.cons rfl (fun K hK => ?_) AllReadyH.nil
                    refine step_append1z rfl (.tmp 102) (.tmp 130) 115 rfl elemStp rfl OWa hBa (us := [.int .i64 q, .int .i64 (cell M st a + cell S r a), .int .i64 (cell g.G of_ r)]) rfl rfl ?_ (by intro u hu; simp at hu; rcases hu with rfl | rfl | rfl <;> rfl) (by have := hRl.out; omega) (by have := hRl.out; have := hn.out; omega) ?_
                    · intro jj u hj
                      match jj, hj with
                      | 0, hj => simp at hj; subst hj; go_simp
                      | 1, hj => simp at hj; subst hj; go_simp
                      | 2, hj => simp at hj; subst hj; go_simp
                    intro v4 w4 ho4 hb4
                    obtain ⟨d4, m4, hv4⟩ := ho4.form
                    have hv4' : v4 = .slice d4 (ra.length + 1) m4 := hv4
                    subst hv4'
                    clear hv4
                    have eb : Ext wT w4 := ⟨ea.below.trans (hb4.mono (by have := hB.out; have := hTs.out; omega))⟩
                    refine hK.out _ _ ⟨eb, eb.cell tk0, eb.cell tk1, eb.cell hc9, eb.cell hc10', eb.cell hc11, eb.cell hc12', eb.cell tT2, eb.cell hc13, eb.cell hc14'⟩ (fun hHeld2 => ?_)
                    clear hK K hHeld1
                    try simp only [List.getElem_toArray, List.getElem_cons_succ, List.getElem_cons_zero, Act.put, List.setIfInBounds_toArray, List.set_cons_zero, List.set_cons_succ]
                    refine wpAnyH_take (i := 30) (v := .slice d4 (ra.length + 1) m4) rfl (by kernel_rfl) (by kernel_rfl) (by kernel_rfl) (fun _ _ _ h => h) (Or.inl ⟨by rfl, by intro wx hx; go_simp⟩) (by assumption) ?_
                    try simp only [List.getElem_toArray, List.getElem_cons_succ, List.getElem_cons_zero, Act.put, List.setIfInBounds_toArray, List.set_cons_zero, List.set_cons_succ]
                    refine wpAnyH_done (by kernel_rfl) ?_ _
                    go_wp2_with fail
                    go_roundw
                    case rel =>
                      refine ⟨r + 1, by omega, by go_num, ?_⟩
                      unfold PrRow
                      rw [hra1.out, hlr1.out, hsR.out]
                      exact ⟨hba.trans hb4, _, _, flat_snoc ho4 rfl (by rw [hstp.out, hat.out]; rfl)⟩
                    case measure => simp [intOf]; omega
                  · have heqp := equalPair_no (a := xa) (b := xb) (c := a) (d := b) (by omega)
                    have hnoq := hid (show decide (row lr q = [(a : Int), (b : Int)]) = false by
                      rw [decide_eq_false_iff_not, hqat.out]
                      intro e
                      simp only [List.cons.injEq, and_true] at e
                      exact hsame (by omega))
                    replace hsame := hid hsame
                    go_wp2_with (go_quiet (fail))
                    go_roundw
                    case rel =>
                      refine ⟨q + 1, by omega, by go_num, ?_, Ext.trans hex inferInstance⟩
                      intro j hj
                      by_cases hjq : j = q
                      · subst hjq; exact hnoq.out
                      · exact hno.out j (by omega)
                    case measure => simp [intOf]; omega
                · have hqq : q = lr.length := by omega
                  have hqlI : decide ((q : Int) < (lr.length : Int)) = false := by simp; omega
                  have hixq := hid (ixL_none (p := fun o => decide (o = [(a : Int), (b : Int)])) (xs := lr) (i := 0) (fun j hj => hno.out j (by omega)))
                  rw [← hix.out] at hixq
                  have hneg : ix < 0 := by have := hixq.out; omega
                  have hL1 := hid (hsL.out.trans (if_pos hneg))
                  have hat := hid (show tt = (q : Int) by rw [hto.out, if_pos hneg, hqq])
                  have hqe : ((q : Int) == (lr.length : Int)) = true := by rw [hqq]; simp
                  have hl1 : lr.length + 1 = lr1.length := by rw [hL1.out, List.length_append]; rfl
                  replace hneg := hid hneg
                  replace hqq := hid hqq
                  replace hl1 := hid hl1
                  go_upto_region 16 with (go_quiet (fail))
                  have exz : Ext wi (wr.drewN nq) := Ext.trans hxj inferInstance
                  have erz : Ext wr (wr.drewN nq) := inferInstance
                  have y0z := erz.cell y0
                  have y1z := erz.cell y1
                  generalize wr.drewN nq = wz at *
                  have tgz : wz.cell? ⟨bg, 0, none⟩ = some (.slice pd2 lr.length pm2) := exz.cell tg0
                  have hownz := Own.pull (A := [_, _]) (hown2.ext (w' := wz))
                  have hbz : Below B wb wz := hb2.trans (exz.below.mono hBi)
                  have hBz : B ≤ wz.heap.size := Nat.le_trans hBi exz.size
                  go_upto_region 18 with (at_builtin; refine wpList_append1z rfl _ _ _ rfl elemPair rfl hownz hBz (us := [.int .i64 a, .int .i64 b]) rfl rfl (by intro u hu; simp at hu; rcases hu with rfl | rfl <;> rfl) (by omega) (by omega) ?_; intro v1 w5 ho hb5; obtain ⟨vd, vm, hv1⟩ := ho.form; (obtain rfl : v1 = .slice vd lr1.length vm := (by rw [← hl1.out]; exact hv1)); clear hv1; (have tc : w5.cell? ⟨bg, 0, none⟩ = some (.slice pd2 lr.length pm2) := ho.cellIn (.tail _ (.tail _ (.head _))) (j := 0) (by omega)); have tf := ho.frozenIn (.tail _ (.tail _ (.head _))) 0)
                  have hbgB := ((ho.1 _ (.tail _ (.tail _ (.head _)))).lt bg rfl).1
                  have hoS := Own.setIn (A := [_, _]) ho 0 (.slice vd lr1.length vm)
                  have hoP := flat_snoc (x := [(a : Int), (b : Int)]) hoS rfl rfl
                  have hoQ := Own.push (A := [_, _]) hoP
                  have OWS : Own (w5.setCell ⟨bg, 0, none⟩ (.slice vd lr1.length vm)) B (flatRowOf 114 3 (.slice ad ra.length am) ra :: grRows bg vd sd vm sm svs false lr1 Ms) := by
                    unfold grRows
                    rw [hL1.out] at hoQ ⊢
                    exact hoQ
                  have hbS : Below B wb (w5.setCell ⟨bg, 0, none⟩ (.slice vd lr1.length vm)) := (hbz.trans hb5).setCell hbgB _
                  have hBS : B ≤ (w5.setCell ⟨bg, 0, none⟩ (.slice vd lr1.length vm)).heap.size := by have := hb5.size; simp [World.setCell]; omega
                  generalize w5.setCell ⟨bg, 0, none⟩ (.slice vd lr1.length vm) = wS at *
                  have eTS : Ext wT wS := ⟨ewT.below.trans (hbS.mono (by have := hB.out; have := hTs.out; omega))⟩
                  have ed : Ext wT (wS).drew := Ext.trans eTS inferInstance
                  refine wp_region_held_drew (S := fun w' => Ext wT w' ∧ w'.cell? ⟨w.heap.size, 0, none⟩ = some (.slice (some ⟨b9, o9, none⟩) M.length c1) ∧ w'.cell? ⟨w.heap.size, 1, none⟩ = some (.slice (some ⟨b11, o11, none⟩) S.length c2) ∧ w'.cell? ⟨b9, o9 + st, none⟩ = some (.slice (some ⟨b10, o10, none⟩) M.length m9) ∧ w'.cell? ⟨b10, o10 + a, none⟩ = some (.int .i64 (cell M st a)) ∧ w'.cell? ⟨b11, o11 + r, none⟩ = some (.slice (some ⟨b12, o12, none⟩) M.length m11) ∧ w'.cell? ⟨b12, o12 + a, none⟩ = some (.int .i64 (cell S r a)) ∧ w'.cell? ⟨w1.heap.size, 2, none⟩ = some (.slice (some ⟨b13, o13, none⟩) g.G.length gm) ∧ w'.cell? ⟨b13, o13 + of_, none⟩ = some (.slice (some ⟨b14, o14, none⟩) S.length m13) ∧ w'.cell? ⟨b14, o14 + r, none⟩ = some (.int .i64 (cell g.G of_ r))) (by kernel_rfl) ⟨ed, ed.cell tk0, ed.cell tk1, ed.cell hc9, ed.cell hc10', ed.cell hc11, ed.cell hc12', ed.cell tT2, ed.cell hc13, ed.cell hc14'⟩ (fun hHeld0 => ?_)
                  refine wpAnyH_take (i := 0) (v := .slice ad ra.length am) rfl (by kernel_rfl) (by kernel_rfl) (by kernel_rfl) (fun _ _ _ h => h) (Or.inl ⟨by rfl, by intro wx hx; go_simp⟩) (by assumption) ?_
                  try simp only [List.getElem_toArray, List.getElem_cons_zero, Act.put, List.setIfInBounds_toArray, List.set_cons_zero, List.set_cons_succ]
                  refine wpAnyH_take (i := 1) (v := .int .i64 q) rfl (by kernel_rfl) (by kernel_rfl) (by kernel_rfl) (fun _ _ _ h => h) (Or.inl ⟨by rfl, by intro wx hx; go_simp⟩) (by assumption) ?_
                  try simp only [List.getElem_toArray, List.getElem_cons_succ, List.getElem_cons_zero, Act.put, List.setIfInBounds_toArray, List.set_cons_zero, List.set_cons_succ]
                  refine wpAnyH_take (i := 2) (v := .pointer (some ⟨w.heap.size, 0, none⟩)) rfl (by kernel_rfl) (by kernel_rfl) (by kernel_rfl) (fun _ _ _ h => h) (Or.inl ⟨by rfl, by intro wx hx; go_simp⟩) (by assumption) ?_
                  try simp only [List.getElem_toArray, List.getElem_cons_succ, List.getElem_cons_zero, Act.put, List.setIfInBounds_toArray, List.set_cons_zero, List.set_cons_succ]
                  refine wpAnyH_take (i := 3) (v := .slice (some ⟨b9, o9, none⟩) M.length c1) rfl (by kernel_rfl) (by kernel_rfl) (by kernel_rfl) (fun _ _ _ h => h) (Or.inl ⟨by rfl, by intro wx hx; obtain ⟨_, _, _, _, _, _, _, _, _, _⟩ := hx; go_simp⟩) (by assumption) ?_
                  try simp only [List.getElem_toArray, List.getElem_cons_succ, List.getElem_cons_zero, Act.put, List.setIfInBounds_toArray, List.set_cons_zero, List.set_cons_succ]
                  refine wpAnyH_take (i := 4) (v := .int .i64 st) rfl (by kernel_rfl) (by kernel_rfl) (by kernel_rfl) (fun _ _ _ h => h) (Or.inl ⟨by rfl, by intro wx hx; go_simp⟩) (by assumption) ?_
                  try simp only [List.getElem_toArray, List.getElem_cons_succ, List.getElem_cons_zero, Act.put, List.setIfInBounds_toArray, List.set_cons_zero, List.set_cons_succ]
                  refine wpAnyH_take (i := 5) (v := .pointer (some ⟨b9, o9 + st, none⟩)) rfl (by kernel_rfl) (by kernel_rfl) (by kernel_rfl) (fun _ _ _ h => h) (Or.inl ⟨by rfl, by intro wx hx; go_simp⟩) (by assumption) ?_
                  try simp only [List.getElem_toArray, List.getElem_cons_succ, List.getElem_cons_zero, Act.put, List.setIfInBounds_toArray, List.set_cons_zero, List.set_cons_succ]
                  refine wpAnyH_take (i := 6) (v := .slice (some ⟨b10, o10, none⟩) M.length m9) rfl (by kernel_rfl) (by kernel_rfl) (by kernel_rfl) (fun _ _ _ h => h) (Or.inl ⟨by rfl, by intro wx hx; obtain ⟨_, _, _, _, _, _, _, _, _, _⟩ := hx; go_simp⟩) (by assumption) ?_
                  try simp only [List.getElem_toArray, List.getElem_cons_succ, List.getElem_cons_zero, Act.put, List.setIfInBounds_toArray, List.set_cons_zero, List.set_cons_succ]
                  refine wpAnyH_take (i := 7) (v := .int .i64 a) rfl (by kernel_rfl) (by kernel_rfl) (by kernel_rfl) (fun _ _ _ h => h) (Or.inl ⟨by rfl, by intro wx hx; go_simp⟩) (by assumption) ?_
                  try simp only [List.getElem_toArray, List.getElem_cons_succ, List.getElem_cons_zero, Act.put, List.setIfInBounds_toArray, List.set_cons_zero, List.set_cons_succ]
                  refine wpAnyH_take (i := 8) (v := .pointer (some ⟨b10, o10 + a, none⟩)) rfl (by kernel_rfl) (by kernel_rfl) (by kernel_rfl) (fun _ _ _ h => h) (Or.inl ⟨by rfl, by intro wx hx; go_simp⟩) (by assumption) ?_
                  try simp only [List.getElem_toArray, List.getElem_cons_succ, List.getElem_cons_zero, Act.put, List.setIfInBounds_toArray, List.set_cons_zero, List.set_cons_succ]
                  refine wpAnyH_take (i := 9) (v := .int .i64 (cell M st a)) rfl (by kernel_rfl) (by kernel_rfl) (by kernel_rfl) (fun _ _ _ h => h) (Or.inl ⟨by rfl, by intro wx hx; obtain ⟨_, _, _, _, _, _, _, _, _, _⟩ := hx; go_simp⟩) (by assumption) ?_
                  try simp only [List.getElem_toArray, List.getElem_cons_succ, List.getElem_cons_zero, Act.put, List.setIfInBounds_toArray, List.set_cons_zero, List.set_cons_succ]
                  refine wpAnyH_take (i := 10) (v := .pointer (some ⟨w.heap.size, 1, none⟩)) rfl (by kernel_rfl) (by kernel_rfl) (by kernel_rfl) (fun _ _ _ h => h) (Or.inl ⟨by rfl, by intro wx hx; go_simp⟩) (by assumption) ?_
                  try simp only [List.getElem_toArray, List.getElem_cons_succ, List.getElem_cons_zero, Act.put, List.setIfInBounds_toArray, List.set_cons_zero, List.set_cons_succ]
                  refine wpAnyH_take (i := 11) (v := .slice (some ⟨b11, o11, none⟩) S.length c2) rfl (by kernel_rfl) (by kernel_rfl) (by kernel_rfl) (fun _ _ _ h => h) (Or.inl ⟨by rfl, by intro wx hx; obtain ⟨_, _, _, _, _, _, _, _, _, _⟩ := hx; go_simp⟩) (by assumption) ?_
                  try simp only [List.getElem_toArray, List.getElem_cons_succ, List.getElem_cons_zero, Act.put, List.setIfInBounds_toArray, List.set_cons_zero, List.set_cons_succ]
                  refine wpAnyH_take (i := 12) (v := .int .i64 r) rfl (by kernel_rfl) (by kernel_rfl) (by kernel_rfl) (fun _ _ _ h => h) (Or.inl ⟨by rfl, by intro wx hx; go_simp⟩) (by assumption) ?_
                  try simp only [List.getElem_toArray, List.getElem_cons_succ, List.getElem_cons_zero, Act.put, List.setIfInBounds_toArray, List.set_cons_zero, List.set_cons_succ]
                  refine wpAnyH_take (i := 13) (v := .pointer (some ⟨b11, o11 + r, none⟩)) rfl (by kernel_rfl) (by kernel_rfl) (by kernel_rfl) (fun _ _ _ h => h) (Or.inl ⟨by rfl, by intro wx hx; go_simp⟩) (by assumption) ?_
                  try simp only [List.getElem_toArray, List.getElem_cons_succ, List.getElem_cons_zero, Act.put, List.setIfInBounds_toArray, List.set_cons_zero, List.set_cons_succ]
                  refine wpAnyH_take (i := 14) (v := .slice (some ⟨b12, o12, none⟩) M.length m11) rfl (by kernel_rfl) (by kernel_rfl) (by kernel_rfl) (fun _ _ _ h => h) (Or.inl ⟨by rfl, by intro wx hx; obtain ⟨_, _, _, _, _, _, _, _, _, _⟩ := hx; go_simp⟩) (by assumption) ?_
                  try simp only [List.getElem_toArray, List.getElem_cons_succ, List.getElem_cons_zero, Act.put, List.setIfInBounds_toArray, List.set_cons_zero, List.set_cons_succ]
                  refine wpAnyH_take (i := 15) (v := .int .i64 a) rfl (by kernel_rfl) (by kernel_rfl) (by kernel_rfl) (fun _ _ _ h => h) (Or.inl ⟨by rfl, by intro wx hx; go_simp⟩) (by assumption) ?_
                  try simp only [List.getElem_toArray, List.getElem_cons_succ, List.getElem_cons_zero, Act.put, List.setIfInBounds_toArray, List.set_cons_zero, List.set_cons_succ]
                  refine wpAnyH_take (i := 16) (v := .pointer (some ⟨b12, o12 + a, none⟩)) rfl (by kernel_rfl) (by kernel_rfl) (by kernel_rfl) (fun _ _ _ h => h) (Or.inl ⟨by rfl, by intro wx hx; go_simp⟩) (by assumption) ?_
                  try simp only [List.getElem_toArray, List.getElem_cons_succ, List.getElem_cons_zero, Act.put, List.setIfInBounds_toArray, List.set_cons_zero, List.set_cons_succ]
                  refine wpAnyH_take (i := 17) (v := .int .i64 (cell S r a)) rfl (by kernel_rfl) (by kernel_rfl) (by kernel_rfl) (fun _ _ _ h => h) (Or.inl ⟨by rfl, by intro wx hx; obtain ⟨_, _, _, _, _, _, _, _, _, _⟩ := hx; go_simp⟩) (by assumption) ?_
                  try simp only [List.getElem_toArray, List.getElem_cons_succ, List.getElem_cons_zero, Act.put, List.setIfInBounds_toArray, List.set_cons_zero, List.set_cons_succ]
                  refine wpAnyH_take (i := 18) (v := .int .i64 (cell M st a + cell S r a)) rfl (by kernel_rfl) (by kernel_rfl) (by kernel_rfl) (fun _ _ _ h => h) (Or.inl ⟨by rfl, by intro wx hx; go_simp; exact IntWalk.i64_in _ (by omega)⟩) (by assumption) ?_
                  try simp only [List.getElem_toArray, List.getElem_cons_succ, List.getElem_cons_zero, Act.put, List.setIfInBounds_toArray, List.set_cons_zero, List.set_cons_succ]
                  refine wpAnyH_take (i := 19) (v := .pointer (some ⟨w1.heap.size, 2, none⟩)) rfl (by kernel_rfl) (by kernel_rfl) (by kernel_rfl) (fun _ _ _ h => h) (Or.inl ⟨by rfl, by intro wx hx; go_simp⟩) (by assumption) ?_
                  try simp only [List.getElem_toArray, List.getElem_cons_succ, List.getElem_cons_zero, Act.put, List.setIfInBounds_toArray, List.set_cons_zero, List.set_cons_succ]
                  refine wpAnyH_take (i := 20) (v := .slice (some ⟨b13, o13, none⟩) g.G.length gm) rfl (by kernel_rfl) (by kernel_rfl) (by kernel_rfl) (fun _ _ _ h => h) (Or.inl ⟨by rfl, by intro wx hx; obtain ⟨_, _, _, _, _, _, _, _, _, _⟩ := hx; go_simp⟩) (by assumption) ?_
                  try simp only [List.getElem_toArray, List.getElem_cons_succ, List.getElem_cons_zero, Act.put, List.setIfInBounds_toArray, List.set_cons_zero, List.set_cons_succ]
                  refine wpAnyH_take (i := 21) (v := .int .i64 of_) rfl (by kernel_rfl) (by kernel_rfl) (by kernel_rfl) (fun _ _ _ h => h) (Or.inl ⟨by rfl, by intro wx hx; go_simp⟩) (by assumption) ?_
                  try simp only [List.getElem_toArray, List.getElem_cons_succ, List.getElem_cons_zero, Act.put, List.setIfInBounds_toArray, List.set_cons_zero, List.set_cons_succ]
                  refine wpAnyH_take (i := 22) (v := .pointer (some ⟨b13, o13 + of_, none⟩)) rfl (by kernel_rfl) (by kernel_rfl) (by kernel_rfl) (fun _ _ _ h => h) (Or.inl ⟨by rfl, by intro wx hx; go_simp⟩) (by assumption) ?_
                  try simp only [List.getElem_toArray, List.getElem_cons_succ, List.getElem_cons_zero, Act.put, List.setIfInBounds_toArray, List.set_cons_zero, List.set_cons_succ]
                  refine wpAnyH_take (i := 23) (v := .slice (some ⟨b14, o14, none⟩) S.length m13) rfl (by kernel_rfl) (by kernel_rfl) (by kernel_rfl) (fun _ _ _ h => h) (Or.inl ⟨by rfl, by intro wx hx; obtain ⟨_, _, _, _, _, _, _, _, _, _⟩ := hx; go_simp⟩) (by assumption) ?_
                  try simp only [List.getElem_toArray, List.getElem_cons_succ, List.getElem_cons_zero, Act.put, List.setIfInBounds_toArray, List.set_cons_zero, List.set_cons_succ]
                  refine wpAnyH_take (i := 24) (v := .int .i64 r) rfl (by kernel_rfl) (by kernel_rfl) (by kernel_rfl) (fun _ _ _ h => h) (Or.inl ⟨by rfl, by intro wx hx; go_simp⟩) (by assumption) ?_
                  try simp only [List.getElem_toArray, List.getElem_cons_succ, List.getElem_cons_zero, Act.put, List.setIfInBounds_toArray, List.set_cons_zero, List.set_cons_succ]
                  refine wpAnyH_take (i := 25) (v := .pointer (some ⟨b14, o14 + r, none⟩)) rfl (by kernel_rfl) (by kernel_rfl) (by kernel_rfl) (fun _ _ _ h => h) (Or.inl ⟨by rfl, by intro wx hx; go_simp⟩) (by assumption) ?_
                  try simp only [List.getElem_toArray, List.getElem_cons_succ, List.getElem_cons_zero, Act.put, List.setIfInBounds_toArray, List.set_cons_zero, List.set_cons_succ]
                  refine wpAnyH_take (i := 26) (v := .int .i64 (cell g.G of_ r)) rfl (by kernel_rfl) (by kernel_rfl) (by kernel_rfl) (fun _ _ _ h => h) (Or.inl ⟨by rfl, by intro wx hx; obtain ⟨_, _, _, _, _, _, _, _, _, _⟩ := hx; go_simp⟩) (by assumption) ?_
                  try simp only [List.getElem_toArray, List.getElem_cons_succ, List.getElem_cons_zero, Act.put, List.setIfInBounds_toArray, List.set_cons_zero, List.set_cons_succ]
                  refine wpAnyH_take (i := 27) (v := .agg #[.int .i64 q, .int .i64 (cell M st a + cell S r a), .int .i64 (cell g.G of_ r)]) rfl (by kernel_rfl) (by kernel_rfl) (by kernel_rfl) (fun _ _ _ h => h) (Or.inl ⟨by rfl, by intro wx hx; go_simp⟩) (by assumption) ?_
                  try simp only [List.getElem_toArray, List.getElem_cons_succ, List.getElem_cons_zero, Act.put, List.setIfInBounds_toArray, List.set_cons_zero, List.set_cons_succ]
                  refine wpAnyH_ready (rs := [28]) (by kernel_rfl) (by simp) ?_
                  refine AllReadyH.cons rfl (fun K hK => ?_) AllReadyH.nil
                  go_simp
                  have ea : Ext wT ((wS.alloc (.cells #[.int .i64 q, .int .i64 (cell M st a + cell S r a), .int .i64 (cell g.G of_ r)] 114)).drew) := Ext.trans eTS inferInstance
                  have OWa := OWS.ext (w' := (wS.alloc (.cells #[.int .i64 q, .int .i64 (cell M st a + cell S r a), .int .i64 (cell g.G of_ r)] 114)).drew)
                  have hba : Below B wb ((wS.alloc (.cells #[.int .i64 q, .int .i64 (cell M st a + cell S r a), .int .i64 (cell g.G of_ r)] 114)).drew) := (hbS.alloc hBS _).drew
                  have hBa : B ≤ ((wS.alloc (.cells #[.int .i64 q, .int .i64 (cell M st a + cell S r a), .int .i64 (cell g.G of_ r)] 114)).drew).heap.size := by simp; omega
                  refine hK.out _ _ ⟨ea, ea.cell tk0, ea.cell tk1, ea.cell hc9, ea.cell hc10', ea.cell hc11, ea.cell hc12', ea.cell tT2, ea.cell hc13, ea.cell hc14'⟩ (fun hHeld1 => ?_)
                  clear hK K hHeld0
                  try simp only [List.getElem_toArray, List.getElem_cons_succ, List.getElem_cons_zero, Act.put, List.setIfInBounds_toArray, List.set_cons_zero, List.set_cons_succ]
                  refine wpAnyH_ready (rs := [29]) (by kernel_rfl) (by simp) ?_
                  refine AllReadyH.cons rfl (fun K hK => ?_) AllReadyH.nil
                  refine step_append1z rfl (.tmp 102) (.tmp 130) 115 rfl elemStp rfl OWa hBa (us := [.int .i64 q, .int .i64 (cell M st a + cell S r a), .int .i64 (cell g.G of_ r)]) rfl rfl ?_ (by intro u hu; simp at hu; rcases hu with rfl | rfl | rfl <;> rfl) (by have := hRl.out; omega) (by have := hRl.out; have := hn.out; omega) ?_
                  · intro jj u hj
                    match jj, hj with
                    | 0, hj => simp at hj; subst hj; go_simp
                    | 1, hj => simp at hj; subst hj; go_simp
                    | 2, hj => simp at hj; subst hj; go_simp
                  intro v4 w4 ho4 hb4
                  obtain ⟨d4, m4, hv4⟩ := ho4.form
                  have hv4' : v4 = .slice d4 (ra.length + 1) m4 := hv4
                  subst hv4'
                  clear hv4
                  have eb : Ext wT w4 := ⟨ea.below.trans (hb4.mono (by have := hB.out; have := hTs.out; omega))⟩
                  refine hK.out _ _ ⟨eb, eb.cell tk0, eb.cell tk1, eb.cell hc9, eb.cell hc10', eb.cell hc11, eb.cell hc12', eb.cell tT2, eb.cell hc13, eb.cell hc14'⟩ (fun hHeld2 => ?_)
                  clear hK K hHeld1
                  try simp only [List.getElem_toArray, List.getElem_cons_succ, List.getElem_cons_zero, Act.put, List.setIfInBounds_toArray, List.set_cons_zero, List.set_cons_succ]
                  refine wpAnyH_take (i := 30) (v := .slice d4 (ra.length + 1) m4) rfl (by kernel_rfl) (by kernel_rfl) (by kernel_rfl) (fun _ _ _ h => h) (Or.inl ⟨by rfl, by intro wx hx; go_simp⟩) (by assumption) ?_
                  try simp only [List.getElem_toArray, List.getElem_cons_succ, List.getElem_cons_zero, Act.put, List.setIfInBounds_toArray, List.set_cons_zero, List.set_cons_succ]
                  refine wpAnyH_done (by kernel_rfl) ?_ _
                  go_wp2_with fail
                  go_roundw
                  case rel =>
                    refine ⟨r + 1, by omega, by go_num, ?_⟩
                    unfold PrRow
                    rw [hra1.out, hlr1.out, hsR.out]
                    exact ⟨hba.trans hb4, _, _, flat_snoc ho4 rfl (by rw [hstp.out, hat.out]; rfl)⟩
                  case measure => simp [intOf]; omega
            · have hrS : r = S.length := by omega
              subst hrS
              have hnx2 := hid (show lnext = rowPr g l m S.length by rw [hnext.out, hSl.out])
              have hsX2 := hid (show prSt g s (m + 1) = Ms ++ [rowSt g l m S.length] by rw [hsX.out, hSl.out])
              rw [← hnx2.out] at hown2 tg0
              have hRl := hid (rowSt_length g l m S.length)
              have hln6 : lnext.length ≤ 604 := by
                have h1 := (rowPr_len g l m S.length).2
                rw [← hnx2.out] at h1
                have := hn.out
                omega
              have hokn := hid (rowPr_ok hgk.out hok.out hlt (r := S.length) (by rw [hSl.out]; exact Nat.le_refl _))
              have hmn := hid (show m + 1 ≤ lnext.length by
                have h1 := (rowPr_len g l m S.length).1
                rw [← hnx2.out] at h1
                omega)
              rw [← hnx2.out] at hokn
              clear hsX hnext
              generalize rowSt g l m S.length = ra at *
              obtain ⟨X1, hX1⟩ : ∃ X1, X1 = Ms ++ [ra] := ⟨_, rfl⟩
              have hx1 : svs.length + 1 = X1.length := by rw [hX1, List.length_append, hXl.out, hsv.out]; rfl
              have hsv6 : svs.length ≤ 600 := by have := hsv.out; omega
              have hsvM : svs.length = Ms.length := by rw [hsv.out, hXl.out]
              replace hx1 := hid hx1
              replace hX1 := hid hX1
              replace hsvM := hid hsvM
              have tg1 : wi.cell? ⟨bg, 1, none⟩ = some (.slice sd Ms.length sm) := hown2.cellIn (.tail _ (.head _)) (j := 1) (by omega)
              have hout : Own wi B (⟨115, 1, .slice sd Ms.length sm, svs.length, svs⟩ :: ([flatRowOf 114 3 (.slice ad ra.length am) ra, ⟨76, 3, .slice (some ⟨bg, 0, none⟩) 1 1, 1, [.slice pd2 lnext.length pm2, .slice sd Ms.length sm, .bool false]⟩, flatRowOf 59 2 (.slice pd2 lnext.length pm2) lnext] ++ (List.zipWith (flatRowOf 114 3) svs Ms ++ []))) := Own.pull (A := [_, _, _]) hown2
              go_upto_region 20 with (at_builtin; refine wpList_append1 rfl _ _ _ rfl elemStps rfl hout hBi rfl rfl (by omega) (by omega) ?_; intro v1 w5 ho hb5; obtain ⟨vd, vm, hv1⟩ := ho.form; (obtain rfl : v1 = .slice vd X1.length vm := (by rw [← hx1.out]; exact hv1)); clear hv1; (have tc : w5.cell? ⟨bg, 1, none⟩ = some (.slice sd Ms.length sm) := ho.cellIn (.tail _ (.tail _ (.head _))) (j := 1) (by omega)); have tf := ho.frozenIn (.tail _ (.tail _ (.head _))) 1)
              have hbgB := hid ((ho.1 _ (.tail _ (.tail _ (.head _)))).lt bg rfl).1
              have hoS := Own.setIn (A := [_, _]) ho 1 (.slice vd X1.length vm)
              have hbS : Below B wb (w5.setCell ⟨bg, 1, none⟩ (.slice vd X1.length vm)) := (hb2.trans hb5).setCell hbgB.out _
              generalize w5.setCell ⟨bg, 1, none⟩ (.slice vd X1.length vm) = wS at *
              have s0 : wS.cell? ⟨bg, 0, none⟩ = some (.slice pd2 lnext.length pm2) := hoS.cellIn (.tail _ (.tail _ (.head _))) (j := 0) (by omega)
              have s2 : wS.cell? ⟨bg, 2, none⟩ = some (.bool false) := hoS.cellIn (.tail _ (.tail _ (.head _))) (j := 2) (by omega)
              have sf2 : wS.frozen? ⟨bg, 2, none⟩ = false := hoS.frozenIn (.tail _ (.tail _ (.head _))) 2
              clear ho hout hown2
              by_cases hbig : 600 < lnext.length
              · have hend := hid (show prEnd g s = none by
                  rw [← hgo.out, show 700 - m = (699 - m) + 1 by omega]
                  exact hbigG.out hbig)
                have hbig' : decide ((600 : Int) < (lnext.length : Int)) = true := by simp; omega
                have hoB := Own.setIn (A := [_, _]) hoS 2 (.bool true)
                have hbB := hid (hbS.setCell (p := ⟨bg, 2, none⟩) hbgB.out (.bool true))
                have r0 := hid (hoB.cellIn (.tail _ (.tail _ (.head _))) (j := 0) (by omega))
                have r1 := hid (hoB.cellIn (.tail _ (.tail _ (.head _))) (j := 1) (by omega))
                have r2 := hid (hoB.cellIn (.tail _ (.tail _ (.head _))) (j := 2) (by omega))
                go_wp2_with fail
                go_roundw
                case rel => exact ⟨m + 1, by go_num, .inr ⟨by omega, hend.out, hbB.out, _, _, _, _, _, _, r0.out, r1.out, r2.out⟩⟩
                case measure => simp [intOf]; omega
              · have hbig' : decide ((600 : Int) < (lnext.length : Int)) = false := by simp; omega
                have hgo2 := hid (show prGo g s (700 - (m + 1)) (m + 1) = prEnd g s by
                  rw [← hgo.out, show 700 - m = (699 - m) + 1 by omega, hmoreG.out hbig, show 700 - (m + 1) = 699 - m by omega])
                have hoB := Own.setIn (A := [_, _]) hoS 2 (.bool false)
                have hbB := hid (hbS.setCell (p := ⟨bg, 2, none⟩) hbgB.out (.bool false))
                have hoF : Own (wS.setCell ⟨bg, 2, none⟩ (.bool false)) B (grRows bg pd2 vd pm2 vm (svs ++ [.slice ad ra.length am]) false lnext X1) := by
                  rw [hX1.out] at hoB ⊢
                  have p1 := rowsF_perm (e1 := 115) (e2 := 114) (z := 3) (v := .slice vd (Ms ++ [ra]).length vm) (rv := .slice ad ra.length am) (L := ra) (R := []) hsvM.out
                  have p2 := ((p1.cons (flatRowOf 59 2 (.slice pd2 lnext.length pm2) lnext)).cons (⟨76, 3, .slice (some ⟨bg, 0, none⟩) 1 1, 1, [.slice pd2 lnext.length pm2, .slice vd (Ms ++ [ra]).length vm, .bool false]⟩ : Row))
                  refine hoB.perm (p2.trans ?_)
                  exact List.perm_append_comm_assoc [_, _] [_, _] _
                replace hoF := hid hoF
                clear hoB hoS
                go_wp2_with fail
                go_roundw
                case rel =>
                  refine ⟨m + 1, by go_num, .inl ?_⟩
                  unfold PrInv
                  rw [hln.out, hsX2.out, ← hX1.out]
                  exact ⟨by omega, by omega, hokn.out, hgo2.out, hmn.out, hbB.out, _, _, _, _, _, by rw [List.length_append, hsv.out]; rfl, hoF.out⟩
                case measure => simp [intOf]; omega
        · have hend := hid (show prEnd g s = some m by
            rw [← hgo.out, show 700 - m = (699 - m) + 1 by omega]
            exact prGo_done hlt)
          have hltI : decide ((m : Int) < ((prLst g s m).length : Int)) = false := by simp; omega
          have r0 : wo.cell? ⟨w.heap.size + 1, 0, none⟩ = some (.slice none 0 0) := (hb0.cell (p := ⟨w.heap.size + 1, 0, none⟩) hwB).trans z0
          have r1 : wo.cell? ⟨w.heap.size + 1, 1, none⟩ = some (.slice none 0 0) := (hb0.cell (p := ⟨w.heap.size + 1, 1, none⟩) hwB).trans z1
          have r2 : wo.cell? ⟨w.heap.size + 1, 2, none⟩ = some (.bool false) := (hb0.cell (p := ⟨w.heap.size + 1, 2, none⟩) hwB).trans z2
          have rf0 : wo.frozen? ⟨w.heap.size + 1, 0, none⟩ = false := (hb0.frozen (p := ⟨w.heap.size + 1, 0, none⟩) hwB).trans (zf.out 0)
          have rf1 : wo.frozen? ⟨w.heap.size + 1, 1, none⟩ = false := (hb0.frozen (p := ⟨w.heap.size + 1, 1, none⟩) hwB).trans (zf.out 1)
          have rf2 : wo.frozen? ⟨w.heap.size + 1, 2, none⟩ = false := (hb0.frozen (p := ⟨w.heap.size + 1, 2, none⟩) hwB).trans (zf.out 2)
          have hpf := hid (prOk_flat hok.out)
          have hownz := ((hown.setBelow (p := ⟨w.heap.size + 1, 0, none⟩) hwB (.slice pd (prLst g s m).length pm)).setBelow (p := ⟨w.heap.size + 1, 1, none⟩) hwB (.slice sd (prSt g s m).length sm)).setBelow (p := ⟨w.heap.size + 1, 2, none⟩) hwB (.bool false)
          have hL := hid (hownz.tail.readsFlat (by omega) hpf.out.1 (hpf.out.2 hgk.out.n1.2 (by rw [hgM.out]; have := hn.out; omega)))
          have hMs := hid ((Own.readsFlats (R := []) hownz.tail.tail (by rw [prSt_length]; exact hsv.out) (by rw [prSt_length]; omega) (prSt_read hgk.out (by rw [hgM.out]; exact hs) hend.out)))
          clear hown
          replace hownz := hid hownz
          go_wp2_with fail
          refine bodyPost_ret (v := .agg #[.slice pd (prLst g s m).length pm, .slice sd (prSt g s m).length sm, .bool false]) (by simp [results, Try.results89, go_sem, r0, r1, r2]) rfl ?_
          refine ⟨.inr ⟨n, m, hoff, by rw [← hg.out]; exact hend.out, pd, pm, sd, sm, by rw [← hg.out], by rw [← hg.out]; exact hL.out, by rw [← hg.out]; exact hMs.out⟩, ?_⟩
          exact @Ext.set _ _ (@Ext.set _ _ (@Ext.set _ _ eo ⟨w.heap.size + 1, 0, none⟩ (Nat.le_succ _) _) ⟨w.heap.size + 1, 1, none⟩ (Nat.le_succ _) _) ⟨w.heap.size + 1, 2, none⟩ (Nat.le_succ _) _
      · have hwB : w.heap.size + 1 < B := by have := hB.out; have := hwlt.out; omega
        have eo : Ext w wo := ⟨ew.below.trans (hb0.mono (by omega))⟩
        have r0 : wo.cell? ⟨w.heap.size + 1, 0, none⟩ = some (.slice none 0 0) := (hb0.cell (p := ⟨w.heap.size + 1, 0, none⟩) hwB).trans z0
        have r1 : wo.cell? ⟨w.heap.size + 1, 1, none⟩ = some (.slice none 0 0) := (hb0.cell (p := ⟨w.heap.size + 1, 1, none⟩) hwB).trans z1
        have r2 : wo.cell? ⟨w.heap.size + 1, 2, none⟩ = some (.bool false) := (hb0.cell (p := ⟨w.heap.size + 1, 2, none⟩) hwB).trans z2
        have rf0 : wo.frozen? ⟨w.heap.size + 1, 0, none⟩ = false := (hb0.frozen (p := ⟨w.heap.size + 1, 0, none⟩) hwB).trans (zf.out 0)
        have rf1 : wo.frozen? ⟨w.heap.size + 1, 1, none⟩ = false := (hb0.frozen (p := ⟨w.heap.size + 1, 1, none⟩) hwB).trans (zf.out 1)
        have rf2 : wo.frozen? ⟨w.heap.size + 1, 2, none⟩ = false := (hb0.frozen (p := ⟨w.heap.size + 1, 2, none⟩) hwB).trans (zf.out 2)
        by_cases hmp : m < pn
        · have hmpI : decide ((m : Int) < (pn : Int)) = true := by simpa using hmp
          go_wp2_with fail
          refine bodyPost_ret (v := .agg #[.slice pd pn pm, .slice sd sn sm, .bool true]) (by simp [results, Try.results89, go_sem, r0, r1, r2]) rfl ?_
          refine ⟨.inl ⟨.inr ⟨n, hoff, by rw [← hg.out]; exact hpe⟩, _, _, _, _, _, _, rfl⟩, ?_⟩
          exact @Ext.set _ _ (@Ext.set _ _ (@Ext.set _ _ eo ⟨w.heap.size + 1, 0, none⟩ (Nat.le_succ _) _) ⟨w.heap.size + 1, 1, none⟩ (Nat.le_succ _) _) ⟨w.heap.size + 1, 2, none⟩ (Nat.le_succ _) _
        · have hmpI : decide ((m : Int) < (pn : Int)) = false := by simpa using hmp
          go_wp2_with fail
          refine bodyPost_ret (v := .agg #[.slice pd pn pm, .slice sd sn sm, .bool true]) (by simp [results, Try.results89, go_sem, r0, r1, r2]) rfl ?_
          refine ⟨.inl ⟨.inr ⟨n, hoff, by rw [← hg.out]; exact hpe⟩, _, _, _, _, _, _, rfl⟩, ?_⟩
          exact @Ext.set _ _ (@Ext.set _ _ (@Ext.set _ _ eo ⟨w.heap.size + 1, 0, none⟩ (Nat.le_succ _) _) ⟨w.heap.size + 1, 1, none⟩ (Nat.le_succ _) _) ⟨w.heap.size + 1, 2, none⟩ (Nat.le_succ _) _

end Go.Proofs.Ytobfehekjapnhaa
