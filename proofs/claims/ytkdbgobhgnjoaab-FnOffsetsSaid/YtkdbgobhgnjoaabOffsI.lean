/- All offsets, as the program finds them. -/
import Derived.Test.YtkdbgobhgnjoaabOffsA
import Derived.Deep.Cut
import Derived.Deep.DeepCutAuto
namespace Go.Proofs.Ytkdbgobhgnjoaab
open Go.RowKit

set_option maxHeartbeats 400000 in
set_option maxRecDepth 100000 in
theorem indexFuncRowsAt_any {v : Value} {xs : List (List Int)} {w0 w : World} [Ext w0 w] (hx : IsRows w0 v xs) (id : Nat) (caps : Array Value) (p : List Int → Bool)
    (hcall : ∀ xa W, (callFunc id xa).run Try.prog W = .ok (.enter id xa) W)
    (hf : ∀ (W : World), Ext w W → ∀ k, k < xs.length → ∀ d m, IsInts w0 (.slice d (row xs k).length m) (row xs k) → Calls Try.prog id (#[.slice d (row xs k).length m] ++ caps) W fun e w' => e = .returned (.bool (p (row xs k))) ∧ Ext W w') :
    Calls Try.prog 97 #[v, .func (.func id) #[] caps] w fun e w' => e = .returned (.int .i64 (ixL p xs 0)) ∧ Ext w w' := by
  obtain ⟨a, c, rfl, la⟩ := hx.form
  go_enter Try.func97, Try.ntmps97
  replace hf := hid hf
  go_wp2
  go_loopw [5, 8] (fun _ i wr => ∃ k : Nat, k ≤ xs.length ∧ i = .int .i64 k ∧ Hid (∀ j, j < k → p (row xs j) = false) ∧ Ext w wr) (fun _ i _ => xs.length - (intOf i).toNat)
  case atStart => exact ⟨0, by omega, rfl, by intro x hx; omega, inferInstance⟩
  case round =>
    obtain ⟨k, hk, rfl, hno, hb⟩ := hrel
    by_cases hlt : k < xs.length
    · have e0 : Ext w0 wr := Ext.trans ‹Ext w0 w› hb
      obtain ⟨b, o, d, m, rfl, hc, hr, _⟩ := hx.at (w' := wr) hlt
      cases hp : p (row xs k) with
      | true =>
        have hres := hid (ixL_some (p := p) (xs := xs) (i := 0) hlt hp (fun j hj => hno.out j hj))
        rw [Nat.zero_add] at hres
        replace hp := hid hp
        go_wp2_with fail
        refine (hf.out wr hb k hlt d m hr).mono ?_
        rw [hp.out]
        rintro e w1 ⟨rfl, hb1⟩
        go_wp2_with fail
        go_ret
        exact ⟨ret_int hres.out.symm, Ext.trans hb hb1⟩
      | false =>
        replace hp := hid hp
        go_wp2_with fail
        refine (hf.out wr hb k hlt d m hr).mono ?_
        rw [hp.out]
        rintro e w1 ⟨rfl, hb1⟩
        go_wp2_with fail
        go_roundw
        case rel =>
          refine ⟨k + 1, by omega, by go_num, ?_, Ext.trans hb hb1⟩
          intro j hj
          by_cases hjk : j = k
          · subst hjk; exact hp.out
          · exact hno.out j (by omega)
        case measure => simp [intOf]; omega
    · have hres := hid (ixL_none (p := p) (xs := xs) (i := 0) (fun j hj => hno.out j (by omega)))
      go_wp2
      go_ret
      exact ⟨ret_int hres.out.symm, hb⟩

set_option maxHeartbeats 400000 in
theorem offsets1_any {v3 : Value} {x nl : List Int} {wd : Option Addr} {wm B : Nat} {w0 w : World} [Ext w0 w] (hx : IsInts w0 v3 x) (hW : IsInts w (.slice wd nl.length wm) nl)
    (h1 : w.cell? ⟨B, 0, none⟩ = some (.slice wd nl.length wm)) :
    Calls Try.prog 98 #[v3, .pointer (some ⟨B, 0, none⟩)] w fun e w' => e = .returned (.bool (decide (x = nl))) ∧ Ext w w' := by
  have hx' := hx.ext (w' := w)
  obtain ⟨a3, c3, rfl, l3⟩ := hx.form
  go_enter Try.func98, Try.ntmps98
  go_wp2_with fail
  refine (sEqual_any (w0 := w) hx' hW).mono ?_
  rintro e w1 ⟨rfl, hb⟩
  go_wp2_with fail
  go_ret
  exact ⟨rfl, hb⟩
theorem offsets1_call (xa : Array Value) (W : World) : (callFunc 98 xa).run Try.prog W = .ok (.enter 98 xa) W := by kernel_rfl
theorem offsets1_all {xs : List (List Int)} {nl : List Int} {wd : Option Addr} {wm B : Nat} {w0 w : World} [Ext w0 w] (hW : IsInts w (.slice wd nl.length wm) nl)
    (h1 : w.cell? ⟨B, 0, none⟩ = some (.slice wd nl.length wm)) :
    ∀ (W : World), Ext w W → ∀ k, k < xs.length → ∀ d m, IsInts w0 (.slice d (row xs k).length m) (row xs k) →
      Calls Try.prog 98 (#[.slice d (row xs k).length m] ++ #[.pointer (some ⟨B, 0, none⟩)]) W fun e w' => e = .returned (.bool ((fun o => decide (o = nl)) (row xs k))) ∧ Ext W w' := by
  intro W hE k hk d m hrow
  have e0 : Ext w0 W := Ext.trans ‹Ext w0 w› hE
  exact offsets1_any (w0 := w0) hrow (hW.ext (w' := W)) (hE.cell h1)

/-- the list when the least is taken off at k places -/
def subL (w : List Int) (k : Nat) : List Int := (List.range w.length).map fun i => if i < k then nth w i - leastL w else nth w i
theorem subL_length (w : List Int) (k : Nat) : (subL w k).length = w.length := by simp [subL]
theorem nth_subL {w : List Int} {k i : Nat} (h : i < w.length) : nth (subL w k) i = if i < k then nth w i - leastL w else nth w i := by simp [subL, nth, h]
theorem subL_zero (w : List Int) : subL w 0 = w := by
  refine eq_of_nth (subL_length _ _) fun i hi => ?_
  rw [subL_length] at hi
  rw [nth_subL hi, if_neg (by omega)]
theorem subL_full (w : List Int) : subL w w.length = normL w := by
  refine eq_of_nth (by rw [subL_length, normL_length]) fun i hi => ?_
  rw [subL_length] at hi
  rw [nth_subL hi, if_pos hi, nth_normL hi]
theorem subL_set {w : List Int} {k : Nat} (hk : k < w.length) : ((subL w k).map (Value.int .i64)).set k (.int .i64 (nth w k - leastL w)) = (subL w (k + 1)).map (Value.int .i64) := by
  rw [← List.map_set]
  congr 1
  refine eq_of_nth (by rw [List.length_set, subL_length, subL_length]) fun i hi => ?_
  rw [List.length_set, subL_length] at hi
  rw [nth_subL hi]
  by_cases h : i = k
  · subst h
    rw [if_pos (by omega)]
    simp [nth, subL_length, hi]
  · have e : nth ((subL w k).set k (nth w k - leastL w)) i = nth (subL w k) i := by
      simp [nth, Ne.symm h]
    rw [e, nth_subL hi]
    by_cases h2 : i < k
    · rw [if_pos h2, if_pos (by omega)]
    · rw [if_neg h2, if_neg (by omega)]

/-- the rows of the program's three lists -/
def triRows (ld xd gd : Option Addr) (lm xm gm : Nat) (lvs xvs gvs : List Value) (l X G : List (List Int)) : List Row :=
  rowsOf 29 3 (.slice ld l.length lm) lvs l ++ (rowsOf 29 3 (.slice xd X.length xm) xvs X ++ (rowsOf 29 3 (.slice gd G.length gm) gvs G ++ []))
theorem tri_mid {w : World} {B e1 e2 : Nat} {lv xv gv av : Value} {lvs xvs gvs : List Value} {l X G : List (List Int)} {ra : List Int} {gr : Row} (ho : Own w B (⟨e1, 1, xv, xvs.length + 1, xvs ++ [av]⟩ :: (intRowOf e2 av ra :: ((gr :: rowsOf e1 e2 lv lvs l) ++ (List.zipWith (intRowOf e2) xvs X ++ (rowsOf e1 e2 gv gvs G ++ [])))))) (hl : xvs.length = X.length) :
    Own w B (⟨e1, 1, gv, gvs.length, gvs⟩ :: (gr :: ((rowsOf e1 e2 lv lvs l ++ rowsOf e1 e2 xv (xvs ++ [av]) (X ++ [ra])) ++ (List.zipWith (intRowOf e2) gvs G ++ [])))) := by
  have h := rows_in (A := gr :: rowsOf e1 e2 lv lvs l) ho hl
  refine rows_out (A := rowsOf e1 e2 lv lvs l ++ rowsOf e1 e2 xv (xvs ++ [av]) (X ++ [ra])) ?_
  simp only [List.cons_append, List.append_assoc] at h ⊢
  exact h
theorem tri_end {w : World} {B e1 e2 : Nat} {lv xv gv av : Value} {lvs xvs gvs : List Value} {l X G : List (List Int)} {rg : List Int} (ho : Own w B (⟨e1, 1, gv, gvs.length + 1, gvs ++ [av]⟩ :: (intRowOf e2 av rg :: ((rowsOf e1 e2 lv lvs l ++ rowsOf e1 e2 xv xvs X) ++ (List.zipWith (intRowOf e2) gvs G ++ []))))) (hl : gvs.length = G.length) :
    Own w B (rowsOf e1 e2 lv lvs l ++ (rowsOf e1 e2 xv xvs X ++ (rowsOf e1 e2 gv (gvs ++ [av]) (G ++ [rg]) ++ []))) := by
  have h := rows_in (A := rowsOf e1 e2 lv lvs l ++ rowsOf e1 e2 xv xvs X) ho hl
  simp only [List.append_assoc] at h
  exact h
def triPost (M S : List (List Int)) (s : Nat) (w : World) (e : Ending) (w' : World) : Prop :=
  (offEnd M S s = none ∧ e = .returned (.tuple #[.slice none 0 0, .slice none 0 0, .slice none 0 0, .bool false])) ∨
  ∃ n, offEnd M S s = some n ∧ ∃ ld lm xd xm gd gm lvs xvs gvs, e = .returned (.tuple #[.slice ld (offLst M S s n).length lm, .slice xd (offStp M S s n).length xm, .slice gd (offGrw M S s n).length gm, .bool true]) ∧
    lvs.length = (offLst M S s n).length ∧ xvs.length = (offStp M S s n).length ∧ gvs.length = (offGrw M S s n).length ∧
    Own w' w.heap.size (triRows ld xd gd lm xm gm lvs xvs gvs (offLst M S s n) (offStp M S s n) (offGrw M S s n)) ∧
    n ≤ 400 ∧ (offLst M S s n).length ≤ 400 ∧ offOk M (offLst M S s n) ∧ (∀ x ∈ offStp M S s n, x.length ≤ 4 ∧ ∀ y ∈ x, 0 ≤ y ∧ y ≤ 1000) ∧ (∀ x ∈ offGrw M S s n, x.length ≤ 4 ∧ ∀ y ∈ x, 0 ≤ y ∧ y ≤ 1000)
def TriInv (M S : List (List Int)) (s B : Nat) (wb : World) (n : Nat) (lv xv gv : Value) (wi : World) : Prop :=
  n ≤ 400 ∧ (offLst M S s n).length ≤ 400 ∧ offOk M (offLst M S s n) ∧ offGo M S s (500 - n) n = offEnd M S s ∧ (∀ x ∈ offStp M S s n, x.length ≤ 4 ∧ ∀ y ∈ x, 0 ≤ y ∧ y ≤ 1000) ∧ (∀ x ∈ offGrw M S s n, x.length ≤ 4 ∧ ∀ y ∈ x, 0 ≤ y ∧ y ≤ 1000) ∧ Below B wb wi ∧
  ∃ ld xd gd lm xm gm lvs xvs gvs, lv = .slice ld (offLst M S s n).length lm ∧ xv = .slice xd (offStp M S s n).length xm ∧ gv = .slice gd (offGrw M S s n).length gm ∧
    lvs.length = (offLst M S s n).length ∧ xvs.length = n ∧ gvs.length = n ∧ Own wi B (triRows ld xd gd lm xm gm lvs xvs gvs (offLst M S s n) (offStp M S s n) (offGrw M S s n))
def TriRow (M S : List (List Int)) (l X G : List (List Int)) (n B : Nat) (wb : World) (xd gd : Option Addr) (xm gm : Nat) (xvs gvs : List Value) (r : Nat) (lv av gv : Value) (wi : World) : Prop :=
  Below B wb wi ∧ ∃ ld lm lvs, lv = .slice ld (rowLst M S l n r).length lm ∧ lvs.length = (rowLst M S l n r).length ∧ Own wi B (intRowOf 3 av (rowStp M S l n r) :: intRowOf 3 gv (rowGrw M S l n r) :: triRows ld xd gd lm xm gm lvs xvs gvs (rowLst M S l n r) X G)

set_option maxHeartbeats 3200000 in
set_option maxRecDepth 100000 in
theorem offsets_any {v1 v2 : Value} {M S : List (List Int)} {s : Nat} {w0 w : World} [Ext w0 w] (hM : IsRows w0 v1 M) (hS : IsRows w0 v2 S) (hp : probB M S = true) (hs : s < M.length) :
    Calls Try.prog 60 #[.agg #[v1, v2], .int .i64 s] w fun e w' => triPost M S s w e w' ∧ Ext w w' := by
  have hM' := hM
  have hS' := hS
  obtain ⟨a1, c1, rfl, l1⟩ := hM.form
  obtain ⟨a2, c2, rfl, l2⟩ := hS.form
  have hn := hid (probB_len hp)
  have hrowok := hid (row_ok hp hs)
  replace hp := hid hp
  obtain ⟨b5, o5, d5, m5, rfl, hc5, hr5, hl5⟩ := hM.at (w' := w.alloc (.cells #[.slice a1 M.length c1, .slice a2 S.length c2] 26)) hs
  go_enter Try.func60, Try.ntmps60
  go_wp2_with fail
  refine (cloneInts_any (w0 := w0) hr5).mono ?_
  rintro e w1 ⟨fd, fm, rfl, own1, hb1⟩
  have ew1 : Ext w w1 := Ext.trans inferInstance hb1
  have k0 : w1.cell? ⟨w.heap.size, 0, none⟩ = some (.slice (some ⟨b5, o5, none⟩) M.length c1) := hb1.cell (by go_simp)
  have k1 : w1.cell? ⟨w.heap.size, 1, none⟩ = some (.slice a2 S.length c2) := hb1.cell (by go_simp)
  have kr := hb1.size
  clear hb1
  have hf : offLst M S s 0 = [row M s] := rfl
  obtain ⟨B, hB⟩ : ∃ B, B = w.heap.size + 1 := ⟨_, rfl⟩
  obtain ⟨wb, hwb⟩ : ∃ x, x = ((w1.alloc (.cells #[.slice fd (row M s).length fm] 29)).alloc (.cells #[] 29)).alloc (.cells #[] 29) := ⟨_, rfl⟩
  have own0 : Own wb B (triRows (some ⟨w1.heap.size, 0, none⟩) (some ⟨w1.heap.size + 1, 0, none⟩) (some ⟨w1.heap.size + 1 + 1, 0, none⟩) 1 0 0 [.slice fd (row M s).length fm] [] [] (offLst M S s 0) (offStp M S s 0) (offGrw M S s 0)) := by
    have q0 : w.heap.size + 1 ≤ w1.heap.size := by simp at kr; omega
    have q1 := (own1.mono (B' := w.heap.size + 1) (by simp)).lit 29 1 1 #[.slice fd (row M s).length fm] q0 (by unfold maxLen; omega) rfl
    have q2 := q1.lit 29 1 0 #[] (by simp; omega) (by unfold maxLen; omega) rfl
    have q3 := q2.lit 29 1 0 #[] (by simp; omega) (by unfold maxLen; omega) rfl
    rw [hwb, hB]
    rw [show ((w1.alloc (.cells #[.slice fd (row M s).length fm] 29)).alloc (.cells #[] 29)).heap.size = w1.heap.size + 1 + 1 by simp, show (w1.alloc (.cells #[.slice fd (row M s).length fm] 29)).heap.size = w1.heap.size + 1 by simp] at q3
    have q4 := q3.perm (List.Perm.swap _ _ _)
    exact q4.perm (List.perm_append_comm (l₁ := [_, _]) (l₂ := [_, _]))
  have ewb : Ext w1 wb := by rw [hwb]; infer_instance
  have hBb : B ≤ wb.heap.size := by have := ewb.size; simp at kr; omega
  have hoff0 : offOk M (offLst M S s 0) := by
    intro x hx
    rw [hf, List.mem_singleton] at hx
    rw [hx]; exact hrowok.out
  have hInv0 : TriInv M S s B wb 0 (.slice (some ⟨w1.heap.size, 0, none⟩) 1 1) (.slice (some ⟨w1.heap.size + 1, 0, none⟩) 0 0) (.slice (some ⟨w1.heap.size + 1 + 1, 0, none⟩) 0 0) wb := ⟨by omega, by rw [hf]; simp, hoff0, rfl, by intro x hx; simp [offStp] at hx, by intro x hx; simp [offGrw] at hx, Below.refl _ _, _, _, _, _, _, _, _, _, _, rfl, rfl, rfl, rfl, rfl, rfl, own0⟩
  have q0 := ewb.cell k0
  have q1 := ewb.cell k1
  have ewwb : Ext w wb := Ext.trans ew1 ewb
  go_upto_region 3 with fail
  rw [← hwb]
  clear own0 k0 k1 kr hoff0 hf hwb own1
  replace hB := hid hB
  replace hInv0 := hid hInv0
  go_loopw [8, 9, 10, 11] (fun lv xv gv i wi => ∃ n : Nat, i = .int .i64 n ∧ TriInv M S s B wb n lv xv gv wi) (fun _ _ _ i _ => 401 - (intOf i).toNat)
  case atStart => exact ⟨0, rfl, hInv0.out⟩
  case round =>
    obtain ⟨n, rfl, hn400, hl400, hoff, hgo, hXI, hGI, hb0, ld, xd, gd, lm, xm, gm, lvs, xvs, gvs, rfl, rfl, rfl, hlv, hxv, hgv, hown⟩ := hrel
    obtain ⟨wo, rfl⟩ : ∃ x : World, x = wr := ⟨_, rfl⟩
    have hBB : w.heap.size + 1 ≤ wo.heap.size ∧ B ≤ wo.heap.size := by have := hb0.size; have := hB.out; omega
    have y0 : wo.cell? ⟨w.heap.size, 0, none⟩ = some (.slice (some ⟨b5, o5, none⟩) M.length c1) := (hb0.cell (p := ⟨w.heap.size, 0, none⟩) (by have := hB.out; show w.heap.size < B; omega)).trans q0
    have y1 : wo.cell? ⟨w.heap.size, 1, none⟩ = some (.slice a2 S.length c2) := (hb0.cell (p := ⟨w.heap.size, 1, none⟩) (by have := hB.out; show w.heap.size < B; omega)).trans q1
    have eo : Ext w wo := ⟨ewwb.below.trans (hb0.mono (by have := hB.out; omega))⟩
    replace hlv := hid hlv
    replace hxv := hid hxv
    replace hgv := hid hgv
    replace hoff := hid hoff
    replace hgo := hid hgo
    replace hXI := hid hXI
    replace hGI := hid hGI
    by_cases hlt : n < (offLst M S s n).length
    · have hXl := hid (offStp_length M S s n)
      have hGl := hid (offGrw_length M S s n)
      have hnext := hid (show offLst M S s (n + 1) = rowLst M S (offLst M S s n) n S.length from rfl)
      have hsX := hid (offStp_succ M S s n)
      have hsG := hid (offGrw_succ M S s n)
      have hmoreG := hid (fun h4 : ¬ 400 < (offLst M S s (n + 1)).length => offGo_more (M := M) (S := S) (s := s) (f := 499 - n) hlt h4)
      have hbigG := hid (fun h4 : 400 < (offLst M S s (n + 1)).length => offGo_big (M := M) (S := S) (s := s) (f := 499 - n) hlt h4)
      generalize hln : offLst M S s (n + 1) = lnext at *
      replace hln := hid hln
      generalize hl0 : offLst M S s n = l at *
      generalize offStp M S s n = X at *
      generalize offGrw M S s n = G at *
      replace hl0 := hid hl0
      have hR0 : TriRow M S l X G n B wb xd gd xm gm xvs gvs 0 (.slice ld l.length lm) (.slice (some ⟨wo.heap.size, 0, none⟩) ([] : List Int).length 0) (.slice (some ⟨wo.heap.size + 1, 0, none⟩) ([] : List Int).length 0) ((wo.alloc (.cells #[] 3)).alloc (.cells #[] 3)) := by
        refine ⟨(hb0.alloc hBB.2 _).alloc (by simp; omega) _, ld, lm, lvs, rfl, hlv.out, ?_⟩
        have h1 := hown.lit 3 1 0 #[] hBB.2 (by unfold maxLen; omega) rfl
        have h2 := h1.lit 3 1 0 #[] (by simp; omega) (by unfold maxLen; omega) rfl
        rw [show (wo.alloc (.cells #[] 3)).heap.size = wo.heap.size + 1 by simp] at h2
        exact h2.perm (List.Perm.swap _ _ _)
      have eab : Ext wo ((wo.alloc (.cells #[] 3)).alloc (.cells #[] 3)) := inferInstance
      replace hR0 := hid hR0
      go_upto_region 6 with fail
      generalize (wo.alloc (.cells #[] 3)).alloc (.cells #[] 3) = wp at *
      have z1 := eab.cell y1
      go_wp2
      go_loopw [8, 12, 13, 39] (fun lv av gv i wi => ∃ r : Nat, r ≤ S.length ∧ i = .int .i64 r ∧ TriRow M S l X G n B wb xd gd xm gm xvs gvs r lv av gv wi) (fun _ _ _ i _ => S.length - (intOf i).toNat)
      case atStart => exact ⟨0, by omega, rfl, hR0.out⟩
      case round =>
        obtain ⟨r, hr, rfl, hb2, ld2, lm2, lvs2, rfl, hlv2, hown2⟩ := hrel
        obtain ⟨ad, am, rfl⟩ := Own.formInts hown2
        obtain ⟨gd2, gm2, rfl⟩ := Own.formInts hown2.tail
        have hBr : B ≤ wr.heap.size := by have := hb2.size; omega
        have u0 : wr.cell? ⟨w.heap.size, 0, none⟩ = some (.slice (some ⟨b5, o5, none⟩) M.length c1) := (hb2.cell (p := ⟨w.heap.size, 0, none⟩) (by have := hB.out; show w.heap.size < B; omega)).trans q0
        have u1 : wr.cell? ⟨w.heap.size, 1, none⟩ = some (.slice a2 S.length c2) := (hb2.cell (p := ⟨w.heap.size, 1, none⟩) (by have := hB.out; show w.heap.size < B; omega)).trans q1
        have er : Ext w wr := ⟨ewwb.below.trans (hb2.mono (by have := hB.out; omega))⟩
        have er0 : Ext w0 wr := Ext.trans ‹Ext w0 w› er
        by_cases hltr : r < S.length
        · have hrL := hid (rowLst_len (M := M) (S := S) l n r)
          have hrow0 := hid (rowLst_row (M := M) (S := S) (i := n) hlt r)
          have hoffr := hid (rowLst_ok hp.out hoff.out hlt (r := r) (by omega))
          have hnw := hid (norm_ok hp.out (hoff.out _ (row_mem hlt)) hltr)
          have hnx := hid (nextL_ok hp.out (hoff.out _ (row_mem hlt)) (by omega) hltr)
          have hrok := hid (hoff.out _ (row_mem hlt))
          have hsA := hid (rowStp_succ M S l n r)
          have hsB := hid (rowGrw_succ M S l n r)
          have hsL := hid (show rowLst M S l n (r + 1) = if ixAt M S l n r < 0 then rowLst M S l n r ++ [normL (nextL M S (row l n) r)] else rowLst M S l n r from rfl)
          have hix := hid (show ixAt M S l n r = ixL (fun o => decide (o = normL (nextL M S (row l n) r))) (rowLst M S l n r) 0 from rfl)
          have hal := hid (rowStp_length M S l n r)
          have hgl := hid (rowGrw_length M S l n r)
          generalize hlr1 : rowLst M S l n (r + 1) = lr1 at *
          replace hlr1 := hid hlr1
          generalize hra1 : rowStp M S l n (r + 1) = ra1 at *
          replace hra1 := hid hra1
          generalize hrg1 : rowGrw M S l n (r + 1) = rg1 at *
          replace hrg1 := hid hrg1
          generalize hlr : rowLst M S l n r = lr at *
          generalize hra : rowStp M S l n r = ra at *
          replace hra := hid hra
          generalize hrg : rowGrw M S l n r = rg at *
          replace hrg := hid hrg
          generalize ixAt M S l n r = ix at *
          replace hlr := hid hlr
          replace hlv2 := hid hlv2
          have fr := offOk_read hp.out hoffr.out (by have := hrL.out; have := hn.out; omega)
          have hLr := hown2.tail.tail.readsAll hlv2.out fr.1 fr.2.1 fr.2.2
          have hnlr : n < lr.length := by have := hrL.out; omega
          obtain ⟨b7, o7, d7, m7, rfl, hc7, hr7, _⟩ := hLr.at (w' := wr) hnlr
          rw [hrow0.out] at hr7 hc7
          clear fr
          go_upto_region 9 with fail
          have ed : Ext wr wr.drew := inferInstance
          go_cut [15] (fun q wx => ∃ bx nd nm, q = .pointer (some ⟨bx, 0, none⟩) ∧ Ext wr wx ∧ Own wx wr.heap.size [⟨29, 1, .slice (some ⟨bx, 0, none⟩) 1 1, 1, [.slice nd (nextL M S (row l n) r).length nm]⟩, intRowOf 3 (.slice nd (nextL M S (row l n) r).length nm) (nextL M S (row l n) r)])
          case first =>
            refine wp_region_held_drew (S := fun w' => Ext wr w' ∧ w'.cell? ⟨w.heap.size, 0, none⟩ = some (.slice (some ⟨b5, o5, none⟩) M.length c1) ∧ w'.cell? ⟨w.heap.size, 1, none⟩ = some (.slice a2 S.length c2) ∧ w'.cell? ⟨b7, o7 + n, none⟩ = some (.slice d7 (row l n).length m7)) (by kernel_rfl) ⟨ed, ed.cell u0, ed.cell u1, ed.cell hc7⟩ (fun hHeld => ?_)
            refine wpAnyH_take (i := 0) (v := .agg #[.slice (some ⟨b5, o5, none⟩) M.length c1, .slice a2 S.length c2]) rfl (by kernel_rfl) (by kernel_rfl) (by kernel_rfl) (fun _ _ _ h => h) (Or.inl ⟨by rfl, by intro wx hx; obtain ⟨_, _, _, _⟩ := hx; go_simp⟩) (by assumption) ?_
            try simp only [List.getElem_toArray, List.getElem_cons_zero, Act.put, List.setIfInBounds_toArray, List.set_cons_zero, List.set_cons_succ]
            refine wpAnyH_take (i := 1) (v := .slice (some ⟨b7, o7, none⟩) lr.length lm2) rfl (by kernel_rfl) (by kernel_rfl) (by kernel_rfl) (fun _ _ _ h => h) (Or.inl ⟨by rfl, by intro wx hx; go_simp⟩) (by assumption) ?_
            try simp only [List.getElem_toArray, List.getElem_cons_succ, List.getElem_cons_zero, Act.put, List.setIfInBounds_toArray, List.set_cons_zero, List.set_cons_succ]
            refine wpAnyH_take (i := 2) (v := .int .i64 n) rfl (by kernel_rfl) (by kernel_rfl) (by kernel_rfl) (fun _ _ _ h => h) (Or.inl ⟨by rfl, by intro wx hx; go_simp⟩) (by assumption) ?_
            try simp only [List.getElem_toArray, List.getElem_cons_succ, List.getElem_cons_zero, Act.put, List.setIfInBounds_toArray, List.set_cons_zero, List.set_cons_succ]
            refine wpAnyH_take (i := 3) (v := .pointer (some ⟨b7, o7 + n, none⟩)) rfl (by kernel_rfl) (by kernel_rfl) (by kernel_rfl) (fun _ _ _ h => h) (Or.inl ⟨by rfl, by intro wx hx; go_simp⟩) (by assumption) ?_
            try simp only [List.getElem_toArray, List.getElem_cons_succ, List.getElem_cons_zero, Act.put, List.setIfInBounds_toArray, List.set_cons_zero, List.set_cons_succ]
            refine wpAnyH_take (i := 4) (v := .slice d7 (row l n).length m7) rfl (by kernel_rfl) (by kernel_rfl) (by kernel_rfl) (fun _ _ _ h => h) (Or.inl ⟨by rfl, by intro wx hx; obtain ⟨_, _, _, _⟩ := hx; go_simp⟩) (by assumption) ?_
            try simp only [List.getElem_toArray, List.getElem_cons_succ, List.getElem_cons_zero, Act.put, List.setIfInBounds_toArray, List.set_cons_zero, List.set_cons_succ]
            refine wpAnyH_take (i := 5) (v := .int .i64 r) rfl (by kernel_rfl) (by kernel_rfl) (by kernel_rfl) (fun _ _ _ h => h) (Or.inl ⟨by rfl, by intro wx hx; go_simp⟩) (by assumption) ?_
            try simp only [List.getElem_toArray, List.getElem_cons_succ, List.getElem_cons_zero, Act.put, List.setIfInBounds_toArray, List.set_cons_zero, List.set_cons_succ]
            refine wpAnyH_ready (rs := [6, 7]) (by kernel_rfl) (by simp) ?_
            refine AllReadyH.cons rfl (fun K hK => ?_) (AllReadyH.cons rfl (fun K hK => ?_) AllReadyH.nil)
            · go_simp
              go_at_call 72
              refine (nextWork_any (w0 := wr) (hM'.ext (w' := wr)) (hS'.ext (w' := wr)) (hr7.ext (w' := wr)) hp.out hrok.out (by omega) hltr).mono ?_
              rintro e w2 ⟨nd, nm, rfl, own2, hb4⟩
              go_wp2_with fail
              have eb2 : Ext wr w2 := Ext.trans ed hb4
              refine hK.out _ _ ⟨eb2, eb2.cell u0, eb2.cell u1, eb2.cell hc7⟩ (fun hHeld2 => ?_)
              clear hK K hHeld
              try simp only [List.getElem_toArray, List.getElem_cons_succ, List.getElem_cons_zero, Act.put, List.setIfInBounds_toArray, List.set_cons_zero, List.set_cons_succ]
              refine wpAnyH_ready (rs := [7]) (by kernel_rfl) (by simp) ?_
              refine AllReadyH.cons rfl (fun K hK => ?_) AllReadyH.nil
              go_simp
              have eb3 : Ext wr (w2.alloc (.cells #[.slice none 0 0] 29)) := Ext.trans eb2 inferInstance
              refine hK.out _ _ ⟨eb3, eb3.cell u0, eb3.cell u1, eb3.cell hc7⟩ (fun hHeld3 => ?_)
              clear hK K hHeld2
              try simp only [List.getElem_toArray, List.getElem_cons_succ, List.getElem_cons_zero, Act.put, List.setIfInBounds_toArray, List.set_cons_zero, List.set_cons_succ]
              refine wpAnyH_ready (rs := [8]) (by kernel_rfl) (by simp) ?_
              refine AllReadyH.cons rfl (fun K hK => ?_) AllReadyH.nil
              go_simp
              have eb4 : Ext wr (w2.alloc (.cells #[.slice nd (nextL M S (row l n) r).length nm] 29)) := Ext.trans eb2 inferInstance
              refine hK.out _ _ ⟨eb4, eb4.cell u0, eb4.cell u1, eb4.cell hc7⟩ (fun hHeld4 => ?_)
              clear hK K hHeld3
              try simp only [List.getElem_toArray, List.getElem_cons_succ, List.getElem_cons_zero, Act.put, List.setIfInBounds_toArray, List.set_cons_zero, List.set_cons_succ]
              refine wpAnyH_done (by kernel_rfl) ?_ _
              go_wp2_with fail
              go_meet
              refine ⟨_, nd, nm, rfl, eb4, ?_⟩
              exact (own2.mono ed.size).lit 29 1 1 #[.slice nd (nextL M S (row l n) r).length nm] eb2.size (by unfold maxLen; omega) rfl
            · go_simp
              have eb2 : Ext wr (wr.alloc (.cells #[.slice none 0 0] 29)).drew := inferInstance
              refine hK.out _ _ ⟨eb2, eb2.cell u0, eb2.cell u1, eb2.cell hc7⟩ (fun hHeld2 => ?_)
              clear hK K hHeld
              try simp only [List.getElem_toArray, List.getElem_cons_succ, List.getElem_cons_zero, Act.put, List.setIfInBounds_toArray, List.set_cons_zero, List.set_cons_succ]
              refine wpAnyH_ready (rs := [6]) (by kernel_rfl) (by simp) ?_
              refine AllReadyH.cons rfl (fun K hK => ?_) AllReadyH.nil
              go_simp
              go_at_call 72
              refine (nextWork_any (w0 := wr) (hM'.ext (w' := wr)) (hS'.ext (w' := wr)) (hr7.ext (w' := wr)) hp.out hrok.out (by omega) hltr).mono ?_
              rintro e w2 ⟨nd, nm, rfl, own2, hb4⟩
              go_wp2_with fail
              have eb3 : Ext wr w2 := Ext.trans eb2 hb4
              have ownb : Own (wr.alloc (.cells #[.slice none 0 0] 29)).drew wr.heap.size [⟨29, 1, .slice (some ⟨wr.heap.size, 0, none⟩) 1 1, 1, [.slice none 0 0]⟩] := ((Own.nil wr wr.heap.size).lit 29 1 1 #[.slice none 0 0] (Nat.le_refl _) (by unfold maxLen; omega) rfl).ext
              have ownc := Own.add own2 ownb hb4 eb2.size
              have bc := ownc.cellIn (.tail _ (.head _)) (j := 0) (by omega)
              have bf := ownc.frozenIn (.tail _ (.head _)) 0
              refine hK.out _ _ ⟨eb3, eb3.cell u0, eb3.cell u1, eb3.cell hc7⟩ (fun hHeld3 => ?_)
              clear hK K hHeld2
              try simp only [List.getElem_toArray, List.getElem_cons_succ, List.getElem_cons_zero, Act.put, List.setIfInBounds_toArray, List.set_cons_zero, List.set_cons_succ]
              refine wpAnyH_ready (rs := [8]) (by kernel_rfl) (by simp) ?_
              refine AllReadyH.cons rfl (fun K hK => ?_) AllReadyH.nil
              go_simp
              have eb4 : Ext wr (w2.setCell ⟨wr.heap.size, 0, none⟩ (.slice nd (nextL M S (row l n) r).length nm)) := @Ext.set _ _ eb3 ⟨wr.heap.size, 0, none⟩ (Nat.le_refl _) _
              refine hK.out _ _ ⟨eb4, eb4.cell u0, eb4.cell u1, eb4.cell hc7⟩ (fun hHeld4 => ?_)
              clear hK K hHeld3
              try simp only [List.getElem_toArray, List.getElem_cons_succ, List.getElem_cons_zero, Act.put, List.setIfInBounds_toArray, List.set_cons_zero, List.set_cons_succ]
              refine wpAnyH_done (by kernel_rfl) ?_ _
              go_wp2_with fail
              go_meet
              refine ⟨_, nd, nm, rfl, eb4, ?_⟩
              exact (Own.setIn (A := [_]) ownc 0 (.slice nd (nextL M S (row l n) r).length nm)).perm (List.Perm.swap _ _ _)
          case rest =>
            obtain ⟨bx, nd, nm, rfl, ewc, ownc⟩ := hcut
            have hownI := Own.join hown2 ownc hBr
            have hbc : Below B wb wc := hb2.trans (ewc.below.mono hBr)
            have hBc : B ≤ wc.heap.size := Nat.le_trans hBr ewc.size
            have hLc := hLr.ext (w' := wc)
            have v0 := ewc.cell u0
            have v1 := ewc.cell u1
            have bxl := hid ((ownc.1 _ (.head _)).lt bx rfl)
            clear ownc hown2
            generalize hnw0 : nextL M S (row l n) r = nw at *
            replace hnw0 := hid hnw0
            have hnwl := hid (show nw.length = M.length from hnx.out.1)
            have bc : wc.cell? ⟨bx, 0, none⟩ = some (.slice nd nw.length nm) := hownI.cellIn (.head _) (j := 0) (by omega)
            have hWr := hownI.tail.reads (by rw [hnwl.out]; have := hn.out; unfold Short; omega) (wOk_i64 hnx.out (by omega))
            go_wp2_with fail
            refine (sMin_any (w0 := wc) hWr (by rw [hnwl.out]; have := hn.out; omega)).mono ?_
            rintro e w4 ⟨rfl, rfl⟩
            go_wp2_with fail
            obtain ⟨gn, rfl⟩ := hownI.tail.at (cs := nw.map (Value.int .i64)) (j := 0) (by rw [hnwl.out]; have := hn.out; omega)
            have hown0 : Own wc B (⟨29, 1, .slice (some ⟨bx, 0, none⟩) 1 1, 1, [.slice (some ⟨gn, 0, none⟩) nw.length nm]⟩ :: ⟨3, 1, .slice (some ⟨gn, 0, none⟩) nw.length nm, nw.length, (subL nw 0).map (Value.int .i64)⟩ :: intRowOf 3 (.slice ad ra.length am) ra :: intRowOf 3 (.slice gd2 rg.length gm2) rg :: triRows (some ⟨b7, o7, none⟩) xd gd lm2 xm gm lvs2 xvs gvs lr X G) := by
              rw [subL_zero]; exact hownI
            have hnw4 : nw.length ≤ 4 := by rw [hnwl.out]; exact hn.out.2.1
            have hlwb := hid (show 0 ≤ leastL nw ∧ leastL nw ≤ 218 from hnw.out.2)
            clear hownI hWr hLc
            go_loopw [53] (fun i wi => ∃ k : Nat, k ≤ nw.length ∧ i = .int .i64 k ∧ Below B wb wi ∧ Own wi B (⟨29, 1, .slice (some ⟨bx, 0, none⟩) 1 1, 1, [.slice (some ⟨gn, 0, none⟩) nw.length nm]⟩ :: ⟨3, 1, .slice (some ⟨gn, 0, none⟩) nw.length nm, nw.length, (subL nw k).map (Value.int .i64)⟩ :: intRowOf 3 (.slice ad ra.length am) ra :: intRowOf 3 (.slice gd2 rg.length gm2) rg :: triRows (some ⟨b7, o7, none⟩) xd gd lm2 xm gm lvs2 xvs gvs lr X G)) (fun i _ => nw.length - (intOf i).toNat)
            case atStart => exact ⟨0, by omega, rfl, hbc, hown0⟩
            case round =>
              obtain ⟨k, hk, rfl, hbk, hownk⟩ := hrel
              have bck : wr.cell? ⟨bx, 0, none⟩ = some (.slice (some ⟨gn, 0, none⟩) nw.length nm) := hownk.cellIn (.head _) (j := 0) (by omega)
              by_cases hltk : k < nw.length
              · have hc := hownk.tail.cellAt (w' := wr) hltk
                have hfz := hownk.tail.frozenAt k
                have hcv : ((subL nw k).map (Value.int .i64)).getD k undef = .int .i64 (nth nw k) := by
                  have e := nth_subL (w := nw) (k := k) hltk
                  rw [if_neg (by omega)] at e
                  rw [← e]
                  simp [nth, subL_length, hltk]
                rw [hcv] at hc
                clear hcv
                have hset := hid (subL_set hltk)
                have hq1 := hnx.out.2 k (by rw [← hnwl.out]; exact hltk)
                have hq2 := hlwb.out
                have hgB := hownk.tail.lt.1
                generalize leastL nw = lw at *
                generalize nth nw k = nk at *
                go_wp2
                go_roundw
                case rel =>
                  refine ⟨k + 1, by omega, by go_num, hbk.setCell hgB _, ?_⟩
                  have h := Own.setIn (A := [_]) hownk k (.int .i64 (nk - lw))
                  rw [hset.out] at h
                  exact h
                case measure => simp [intOf]; omega
              · have hkl : k = nw.length := by omega
                subst hkl
                rw [subL_full] at hownk
                have hnll := hid (normL_length nw)
                have hnl64 := hid (wOk_i64 hnw.out.1 (by omega))
                generalize hnl : normL nw = nl at *
                replace hnl := hid hnl
                generalize hlw : leastL nw = lw at *
                replace hlw := hid hlw
                have hownN : Own wr B (intRowOf 3 (.slice (some ⟨gn, 0, none⟩) nw.length nm) nl :: intRowOf 3 (.slice ad ra.length am) ra :: intRowOf 3 (.slice gd2 rg.length gm2) rg :: triRows (some ⟨b7, o7, none⟩) xd gd lm2 xm gm lvs2 xvs gvs lr X G) := by
                  have h := hownk.tail
                  unfold intRowOf
                  unfold intRowOf at h
                  rw [hnll.out]
                  exact h
                have hWr3 : IsInts wr (.slice (some ⟨gn, 0, none⟩) nl.length nm) nl := by
                  rw [hnll.out]
                  exact hownN.reads (by rw [hnll.out]; unfold Short; omega) hnl64.out
                have bck2 : wr.cell? ⟨bx, 0, none⟩ = some (.slice (some ⟨gn, 0, none⟩) nl.length nm) := by rw [hnll.out]; exact bck
                have fr := offOk_read hp.out hoffr.out (by have := hrL.out; have := hn.out; omega)
                have hLr2 := hownN.tail.tail.tail.readsAll hlv2.out fr.1 fr.2.1 fr.2.2
                clear fr hownk
                have hBk : B ≤ wr.heap.size := by have := hbk.size; omega
                go_wp2_with fail
                refine (indexFuncRowsAt_any (w0 := wr) hLr2 _ _ (fun o => decide (o = nl)) offsets1_call (offsets1_all (w0 := wr) (w := wr) (xs := lr) hWr3 bck2)).mono ?_
                rw [← hix.out]
                rintro e w5 ⟨rfl, hb5⟩
                have bc5 := hb5.cell bck
                have OW5 := hownN.ext (w' := w5)
                have hb55 : Below B wb w5 := hbk.trans (hb5.below.mono hBk)
                have hB5 : B ≤ w5.heap.size := Nat.le_trans hBk hb5.size
                have hlv404 : lvs2.length ≤ 404 := by have := hlv2.out; have := hrL.out; have := hn.out; omega
                have hqa : ra.length ≤ 17592186044415 := by have := hal.out; omega
                have hqb : (ra.length + 1) * 8 ≤ 140737488355328 := by have := hal.out; have := hn.out; omega
                have hqc : rg.length ≤ 17592186044415 := by have := hgl.out; omega
                have hqd : (rg.length + 1) * 8 ≤ 140737488355328 := by have := hgl.out; have := hn.out; omega
                clear hWr3 bck2 bck hownN hLr2
                by_cases hneg : ix < 0
                · have hneg' : decide (ix < 0) = true := by simpa using hneg
                  have hL1 := hid (hsL.out.trans (if_pos hneg))
                  have hat := hid (show (if ix < 0 then (lr.length : Int) else ix) = (lr.length : Int) from if_pos hneg)
                  replace hneg := hid hneg
                  have hout := rows_out (A := [_, _]) OW5
                  have hl1 : lvs2.length + 1 = lr1.length := by rw [hL1.out, List.length_append, hlv2.out]; rfl
                  have hq1 : lvs2.length ≤ 17592186044415 := by omega
                  have hq2 : (lvs2.length + 1) * 24 ≤ 140737488355328 := by omega
                  replace hl1 := hid hl1
                  go_upto_region 20 with (at_builtin; refine wpList_append1 rfl _ _ _ rfl elemInts rfl hout hB5 rfl rfl hq1 hq2 ?_; intro v1 wS ho hb7; obtain ⟨vd, vm, hv1⟩ := ho.form; (obtain rfl : v1 = .slice vd lr1.length vm := (by rw [← hl1.out]; exact hv1)); clear hv1)
                  have hin := rows_in (A := [_, _]) ho hlv2.out
                  have OWS : Own wS B (intRowOf 3 (.slice ad ra.length am) ra :: intRowOf 3 (.slice gd2 rg.length gm2) rg :: triRows vd xd gd vm xm gm (lvs2 ++ [.slice (some ⟨gn, 0, none⟩) nw.length nm]) xvs gvs lr1 X G) := by
                    unfold triRows
                    rw [hL1.out] at hin ⊢
                    exact hin
                  have hlvS := hid (show (lvs2 ++ [Value.slice (some ⟨gn, 0, none⟩) nw.length nm]).length = lr1.length by rw [List.length_append]; exact hl1.out)
                  have hbS : Below B wb wS := hb55.trans hb7
                  have hBS : B ≤ wS.heap.size := Nat.le_trans hB5 hb7.size
                  clear hin ho hout OW5
                  go_wp2_with (first | (at_builtin; refine wpList_append1 rfl _ _ _ rfl elemInt rfl OWS hBS rfl rfl hqa hqb ?_; intro v2 w6 ho1 hb8; have OW6 := (own_snoc ho1 rfl).perm (List.Perm.swap _ _ _); have hB6 : B ≤ w6.heap.size := Nat.le_trans hBS hb8.size; clear ho1) | (at_builtin; refine wpList_append1 rfl _ _ _ rfl elemInt rfl OW6 hB6 rfl rfl hqc hqd ?_; intro v3 w7 ho2 hb9))
                  have OW7 := (own_snoc ho2 rfl).perm (List.Perm.swap _ _ _)
                  go_roundw
                  case rel =>
                    refine ⟨r + 1, by omega, by go_num, ?_⟩
                    unfold TriRow
                    rw [hlr1.out, hra1.out, hrg1.out, hsA.out, hsB.out, hat.out]
                    exact ⟨(hbS.trans hb8).trans hb9, _, _, _, rfl, hlvS.out, OW7⟩
                  case measure => simp [intOf]; omega
                · have hneg' : decide (ix < 0) = false := by simpa using hneg
                  have hL1 := hid (hsL.out.trans (if_neg hneg))
                  have hat := hid (show (if ix < 0 then (lr.length : Int) else ix) = ix from if_neg hneg)
                  replace hneg := hid hneg
                  have OWS : Own w5 B (intRowOf 3 (.slice ad ra.length am) ra :: intRowOf 3 (.slice gd2 rg.length gm2) rg :: triRows (some ⟨b7, o7, none⟩) xd gd lm2 xm gm lvs2 xvs gvs lr1 X G) := by
                    rw [hL1.out]
                    exact OW5.tail
                  have hlvS := hid (show lvs2.length = lr1.length by rw [hL1.out]; exact hlv2.out)
                  have hbS := hb55
                  have hBS := hB5
                  have hll : lr.length = lr1.length := by rw [hL1.out]
                  clear OW5
                  rw [hll]
                  replace hll := hid hll
                  go_wp2_with (first | (at_builtin; refine wpList_append1 rfl _ _ _ rfl elemInt rfl OWS hBS rfl rfl hqa hqb ?_; intro v2 w6 ho1 hb8; have OW6 := (own_snoc ho1 rfl).perm (List.Perm.swap _ _ _); have hB6 : B ≤ w6.heap.size := Nat.le_trans hBS hb8.size; clear ho1) | (at_builtin; refine wpList_append1 rfl _ _ _ rfl elemInt rfl OW6 hB6 rfl rfl hqc hqd ?_; intro v3 w7 ho2 hb9))
                  have OW7 := (own_snoc ho2 rfl).perm (List.Perm.swap _ _ _)
                  go_roundw
                  case rel =>
                    refine ⟨r + 1, by omega, by go_num, ?_⟩
                    unfold TriRow
                    rw [hlr1.out, hra1.out, hrg1.out, hsA.out, hsB.out, hat.out]
                    exact ⟨(hbS.trans hb8).trans hb9, _, _, _, rfl, hlvS.out, OW7⟩
                  case measure => simp [intOf]; omega
        · have hrS : r = S.length := by omega
          subst hrS
          have hsA := hid (rowStp_in (M := M) (S := S) (l := l) (n := n) (r := S.length) hl400 (by have := hn.out; omega))
          have hsB := hid (rowGrw_in hp.out hoff.out hlt (Nat.le_refl _))
          have hoffn := hid (rowLst_ok hp.out hoff.out hlt (Nat.le_refl _))
          have hal := hid (rowStp_length M S l n S.length)
          have hgl := hid (rowGrw_length M S l n S.length)
          rw [← hnext.out] at hlv2 hown2 hoffn ⊢
          clear hnext
          generalize rowStp M S l n S.length = ra at *
          generalize rowGrw M S l n S.length = rg at *
          have hl404 : lnext.length ≤ 1000000 := by
            by_cases h : lnext.length ≤ 1000000
            · exact h
            · exfalso
              have h2 := (rowLst_len (M := M) (S := S) l n S.length).2
              have h3 : offLst M S s (n + 1) = rowLst M S (offLst M S s n) n S.length := rfl
              rw [hln.out, hl0.out] at h3
              rw [← h3] at h2
              have := hn.out
              omega
          by_cases hbig : 400 < lnext.length
          · have hend := hid (show offEnd M S s = none by
              rw [← hgo.out, show 500 - n = (499 - n) + 1 by omega]
              exact hbigG.out hbig)
            have hbig' : decide ((400 : Int) < (lnext.length : Int)) = true := by simp; omega
            go_wp2_with fail
            refine bodyPost_ret (v := .tuple #[.slice none 0 0, .slice none 0 0, .slice none 0 0, .bool false]) (by simp [results, Try.results60, go_sem]) rfl ⟨.inl ⟨hend.out, rfl⟩, er⟩
          · have hbig' : decide ((400 : Int) < (lnext.length : Int)) = false := by simp; omega
            have hgo2 := hid (show offGo M S s (500 - (n + 1)) (n + 1) = offEnd M S s by
              rw [← hgo.out, show 500 - n = (499 - n) + 1 by omega, hmoreG.out hbig, show 500 - (n + 1) = 499 - n by omega])
            have hx1 := hid (show xvs.length + 1 = (X ++ [ra]).length by rw [List.length_append, hXl.out, hxv.out]; rfl)
            have hg1 := hid (show gvs.length + 1 = (G ++ [rg]).length by rw [List.length_append, hGl.out, hgv.out]; rfl)
            have hqa : xvs.length ≤ 17592186044415 := by have := hxv.out; omega
            have hqb : (xvs.length + 1) * 24 ≤ 140737488355328 := by have := hxv.out; omega
            have hqc : gvs.length ≤ 17592186044415 := by have := hgv.out; omega
            have hqd : (gvs.length + 1) * 24 ≤ 140737488355328 := by have := hgv.out; omega
            have hxX := hid (show xvs.length = X.length by rw [hxv.out, hXl.out])
            have hgG := hid (show gvs.length = G.length by rw [hgv.out, hGl.out])
            have hout := rows_out (A := _ :: rowsOf 29 3 (.slice ld2 lnext.length lm2) lvs2 lnext) hown2
            go_wp2_with (first | (at_builtin; refine wpList_append1 rfl _ _ _ rfl elemInts rfl hout hBr rfl rfl hqa hqb ?_; intro v1 w5 ho hb7; have hout2 := tri_mid ho hxX.out; have hB5 : B ≤ w5.heap.size := Nat.le_trans hBr hb7.size; obtain ⟨xd2, xm2, hv1⟩ := ho.form; (obtain rfl : v1 = .slice xd2 (xvs.length + 1) xm2 := hv1); clear ho) | (at_builtin; refine wpList_append1 rfl _ _ _ rfl elemInts rfl hout2 hB5 rfl rfl hqc hqd ?_; intro v2 w6 ho2 hb8; obtain ⟨gd3, gm3, hv2⟩ := ho2.form; (obtain rfl : v2 = .slice gd3 (gvs.length + 1) gm3 := hv2)))
            have hfin := tri_end ho2 hgG.out
            go_roundw
            case rel =>
              refine ⟨n + 1, by go_num, ?_⟩
              unfold TriInv
              rw [hln.out, hsX.out, hsG.out]
              refine ⟨by omega, by omega, hoffn.out, hgo2.out, ?_, ?_, (hb2.trans hb7).trans hb8, ld2, xd2, gd3, lm2, xm2, gm3, lvs2, xvs ++ [.slice ad ra.length am], gvs ++ [.slice gd2 rg.length gm2], rfl, by rw [hx1.out], by rw [hg1.out], hlv2, by rw [List.length_append, hxv.out]; rfl, by rw [List.length_append, hgv.out]; rfl, ?_⟩
              · intro x hx
                rcases List.mem_append.1 hx with hx | hx
                · exact hXI.out x hx
                · rw [List.mem_singleton.1 hx]
                  exact ⟨by rw [hal.out]; have := hn.out; omega, hsA.out⟩
              · intro x hx
                rcases List.mem_append.1 hx with hx | hx
                · exact hGI.out x hx
                · rw [List.mem_singleton.1 hx]
                  exact ⟨by rw [hgl.out]; have := hn.out; omega, hsB.out⟩
              · unfold triRows
                rw [← hx1.out, ← hg1.out]
                exact hfin
            case measure => simp [intOf]; omega
    · have hend := hid (show offEnd M S s = some n by
        rw [← hgo.out, show 500 - n = (499 - n) + 1 by omega]
        exact offGo_done hlt)
      go_wp2_with fail
      refine bodyPost_ret (v := .tuple #[.slice ld (offLst M S s n).length lm, .slice xd (offStp M S s n).length xm, .slice gd (offGrw M S s n).length gm, .bool true]) (by simp [results, Try.results60, go_sem]) rfl ?_
      refine ⟨.inr ⟨n, hend.out, ld, lm, xd, xm, gd, gm, lvs, xvs, gvs, rfl, hlv.out, by rw [hxv.out, offStp_length], by rw [hgv.out, offGrw_length], hown.mono (by have := hB.out; omega), hn400, hl400, hoff.out, hXI.out, hGI.out⟩, eo⟩

end Go.Proofs.Ytkdbgobhgnjoaab
