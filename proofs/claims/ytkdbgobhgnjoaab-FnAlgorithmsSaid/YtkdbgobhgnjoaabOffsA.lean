/- All offsets, as the reference finds them. -/
import Derived.Test.YtkdbgobhgnjoaabOffsW
import Derived.Test.YtkdbgobhgnjoaabMade
import Derived.Deep.RegionHeld3
namespace Go.Proofs.Ytkdbgobhgnjoaab
open Go.RowKit

theorem Own.pull {w : World} {B : Nat} {A L : List Row} {r : Row} (h : Own w B (A ++ (r :: L))) : Own w B (r :: (A ++ L)) := h.perm List.perm_middle.symm
theorem Own.push {w : World} {B : Nat} {A L : List Row} {r : Row} (h : Own w B (r :: (A ++ L))) : Own w B (A ++ (r :: L)) := h.perm List.perm_middle
theorem Own.cellIn {w : World} {B e z g n c : Nat} {cs : List Value} {R : List Row} (h : Own w B R) (hr : (⟨e, z, .slice (some ⟨g, 0, none⟩) n c, n, cs⟩ : Row) ∈ R) {j : Nat} (hj : j < n * z) : w.cell? ⟨g, j, none⟩ = some (cs.getD j undef) := by
  have ho := h.1 _ hr
  have h1 := ho.cellAt j hj
  have h2 : cs.length = n * z := ho.1
  rw [h1]
  have h3 : j < cs.length := by omega
  simp [h3]
theorem Own.frozenIn {w : World} {B e z g n c : Nat} {cs : List Value} {R : List Row} (h : Own w B R) (hr : (⟨e, z, .slice (some ⟨g, 0, none⟩) n c, n, cs⟩ : Row) ∈ R) (j : Nat) : w.frozen? ⟨g, j, none⟩ = false := (h.1 _ hr).frozenAt j
theorem Own.setIn {w : World} {B e z g n c : Nat} {cs : List Value} {A L : List Row} (h : Own w B (A ++ (⟨e, z, .slice (some ⟨g, 0, none⟩) n c, n, cs⟩ :: L))) (j : Nat) (u : Value) :
    Own (w.setCell ⟨g, j, none⟩ u) B (A ++ (⟨e, z, .slice (some ⟨g, 0, none⟩) n c, n, cs.set j u⟩ :: L)) := by
  have h' := h.pull
  exact Own.push (h'.turn (h'.head.stored j u).1 (h'.head.stored j u).2 (.inl rfl))
/-- rows: their list comes to the front -/
theorem rows_out {w : World} {B e1 e2 : Nat} {v : Value} {vs : List Value} {M : List (List Int)} {W : Row} {A R : List Row} (h : Own w B (W :: (A ++ (rowsOf e1 e2 v vs M ++ R)))) :
    Own w B (⟨e1, 1, v, vs.length, vs⟩ :: (W :: (A ++ (List.zipWith (intRowOf e2) vs M ++ R)))) :=
  Own.pull (A := W :: A) (L := List.zipWith (intRowOf e2) vs M ++ R) h
/-- and goes back with a new row -/
theorem rows_in {w : World} {B e1 e2 : Nat} {v rv : Value} {vs : List Value} {M : List (List Int)} {xs : List Int} {A R : List Row} (h : Own w B (⟨e1, 1, v, vs.length + 1, vs ++ [rv]⟩ :: (intRowOf e2 rv xs :: (A ++ (List.zipWith (intRowOf e2) vs M ++ R))))) (hl : vs.length = M.length) :
    Own w B (A ++ (rowsOf e1 e2 v (vs ++ [rv]) (M ++ [xs]) ++ R)) := by
  have e : rowsOf e1 e2 v (vs ++ [rv]) (M ++ [xs]) ++ R = (⟨e1, 1, v, vs.length + 1, vs ++ [rv]⟩ : Row) :: (List.zipWith (intRowOf e2) vs M ++ (intRowOf e2 rv xs :: R)) := by
    unfold rowsOf valRowOf
    rw [List.zipWith_append hl, List.length_append]
    simp
  rw [e]
  refine Own.push (h.perm ?_)
  refine List.Perm.cons _ ?_
  have p := List.perm_middle (a := intRowOf e2 rv xs) (l₁ := A ++ List.zipWith (intRowOf e2) vs M) (l₂ := R)
  simpa only [List.append_assoc] using p

theorem normL_row {M S : List (List Int)} (hp : probB M S = true) {s : Nat} (hs : s < M.length) : normL (row M s) = row M s := by
  have h0 : leastL (row M s) = 0 := optL_nil hp hs
  refine eq_of_nth (normL_length _) fun j hj => ?_
  rw [normL_length] at hj
  rw [nth_normL hj, h0]
  omega
theorem offOk_read {M S : List (List Int)} (hp : probB M S = true) {l : List (List Int)} (h : offOk M l) (hl : l.length ≤ 1000) : ShortRows l.length ∧ (∀ r ∈ l, Short r.length) ∧ ∀ r ∈ l, ∀ x ∈ r, I64 x := by
  have hn := probB_len hp
  refine ⟨by unfold ShortRows; omega, fun r hr => ?_, fun r hr => wOk_i64 (h r hr) (by omega)⟩
  have := (h r hr).1
  unfold Short
  omega

theorem rowStp_in {M S l : List (List Int)} {n r : Nat} (hl : l.length ≤ 400) (hr : r ≤ 4) : ∀ y ∈ rowStp M S l n r, 0 ≤ y ∧ y ≤ 1000 := by
  intro y hy
  obtain ⟨q, hq, rfl⟩ := List.mem_map.1 hy
  have hq' := List.mem_range.1 hq
  have h1 := (rowLst_len (M := M) (S := S) l n q).2
  rcases ixL_in (p := fun o => decide (o = normL (nextL M S (row l n) q))) (rowLst M S l n q) 0 with h | h
  · have : ixAt M S l n q = -1 := h
    rw [if_pos (by omega)]
    omega
  · have h2 : (0 : Int) ≤ ixAt M S l n q ∧ ixAt M S l n q < 0 + ((rowLst M S l n q).length : Int) := h
    rw [if_neg (by omega)]
    omega
theorem rowGrw_in {M S l : List (List Int)} (hp : probB M S = true) {n r : Nat} (hl : offOk M l) (hn : n < l.length) (hr : r ≤ S.length) : ∀ y ∈ rowGrw M S l n r, 0 ≤ y ∧ y ≤ 1000 := by
  intro y hy
  obtain ⟨q, hq, rfl⟩ := List.mem_map.1 hy
  have hq' := List.mem_range.1 hq
  have := norm_ok hp (hl _ (row_mem hn)) (r := q) (by omega)
  omega
theorem small_read {l : List (List Int)} (hl : l.length ≤ 1000) (h : ∀ x ∈ l, x.length ≤ 4 ∧ ∀ y ∈ x, 0 ≤ y ∧ y ≤ 1000) : ShortRows l.length ∧ (∀ r ∈ l, Short r.length) ∧ ∀ r ∈ l, ∀ x ∈ r, I64 x := by
  refine ⟨by unfold ShortRows; omega, fun r hr => ?_, fun r hr x hx => ?_⟩
  · have := (h r hr).1; unfold Short; omega
  · have := (h r hr).2 x hx; unfold I64; omega

/-- what the reference's answer reads as -/
def allPost (M S : List (List Int)) (s : Nat) (e : Ending) (w' : World) : Prop :=
  (offEnd M S s = none ∧ ∃ d1 n1 m1 d2 n2 m2 d3 n3 m3, e = .returned (.agg #[.slice d1 n1 m1, .slice d2 n2 m2, .slice d3 n3 m3, .bool true])) ∨
  ∃ n, offEnd M S s = some n ∧ ∃ ld lm xd xm gd gm, e = .returned (.agg #[.slice ld (offLst M S s n).length lm, .slice xd (offStp M S s n).length xm, .slice gd (offGrw M S s n).length gm, .bool false]) ∧
    IsRows w' (.slice ld (offLst M S s n).length lm) (offLst M S s n) ∧ IsRows w' (.slice xd (offStp M S s n).length xm) (offStp M S s n) ∧ IsRows w' (.slice gd (offGrw M S s n).length gm) (offGrw M S s n)

/-- the rows of the reference's table: its box, and its three lists -/
def tabRows (bt : Nat) (ld xd gd : Option Addr) (lm xm gm : Nat) (lvs xvs gvs : List Value) (l X G : List (List Int)) : List Row :=
  ⟨82, 4, .slice (some ⟨bt, 0, none⟩) 1 1, 1, [.slice ld l.length lm, .slice xd X.length xm, .slice gd G.length gm, .bool false]⟩ ::
    (rowsOf 29 3 (.slice ld l.length lm) lvs l ++ (rowsOf 29 3 (.slice xd X.length xm) xvs X ++ (rowsOf 29 3 (.slice gd G.length gm) gvs G ++ [])))
def AllInv (M S : List (List Int)) (s B bt : Nat) (wb : World) (n : Nat) (wi : World) : Prop :=
  n ≤ 400 ∧ (offLst M S s n).length ≤ 400 ∧ offOk M (offLst M S s n) ∧ offGo M S s (500 - n) n = offEnd M S s ∧ (∀ x ∈ offStp M S s n, x.length ≤ 4 ∧ ∀ y ∈ x, 0 ≤ y ∧ y ≤ 1000) ∧ (∀ x ∈ offGrw M S s n, x.length ≤ 4 ∧ ∀ y ∈ x, 0 ≤ y ∧ y ≤ 1000) ∧ Below B wb wi ∧
  ∃ ld xd gd lm xm gm lvs xvs gvs, lvs.length = (offLst M S s n).length ∧ xvs.length = n ∧ gvs.length = n ∧ Own wi B (tabRows bt ld xd gd lm xm gm lvs xvs gvs (offLst M S s n) (offStp M S s n) (offGrw M S s n))
def RowInv (M S : List (List Int)) (l X G : List (List Int)) (n B bt : Nat) (wb : World) (xd gd : Option Addr) (xm gm : Nat) (xvs gvs : List Value) (r : Nat) (av gv : Value) (wi : World) : Prop :=
  Below B wb wi ∧ ∃ ld lm lvs, lvs.length = (rowLst M S l n r).length ∧ Own wi B (intRowOf 3 av (rowStp M S l n r) :: intRowOf 3 gv (rowGrw M S l n r) :: tabRows bt ld xd gd lm xm gm lvs xvs gvs (rowLst M S l n r) X G)

set_option maxHeartbeats 3200000 in
set_option maxRecDepth 100000 in
theorem l8All_any {v1 v2 : Value} {M S : List (List Int)} {s : Nat} {w0 w : World} [Ext w0 w] (hM : IsRows w0 v1 M) (hS : IsRows w0 v2 S) (hp : probB M S = true) (hs : s < M.length) :
    Calls Try.prog 61 #[.agg #[v1, v2], .int .i64 s] w fun e w' => allPost M S s e w' ∧ Ext w w' := by
  have hM' := hM
  have hS' := hS
  obtain ⟨a1, c1, rfl, l1⟩ := hM.form
  obtain ⟨a2, c2, rfl, l2⟩ := hS.form
  have hn := hid (probB_len hp)
  have hrowok := hid (row_ok hp hs)
  have hnr := hid (normL_row hp hs)
  replace hp := hid hp
  obtain ⟨b5, o5, d5, m5, rfl, hc5, hr5, hl5⟩ := hM.at (w' := (w.alloc (.cells #[.slice a1 M.length c1, .slice a2 S.length c2] 26)).alloc (.cells #[.slice none 0 0, .slice none 0 0, .slice none 0 0, .bool false] 82)) hs
  go_enter Try.func61, Try.ntmps61
  go_wp2_with fail
  refine (l8Offset_any (w0 := w0) hr5 (by rw [hrowok.out.1]; have := hn.out; omega) (fun k hk => by have h1 := hrowok.out.2 k (by rw [← hrowok.out.1]; exact hk); omega)).mono ?_
  rw [hnr.out]
  rintro e w1 ⟨fd, fm, rfl, own1, hb1⟩
  have hf : offLst M S s 0 = [row M s] := rfl
  have ew1 : Ext w w1 := Ext.trans inferInstance hb1
  have k0 : w1.cell? ⟨w.heap.size, 0, none⟩ = some (.slice (some ⟨b5, o5, none⟩) M.length c1) := hb1.cell (by go_simp)
  have k1 : w1.cell? ⟨w.heap.size, 1, none⟩ = some (.slice a2 S.length c2) := hb1.cell (by go_simp)
  have kr := hb1.size
  have kc0 : w1.cell? ⟨w.heap.size + 1, 0, none⟩ = some (.slice none 0 0) := hb1.cell (by go_simp)
  have kc1 : w1.cell? ⟨w.heap.size + 1, 1, none⟩ = some (.slice none 0 0) := hb1.cell (by go_simp)
  have kc2 : w1.cell? ⟨w.heap.size + 1, 2, none⟩ = some (.slice none 0 0) := hb1.cell (by go_simp)
  have kc3 : w1.cell? ⟨w.heap.size + 1, 3, none⟩ = some (.bool false) := hb1.cell (by go_simp)
  have kf0 : ∀ j, w1.frozen? ⟨w.heap.size + 1, j, none⟩ = false := fun j => (World.frozen?_of_block (a := ⟨w.heap.size + 1, j, none⟩) (hb1.below.block (w.heap.size + 1) (by simp))).trans (by go_simp)
  clear hb1
  obtain ⟨bt, hbt⟩ : ∃ bt, bt = w1.heap.size + 1 := ⟨_, rfl⟩
  obtain ⟨wb, hwb⟩ : ∃ x, x = (w1.alloc (.cells #[.slice fd (row M s).length fm] 29)).alloc (.cells #[.slice (some ⟨w1.heap.size, 0, none⟩) 1 1, .slice none 0 0, .slice none 0 0, .bool false] 82) := ⟨_, rfl⟩
  have own0 : Own wb (w.heap.size + 2)
      (⟨82, 4, .slice (some ⟨bt, 0, none⟩) 1 1, 1, [.slice (some ⟨w1.heap.size, 0, none⟩) (offLst M S s 0).length 1, .slice none (offStp M S s 0).length 0, .slice none (offGrw M S s 0).length 0, .bool false]⟩ ::
        (rowsOf 29 3 (.slice (some ⟨w1.heap.size, 0, none⟩) (offLst M S s 0).length 1) [.slice fd (row M s).length fm] (offLst M S s 0) ++ (rowsOf 29 3 (.slice none (offStp M S s 0).length 0) [] (offStp M S s 0) ++ (rowsOf 29 3 (.slice none (offGrw M S s 0).length 0) [] (offGrw M S s 0) ++ [])))) := by
    have q0 : w.heap.size + 2 ≤ w1.heap.size := by simp at kr; omega
    have q1 := (own1.mono (B' := w.heap.size + 2) (by simp)).lit 29 1 1 #[.slice fd (row M s).length fm] q0 (by unfold maxLen; omega) rfl
    have q2 := q1.lit 82 4 1 #[.slice (some ⟨w1.heap.size, 0, none⟩) 1 1, .slice none 0 0, .slice none 0 0, .bool false] (by simp; omega) (by unfold maxLen; omega) rfl
    have q3 := (q2.cons_nil 29 1).cons_nil 29 1
    rw [hwb, hbt]
    rw [show (w1.alloc (.cells #[.slice fd (row M s).length fm] 29)).heap.size = w1.heap.size + 1 by simp] at q3
    exact q3.perm (List.perm_append_comm (l₁ := [_, _, _]) (l₂ := [_, _]))
  have ewb : Ext w1 wb := by rw [hwb]; infer_instance
  go_upto_region 4 with fail
  rw [← hwb, ← hbt]
  clear own1 hwb
  replace hbt := hid hbt
  obtain ⟨B, hB⟩ : ∃ B, B = w.heap.size + 2 := ⟨_, rfl⟩
  rw [← hB] at own0
  have hBb : B ≤ wb.heap.size := by have := ewb.size; simp at kr; omega
  have hoff0 : offOk M (offLst M S s 0) := by
    intro x hx
    rw [hf, List.mem_singleton] at hx
    rw [hx]; exact hrowok.out
  have hInv0 : AllInv M S s B bt wb 0 wb := ⟨by omega, by rw [hf]; simp, hoff0, rfl, by intro x hx; simp [offStp] at hx, by intro x hx; simp [offGrw] at hx, Below.refl _ _, _, _, _, _, _, _, _, _, _, rfl, rfl, rfl, own0⟩
  have q0 := ewb.cell k0
  have q1 := ewb.cell k1
  have kcs := hid (show wb.cell? ⟨w.heap.size + 1, 0, none⟩ = some (.slice none 0 0) ∧ wb.cell? ⟨w.heap.size + 1, 1, none⟩ = some (.slice none 0 0) ∧ wb.cell? ⟨w.heap.size + 1, 2, none⟩ = some (.slice none 0 0) ∧ wb.cell? ⟨w.heap.size + 1, 3, none⟩ = some (.bool false) ∧ ∀ j, wb.frozen? ⟨w.heap.size + 1, j, none⟩ = false from
    ⟨ewb.cell kc0, ewb.cell kc1, ewb.cell kc2, ewb.cell kc3, fun j => (World.frozen?_of_block (a := ⟨w.heap.size + 1, j, none⟩) (ewb.below.block (w.heap.size + 1) (World.block_lt_of_cell? w1 _ kc0))).trans (kf0 j)⟩)
  have ewwb : Ext w wb := Ext.trans ew1 ewb
  clear own0 k0 k1 kr kc0 kc1 kc2 kc3 kf0 hoff0 hf
  replace hB := hid hB
  replace hInv0 := hid hInv0
  go_loopw [8] (fun i wi => ∃ n : Nat, i = .int .i64 n ∧ AllInv M S s B bt wb n wi) (fun i _ => 401 - (intOf i).toNat)
  case atStart => exact ⟨0, rfl, hInv0.out⟩
  case round =>
    obtain ⟨n, rfl, hn400, hl400, hoff, hgo, hXI, hGI, hb0, ld, xd, gd, lm, xm, gm, lvs, xvs, gvs, hlv, hxv, hgv, hown⟩ := hrel
    obtain ⟨wo, rfl⟩ : ∃ x : World, x = wr := ⟨_, rfl⟩
    have hBB : w.heap.size + 2 ≤ wo.heap.size ∧ B ≤ wo.heap.size := by have := hb0.size; have := hB.out; omega
    have y0 : wo.cell? ⟨w.heap.size, 0, none⟩ = some (.slice (some ⟨b5, o5, none⟩) M.length c1) := (hb0.cell (p := ⟨w.heap.size, 0, none⟩) (by have := hB.out; show w.heap.size < B; omega)).trans q0
    have y1 : wo.cell? ⟨w.heap.size, 1, none⟩ = some (.slice a2 S.length c2) := (hb0.cell (p := ⟨w.heap.size, 1, none⟩) (by have := hB.out; show w.heap.size < B; omega)).trans q1
    have t0 : wo.cell? ⟨bt, 0, none⟩ = some (.slice ld (offLst M S s n).length lm) := hown.cellIn (List.Mem.head _) (j := 0) (by omega)
    have eo : Ext w wo := ⟨ewwb.below.trans (hb0.mono (by have := hB.out; omega))⟩
    replace hlv := hid hlv
    replace hxv := hid hxv
    replace hgv := hid hgv
    replace hoff := hid hoff
    replace hgo := hid hgo
    replace hXI := hid hXI
    replace hGI := hid hGI
    by_cases hlt : n < (offLst M S s n).length
    · have hXl := hid (offStp_length M S s n)
      have hGl := hid (offGrw_length M S s n)
      have hnext := hid (show offLst M S s (n + 1) = rowLst M S (offLst M S s n) n S.length from rfl)
      have hsX := hid (offStp_succ M S s n)
      have hsG := hid (offGrw_succ M S s n)
      have hmoreG := hid (fun h4 : ¬ 400 < (offLst M S s (n + 1)).length => offGo_more (M := M) (S := S) (s := s) (f := 499 - n) hlt h4)
      have hbigG := hid (fun h4 : 400 < (offLst M S s (n + 1)).length => offGo_big (M := M) (S := S) (s := s) (f := 499 - n) hlt h4)
      generalize hln : offLst M S s (n + 1) = lnext at *
      replace hln := hid hln
      generalize hl0 : offLst M S s n = l at *
      generalize offStp M S s n = X at *
      generalize offGrw M S s n = G at *
      replace hl0 := hid hl0
      have hR0 : RowInv M S l X G n B bt wb xd gd xm gm xvs gvs 0 (.slice (some ⟨wo.heap.size, 0, none⟩) ([] : List Int).length 0) (.slice (some ⟨wo.heap.size + 1, 0, none⟩) ([] : List Int).length 0) ((wo.alloc (.cells #[] 3)).alloc (.cells #[] 3)) := by
        refine ⟨(hb0.alloc hBB.2 _).alloc (by simp; omega) _, ld, lm, lvs, hlv.out, ?_⟩
        have h1 := hown.lit 3 1 0 #[] hBB.2 (by unfold maxLen; omega) rfl
        have h2 := h1.lit 3 1 0 #[] (by simp; omega) (by unfold maxLen; omega) rfl
        rw [show (wo.alloc (.cells #[] 3)).heap.size = wo.heap.size + 1 by simp] at h2
        exact h2.perm (List.Perm.swap _ _ _)
      have eab : Ext wo ((wo.alloc (.cells #[] 3)).alloc (.cells #[] 3)) := inferInstance
      replace hR0 := hid hR0
      go_upto_region 7 with fail
      generalize (wo.alloc (.cells #[] 3)).alloc (.cells #[] 3) = wp at *
      have z1 := eab.cell y1
      go_wp2
      go_loopw [9, 10, 11] (fun av gv i wi => ∃ r : Nat, r ≤ S.length ∧ i = .int .i64 r ∧ RowInv M S l X G n B bt wb xd gd xm gm xvs gvs r av gv wi) (fun _ _ i _ => S.length - (intOf i).toNat)
      case atStart => exact ⟨0, by omega, rfl, hR0.out⟩
      case round =>
        obtain ⟨r, hr, rfl, hb2, ld2, lm2, lvs2, hlv2, hown2⟩ := hrel
        obtain ⟨ad, am, rfl⟩ := Own.formInts hown2
        obtain ⟨gd2, gm2, rfl⟩ := Own.formInts hown2.tail
        have hBr : B ≤ wr.heap.size := by have := hb2.size; omega
        have u0 : wr.cell? ⟨w.heap.size, 0, none⟩ = some (.slice (some ⟨b5, o5, none⟩) M.length c1) := (hb2.cell (p := ⟨w.heap.size, 0, none⟩) (by have := hB.out; show w.heap.size < B; omega)).trans q0
        have u1 : wr.cell? ⟨w.heap.size, 1, none⟩ = some (.slice a2 S.length c2) := (hb2.cell (p := ⟨w.heap.size, 1, none⟩) (by have := hB.out; show w.heap.size < B; omega)).trans q1
        have er : Ext w wr := ⟨ewwb.below.trans (hb2.mono (by have := hB.out; omega))⟩
        have er0 : Ext w0 wr := Ext.trans ‹Ext w0 w› er
        by_cases hltr : r < S.length
        · have hrL := hid (rowLst_len (M := M) (S := S) l n r)
          have hrow0 := hid (rowLst_row (M := M) (S := S) (i := n) hlt r)
          have hoffr := hid (rowLst_ok hp.out hoff.out hlt (r := r) (by omega))
          have hnw := hid (norm_ok hp.out (hoff.out _ (row_mem hlt)) hltr)
          have hnx := hid (nextL_ok hp.out (hoff.out _ (row_mem hlt)) (by omega) hltr)
          have hrok := hid (hoff.out _ (row_mem hlt))
          have hsA := hid (rowStp_succ M S l n r)
          have hsB := hid (rowGrw_succ M S l n r)
          have hsL := hid (show rowLst M S l n (r + 1) = if ixAt M S l n r < 0 then rowLst M S l n r ++ [normL (nextL M S (row l n) r)] else rowLst M S l n r from rfl)
          have hix := hid (show ixAt M S l n r = ixL (fun o => decide (o = normL (nextL M S (row l n) r))) (rowLst M S l n r) 0 from rfl)
          have hal := hid (rowStp_length M S l n r)
          have hgl := hid (rowGrw_length M S l n r)
          generalize hlr1 : rowLst M S l n (r + 1) = lr1 at *
          replace hlr1 := hid hlr1
          generalize hra1 : rowStp M S l n (r + 1) = ra1 at *
          replace hra1 := hid hra1
          generalize hrg1 : rowGrw M S l n (r + 1) = rg1 at *
          replace hrg1 := hid hrg1
          generalize hlr : rowLst M S l n r = lr at *
          generalize hra : rowStp M S l n r = ra at *
          replace hra := hid hra
          generalize hrg : rowGrw M S l n r = rg at *
          replace hrg := hid hrg
          generalize ixAt M S l n r = ix at *
          replace hlr := hid hlr
          replace hlv2 := hid hlv2
          have t0 : wr.cell? ⟨bt, 0, none⟩ = some (.slice ld2 lr.length lm2) := hown2.cellIn (.tail _ (.tail _ (.head _))) (j := 0) (by omega)
          have fr := offOk_read hp.out hoffr.out (by have := hrL.out; have := hn.out; omega)
          have hLr := hown2.tail.tail.tail.readsAll hlv2.out fr.1 fr.2.1 fr.2.2
          have hnlr : n < lr.length := by have := hrL.out; omega
          obtain ⟨b7, o7, d7, m7, rfl, hc7, hr7, _⟩ := hLr.at (w' := wr) hnlr
          rw [hrow0.out] at hr7 hc7
          clear fr
          go_upto_region 10 with fail
          have ed : Ext wr wr.drew := inferInstance
          refine wp_region_held_drew (S := fun w' => Ext wr w' ∧ w'.cell? ⟨w.heap.size, 0, none⟩ = some (.slice (some ⟨b5, o5, none⟩) M.length c1) ∧ w'.cell? ⟨w.heap.size, 1, none⟩ = some (.slice a2 S.length c2) ∧ w'.cell? ⟨bt, 0, none⟩ = some (.slice (some ⟨b7, o7, none⟩) lr.length lm2) ∧ w'.cell? ⟨b7, o7 + n, none⟩ = some (.slice d7 (row l n).length m7)) (by kernel_rfl) ⟨ed, ed.cell u0, ed.cell u1, ed.cell t0, ed.cell hc7⟩ (fun hHeld => ?_)
          refine wpAnyH_take (i := 0) (v := .agg #[.slice (some ⟨b5, o5, none⟩) M.length c1, .slice a2 S.length c2]) rfl (by kernel_rfl) (by kernel_rfl) (by kernel_rfl) (fun _ _ _ h => h) (Or.inl ⟨by rfl, by intro wx hx; obtain ⟨_, _, _, _, _⟩ := hx; go_simp⟩) (by assumption) ?_
          try simp only [List.getElem_toArray, List.getElem_cons_zero, Act.put, List.setIfInBounds_toArray, List.set_cons_zero, List.set_cons_succ]
          refine wpAnyH_take (i := 1) (v := .pointer (some ⟨bt, 0, none⟩)) rfl (by kernel_rfl) (by kernel_rfl) (by kernel_rfl) (fun _ _ _ h => h) (Or.inl ⟨by rfl, by intro wx hx; obtain ⟨_, _, _, _, _⟩ := hx; go_simp⟩) (by assumption) ?_
          try simp only [List.getElem_toArray, List.getElem_cons_succ, List.getElem_cons_zero, Act.put, List.setIfInBounds_toArray, List.set_cons_zero, List.set_cons_succ]
          refine wpAnyH_take (i := 2) (v := .slice (some ⟨b7, o7, none⟩) lr.length lm2) rfl (by kernel_rfl) (by kernel_rfl) (by kernel_rfl) (fun _ _ _ h => h) (Or.inl ⟨by rfl, by intro wx hx; obtain ⟨_, _, _, _, _⟩ := hx; go_simp⟩) (by assumption) ?_
          try simp only [List.getElem_toArray, List.getElem_cons_succ, List.getElem_cons_zero, Act.put, List.setIfInBounds_toArray, List.set_cons_zero, List.set_cons_succ]
          refine wpAnyH_take (i := 3) (v := .int .i64 n) rfl (by kernel_rfl) (by kernel_rfl) (by kernel_rfl) (fun _ _ _ h => h) (Or.inl ⟨by rfl, by intro wx hx; go_simp⟩) (by assumption) ?_
          try simp only [List.getElem_toArray, List.getElem_cons_succ, List.getElem_cons_zero, Act.put, List.setIfInBounds_toArray, List.set_cons_zero, List.set_cons_succ]
          refine wpAnyH_take (i := 4) (v := .pointer (some ⟨b7, o7 + n, none⟩)) rfl (by kernel_rfl) (by kernel_rfl) (by kernel_rfl) (fun _ _ _ h => h) (Or.inl ⟨by rfl, by intro wx hx; go_simp⟩) (by assumption) ?_
          try simp only [List.getElem_toArray, List.getElem_cons_succ, List.getElem_cons_zero, Act.put, List.setIfInBounds_toArray, List.set_cons_zero, List.set_cons_succ]
          refine wpAnyH_take (i := 5) (v := .slice d7 (row l n).length m7) rfl (by kernel_rfl) (by kernel_rfl) (by kernel_rfl) (fun _ _ _ h => h) (Or.inl ⟨by rfl, by intro wx hx; obtain ⟨_, _, _, _, _⟩ := hx; go_simp⟩) (by assumption) ?_
          try simp only [List.getElem_toArray, List.getElem_cons_succ, List.getElem_cons_zero, Act.put, List.setIfInBounds_toArray, List.set_cons_zero, List.set_cons_succ]
          refine wpAnyH_take (i := 6) (v := .int .i64 r) rfl (by kernel_rfl) (by kernel_rfl) (by kernel_rfl) (fun _ _ _ h => h) (Or.inl ⟨by rfl, by intro wx hx; go_simp⟩) (by assumption) ?_
          try simp only [List.getElem_toArray, List.getElem_cons_succ, List.getElem_cons_zero, Act.put, List.setIfInBounds_toArray, List.set_cons_zero, List.set_cons_succ]
          refine wpAnyH_ready (rs := [7]) (by kernel_rfl) (by simp) ?_
          refine AllReadyH.cons rfl (fun K hK => ?_) AllReadyH.nil
          go_simp
          go_at_call 101
          refine (l8Next_any (w0 := wr) (hM'.ext (w' := wr)) (hS'.ext (w' := wr)) (hr7.ext (w' := wr)) hp.out hrok.out (by omega) hltr).mono ?_
          rintro e w2 ⟨nd, nm, rfl, own2, hb4⟩
          have hread := own2.reads (by rw [hnx.out.1]; have := hn.out; unfold Short; omega) (wOk_i64 hnx.out (by omega))
          go_wp2_with fail
          have eb2 : Ext wr w2 := Ext.trans ed hb4
          refine hK.out _ _ ⟨eb2, eb2.cell u0, eb2.cell u1, eb2.cell t0, eb2.cell hc7⟩ (fun hHeld2 => ?_)
          clear hK K hHeld
          try simp only [List.getElem_toArray, List.getElem_cons_succ, List.getElem_cons_zero, Act.put, List.setIfInBounds_toArray, List.set_cons_zero, List.set_cons_succ]
          refine wpAnyH_ready (rs := [8]) (by kernel_rfl) (by simp) ?_
          refine AllReadyH.cons rfl (fun K hK => ?_) AllReadyH.nil
          go_simp
          go_at_call 100
          refine (l8Offset_any (w0 := w2) hread (by rw [hnx.out.1]; have := hn.out; omega) (fun k hk => by have h1 := hnx.out.2 k (by rw [← hnx.out.1]; exact hk); omega)).mono ?_
          rintro e w3 ⟨wd, wm, rfl, own3, hb5⟩
          go_wp2_with fail
          have eb3 : Ext wr w3 := Ext.trans eb2 hb5
          refine hK.out _ _ ⟨eb3, eb3.cell u0, eb3.cell u1, eb3.cell t0, eb3.cell hc7⟩ (fun hHeld3 => ?_)
          clear hK K hHeld2
          try simp only [List.getElem_toArray, List.getElem_cons_succ, List.getElem_cons_zero, Act.put, List.setIfInBounds_toArray, List.set_cons_zero, List.set_cons_succ]
          refine wpAnyH_take (i := 9) (v := .tuple #[.slice wd (normL (nextL M S (row l n) r)).length wm, .int .i64 (leastL (nextL M S (row l n) r))]) rfl (by kernel_rfl) (by kernel_rfl) (by kernel_rfl) (fun _ _ _ h => h) (Or.inl ⟨by rfl, by intro wx hx; go_simp⟩) (by assumption) ?_
          try simp only [List.getElem_toArray, List.getElem_cons_succ, List.getElem_cons_zero, Act.put, List.setIfInBounds_toArray, List.set_cons_zero, List.set_cons_succ]
          refine wpAnyH_take (i := 10) (v := .slice wd (normL (nextL M S (row l n) r)).length wm) rfl (by kernel_rfl) (by kernel_rfl) (by kernel_rfl) (fun _ _ _ h => h) (Or.inl ⟨by rfl, by intro wx hx; go_simp⟩) (by assumption) ?_
          try simp only [List.getElem_toArray, List.getElem_cons_succ, List.getElem_cons_zero, Act.put, List.setIfInBounds_toArray, List.set_cons_zero, List.set_cons_succ]
          refine wpAnyH_take (i := 11) (v := .int .i64 (leastL (nextL M S (row l n) r))) rfl (by kernel_rfl) (by kernel_rfl) (by kernel_rfl) (fun _ _ _ h => h) (Or.inl ⟨by rfl, by intro wx hx; go_simp⟩) (by assumption) ?_
          try simp only [List.getElem_toArray, List.getElem_cons_succ, List.getElem_cons_zero, Act.put, List.setIfInBounds_toArray, List.set_cons_zero, List.set_cons_succ]
          refine wpAnyH_take (i := 12) (v := .slice wd (normL (nextL M S (row l n) r)).length wm) rfl (by kernel_rfl) (by kernel_rfl) (by kernel_rfl) (fun _ _ _ h => h) (Or.inl ⟨by rfl, by intro wx hx; go_simp⟩) (by assumption) ?_
          try simp only [List.getElem_toArray, List.getElem_cons_succ, List.getElem_cons_zero, Act.put, List.setIfInBounds_toArray, List.set_cons_zero, List.set_cons_succ]
          refine wpAnyH_take (i := 13) (v := .int .i64 (leastL (nextL M S (row l n) r))) rfl (by kernel_rfl) (by kernel_rfl) (by kernel_rfl) (fun _ _ _ h => h) (Or.inl ⟨by rfl, by intro wx hx; go_simp⟩) (by assumption) ?_
          try simp only [List.getElem_toArray, List.getElem_cons_succ, List.getElem_cons_zero, Act.put, List.setIfInBounds_toArray, List.set_cons_zero, List.set_cons_succ]
          refine wpAnyH_done (by kernel_rfl) ?_ _
          have OW := Own.add own3 hown2 hb5 hBr
          have t3 := eb3.cell t0
          have hWr := OW.reads (by have := hnw.out.1.1; have := hn.out; unfold Short; omega) (wOk_i64 hnw.out.1 (by omega))
          have hLr3 := hLr.ext (w' := w3)
          generalize hnl : normL (nextL M S (row l n) r) = nl at *
          replace hnl := hid hnl
          generalize hlw : leastL (nextL M S (row l n) r) = lw at *
          replace hlw := hid hlw
          go_wp2_with fail
          refine (l8Place_any (w0 := w3) hLr3 hWr).mono ?_
          rw [← hix.out]
          rintro e w4 ⟨rfl, hb6⟩
          have t4 := hb6.cell t3
          have OW4 := OW.ext (w' := w4)
          have hb43 : Below B wb w4 := (hb2.trans (eb3.below.mono hBr)).trans (hb6.below.mono (Nat.le_trans hBr eb3.size))
          have hB4 : B ≤ w4.heap.size := Nat.le_trans (Nat.le_trans hBr eb3.size) hb6.size
          have hlv404 : lvs2.length ≤ 404 := by have := hlv2.out; have := hrL.out; have := hn.out; omega
          clear own2 own3 OW hWr hLr3 hread t3
          by_cases hneg : ix < 0
          · have hneg' : decide (ix < 0) = true := by simpa using hneg
            have hL1 := hid (hsL.out.trans (if_pos hneg))
            have hat := hid (show (if ix < 0 then (lr.length : Int) else ix) = (lr.length : Int) from if_pos hneg)
            replace hneg := hid hneg
            have hout := rows_out (A := [_, _, _]) OW4
            have hl1 : lvs2.length + 1 = lr1.length := by rw [hL1.out, List.length_append, hlv2.out]; rfl
            have hq1 : lvs2.length ≤ 17592186044415 := by omega
            have hq2 : (lvs2.length + 1) * 24 ≤ 140737488355328 := by omega
            replace hl1 := hid hl1
            go_upto_region 15 with (at_builtin; refine wpList_append1 rfl _ _ _ rfl elemInts rfl hout hB4 rfl rfl hq1 hq2 ?_; intro v1 w5 ho hb7; obtain ⟨vd, vm, hv1⟩ := ho.form; (obtain rfl : v1 = .slice vd lr1.length vm := (by rw [← hl1.out]; exact hv1)); clear hv1; (have tc : w5.cell? ⟨bt, 0, none⟩ = some (.slice (some ⟨b7, o7, none⟩) lr.length lm2) := ho.cellIn (.tail _ (.tail _ (.tail _ (.tail _ (.head _))))) (j := 0) (by omega)); have tf := ho.frozenIn (.tail _ (.tail _ (.tail _ (.tail _ (.head _))))) 0)
            have hbtB := ((ho.1 _ (.tail _ (.tail _ (.tail _ (.tail _ (.head _)))))).lt bt rfl).1
            have hoS := Own.setIn (A := [_, _, _, _]) ho 0 (.slice vd lr1.length vm)
            have hin := rows_in (A := [_, _, _]) hoS hlv2.out
            have OWS : Own (w5.setCell ⟨bt, 0, none⟩ (.slice vd lr1.length vm)) B (intRowOf 3 (.slice ad ra.length am) ra :: intRowOf 3 (.slice gd2 rg.length gm2) rg :: tabRows bt vd xd gd vm xm gm (lvs2 ++ [.slice wd nl.length wm]) xvs gvs lr1 X G) := by
              unfold tabRows
              rw [hL1.out] at hin ⊢
              exact hin
            have hlvS := hid (show (lvs2 ++ [Value.slice wd nl.length wm]).length = lr1.length by rw [List.length_append]; exact hl1.out)
            have hbS : Below B wb (w5.setCell ⟨bt, 0, none⟩ (.slice vd lr1.length vm)) := (hb43.trans hb7).setCell hbtB _
            have hBS : B ≤ (w5.setCell ⟨bt, 0, none⟩ (.slice vd lr1.length vm)).heap.size := by have := hb7.size; simp [World.setCell]; omega
            clear hoS hin ho hout OW4 hbtB
            generalize w5.setCell ⟨bt, 0, none⟩ (.slice vd lr1.length vm) = wS at *
            go_upto_region 16 with (at_builtin; refine wpList_append1 rfl _ _ _ rfl elemInt rfl OWS hBS rfl rfl (by have := hal.out; omega) (by have := hal.out; have := hn.out; omega) ?_; intro v2 w6 ho1 hb8)
            have OW6 := (own_snoc ho1 rfl).perm (List.Perm.swap _ _ _)
            have hB6 : B ≤ w6.heap.size := Nat.le_trans hBS hb8.size
            clear ho1
            go_wp2_with (at_builtin; refine wpList_append1 rfl _ _ _ rfl elemInt rfl OW6 hB6 rfl rfl (by have := hgl.out; omega) (by have := hgl.out; have := hn.out; omega) ?_; intro v3 w7 ho2 hb9)
            have OW7 := (own_snoc ho2 rfl).perm (List.Perm.swap _ _ _)
            go_roundw
            case rel =>
              refine ⟨r + 1, by omega, by go_num, ?_⟩
              unfold RowInv
              rw [hlr1.out, hra1.out, hrg1.out, hsA.out, hsB.out, hat.out]
              exact ⟨(hbS.trans hb8).trans hb9, _, _, _, hlvS.out, OW7⟩
            case measure => simp [intOf]; omega
          · have hneg' : decide (ix < 0) = false := by simpa using hneg
            have hL1 := hid (hsL.out.trans (if_neg hneg))
            have hat := hid (show (if ix < 0 then (lr.length : Int) else ix) = ix from if_neg hneg)
            replace hneg := hid hneg
            have OWS : Own w4 B (intRowOf 3 (.slice ad ra.length am) ra :: intRowOf 3 (.slice gd2 rg.length gm2) rg :: tabRows bt (some ⟨b7, o7, none⟩) xd gd lm2 xm gm lvs2 xvs gvs lr1 X G) := by
              rw [hL1.out]
              exact OW4.tail
            have hlvS := hid (show lvs2.length = lr1.length by rw [hL1.out]; exact hlv2.out)
            have hbS := hb43
            have hBS := hB4
            clear OW4
            go_upto_region 16 with (at_builtin; refine wpList_append1 rfl _ _ _ rfl elemInt rfl OWS hBS rfl rfl (by have := hal.out; omega) (by have := hal.out; have := hn.out; omega) ?_; intro v2 w6 ho1 hb8)
            have OW6 := (own_snoc ho1 rfl).perm (List.Perm.swap _ _ _)
            have hB6 : B ≤ w6.heap.size := Nat.le_trans hBS hb8.size
            clear ho1
            go_wp2_with (at_builtin; refine wpList_append1 rfl _ _ _ rfl elemInt rfl OW6 hB6 rfl rfl (by have := hgl.out; omega) (by have := hgl.out; have := hn.out; omega) ?_; intro v3 w7 ho2 hb9)
            have OW7 := (own_snoc ho2 rfl).perm (List.Perm.swap _ _ _)
            go_roundw
            case rel =>
              refine ⟨r + 1, by omega, by go_num, ?_⟩
              unfold RowInv
              rw [hlr1.out, hra1.out, hrg1.out, hsA.out, hsB.out, hat.out]
              exact ⟨(hbS.trans hb8).trans hb9, _, _, _, hlvS.out, OW7⟩
            case measure => simp [intOf]; omega
        · have hrS : r = S.length := by omega
          subst hrS
          have hsA := hid (rowStp_in (M := M) (S := S) (l := l) (n := n) (r := S.length) hl400 (by have := hn.out; omega))
          have hsB := hid (rowGrw_in hp.out hoff.out hlt (Nat.le_refl _))
          have hoffn := hid (rowLst_ok hp.out hoff.out hlt (Nat.le_refl _))
          have hal := hid (rowStp_length M S l n S.length)
          have hgl := hid (rowGrw_length M S l n S.length)
          rw [← hnext.out] at hlv2 hown2 hoffn
          clear hnext
          generalize rowStp M S l n S.length = ra at *
          generalize rowGrw M S l n S.length = rg at *
          have hl404 : lnext.length ≤ 1000000 := by
            by_cases h : lnext.length ≤ 1000000
            · exact h
            · exfalso
              have h2 := (rowLst_len (M := M) (S := S) l n S.length).2
              have h3 : offLst M S s (n + 1) = rowLst M S (offLst M S s n) n S.length := rfl
              rw [hln.out, hl0.out] at h3
              rw [← h3] at h2
              have := hn.out
              omega
          have t0 : wr.cell? ⟨bt, 0, none⟩ = some (.slice ld2 lnext.length lm2) := hown2.cellIn (.tail _ (.tail _ (.head _))) (j := 0) (by omega)
          have t1 : wr.cell? ⟨bt, 1, none⟩ = some (.slice xd X.length xm) := hown2.cellIn (.tail _ (.tail _ (.head _))) (j := 1) (by omega)
          have hbtB := hid ((hown2.1 _ (.tail _ (.tail _ (.head _)))).lt bt rfl)
          by_cases hbig : 400 < lnext.length
          · have hend := hid (show offEnd M S s = none by
              rw [← hgo.out, show 500 - n = (499 - n) + 1 by omega]
              exact hbigG.out hbig)
            have t2 : wr.cell? ⟨bt, 2, none⟩ = some (.slice gd G.length gm) := hown2.cellIn (.tail _ (.tail _ (.head _))) (j := 2) (by omega)
            have t3 : wr.cell? ⟨bt, 3, none⟩ = some (.bool false) := hown2.cellIn (.tail _ (.tail _ (.head _))) (j := 3) (by omega)
            have tf3 := hown2.frozenIn (.tail _ (.tail _ (.head _))) 3
            have hRB : w.heap.size + 1 < B := by have := hB.out; omega
            have hne : bt ≠ w.heap.size + 1 := by have := hbtB.out.1; omega
            have hws : ∀ j u, Below B wb (wr.setCell ⟨bt, j, none⟩ u) := fun j u => hb2.setCell hbtB.out.1 _
            obtain ⟨wt, hwt⟩ : ∃ wt, wt = wr.setCell ⟨bt, 3, none⟩ (.bool true) := ⟨_, rfl⟩
            have hbt2 : Below B wb wt := by rw [hwt]; exact hws 3 _
            have s0 : wt.cell? ⟨bt, 0, none⟩ = some (.slice ld2 lnext.length lm2) := by rw [hwt]; go_simp
            have s1 : wt.cell? ⟨bt, 1, none⟩ = some (.slice xd X.length xm) := by rw [hwt]; go_simp
            have s2 : wt.cell? ⟨bt, 2, none⟩ = some (.slice gd G.length gm) := by rw [hwt]; go_simp
            have s3 : wt.cell? ⟨bt, 3, none⟩ = some (.bool true) := by rw [hwt]; go_simp
            have r0 : wt.cell? ⟨w.heap.size + 1, 0, none⟩ = some (.slice none 0 0) := (hbt2.cell (p := ⟨w.heap.size + 1, 0, none⟩) hRB).trans kcs.out.1
            have r1 : wt.cell? ⟨w.heap.size + 1, 1, none⟩ = some (.slice none 0 0) := (hbt2.cell (p := ⟨w.heap.size + 1, 1, none⟩) hRB).trans kcs.out.2.1
            have r2 : wt.cell? ⟨w.heap.size + 1, 2, none⟩ = some (.slice none 0 0) := (hbt2.cell (p := ⟨w.heap.size + 1, 2, none⟩) hRB).trans kcs.out.2.2.1
            have r3 : wt.cell? ⟨w.heap.size + 1, 3, none⟩ = some (.bool false) := (hbt2.cell (p := ⟨w.heap.size + 1, 3, none⟩) hRB).trans kcs.out.2.2.2.1
            have rf0 : wt.frozen? ⟨w.heap.size + 1, 0, none⟩ = false := (hbt2.frozen (p := ⟨w.heap.size + 1, 0, none⟩) hRB).trans (kcs.out.2.2.2.2 0)
            have rf1 : wt.frozen? ⟨w.heap.size + 1, 1, none⟩ = false := (hbt2.frozen (p := ⟨w.heap.size + 1, 1, none⟩) hRB).trans (kcs.out.2.2.2.2 1)
            have rf2 : wt.frozen? ⟨w.heap.size + 1, 2, none⟩ = false := (hbt2.frozen (p := ⟨w.heap.size + 1, 2, none⟩) hRB).trans (kcs.out.2.2.2.2 2)
            have rf3 : wt.frozen? ⟨w.heap.size + 1, 3, none⟩ = false := (hbt2.frozen (p := ⟨w.heap.size + 1, 3, none⟩) hRB).trans (kcs.out.2.2.2.2 3)
            have ewt : Ext w wt := ⟨ewwb.below.trans (hbt2.mono (by omega))⟩
            have hbig' : decide ((400 : Int) < (lnext.length : Int)) = true := by simp; omega
            go_upto_region 19 with fail
            rw [← hwt]
            clear hwt
            go_wp2_with fail
            refine bodyPost_ret (v := .agg #[.slice ld2 lnext.length lm2, .slice xd X.length xm, .slice gd G.length gm, .bool true]) (by simp [results, Try.results61, go_sem, r0, r1, r2, r3]) rfl ?_
            refine ⟨.inl ⟨hend.out, _, _, _, _, _, _, _, _, _, rfl⟩, ?_⟩
            exact @Ext.set _ _ (@Ext.set _ _ (@Ext.set _ _ (@Ext.set _ _ ewt ⟨w.heap.size + 1, 0, none⟩ (by show _ ≤ w.heap.size + 1; omega) _) ⟨w.heap.size + 1, 1, none⟩ (by show _ ≤ w.heap.size + 1; omega) _) ⟨w.heap.size + 1, 2, none⟩ (by show _ ≤ w.heap.size + 1; omega) _) ⟨w.heap.size + 1, 3, none⟩ (by show _ ≤ w.heap.size + 1; omega) _
          · have hbig' : decide ((400 : Int) < (lnext.length : Int)) = false := by simp; omega
            have hgo2 := hid (show offGo M S s (500 - (n + 1)) (n + 1) = offEnd M S s by
              rw [← hgo.out, show 500 - n = (499 - n) + 1 by omega, hmoreG.out hbig, show 500 - (n + 1) = 499 - n by omega])
            obtain ⟨X1, hX1⟩ : ∃ X1, X1 = X ++ [ra] := ⟨_, rfl⟩
            obtain ⟨G1, hG1⟩ : ∃ G1, G1 = G ++ [rg] := ⟨_, rfl⟩
            have hx1 : xvs.length + 1 = X1.length := by rw [hX1, List.length_append, hXl.out, hxv.out]; rfl
            have hg1 : gvs.length + 1 = G1.length := by rw [hG1, List.length_append, hGl.out, hgv.out]; rfl
            have hx400 : xvs.length ≤ 400 := by have := hxv.out; omega
            have hg400 : gvs.length ≤ 400 := by have := hgv.out; omega
            replace hx1 := hid hx1
            replace hg1 := hid hg1
            replace hX1 := hid hX1
            replace hG1 := hid hG1
            unfold tabRows at hown2
            have hout := rows_out (A := _ :: _ :: rowsOf 29 3 (.slice ld2 lnext.length lm2) lvs2 lnext) hown2
            go_upto_region 21 with (at_builtin; refine wpList_append1 rfl _ _ _ rfl elemInts rfl hout hBr rfl rfl (by omega) (by omega) ?_; intro v1 w5 ho hb7; obtain ⟨xd2, xm2, hv1⟩ := ho.form; (obtain rfl : v1 = .slice xd2 X1.length xm2 := (by rw [← hx1.out]; exact hv1)); clear hv1; (have tc : w5.cell? ⟨bt, 1, none⟩ = some (.slice xd X.length xm) := ho.cellIn (.tail _ (.tail _ (.tail _ (.head _)))) (j := 1) (by omega)); have tf := ho.frozenIn (.tail _ (.tail _ (.tail _ (.head _)))) 1)
            have hoS := Own.setIn (A := [_, _, _]) ho 1 (.slice xd2 X1.length xm2)
            have hin := rows_in (A := _ :: _ :: rowsOf 29 3 (.slice ld2 lnext.length lm2) lvs2 lnext) hoS (by rw [hxv.out, hXl.out])
            rw [← hX1.out] at hin
            have hbS : Below B wb (w5.setCell ⟨bt, 1, none⟩ (.slice xd2 X1.length xm2)) := (hb2.trans hb7).setCell hbtB.out.1 _
            have hBS : B ≤ (w5.setCell ⟨bt, 1, none⟩ (.slice xd2 X1.length xm2)).heap.size := by have := hb7.size; simp [World.setCell]; omega
            clear hoS ho hout
            generalize w5.setCell ⟨bt, 1, none⟩ (.slice xd2 X1.length xm2) = wS at *
            have hin2 : Own wS B (intRowOf 3 (.slice gd2 rg.length gm2) rg :: (((⟨82, 4, .slice (some ⟨bt, 0, none⟩) 1 1, 1, [.slice ld2 lnext.length lm2, .slice xd2 X1.length xm2, .slice gd G.length gm, .bool false]⟩ : Row) :: (rowsOf 29 3 (.slice ld2 lnext.length lm2) lvs2 lnext ++ rowsOf 29 3 (.slice xd2 X1.length xm2) (xvs ++ [.slice ad ra.length am]) X1)) ++ (rowsOf 29 3 (.slice gd G.length gm) gvs G ++ []))) := by
              have h := hin
              simp only [List.cons_append, List.append_assoc, List.set_cons_succ, List.set_cons_zero] at h ⊢
              exact h
            have hout := rows_out hin2
            have t2 : wS.cell? ⟨bt, 2, none⟩ = some (.slice gd G.length gm) := hin2.cellIn (.tail _ (.head _)) (j := 2) (by omega)
            clear hin
            go_wp2_with (at_builtin; refine wpList_append1 rfl _ _ _ rfl elemInts rfl hout hBS rfl rfl (by omega) (by omega) ?_; intro v1 w6 ho hb8; obtain ⟨gd3, gm3, hv1⟩ := ho.form; (obtain rfl : v1 = .slice gd3 G1.length gm3 := (by rw [← hg1.out]; exact hv1)); clear hv1; (have tc : w6.cell? ⟨bt, 2, none⟩ = some (.slice gd G.length gm) := ho.cellIn (.tail _ (.tail _ (.head _))) (j := 2) (by omega)); have tf := ho.frozenIn (.tail _ (.tail _ (.head _))) 2)
            have hoS := Own.setIn (A := [_, _]) ho 2 (.slice gd3 G1.length gm3)
            have hin := rows_in (A := _ :: (rowsOf 29 3 (.slice ld2 lnext.length lm2) lvs2 lnext ++ rowsOf 29 3 (.slice xd2 X1.length xm2) (xvs ++ [.slice ad ra.length am]) X1)) hoS (by rw [hgv.out, hGl.out])
            rw [← hG1.out] at hin
            go_roundw
            case rel =>
              refine ⟨n + 1, by go_num, ?_⟩
              unfold AllInv
              rw [hln.out, hsX.out, hsG.out, ← hX1.out, ← hG1.out]
              refine ⟨by omega, by omega, hoffn.out, hgo2.out, ?_, ?_, (hbS.trans hb8).setCell hbtB.out.1 _, ld2, xd2, gd3, lm2, xm2, gm3, lvs2, xvs ++ [.slice ad ra.length am], gvs ++ [.slice gd2 rg.length gm2], hlv2, by rw [List.length_append, hxv.out]; rfl, by rw [List.length_append, hgv.out]; rfl, ?_⟩
              · intro x hx
                rw [hX1.out] at hx
                rcases List.mem_append.1 hx with hx | hx
                · exact hXI.out x hx
                · rw [List.mem_singleton.1 hx]
                  exact ⟨by rw [hal.out]; have := hn.out; omega, hsA.out⟩
              · intro x hx
                rw [hG1.out] at hx
                rcases List.mem_append.1 hx with hx | hx
                · exact hGI.out x hx
                · rw [List.mem_singleton.1 hx]
                  exact ⟨by rw [hgl.out]; have := hn.out; omega, hsB.out⟩
              · unfold tabRows
                have h := hin
                simp only [List.cons_append, List.append_assoc, List.set_cons_succ, List.set_cons_zero] at h ⊢
                exact h
            case measure => simp [intOf]; omega
    · have hend := hid (show offEnd M S s = some n by
        rw [← hgo.out, show 500 - n = (499 - n) + 1 by omega]
        exact offGo_done hlt)
      have t1 : wo.cell? ⟨bt, 1, none⟩ = some (.slice xd (offStp M S s n).length xm) := hown.cellIn (List.Mem.head _) (j := 1) (by omega)
      have t2 : wo.cell? ⟨bt, 2, none⟩ = some (.slice gd (offGrw M S s n).length gm) := hown.cellIn (List.Mem.head _) (j := 2) (by omega)
      have t3 : wo.cell? ⟨bt, 3, none⟩ = some (.bool false) := hown.cellIn (List.Mem.head _) (j := 3) (by omega)
      have hRB : w.heap.size + 1 < B := by have := hB.out; omega
      have r0 : wo.cell? ⟨w.heap.size + 1, 0, none⟩ = some (.slice none 0 0) := (hb0.cell (p := ⟨w.heap.size + 1, 0, none⟩) hRB).trans kcs.out.1
      have r1 : wo.cell? ⟨w.heap.size + 1, 1, none⟩ = some (.slice none 0 0) := (hb0.cell (p := ⟨w.heap.size + 1, 1, none⟩) hRB).trans kcs.out.2.1
      have r2 : wo.cell? ⟨w.heap.size + 1, 2, none⟩ = some (.slice none 0 0) := (hb0.cell (p := ⟨w.heap.size + 1, 2, none⟩) hRB).trans kcs.out.2.2.1
      have r3 : wo.cell? ⟨w.heap.size + 1, 3, none⟩ = some (.bool false) := (hb0.cell (p := ⟨w.heap.size + 1, 3, none⟩) hRB).trans kcs.out.2.2.2.1
      have rf0 : wo.frozen? ⟨w.heap.size + 1, 0, none⟩ = false := (hb0.frozen (p := ⟨w.heap.size + 1, 0, none⟩) hRB).trans (kcs.out.2.2.2.2 0)
      have rf1 : wo.frozen? ⟨w.heap.size + 1, 1, none⟩ = false := (hb0.frozen (p := ⟨w.heap.size + 1, 1, none⟩) hRB).trans (kcs.out.2.2.2.2 1)
      have rf2 : wo.frozen? ⟨w.heap.size + 1, 2, none⟩ = false := (hb0.frozen (p := ⟨w.heap.size + 1, 2, none⟩) hRB).trans (kcs.out.2.2.2.2 2)
      have rf3 : wo.frozen? ⟨w.heap.size + 1, 3, none⟩ = false := (hb0.frozen (p := ⟨w.heap.size + 1, 3, none⟩) hRB).trans (kcs.out.2.2.2.2 3)
      go_wp2_with fail
      refine bodyPost_ret (v := .agg #[.slice ld (offLst M S s n).length lm, .slice xd (offStp M S s n).length xm, .slice gd (offGrw M S s n).length gm, .bool false]) (by simp [results, Try.results61, go_sem, r0, r1, r2, r3]) rfl ?_
      have ownz := (((hown.setBelow (p := ⟨w.heap.size + 1, 0, none⟩) hRB (.slice ld (offLst M S s n).length lm)).setBelow (p := ⟨w.heap.size + 1, 1, none⟩) hRB (.slice xd (offStp M S s n).length xm)).setBelow (p := ⟨w.heap.size + 1, 2, none⟩) hRB (.slice gd (offGrw M S s n).length gm)).setBelow (p := ⟨w.heap.size + 1, 3, none⟩) hRB (.bool false)
      have f1 := offOk_read hp.out hoff.out (by omega)
      have f2 := small_read (l := offStp M S s n) (by rw [offStp_length]; omega) hXI.out
      have f3 := small_read (l := offGrw M S s n) (by rw [offGrw_length]; omega) hGI.out
      have ownL := ownz.tail
      have ownX := ownL.right
      have ownG := ownX.right
      refine ⟨.inr ⟨n, hend.out, ld, lm, xd, xm, gd, gm, rfl, ownL.readsAll hlv.out f1.1 f1.2.1 f1.2.2, ownX.readsAll (by rw [hxv.out, offStp_length]) f2.1 f2.2.1 f2.2.2, ownG.readsAll (by rw [hgv.out, offGrw_length]) f3.1 f3.2.1 f3.2.2⟩, ?_⟩
      have eo' := eo
      exact @Ext.set _ _ (@Ext.set _ _ (@Ext.set _ _ (@Ext.set _ _ eo ⟨w.heap.size + 1, 0, none⟩ (by show _ ≤ w.heap.size + 1; omega) _) ⟨w.heap.size + 1, 1, none⟩ (by show _ ≤ w.heap.size + 1; omega) _) ⟨w.heap.size + 1, 2, none⟩ (by show _ ≤ w.heap.size + 1; omega) _) ⟨w.heap.size + 1, 3, none⟩ (by show _ ≤ w.heap.size + 1; omega) _

end Go.Proofs.Ytkdbgobhgnjoaab
