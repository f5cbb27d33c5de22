/- The stable sorting of the edges walked: the comparison, insertionSortCmpFunc, stableCmpFunc, SortStableFunc. -/
import Derived.Test.YtnlbjbnjjkilhaaTiA
import Derived.Test.YtnlbjbnjjkilhaaEndL
namespace Go.Proofs.Ytnlbjbnjjkilhaa
open Go.RowKit

set_option maxHeartbeats 3200000 in
set_option maxRecDepth 100000 in
theorem cmp1_any {a1 : Option Addr} {c1 bm : Nat} {M : List (List Int)} {u v : Nat × Nat} {w0 w : World} [Ext w0 w] (hM : metB M = true) (hR : IsRows w0 (.slice a1 M.length c1) M) (hb : w.cell? ⟨bm, 0, none⟩ = some (.slice a1 M.length c1)) (hu : u.1 < M.length ∧ u.2 < M.length) (hv : v.1 < M.length ∧ v.2 < M.length) :
    Calls Try.prog 54 #[.agg #[.int .i64 (u.1 : Int), .int .i64 (u.2 : Int)], .agg #[.int .i64 (v.1 : Int), .int .i64 (v.2 : Int)], .pointer (some ⟨bm, 0, none⟩)] w
      fun e w' => e = .returned (.int .i64 (cell M u.1 u.2 - cell M v.1 v.2)) ∧ Ext w w' := by
  have hl := met_len hM
  have hrow := hid (fun x (hx : x < M.length) => tr_row hM hx)
  have hDu := (dst_of_met hM).pos u.1 u.2 hu.1 hu.2
  have hDv := (dst_of_met hM).pos v.1 v.2 hv.1 hv.2
  obtain ⟨u1, u2⟩ := u
  obtain ⟨v1, v2⟩ := v
  obtain ⟨hu1, hu2⟩ := hu
  obtain ⟨hv1, hv2⟩ := hv
  simp only at hu1 hu2 hv1 hv2 hDu hDv ⊢
  go_enter Try.func54, Try.ntmps54
  go_upto_region 1 with fail
  have ea : Ext w ((w.alloc (.cells #[.int .i64 (u1 : Int), .int .i64 (u2 : Int)] 46)).alloc (.cells #[.int .i64 (v1 : Int), .int .i64 (v2 : Int)] 46)) := inferInstance
  have x0 : ((w.alloc (.cells #[.int .i64 (u1 : Int), .int .i64 (u2 : Int)] 46)).alloc (.cells #[.int .i64 (v1 : Int), .int .i64 (v2 : Int)] 46)).cell? ⟨w.heap.size, 0, none⟩ = some (.int .i64 (u1 : Int)) := by go_simp
  have x1 : ((w.alloc (.cells #[.int .i64 (u1 : Int), .int .i64 (u2 : Int)] 46)).alloc (.cells #[.int .i64 (v1 : Int), .int .i64 (v2 : Int)] 46)).cell? ⟨w.heap.size, 1, none⟩ = some (.int .i64 (u2 : Int)) := by go_simp
  have y0 : ((w.alloc (.cells #[.int .i64 (u1 : Int), .int .i64 (u2 : Int)] 46)).alloc (.cells #[.int .i64 (v1 : Int), .int .i64 (v2 : Int)] 46)).cell? ⟨w.heap.size + 1, 0, none⟩ = some (.int .i64 (v1 : Int)) := by go_simp
  have y1 : ((w.alloc (.cells #[.int .i64 (u1 : Int), .int .i64 (u2 : Int)] 46)).alloc (.cells #[.int .i64 (v1 : Int), .int .i64 (v2 : Int)] 46)).cell? ⟨w.heap.size + 1, 1, none⟩ = some (.int .i64 (v2 : Int)) := by go_simp
  have b0 := ea.cell hb
  generalize (w.alloc (.cells #[.int .i64 (u1 : Int), .int .i64 (u2 : Int)] 46)).alloc (.cells #[.int .i64 (v1 : Int), .int .i64 (v2 : Int)] 46) = wa at *
  have e0a : Ext w0 wa := Ext.trans ‹Ext w0 w› ea
  obtain ⟨bM, oM, dr, mr, ha1, hcr, hir, _⟩ := hR.at (w' := wa) (k := u1) hu1
  cases ha1
  rw [hrow.out u1 hu1] at hcr hir
  obtain ⟨bd, od, hda, hcy⟩ := hir.at (w' := wa) (k := u2) (by rw [hrow.out u1 hu1]; exact hu2)
  cases hda
  obtain ⟨bM', oM', ds, ms, ha1, hcs, his, _⟩ := hR.at (w' := wa) (k := v1) hv1
  cases ha1
  rw [hrow.out v1 hv1] at hcs his
  obtain ⟨be, oe, hda, hcz⟩ := his.at (w' := wa) (k := v2) (by rw [hrow.out v1 hv1]; exact hv2)
  cases hda
  have hDu' : nth (row M u1) u2 = cell M u1 u2 := rfl
  have hDv' : nth (row M v1) v2 = cell M v1 v2 := rfl
  obtain ⟨p, hp⟩ : ∃ p, p = cell M u1 u2 := ⟨_, rfl⟩
  obtain ⟨q, hq⟩ : ∃ p, p = cell M v1 v2 := ⟨_, rfl⟩
  rw [hDu', ← hp] at hcy
  rw [hDv', ← hq] at hcz
  rw [← hp] at hDu
  rw [← hq] at hDv
  clear hDu' hDv' hb hir his
  replace hp := hid hp
  replace hq := hid hq
  go_upto_region 2 with (go_quiet (fail))
  have eF : Ext w (wa.drewN nq) := Ext.trans ea inferInstance
  refine bodyPost_ret (v := .int .i64 (p - q)) (by simp [results, Try.results54, go_sem]) rfl ?_
  exact ⟨by rw [hp.out, hq.out], eF⟩
theorem cmp1_call (xa : Array Value) (W : World) : (callFunc 54 xa).run Try.prog W = .ok (.enter 54 xa) W := by kernel_rfl
theorem set_at {F rest : List Value} {k : Nat} {x : Value} : (F ++ rest).set (F.length + k) x = F ++ rest.set k x := by
  rw [List.set_append_right _ _ (by omega), show F.length + k - F.length = k by omega]
theorem swp_cells {G : List (Nat × Nat)} {j : Nat} (h1 : 1 ≤ j) (h2 : j < G.length) {u v : Nat × Nat} (hu : G[j - 1]? = some u) (hv : G[j]? = some v) :
    (((((edR G).flatten.map (Value.int .i64)).set (j * 2) (.int .i64 (u.1 : Int))).set (j * 2 + 1) (.int .i64 (u.2 : Int))).set ((j - 1) * 2) (.int .i64 (v.1 : Int))).set ((j - 1) * 2 + 1) (.int .i64 (v.2 : Int)) = (edR (swpL G j)).flatten.map (Value.int .i64) := by
  obtain ⟨A, u', v', B, rfl, rfl⟩ := split2 h1 h2
  have eu : (A ++ u' :: v' :: B)[A.length + 1 - 1]? = some u' := by simp
  have ev : (A ++ u' :: v' :: B)[A.length + 1]? = some v' := by simp
  rw [eu] at hu
  rw [ev] at hv
  cases hu
  cases hv
  rw [swpL_eq rfl]
  have hsplit : ∀ (x y : Nat × Nat), (edR (A ++ x :: y :: B)).flatten.map (Value.int .i64) = (edR A).flatten.map (Value.int .i64) ++ (.int .i64 (x.1 : Int) :: .int .i64 (x.2 : Int) :: .int .i64 (y.1 : Int) :: .int .i64 (y.2 : Int) :: (edR B).flatten.map (Value.int .i64)) := fun x y => by
    simp [edR]
  rw [hsplit, hsplit]
  have hF : ((edR A).flatten.map (Value.int .i64)).length = A.length * 2 := by
    rw [List.length_map, flatz_len (edR_all A), edR_len]
  generalize (edR A).flatten.map (Value.int .i64) = F at *
  rw [show (A.length + 1) * 2 = F.length + 2 by omega, show F.length + 2 + 1 = F.length + 3 by omega, show (A.length + 1 - 1) * 2 = F.length + 0 by omega, show F.length + 0 + 1 = F.length + 1 by omega, set_at, set_at, set_at, set_at]
  rfl
theorem InS.head (E0 : List (Nat × Nat)) (D : Nat → Nat → Int) : InS D E0 E0 1 1 := ⟨fun _ => rfl, fun _ => Iff.rfl, rfl, fun a b h1 h2 h3 => by omega⟩
set_option maxHeartbeats 3200000 in
set_option maxRecDepth 100000 in
theorem insSort_any {g l m id B : Nat} {caps : Array Value} {D : Nat → Nat → Int} {E0 : List (Nat × Nat)} {w : World} (hl : l = E0.length) (h20 : l ≤ 20)
    (own0 : Own w B [flatRowOf 46 2 (.slice (some ⟨g, 0, none⟩) l m) (edR E0)]) (hB : B ≤ w.heap.size)
    (hcall : ∀ xa W, (callFunc id xa).run Try.prog W = .ok (.enter id xa) W)
    (hf : ∀ W, Below B w W → ∀ u v : Nat × Nat, u ∈ E0 → v ∈ E0 → Calls Try.prog id (#[.agg #[.int .i64 (u.1 : Int), .int .i64 (u.2 : Int)], .agg #[.int .i64 (v.1 : Int), .int .i64 (v.2 : Int)]] ++ caps) W fun e w' => e = .returned (.int .i64 (D u.1 u.2 - D v.1 v.2)) ∧ Ext W w')
    (hE : ∀ e, e ∈ E0 → e.1 < 1000 ∧ e.2 < 1000) :
    Calls Try.prog 96 #[.slice (some ⟨g, 0, none⟩) l m, .int .i64 0, .int .i64 l, .func (.func id) #[] caps] w fun e w' => e = .returned (.tuple #[]) ∧
      ∃ G, (G.Pairwise fun a b => D a.1 a.2 ≤ D b.1 b.2) ∧ (∀ d : Int, (G.filter fun e => decide (D e.1 e.2 = d)) = E0.filter fun e => decide (D e.1 e.2 = d)) ∧ (∀ e, e ∈ G ↔ e ∈ E0) ∧ G.length = E0.length ∧ Own w' B [flatRowOf 46 2 (.slice (some ⟨g, 0, none⟩) l m) (edR G)] ∧ Below B w w' := by
  have hI0 := hid (InS.head E0 D)
  replace hf := hid hf
  replace hE := hid hE
  replace hl := hid hl
  have hgB := ((own0.head).lt g rfl).1
  go_enter Try.func96, Try.ntmps96
  go_upto_region 1 with fail
  go_loopw [8] (fun iv wr => ∃ (q : Nat) (G : List (Nat × Nat)), iv = .int .i64 q ∧ 1 ≤ q ∧ q ≤ l + 1 ∧ Hid (InS D E0 G q q) ∧ Own wr B [flatRowOf 46 2 (.slice (some ⟨g, 0, none⟩) l m) (edR G)] ∧ Below B w wr) (fun iv _ => l + 1 - (intOf iv).toNat)
  case atStart => exact ⟨1, E0, by go_num, by omega, by omega, hI0, own0, Below.refl _ _⟩
  case round =>
    clear own0 hI0
    obtain ⟨q, G, rfl, hq1, hql1, hI, own, hb⟩ := hrel
    obtain ⟨wo, rfl⟩ : ∃ y : World, y = wr := ⟨_, rfl⟩
    by_cases hql : q < l
    · go_upto_region 4 with fail
      go_loopw [9] (fun jv wr => ∃ (j : Nat) (G : List (Nat × Nat)), jv = .int .i64 j ∧ j ≤ q ∧ Hid (InS D E0 G q j) ∧ Own wr B [flatRowOf 46 2 (.slice (some ⟨g, 0, none⟩) l m) (edR G)] ∧ Below B w wr) (fun jv _ => (intOf jv).toNat)
      case atStart => exact ⟨q, G, rfl, Nat.le_refl _, hI, own, hb⟩
      case round =>
        clear own hb hI
        obtain ⟨j, G, rfl, hjq, hI, own, hb⟩ := hrel
        obtain ⟨wp, rfl⟩ : ∃ y : World, y = wr := ⟨_, rfl⟩
        have hBp := Nat.le_trans hB hb.size
        go_upto_region 4 with fail
        have ed : Ext wp wp.drew := inferInstance
        have ownd := own.ext (w' := wp.drew) (e := ed)
        have hbd := hb.trans (ed.below.mono hBp)
        by_cases hj0 : j = 0
        · have hPl := hid (hI.out.place hjq (.inl hj0))
          subst hj0
          refine wp_region_held_drew (S := fun u => True) (by kernel_rfl) trivial (fun hHeld0 => ?_)
          generalize wp.drew = wd at *
          refine wpAnyH_take (i := 0) (v := .int .i64 0) rfl (by kernel_rfl) (by kernel_rfl) (by kernel_rfl) (fun _ _ _ h => h) (Or.inl ⟨by rfl, by intro wx hx; go_simp⟩) (by assumption) ?_
          try simp only [List.getElem_toArray, List.getElem_cons_zero, Act.put, List.setIfInBounds_toArray, List.set_cons_zero, List.set_cons_succ]
          refine wpAnyH_take (i := 1) (v := .int .i64 0) rfl (by kernel_rfl) (by kernel_rfl) (by kernel_rfl) (fun _ _ _ h => h) (Or.inl ⟨by rfl, by intro wx hx; go_simp⟩) (by assumption) ?_
          try simp only [List.getElem_toArray, List.getElem_cons_succ, List.getElem_cons_zero, Act.put, List.setIfInBounds_toArray, List.set_cons_zero, List.set_cons_succ]
          refine wpAnyH_take (i := 2) (v := .bool false) rfl (by kernel_rfl) (by kernel_rfl) (by kernel_rfl) (fun _ _ _ h => h) (Or.inl ⟨by rfl, by intro wx hx; go_simp⟩) (by assumption) ?_
          try simp only [List.getElem_toArray, List.getElem_cons_succ, List.getElem_cons_zero, Act.put, List.setIfInBounds_toArray, List.set_cons_zero, List.set_cons_succ]
          refine wpAnyH_take (i := 3) (v := .bool false) rfl (by kernel_rfl) (by kernel_rfl) (by kernel_rfl) (fun _ _ _ h => h) (Or.inl ⟨by rfl, by intro wx hx; go_simp⟩) (by assumption) ?_
          try simp only [List.getElem_toArray, List.getElem_cons_succ, List.getElem_cons_zero, Act.put, List.setIfInBounds_toArray, List.set_cons_zero, List.set_cons_succ]
          refine wpAnyH_take (i := 4) (v := undef) rfl (by kernel_rfl) (by kernel_rfl) (by kernel_rfl) (fun _ _ _ h => h) (Or.inr ⟨by kernel_rfl, rfl⟩) (by assumption) ?_
          try simp only [List.getElem_toArray, List.getElem_cons_succ, List.getElem_cons_zero, Act.put, List.setIfInBounds_toArray, List.set_cons_zero, List.set_cons_succ]
          refine wpAnyH_take (i := 5) (v := undef) rfl (by kernel_rfl) (by kernel_rfl) (by kernel_rfl) (fun _ _ _ h => h) (Or.inr ⟨by kernel_rfl, rfl⟩) (by assumption) ?_
          try simp only [List.getElem_toArray, List.getElem_cons_succ, List.getElem_cons_zero, Act.put, List.setIfInBounds_toArray, List.set_cons_zero, List.set_cons_succ]
          refine wpAnyH_take (i := 6) (v := undef) rfl (by kernel_rfl) (by kernel_rfl) (by kernel_rfl) (fun _ _ _ h => h) (Or.inr ⟨by kernel_rfl, rfl⟩) (by assumption) ?_
          try simp only [List.getElem_toArray, List.getElem_cons_succ, List.getElem_cons_zero, Act.put, List.setIfInBounds_toArray, List.set_cons_zero, List.set_cons_succ]
          refine wpAnyH_take (i := 7) (v := undef) rfl (by kernel_rfl) (by kernel_rfl) (by kernel_rfl) (fun _ _ _ h => h) (Or.inr ⟨by kernel_rfl, rfl⟩) (by assumption) ?_
          try simp only [List.getElem_toArray, List.getElem_cons_succ, List.getElem_cons_zero, Act.put, List.setIfInBounds_toArray, List.set_cons_zero, List.set_cons_succ]
          refine wpAnyH_take (i := 8) (v := undef) rfl (by kernel_rfl) (by kernel_rfl) (by kernel_rfl) (fun _ _ _ h => h) (Or.inr ⟨by kernel_rfl, rfl⟩) (by assumption) ?_
          try simp only [List.getElem_toArray, List.getElem_cons_succ, List.getElem_cons_zero, Act.put, List.setIfInBounds_toArray, List.set_cons_zero, List.set_cons_succ]
          refine wpAnyH_take (i := 9) (v := undef) rfl (by kernel_rfl) (by kernel_rfl) (by kernel_rfl) (fun _ _ _ h => h) (Or.inr ⟨by kernel_rfl, rfl⟩) (by assumption) ?_
          try simp only [List.getElem_toArray, List.getElem_cons_succ, List.getElem_cons_zero, Act.put, List.setIfInBounds_toArray, List.set_cons_zero, List.set_cons_succ]
          refine wpAnyH_take (i := 10) (v := undef) rfl (by kernel_rfl) (by kernel_rfl) (by kernel_rfl) (fun _ _ _ h => h) (Or.inr ⟨by kernel_rfl, rfl⟩) (by assumption) ?_
          try simp only [List.getElem_toArray, List.getElem_cons_succ, List.getElem_cons_zero, Act.put, List.setIfInBounds_toArray, List.set_cons_zero, List.set_cons_succ]
          refine wpAnyH_take (i := 11) (v := undef) rfl (by kernel_rfl) (by kernel_rfl) (by kernel_rfl) (fun _ _ _ h => h) (Or.inr ⟨by kernel_rfl, rfl⟩) (by assumption) ?_
          try simp only [List.getElem_toArray, List.getElem_cons_succ, List.getElem_cons_zero, Act.put, List.setIfInBounds_toArray, List.set_cons_zero, List.set_cons_succ]
          refine wpAnyH_take (i := 12) (v := undef) rfl (by kernel_rfl) (by kernel_rfl) (by kernel_rfl) (fun _ _ _ h => h) (Or.inr ⟨by kernel_rfl, rfl⟩) (by assumption) ?_
          try simp only [List.getElem_toArray, List.getElem_cons_succ, List.getElem_cons_zero, Act.put, List.setIfInBounds_toArray, List.set_cons_zero, List.set_cons_succ]
          refine wpAnyH_take (i := 13) (v := undef) rfl (by kernel_rfl) (by kernel_rfl) (by kernel_rfl) (fun _ _ _ h => h) (Or.inr ⟨by kernel_rfl, rfl⟩) (by assumption) ?_
          try simp only [List.getElem_toArray, List.getElem_cons_succ, List.getElem_cons_zero, Act.put, List.setIfInBounds_toArray, List.set_cons_zero, List.set_cons_succ]
          refine wpAnyH_take (i := 14) (v := undef) rfl (by kernel_rfl) (by kernel_rfl) (by kernel_rfl) (fun _ _ _ h => h) (Or.inr ⟨by kernel_rfl, rfl⟩) (by assumption) ?_
          try simp only [List.getElem_toArray, List.getElem_cons_succ, List.getElem_cons_zero, Act.put, List.setIfInBounds_toArray, List.set_cons_zero, List.set_cons_succ]
          refine wpAnyH_take (i := 15) (v := undef) rfl (by kernel_rfl) (by kernel_rfl) (by kernel_rfl) (fun _ _ _ h => h) (Or.inr ⟨by kernel_rfl, rfl⟩) (by assumption) ?_
          try simp only [List.getElem_toArray, List.getElem_cons_succ, List.getElem_cons_zero, Act.put, List.setIfInBounds_toArray, List.set_cons_zero, List.set_cons_succ]
          refine wpAnyH_take (i := 16) (v := .bool false) rfl (by kernel_rfl) (by kernel_rfl) (by kernel_rfl) (fun _ _ _ h => h) (Or.inl ⟨by rfl, by intro wx hx; go_simp⟩) (by assumption) ?_
          try simp only [List.getElem_toArray, List.getElem_cons_succ, List.getElem_cons_zero, Act.put, List.setIfInBounds_toArray, List.set_cons_zero, List.set_cons_succ]
          refine wpAnyH_done (by kernel_rfl) ?_ _
          go_wp2_with fail
          go_roundw
          case rel => exact ⟨q + 1, G, by go_num, by omega, by omega, hPl, ownd, hbd⟩
          case measure => simp [intOf]; omega
        · have hGl := hI.out.len
          have hjl : j < G.length := by have := hl.out; omega
          obtain ⟨u, hu⟩ : ∃ u, G[j - 1]? = some u := ⟨_, List.getElem?_eq_getElem (by omega)⟩
          obtain ⟨v, hv⟩ : ∃ v, G[j]? = some v := ⟨_, List.getElem?_eq_getElem hjl⟩
          have hGn : ∀ e, e ∈ G → e.1 < 1000 ∧ e.2 < 1000 := fun e he => hE.out e ((hI.out.mem e).1 he)
          have hFd : IsFlat wp.drew (.slice (some ⟨g, 0, none⟩) l m) 2 (edR G) := edges_read ownd (n := 1000) (by omega) (by have := hl.out; omega) hGn
          obtain ⟨b1, o1, h1, cu0, cu1⟩ := edge_at hFd (w' := wp.drew) hu
          cases h1
          obtain ⟨b1, o1, h1, cv0, cv1⟩ := edge_at hFd (w' := wp.drew) hv
          cases h1
          simp only [Nat.zero_add] at cu0 cu1 cv0 cv1
          have hcm := hid (fun (W : World) (hW : Below B w W) => hf.out W hW v u ((hI.out.mem v).1 (List.mem_of_getElem? hv)) ((hI.out.mem u).1 (List.mem_of_getElem? hu)))
          have hjm : wrap64 ((j : Int) - 1) = ((j - 1 : Nat) : Int) := by unfold wrap64; omega
          have hjw : IntKind.i64.wrap ((j : Int) - 1) = (j : Int) - 1 := by exact IntWalk.i64_in _ (by omega)
          have hj1 : j - 1 < l := by have := hl.out; omega
          have hjl' : j < l := by have := hl.out; omega
          have hj1p : 1 ≤ j := by omega
          have hj0p : 0 < j := by omega
          have hIu := hid hu
          have hIv := hid hv
          clear hFd
          refine wp_region_held_drew (S := fun x => x.cell? ⟨g, (j - 1) * 2, none⟩ = some (.int .i64 (u.1 : Int)) ∧ x.cell? ⟨g, (j - 1) * 2 + 1, none⟩ = some (.int .i64 (u.2 : Int)) ∧ x.cell? ⟨g, j * 2, none⟩ = some (.int .i64 (v.1 : Int)) ∧ x.cell? ⟨g, j * 2 + 1, none⟩ = some (.int .i64 (v.2 : Int))) (by kernel_rfl) ⟨cu0, cu1, cv0, cv1⟩ (fun hHeld0 => ?_)
          generalize wp.drew = wd at *
          refine wpAnyH_take (i := 0) (v := .int .i64 j) rfl (by kernel_rfl) (by kernel_rfl) (by kernel_rfl) (fun _ _ _ h => h) (Or.inl ⟨by rfl, by intro wx hx; go_simp⟩) (by assumption) ?_
          try simp only [List.getElem_toArray, List.getElem_cons_zero, Act.put, List.setIfInBounds_toArray, List.set_cons_zero, List.set_cons_succ]
          refine wpAnyH_take (i := 1) (v := .int .i64 0) rfl (by kernel_rfl) (by kernel_rfl) (by kernel_rfl) (fun _ _ _ h => h) (Or.inl ⟨by rfl, by intro wx hx; go_simp⟩) (by assumption) ?_
          try simp only [List.getElem_toArray, List.getElem_cons_succ, List.getElem_cons_zero, Act.put, List.setIfInBounds_toArray, List.set_cons_zero, List.set_cons_succ]
          refine wpAnyH_take (i := 2) (v := .bool true) rfl (by kernel_rfl) (by kernel_rfl) (by kernel_rfl) (fun _ _ _ h => h) (Or.inl ⟨by rfl, by intro wx hx; go_simp⟩) (by assumption) ?_
          try simp only [List.getElem_toArray, List.getElem_cons_succ, List.getElem_cons_zero, Act.put, List.setIfInBounds_toArray, List.set_cons_zero, List.set_cons_succ]
          refine wpAnyH_take (i := 3) (v := .bool true) rfl (by kernel_rfl) (by kernel_rfl) (by kernel_rfl) (fun _ _ _ h => h) (Or.inl ⟨by rfl, by intro wx hx; go_simp⟩) (by assumption) ?_
          try simp only [List.getElem_toArray, List.getElem_cons_succ, List.getElem_cons_zero, Act.put, List.setIfInBounds_toArray, List.set_cons_zero, List.set_cons_succ]
          refine wpAnyH_take (i := 4) (v := .func (.func id) #[] caps) rfl (by kernel_rfl) (by kernel_rfl) (by kernel_rfl) (fun _ _ _ h => h) (Or.inl ⟨by rfl, by intro wx hx; go_simp⟩) (by assumption) ?_
          try simp only [List.getElem_toArray, List.getElem_cons_succ, List.getElem_cons_zero, Act.put, List.setIfInBounds_toArray, List.set_cons_zero, List.set_cons_succ]
          refine wpAnyH_take (i := 5) (v := .slice (some ⟨g, 0, none⟩) l m) rfl (by kernel_rfl) (by kernel_rfl) (by kernel_rfl) (fun _ _ _ h => h) (Or.inl ⟨by rfl, by intro wx hx; go_simp⟩) (by assumption) ?_
          try simp only [List.getElem_toArray, List.getElem_cons_succ, List.getElem_cons_zero, Act.put, List.setIfInBounds_toArray, List.set_cons_zero, List.set_cons_succ]
          refine wpAnyH_take (i := 6) (v := .int .i64 j) rfl (by kernel_rfl) (by kernel_rfl) (by kernel_rfl) (fun _ _ _ h => h) (Or.inl ⟨by rfl, by intro wx hx; go_simp⟩) (by assumption) ?_
          try simp only [List.getElem_toArray, List.getElem_cons_succ, List.getElem_cons_zero, Act.put, List.setIfInBounds_toArray, List.set_cons_zero, List.set_cons_succ]
          refine wpAnyH_take (i := 7) (v := .pointer (some ⟨g, j * 2, none⟩)) rfl (by kernel_rfl) (by kernel_rfl) (by kernel_rfl) (fun _ _ _ h => h) (Or.inl ⟨by rfl, by intro wx hx; go_simp⟩) (by assumption) ?_
          try simp only [List.getElem_toArray, List.getElem_cons_succ, List.getElem_cons_zero, Act.put, List.setIfInBounds_toArray, List.set_cons_zero, List.set_cons_succ]
          refine wpAnyH_take (i := 8) (v := .agg #[.int .i64 (v.1 : Int), .int .i64 (v.2 : Int)]) rfl (by kernel_rfl) (by kernel_rfl) (by kernel_rfl) (fun _ _ _ h => h) (Or.inl ⟨by rfl, by intro wx hx; obtain ⟨_, _, _, _⟩ := hx; go_simp⟩) (by assumption) ?_
          try simp only [List.getElem_toArray, List.getElem_cons_succ, List.getElem_cons_zero, Act.put, List.setIfInBounds_toArray, List.set_cons_zero, List.set_cons_succ]
          refine wpAnyH_take (i := 9) (v := .slice (some ⟨g, 0, none⟩) l m) rfl (by kernel_rfl) (by kernel_rfl) (by kernel_rfl) (fun _ _ _ h => h) (Or.inl ⟨by rfl, by intro wx hx; go_simp⟩) (by assumption) ?_
          try simp only [List.getElem_toArray, List.getElem_cons_succ, List.getElem_cons_zero, Act.put, List.setIfInBounds_toArray, List.set_cons_zero, List.set_cons_succ]
          refine wpAnyH_take (i := 10) (v := .int .i64 j) rfl (by kernel_rfl) (by kernel_rfl) (by kernel_rfl) (fun _ _ _ h => h) (Or.inl ⟨by rfl, by intro wx hx; go_simp⟩) (by assumption) ?_
          try simp only [List.getElem_toArray, List.getElem_cons_succ, List.getElem_cons_zero, Act.put, List.setIfInBounds_toArray, List.set_cons_zero, List.set_cons_succ]
          refine wpAnyH_take (i := 11) (v := .int .i64 ((j : Int) - 1)) rfl (by kernel_rfl) (by kernel_rfl) (by kernel_rfl) (fun _ _ _ h => h) (Or.inl ⟨by rfl, by intro wx hx; go_simp⟩) (by assumption) ?_
          try simp only [List.getElem_toArray, List.getElem_cons_succ, List.getElem_cons_zero, Act.put, List.setIfInBounds_toArray, List.set_cons_zero, List.set_cons_succ]
          refine wpAnyH_take (i := 12) (v := .pointer (some ⟨g, (j - 1) * 2, none⟩)) rfl (by kernel_rfl) (by kernel_rfl) (by kernel_rfl) (fun _ _ _ h => h) (Or.inl ⟨by rfl, by intro wx hx; go_simp <;> (intro h; exfalso; omega)⟩) (by assumption) ?_
          try simp only [List.getElem_toArray, List.getElem_cons_succ, List.getElem_cons_zero, Act.put, List.setIfInBounds_toArray, List.set_cons_zero, List.set_cons_succ]
          refine wpAnyH_take (i := 13) (v := .agg #[.int .i64 (u.1 : Int), .int .i64 (u.2 : Int)]) rfl (by kernel_rfl) (by kernel_rfl) (by kernel_rfl) (fun _ _ _ h => h) (Or.inl ⟨by rfl, by intro wx hx; obtain ⟨_, _, _, _⟩ := hx; go_simp⟩) (by assumption) ?_
          try simp only [List.getElem_toArray, List.getElem_cons_succ, List.getElem_cons_zero, Act.put, List.setIfInBounds_toArray, List.set_cons_zero, List.set_cons_succ]
          refine wpAnyH_ready (rs := [14]) (by kernel_rfl) (by simp) ?_
          refine AllReadyH.cons rfl (fun K hK => ?_) AllReadyH.nil
          go_simp
          with_reducible refine (hcm.out wd hbd).mono ?_
          rintro e w3 ⟨rfl, e3⟩
          have own3 := ownd.ext (w' := w3) (e := e3)
          have hBd := Nat.le_trans hB hbd.size
          have hb3 := hbd.trans (e3.below.mono hBd)
          have f0 := e3.cell cu0
          have f1 := e3.cell cu1
          have f2 := e3.cell cv0
          have f3 := e3.cell cv1
          have hB3 := Nat.le_trans hB hb3.size
          clear ownd hbd cu0 cu1 cv0 cv1 hHeld0 ed own hb
          obtain ⟨cm, hcmv⟩ : ∃ c, c = D v.1 v.2 - D u.1 u.2 := ⟨_, rfl⟩
          rw [← hcmv]
          by_cases hlt : cm < 0
          · have hSw := hid (hI.out.swap hj1p hjq hjl (fun u' v' hu' hv' => by
              rw [hIu.out] at hu'
              rw [hIv.out] at hv'
              cases hu'
              cases hv'
              omega))
            have hsc := hid (swp_cells hj1p hjl hIu.out hIv.out)
            replace hcmv := hid hcmv
            go_wp2_with fail
            refine hK.out _ _ ⟨f0, f1, f2, f3⟩ (fun _ => ?_)
            clear hK K
            try simp only [List.getElem_toArray, List.getElem_cons_succ, List.getElem_cons_zero, Act.put, List.setIfInBounds_toArray, List.set_cons_zero, List.set_cons_succ]
            refine wpAnyH_take (i := 15) (v := .bool true) rfl (by kernel_rfl) (by kernel_rfl) (by kernel_rfl) (fun _ _ _ h => h) (Or.inl ⟨by rfl, by intro wx hx; go_simp⟩) (by assumption) ?_
            try simp only [List.getElem_toArray, List.getElem_cons_succ, List.getElem_cons_zero, Act.put, List.setIfInBounds_toArray, List.set_cons_zero, List.set_cons_succ]
            refine wpAnyH_take (i := 16) (v := .bool true) rfl (by kernel_rfl) (by kernel_rfl) (by kernel_rfl) (fun _ _ _ h => h) (Or.inl ⟨by rfl, by intro wx hx; go_simp⟩) (by assumption) ?_
            try simp only [List.getElem_toArray, List.getElem_cons_succ, List.getElem_cons_zero, Act.put, List.setIfInBounds_toArray, List.set_cons_zero, List.set_cons_succ]
            refine wpAnyH_done (by kernel_rfl) ?_ _
            go_upto_region 6 with fail
            have ed : Ext w3 w3.drew := inferInstance
            have ownd := own3.ext (w' := w3.drew) (e := ed)
            have hbd := hb3.trans (ed.below.mono hB3)
            have g0 := ed.cell f0
            have g1 := ed.cell f1
            have g2 := ed.cell f2
            have g3 := ed.cell f3
            have ownR := edges_row ownd (show l = G.length by rw [hGl]; exact hl.out)
            have hfr : ∀ k, w3.drew.frozen? ⟨g, k, none⟩ = false := fun k => (ownR.head).frozenAt k
            have k0 := hfr ((j - 1) * 2)
            have k1 := hfr ((j - 1) * 2 + 1)
            have k2 := hfr (j * 2)
            have k3 := hfr (j * 2 + 1)
            clear hfr
            refine wp_region_L_drew (t := 15) (S := fun x => x.cell? ⟨g, (j - 1) * 2, none⟩ = some (.int .i64 (u.1 : Int)) ∧ x.cell? ⟨g, (j - 1) * 2 + 1, none⟩ = some (.int .i64 (u.2 : Int)) ∧ x.cell? ⟨g, j * 2, none⟩ = some (.int .i64 (v.1 : Int)) ∧ x.cell? ⟨g, j * 2 + 1, none⟩ = some (.int .i64 (v.2 : Int))) (by kernel_rfl) ⟨g0, g1, g2, g3⟩ (fun hHeld0 => ?_)
            generalize w3.drew = wd2 at *
            refine wpAnyL_takeU (i := 0) (v := .slice (some ⟨g, 0, none⟩) l m) rfl (by kernel_rfl) (by kernel_rfl) (by kernel_rfl) (fun _ _ _ h => h) (Or.inl ⟨by rfl, by intro wx hx; go_simp⟩) (by first | exact Or.inr (by assumption) | exact Or.inl (by kernel_rfl)) ?_
            try simp only [List.getElem_toArray, List.getElem_cons_zero, Act.put, List.setIfInBounds_toArray, List.set_cons_zero, List.set_cons_succ]
            refine wpAnyL_takeU (i := 1) (v := .int .i64 j) rfl (by kernel_rfl) (by kernel_rfl) (by kernel_rfl) (fun _ _ _ h => h) (Or.inl ⟨by rfl, by intro wx hx; go_simp⟩) (by first | exact Or.inr (by assumption) | exact Or.inl (by kernel_rfl)) ?_
            try simp only [List.getElem_toArray, List.getElem_cons_succ, List.getElem_cons_zero, Act.put, List.setIfInBounds_toArray, List.set_cons_zero, List.set_cons_succ]
            refine wpAnyL_takeU (i := 2) (v := .slice (some ⟨g, 0, none⟩) l m) rfl (by kernel_rfl) (by kernel_rfl) (by kernel_rfl) (fun _ _ _ h => h) (Or.inl ⟨by rfl, by intro wx hx; go_simp⟩) (by first | exact Or.inr (by assumption) | exact Or.inl (by kernel_rfl)) ?_
            try simp only [List.getElem_toArray, List.getElem_cons_succ, List.getElem_cons_zero, Act.put, List.setIfInBounds_toArray, List.set_cons_zero, List.set_cons_succ]
            refine wpAnyL_takeU (i := 3) (v := .int .i64 j) rfl (by kernel_rfl) (by kernel_rfl) (by kernel_rfl) (fun _ _ _ h => h) (Or.inl ⟨by rfl, by intro wx hx; go_simp⟩) (by first | exact Or.inr (by assumption) | exact Or.inl (by kernel_rfl)) ?_
            try simp only [List.getElem_toArray, List.getElem_cons_succ, List.getElem_cons_zero, Act.put, List.setIfInBounds_toArray, List.set_cons_zero, List.set_cons_succ]
            refine wpAnyL_takeU (i := 4) (v := .int .i64 ((j : Int) - 1)) rfl (by kernel_rfl) (by kernel_rfl) (by kernel_rfl) (fun _ _ _ h => h) (Or.inl ⟨by rfl, by intro wx hx; go_simp⟩) (by first | exact Or.inr (by assumption) | exact Or.inl (by kernel_rfl)) ?_
            try simp only [List.getElem_toArray, List.getElem_cons_succ, List.getElem_cons_zero, Act.put, List.setIfInBounds_toArray, List.set_cons_zero, List.set_cons_succ]
            refine wpAnyL_takeU (i := 5) (v := .slice (some ⟨g, 0, none⟩) l m) rfl (by kernel_rfl) (by kernel_rfl) (by kernel_rfl) (fun _ _ _ h => h) (Or.inl ⟨by rfl, by intro wx hx; go_simp⟩) (by first | exact Or.inr (by assumption) | exact Or.inl (by kernel_rfl)) ?_
            try simp only [List.getElem_toArray, List.getElem_cons_succ, List.getElem_cons_zero, Act.put, List.setIfInBounds_toArray, List.set_cons_zero, List.set_cons_succ]
            refine wpAnyL_takeU (i := 6) (v := .int .i64 j) rfl (by kernel_rfl) (by kernel_rfl) (by kernel_rfl) (fun _ _ _ h => h) (Or.inl ⟨by rfl, by intro wx hx; go_simp⟩) (by first | exact Or.inr (by assumption) | exact Or.inl (by kernel_rfl)) ?_
            try simp only [List.getElem_toArray, List.getElem_cons_succ, List.getElem_cons_zero, Act.put, List.setIfInBounds_toArray, List.set_cons_zero, List.set_cons_succ]
            refine wpAnyL_takeU (i := 7) (v := .int .i64 ((j : Int) - 1)) rfl (by kernel_rfl) (by kernel_rfl) (by kernel_rfl) (fun _ _ _ h => h) (Or.inl ⟨by rfl, by intro wx hx; go_simp⟩) (by first | exact Or.inr (by assumption) | exact Or.inl (by kernel_rfl)) ?_
            try simp only [List.getElem_toArray, List.getElem_cons_succ, List.getElem_cons_zero, Act.put, List.setIfInBounds_toArray, List.set_cons_zero, List.set_cons_succ]
            refine wpAnyL_takeU (i := 8) (v := .pointer (some ⟨g, (j - 1) * 2, none⟩)) rfl (by kernel_rfl) (by kernel_rfl) (by kernel_rfl) (fun _ _ _ h => h) (Or.inl ⟨by rfl, by intro wx hx; go_simp <;> (intro h; exfalso; omega)⟩) (by first | exact Or.inr (by assumption) | exact Or.inl (by kernel_rfl)) ?_
            try simp only [List.getElem_toArray, List.getElem_cons_succ, List.getElem_cons_zero, Act.put, List.setIfInBounds_toArray, List.set_cons_zero, List.set_cons_succ]
            refine wpAnyL_take (i := 9) (v := .agg #[.int .i64 (u.1 : Int), .int .i64 (u.2 : Int)]) rfl (by kernel_rfl) (by kernel_rfl) (by kernel_rfl) (fun _ _ _ h => h) (Or.inl ⟨by rfl, by intro wx hx; obtain ⟨_, _, _, _⟩ := hx; go_simp⟩) (by assumption) ?_
            try simp only [List.getElem_toArray, List.getElem_cons_succ, List.getElem_cons_zero, Act.put, List.setIfInBounds_toArray, List.set_cons_zero, List.set_cons_succ]
            refine wpAnyL_takeU (i := 10) (v := .slice (some ⟨g, 0, none⟩) l m) rfl (by kernel_rfl) (by kernel_rfl) (by kernel_rfl) (fun _ _ _ h => h) (Or.inl ⟨by rfl, by intro wx hx; go_simp⟩) (by first | exact Or.inr (by assumption) | exact Or.inl (by kernel_rfl)) ?_
            try simp only [List.getElem_toArray, List.getElem_cons_succ, List.getElem_cons_zero, Act.put, List.setIfInBounds_toArray, List.set_cons_zero, List.set_cons_succ]
            refine wpAnyL_takeU (i := 11) (v := .int .i64 j) rfl (by kernel_rfl) (by kernel_rfl) (by kernel_rfl) (fun _ _ _ h => h) (Or.inl ⟨by rfl, by intro wx hx; go_simp⟩) (by first | exact Or.inr (by assumption) | exact Or.inl (by kernel_rfl)) ?_
            try simp only [List.getElem_toArray, List.getElem_cons_succ, List.getElem_cons_zero, Act.put, List.setIfInBounds_toArray, List.set_cons_zero, List.set_cons_succ]
            refine wpAnyL_takeU (i := 12) (v := .pointer (some ⟨g, j * 2, none⟩)) rfl (by kernel_rfl) (by kernel_rfl) (by kernel_rfl) (fun _ _ _ h => h) (Or.inl ⟨by rfl, by intro wx hx; go_simp⟩) (by first | exact Or.inr (by assumption) | exact Or.inl (by kernel_rfl)) ?_
            try simp only [List.getElem_toArray, List.getElem_cons_succ, List.getElem_cons_zero, Act.put, List.setIfInBounds_toArray, List.set_cons_zero, List.set_cons_succ]
            refine wpAnyL_take (i := 13) (v := .agg #[.int .i64 (v.1 : Int), .int .i64 (v.2 : Int)]) rfl (by kernel_rfl) (by kernel_rfl) (by kernel_rfl) (fun _ _ _ h => h) (Or.inl ⟨by rfl, by intro wx hx; obtain ⟨_, _, _, _⟩ := hx; go_simp⟩) (by assumption) ?_
            try simp only [List.getElem_toArray, List.getElem_cons_succ, List.getElem_cons_zero, Act.put, List.setIfInBounds_toArray, List.set_cons_zero, List.set_cons_succ]
            refine wpAnyL_takeU (i := 14) (v := .pointer (some ⟨g, j * 2, none⟩)) rfl (by kernel_rfl) (by kernel_rfl) (by kernel_rfl) (fun _ _ _ h => h) (Or.inl ⟨by rfl, by intro wx hx; go_simp⟩) (by first | exact Or.inr (by assumption) | exact Or.inl (by kernel_rfl)) ?_
            try simp only [List.getElem_toArray, List.getElem_cons_succ, List.getElem_cons_zero, Act.put, List.setIfInBounds_toArray, List.set_cons_zero, List.set_cons_succ]
            refine wpAnyL_ready (rs := [15]) (by kernel_rfl) (by simp) ?_
            refine AllReadyL.cons rfl (fun K hK => ?_) AllReadyL.nil
            go_simp
            refine hK.out _ _ (.inl rfl) (fun _ => ?_)
            clear hK K
            try simp only [List.getElem_toArray, List.getElem_cons_succ, List.getElem_cons_zero, Act.put, List.setIfInBounds_toArray, List.set_cons_zero, List.set_cons_succ]
            refine wpAnyL_takeU (i := 16) (v := .pointer (some ⟨g, (j - 1) * 2, none⟩)) rfl (by kernel_rfl) (by kernel_rfl) (by kernel_rfl) (fun _ _ _ h => h) (Or.inl ⟨by rfl, by intro wx hx; go_simp <;> (intro h; exfalso; omega)⟩) (by first | exact Or.inr (by assumption) | exact Or.inl (by kernel_rfl)) ?_
            try simp only [List.getElem_toArray, List.getElem_cons_succ, List.getElem_cons_zero, Act.put, List.setIfInBounds_toArray, List.set_cons_zero, List.set_cons_succ]
            refine wpAnyL_ready (rs := [17]) (by kernel_rfl) (by simp) ?_
            refine AllReadyL.cons rfl (fun K hK => ?_) AllReadyL.nil
            go_simp
            refine hK.out _ _ (.inl rfl) (fun _ => ?_)
            clear hK K
            try simp only [List.getElem_toArray, List.getElem_cons_succ, List.getElem_cons_zero, Act.put, List.setIfInBounds_toArray, List.set_cons_zero, List.set_cons_succ]
            refine wpAnyL_done (by kernel_rfl) ?_ _
            have s1 := ow_set (A := []) (L := []) ownR (j * 2) (.int .i64 (u.1 : Int))
            have s2 := ow_set (A := []) (L := []) s1 (j * 2 + 1) (.int .i64 (u.2 : Int))
            have s3 := ow_set (A := []) (L := []) s2 ((j - 1) * 2) (.int .i64 (v.1 : Int))
            have s4 := ow_set (A := []) (L := []) s3 ((j - 1) * 2 + 1) (.int .i64 (v.2 : Int))
            rw [hsc.out] at s4
            have hb4 := (((hbd.setCell hgB (p := ⟨g, j * 2, none⟩) (.int .i64 (u.1 : Int))).setCell hgB (p := ⟨g, j * 2 + 1, none⟩) (.int .i64 (u.2 : Int))).setCell hgB (p := ⟨g, (j - 1) * 2, none⟩) (.int .i64 (v.1 : Int))).setCell hgB (p := ⟨g, (j - 1) * 2 + 1, none⟩) (.int .i64 (v.2 : Int))
            have hSl := hid (show l = (swpL G j).length by rw [hSw.out.len]; exact hl.out)
            have own5 : Own ((((wd2.setCell ⟨g, j * 2, none⟩ (.int .i64 (u.1 : Int))).setCell ⟨g, j * 2 + 1, none⟩ (.int .i64 (u.2 : Int))).setCell ⟨g, (j - 1) * 2, none⟩ (.int .i64 (v.1 : Int))).setCell ⟨g, (j - 1) * 2 + 1, none⟩ (.int .i64 (v.2 : Int))) B [flatRowOf 46 2 (.slice (some ⟨g, 0, none⟩) l m) (edR (swpL G j))] := by
              unfold flatRowOf
              rw [edR_len, ← hSl.out]
              exact s4
            clear s1 s2 s3 s4 k0 k1 k2 k3 g0 g1 g2 g3 hHeld0 ownR ownd hbd own3 hb3 f0 f1 f2 f3 ed
            generalize (((wd2.setCell ⟨g, j * 2, none⟩ (.int .i64 (u.1 : Int))).setCell ⟨g, j * 2 + 1, none⟩ (.int .i64 (u.2 : Int))).setCell ⟨g, (j - 1) * 2, none⟩ (.int .i64 (v.1 : Int))).setCell ⟨g, (j - 1) * 2 + 1, none⟩ (.int .i64 (v.2 : Int)) = w9 at *
            go_wp2_with fail
            go_roundw
            case rel => exact ⟨j - 1, swpL G j, by go_num, by omega, hSw, own5, hb4⟩
            case measure => simp [intOf]; omega
          · have hPl := hid (hI.out.place hjq (.inr (fun u' v' hu' hv' => by
              rw [hIu.out] at hu'
              rw [hIv.out] at hv'
              cases hu'
              cases hv'
              omega)))
            replace hcmv := hid hcmv
            go_wp2_with fail
            refine hK.out _ _ ⟨f0, f1, f2, f3⟩ (fun _ => ?_)
            clear hK K
            try simp only [List.getElem_toArray, List.getElem_cons_succ, List.getElem_cons_zero, Act.put, List.setIfInBounds_toArray, List.set_cons_zero, List.set_cons_succ]
            refine wpAnyH_take (i := 15) (v := .bool false) rfl (by kernel_rfl) (by kernel_rfl) (by kernel_rfl) (fun _ _ _ h => h) (Or.inl ⟨by rfl, by intro wx hx; go_simp⟩) (by assumption) ?_
            try simp only [List.getElem_toArray, List.getElem_cons_succ, List.getElem_cons_zero, Act.put, List.setIfInBounds_toArray, List.set_cons_zero, List.set_cons_succ]
            refine wpAnyH_take (i := 16) (v := .bool false) rfl (by kernel_rfl) (by kernel_rfl) (by kernel_rfl) (fun _ _ _ h => h) (Or.inl ⟨by rfl, by intro wx hx; go_simp⟩) (by assumption) ?_
            try simp only [List.getElem_toArray, List.getElem_cons_succ, List.getElem_cons_zero, Act.put, List.setIfInBounds_toArray, List.set_cons_zero, List.set_cons_succ]
            refine wpAnyH_done (by kernel_rfl) ?_ _
            go_wp2_with fail
            go_roundw
            case rel => exact ⟨q + 1, G, by go_num, by omega, by omega, hPl, own3, hb3⟩
            case measure => simp [intOf]; omega
    · have hfin := hI.out.fin (by have := hI.out.len; have := hl.out; omega) (by have := hI.out.len; have := hl.out; omega)
      go_wp2_with fail
      refine bodyPost_end (v := .tuple #[]) (by simp [results, Try.results96, go_sem]) rfl ?_
      exact ⟨rfl, G, hfin, hI.out.same, hI.out.mem, hI.out.len, own, hb⟩
end Go.Proofs.Ytnlbjbnjjkilhaa
