/- The reference's least prices walked: l7Rise, LeastPrices. -/
import Derived.Test.YtllfchcocgdcjaaGreatRzP
import Derived.Test.YtllfchcocgdcjaaGreatRcF
namespace Go.Proofs.YtllfchcocgdcjaaGreat
open Go.RowKit

def RisePost (k : Nat) (c : Nat → Nat → Int) (n m : Nat) (f : Nat → Nat) (w : World) (e : Ending) (w' : World) : Prop :=
  ∃ gp gr pr r, e = .returned (.tuple #[.slice (some ⟨gp, 0, none⟩) n n, .slice (some ⟨gr, 0, none⟩) m m]) ∧ Own w' w.heap.size [iA gr m m r, iA gp n n pr] ∧ (∀ i, i < n → 0 ≤ pr i ∧ pr i ≤ 99999) ∧ Low (Al k) c n m f pr ∧ Cert (Al k) c n m f pr r ∧ Ext w w'
set_option maxHeartbeats 6400000 in
set_option maxRecDepth 100000 in
theorem l7Rise_any {v va vX vb : Value} {M : List (List Int)} {a X : List Int} {f : Nat → Nat} {p q : Nat → Int} {w0 w : World} [Ext w0 w] (hm : IsMet w0 v M) (ha : IsInts w0 va a) (hXi : IsInts w0 vX X) (hb : IsInts w0 vb (lsN X.length f)) (hs : srvB M a X = true) (hF : FlowOk a.length (flC M a X) X.length (a.length + X.length) f p q) :
    Calls Tryz.prog 29 #[v, va, vX, vb] w (RisePost a.length (flC M a X) X.length (a.length + X.length) f w) := by
  have hm' := hm
  have ha' := ha
  have hX' := hXi
  have hb' := hb
  obtain ⟨v1, rfl, hR⟩ := hm
  obtain ⟨a1, c1, rfl, l1⟩ := hR.form
  obtain ⟨db, mb, rfl, lb⟩ := hb.form
  obtain ⟨da, ma, rfl, la⟩ := ha.form
  obtain ⟨dx, mx, rfl, lx⟩ := hXi.form
  obtain ⟨hM, hal, hab, hXb, hXl⟩ := srv_pts hs
  rw [lsN_len] at hb ⊢
  clear lb
  obtain ⟨c, hcE⟩ : ∃ c, c = flC M a X := ⟨_, rfl⟩
  have hG := hid (show ∀ (x l : Nat), x < X.length → l < a.length + x → ∀ u, Ext w0 u → Calls Tryz.prog 49 #[.agg #[.slice a1 M.length c1], .slice da a.length ma, .slice dx X.length mx, .int .i64 l, .int .i64 x] u fun e w' => e = .returned (.int .i64 (c x l)) ∧ Ext u w' from fun x l hx hl u eu => by
    rw [hcE]
    exact l7Gap_any (w0 := w0) (w := u) hm' ha' hX' hM hab hXb hx hl (by omega))
  have hcb := hid (show ∀ i l, i < X.length → alB a.length i l = true → 0 ≤ c i l ∧ c i l ≤ 99 from fun i l hi h => by rw [hcE]; exact srv_cost hs hi h)
  rw [← hcE] at hF ⊢
  obtain ⟨hfM, hfC, hpb⟩ := hF
  have hbr := hid (show ∀ u, Ext w0 u → ∀ i, i < X.length → ∃ bb ob, db = some ⟨bb, ob, none⟩ ∧ u.cell? ⟨bb, ob + i, none⟩ = some (.int .i64 (f i : Nat)) from fun u eu i hi => by
    obtain ⟨bb, ob, hd, hcx⟩ := hb'.at (w' := u) (k := i) (by rw [lsN_len]; exact hi)
    rw [lsN_at hi] at hcx
    exact ⟨bb, ob, hd, hcx⟩)
  clear hs hM hab hXb
  replace hcE := hid hcE
  replace hfM := hid hfM
  replace hfC := hid hfC
  replace hpb := hid hpb
  have hRz0 := hid (Rz.begin (k := a.length) (c := c) (n := X.length) (m := a.length + X.length) (f := f) (r := fun _ => 0) (pr := fun _ => 0) (fun _ _ => Int.le_refl _) (fun _ _ => Int.le_refl _) (fun p' q' h => ⟨fun i hi => by
    have h1 := cert_ge h hfM.out hi
    have h2 := hcb.out i (f i) hi (hfM.out.1 i hi).2
    omega, h.1.1⟩))
  go_enter Tryz.func29, Tryz.ntmps29
  go_upto_region 1 with fail
  have e1 : Ext w (w.alloc (.cells #[.slice a1 M.length c1] 26)) := inferInstance
  have x0 : (w.alloc (.cells #[.slice a1 M.length c1] 26)).cell? ⟨w.heap.size, 0, none⟩ = some (.slice a1 M.length c1) := by go_simp
  obtain ⟨bx, hbx⟩ : ∃ q, q = w.heap.size := ⟨_, rfl⟩
  rw [← hbx] at x0 ⊢
  generalize w.alloc (.cells #[.slice a1 M.length c1] 26) = w1 at *
  obtain ⟨B, hB⟩ : ∃ b, b = w1.heap.size := ⟨_, rfl⟩
  have hEx := hid (show ∀ u, Below B w1 u → Ext w1 u from fun u h => ⟨by rw [← hB]; exact h⟩)
  have hBs := hid (show ∀ u, Below B w1 u → B ≤ u.heap.size from fun u h => by rw [hB]; exact h.size)
  have own0 : Own w1 B [] := Own.nil _ _
  have hB1 : B ≤ w1.heap.size := by rw [hB]; exact Nat.le_refl _
  have hwB : bx ≤ B := by rw [hB, hbx]; exact e1.size
  replace hB := hid hB
  replace hbx := hid hbx
  have e01 : Ext w0 w1 := Ext.trans ‹Ext w0 w› e1
  go_upto_region 2 with (at_make; refine wpList_makeA rfl _ _ _ rfl elemInt X.length rfl rfl (by omega) (by omega) rfl own0 hB1 ?_; intro gp w2 own2 e2 b2)
  have hB2 := hBs.out _ b2
  clear own0 hB1
  go_upto_region 4 with (at_make; refine wpList_makeA rfl _ _ _ rfl elemInt (a.length + X.length) rfl rfl (by omega) (by omega) rfl own2 hB2 ?_; intro gr w3 own3 e3 b3)
  have b3' := b2.trans b3
  clear own2 hB2 e2 b2 e3 b3
  go_loopg [12] ((sgTo q (a.length + X.length) - sgTo (fun _ => 0) (a.length + X.length)).toNat + 1) (fun gk cv wr => ∃ (r pr : Nat → Int) (ch : Bool), cv = .bool ch ∧ Hid (∃ r0, Rz a.length c X.length (a.length + X.length) f r0 r pr false 0 0 false) ∧ Hid (ch = false → ∃ r0, Rz a.length c X.length (a.length + X.length) f r0 r pr false X.length 0 false) ∧ gk = (sgTo q (a.length + X.length) - sgTo r (a.length + X.length)).toNat + (if ch then 1 else 0) ∧ Own wr B [iA gr (a.length + X.length) (a.length + X.length) r, iA gp X.length X.length pr] ∧ Below B w1 wr)
  case atStart => exact ⟨fun _ => 0, fun _ => 0, true, rfl, hid ⟨_, hRz0.out⟩, hid (fun h => by cases h), rfl, own3, b3'⟩
  case round =>
    clear own3 b3' hRz0
    obtain ⟨r, pr, ch, rfl, hR0, hfx, hgk, own, hb1⟩ := hrel
    obtain ⟨wa, rfl⟩ : ∃ y : World, y = wr := ⟨_, rfl⟩
    cases ch with
    | false =>
      obtain ⟨r0, hRz⟩ := hfx.out rfl
      have hfin := hid (hRz.fin hfC.out)
      have hprb := hid (show ∀ i, i < X.length → 0 ≤ pr i ∧ pr i ≤ 99999 from fun i hi => by
        have h1 := hRz.lp i hi
        have h2 := (hRz.up p q hfC.out).1 i hi
        have h3 := hpb.out i hi
        omega)
      have eF : Ext w wa := Ext.trans e1 (hEx.out _ hb1)
      clear hgk hfx hRz
      go_wp2_with fail
      refine bodyPost_ret (v := .tuple #[.slice (some ⟨gp, 0, none⟩) X.length X.length, .slice (some ⟨gr, 0, none⟩) (a.length + X.length) (a.length + X.length)]) (by simp [results, Tryz.results29, go_sem]) rfl ?_
      exact ⟨gp, gr, pr, r, rfl, own.mono (by rw [← hbx.out]; exact hwB), hprb.out, hfin.out.1, hfin.out.2, eF⟩
    | true =>
      obtain ⟨r00, hR00⟩ := hR0.out
      have hRz := hid (Rz.begin hR00.lo hR00.lp hR00.up)
      replace hgk := hid hgk
      clear hR0 hfx hR00
      go_upto_region 7 with fail
      go_loopw [12, 13] (fun cv iv wr => ∃ (i : Nat) (r2 pr2 : Nat → Int) (ch2 : Bool), i ≤ X.length ∧ iv = .int .i64 i ∧ cv = .bool ch2 ∧ Hid (Rz a.length c X.length (a.length + X.length) f r r2 pr2 ch2 i 0 false) ∧ Own wr B [iA gr (a.length + X.length) (a.length + X.length) r2, iA gp X.length X.length pr2] ∧ Below B w1 wr) (fun _ iv _ => X.length - (intOf iv).toNat)
      case atStart => exact ⟨0, r, pr, false, by omega, rfl, rfl, hRz, own, hb1⟩
      case round =>
        clear own hb1 hRz
        obtain ⟨i, r2, pr2, ch2, hi, rfl, rfl, hRz, own, hb1⟩ := hrel
        obtain ⟨wq, rfl⟩ : ∃ y : World, y = wr := ⟨_, rfl⟩
        by_cases hlt : i < X.length
        · have eq : Ext w1 wq := hEx.out _ hb1
          have e0q : Ext w0 wq := Ext.trans e01 eq
          obtain ⟨bb, ob, hd, hcx⟩ := hbr.out wq e0q i hlt
          subst hd
          have hfi := (hfM.out.1 i hlt).1
          have hfa := alB_iff.1 (hfM.out.1 i hlt).2
          obtain ⟨z1, _⟩ := own.aAt (k := 0) rfl (j := f i) hfi
          have x1 := eq.cell x0
          have hr0 := hRz.out.lo (f i) hfi
          have hr1 := (hRz.out.up p q hfC.out).2 (f i) hfi
          have hr2 := hfC.out.2.1 i hlt
          have hr3 := hpb.out i hlt
          have hcv := hcb.out i (f i) hlt (hfM.out.1 i hlt).2
          have hGx := hid (hG.out i (f i) hlt hfa)
          have hRz2 := hid (hRz.out.price hfM.out (fun i l hi h => (hcb.out i l hi h).1) hlt)
          have hrr : 0 ≤ r2 (f i) ∧ r2 (f i) ≤ 10000 := by omega
          clear hr0 hr1 hr2 hr3 hRz
          generalize hq3 : c i (f i) = cx at *
          generalize hq1 : r2 (f i) = rx at z1 hrr hRz2
          generalize hq2 : f i = fi at *
          replace hq1 := hid hq1
          replace hq2 := hid hq2
          replace hq3 := hid hq3
          have s1 : IntKind.i64.wrap (rx + cx) = rx + cx := IntWalk.i64_in _ (by omega)
          have hSx := hid (show ∀ u, Ext wq u → u.cell? ⟨bx, 0, none⟩ = some (.slice a1 M.length c1) ∧ u.cell? ⟨bb, ob + i, none⟩ = some (.int .i64 (fi : Nat)) ∧ u.cell? ⟨gr, fi, none⟩ = some (.int .i64 rx) from fun u e => ⟨e.cell x1, e.cell hcx, e.cell z1⟩)
          go_upto_region 9 with fail
          refine region_held_from (w0 := wq) (S := fun u => u.cell? ⟨bx, 0, none⟩ = some (.slice a1 M.length c1) ∧ u.cell? ⟨bb, ob + i, none⟩ = some (.int .i64 (fi : Nat)) ∧ u.cell? ⟨gr, fi, none⟩ = some (.int .i64 rx)) (by kernel_rfl) hSx.out (fun wd ed hHeld0 => ?_)
          clear hcx z1 x1
          refine wpAnyH_take (i := 0) (v := .slice (some ⟨gp, 0, none⟩) X.length X.length) rfl (by kernel_rfl) (by kernel_rfl) (by kernel_rfl) (fun _ _ _ h => h) (Or.inl ⟨by rfl, by intro wx hx; go_simp⟩) (by assumption) ?_
          try simp only [List.getElem_toArray, List.getElem_cons_zero, Act.put, List.setIfInBounds_toArray, List.set_cons_zero, List.set_cons_succ]
          refine wpAnyH_take (i := 1) (v := .int .i64 i) rfl (by kernel_rfl) (by kernel_rfl) (by kernel_rfl) (fun _ _ _ h => h) (Or.inl ⟨by rfl, by intro wx hx; go_simp⟩) (by assumption) ?_
          try simp only [List.getElem_toArray, List.getElem_cons_succ, List.getElem_cons_zero, Act.put, List.setIfInBounds_toArray, List.set_cons_zero, List.set_cons_succ]
          refine wpAnyH_take (i := 2) (v := .slice (some ⟨gr, 0, none⟩) (a.length + X.length) (a.length + X.length)) rfl (by kernel_rfl) (by kernel_rfl) (by kernel_rfl) (fun _ _ _ h => h) (Or.inl ⟨by rfl, by intro wx hx; go_simp⟩) (by assumption) ?_
          try simp only [List.getElem_toArray, List.getElem_cons_succ, List.getElem_cons_zero, Act.put, List.setIfInBounds_toArray, List.set_cons_zero, List.set_cons_succ]
          refine wpAnyH_take (i := 3) (v := .slice (some ⟨bb, ob, none⟩) X.length mb) rfl (by kernel_rfl) (by kernel_rfl) (by kernel_rfl) (fun _ _ _ h => h) (Or.inl ⟨by rfl, by intro wx hx; go_simp⟩) (by assumption) ?_
          try simp only [List.getElem_toArray, List.getElem_cons_succ, List.getElem_cons_zero, Act.put, List.setIfInBounds_toArray, List.set_cons_zero, List.set_cons_succ]
          refine wpAnyH_take (i := 4) (v := .int .i64 i) rfl (by kernel_rfl) (by kernel_rfl) (by kernel_rfl) (fun _ _ _ h => h) (Or.inl ⟨by rfl, by intro wx hx; go_simp⟩) (by assumption) ?_
          try simp only [List.getElem_toArray, List.getElem_cons_succ, List.getElem_cons_zero, Act.put, List.setIfInBounds_toArray, List.set_cons_zero, List.set_cons_succ]
          refine wpAnyH_take (i := 5) (v := .pointer (some ⟨bb, ob + i, none⟩)) rfl (by kernel_rfl) (by kernel_rfl) (by kernel_rfl) (fun _ _ _ h => h) (Or.inl ⟨by rfl, by intro wx hx; go_simp⟩) (by assumption) ?_
          try simp only [List.getElem_toArray, List.getElem_cons_succ, List.getElem_cons_zero, Act.put, List.setIfInBounds_toArray, List.set_cons_zero, List.set_cons_succ]
          refine wpAnyH_take (i := 6) (v := .int .i64 (fi : Nat)) rfl (by kernel_rfl) (by kernel_rfl) (by kernel_rfl) (fun _ _ _ h => h) (Or.inl ⟨by rfl, by intro wx hx; obtain ⟨_, _, _⟩ := hx; go_simp⟩) (by assumption) ?_
          try simp only [List.getElem_toArray, List.getElem_cons_succ, List.getElem_cons_zero, Act.put, List.setIfInBounds_toArray, List.set_cons_zero, List.set_cons_succ]
          refine wpAnyH_take (i := 7) (v := .pointer (some ⟨gr, fi, none⟩)) rfl (by kernel_rfl) (by kernel_rfl) (by kernel_rfl) (fun _ _ _ h => h) (Or.inl ⟨by rfl, by intro wx hx; (go_simp; intro hh; exfalso; omega)⟩) (by assumption) ?_
          try simp only [List.getElem_toArray, List.getElem_cons_succ, List.getElem_cons_zero, Act.put, List.setIfInBounds_toArray, List.set_cons_zero, List.set_cons_succ]
          refine wpAnyH_take (i := 8) (v := .int .i64 rx) rfl (by kernel_rfl) (by kernel_rfl) (by kernel_rfl) (fun _ _ _ h => h) (Or.inl ⟨by rfl, by intro wx hx; obtain ⟨_, _, _⟩ := hx; go_simp⟩) (by assumption) ?_
          try simp only [List.getElem_toArray, List.getElem_cons_succ, List.getElem_cons_zero, Act.put, List.setIfInBounds_toArray, List.set_cons_zero, List.set_cons_succ]
          refine wpAnyH_take (i := 9) (v := .agg #[.slice a1 M.length c1]) rfl (by kernel_rfl) (by kernel_rfl) (by kernel_rfl) (fun _ _ _ h => h) (Or.inl ⟨by rfl, by intro wx hx; obtain ⟨_, _, _⟩ := hx; go_simp⟩) (by assumption) ?_
          try simp only [List.getElem_toArray, List.getElem_cons_succ, List.getElem_cons_zero, Act.put, List.setIfInBounds_toArray, List.set_cons_zero, List.set_cons_succ]
          refine wpAnyH_take (i := 10) (v := .slice da a.length ma) rfl (by kernel_rfl) (by kernel_rfl) (by kernel_rfl) (fun _ _ _ h => h) (Or.inl ⟨by rfl, by intro wx hx; go_simp⟩) (by assumption) ?_
          try simp only [List.getElem_toArray, List.getElem_cons_succ, List.getElem_cons_zero, Act.put, List.setIfInBounds_toArray, List.set_cons_zero, List.set_cons_succ]
          refine wpAnyH_take (i := 11) (v := .slice dx X.length mx) rfl (by kernel_rfl) (by kernel_rfl) (by kernel_rfl) (fun _ _ _ h => h) (Or.inl ⟨by rfl, by intro wx hx; go_simp⟩) (by assumption) ?_
          try simp only [List.getElem_toArray, List.getElem_cons_succ, List.getElem_cons_zero, Act.put, List.setIfInBounds_toArray, List.set_cons_zero, List.set_cons_succ]
          refine wpAnyH_take (i := 12) (v := .slice (some ⟨bb, ob, none⟩) X.length mb) rfl (by kernel_rfl) (by kernel_rfl) (by kernel_rfl) (fun _ _ _ h => h) (Or.inl ⟨by rfl, by intro wx hx; go_simp⟩) (by assumption) ?_
          try simp only [List.getElem_toArray, List.getElem_cons_succ, List.getElem_cons_zero, Act.put, List.setIfInBounds_toArray, List.set_cons_zero, List.set_cons_succ]
          refine wpAnyH_take (i := 13) (v := .int .i64 i) rfl (by kernel_rfl) (by kernel_rfl) (by kernel_rfl) (fun _ _ _ h => h) (Or.inl ⟨by rfl, by intro wx hx; go_simp⟩) (by assumption) ?_
          try simp only [List.getElem_toArray, List.getElem_cons_succ, List.getElem_cons_zero, Act.put, List.setIfInBounds_toArray, List.set_cons_zero, List.set_cons_succ]
          refine wpAnyH_take (i := 14) (v := .pointer (some ⟨bb, ob + i, none⟩)) rfl (by kernel_rfl) (by kernel_rfl) (by kernel_rfl) (fun _ _ _ h => h) (Or.inl ⟨by rfl, by intro wx hx; go_simp⟩) (by assumption) ?_
          try simp only [List.getElem_toArray, List.getElem_cons_succ, List.getElem_cons_zero, Act.put, List.setIfInBounds_toArray, List.set_cons_zero, List.set_cons_succ]
          refine wpAnyH_take (i := 15) (v := .int .i64 (fi : Nat)) rfl (by kernel_rfl) (by kernel_rfl) (by kernel_rfl) (fun _ _ _ h => h) (Or.inl ⟨by rfl, by intro wx hx; obtain ⟨_, _, _⟩ := hx; go_simp⟩) (by assumption) ?_
          try simp only [List.getElem_toArray, List.getElem_cons_succ, List.getElem_cons_zero, Act.put, List.setIfInBounds_toArray, List.set_cons_zero, List.set_cons_succ]
          refine wpAnyH_take (i := 16) (v := .int .i64 i) rfl (by kernel_rfl) (by kernel_rfl) (by kernel_rfl) (fun _ _ _ h => h) (Or.inl ⟨by rfl, by intro wx hx; go_simp⟩) (by assumption) ?_
          try simp only [List.getElem_toArray, List.getElem_cons_succ, List.getElem_cons_zero, Act.put, List.setIfInBounds_toArray, List.set_cons_zero, List.set_cons_succ]
          refine wpAnyH_ready (rs := [17]) (by kernel_rfl) (by simp) ?_
          refine AllReadyH.cons rfl (fun K hK => ?_) AllReadyH.nil
          go_simp
          have m1 : Ext w0 wd := Ext.trans e0q ed
          go_at_call 49
          with_reducible refine (hGx.out wd m1).mono ?_
          rintro e u1 ⟨rfl, f1⟩
          have n1 : Ext wq u1 := Ext.trans ed f1
          go_wp2_with fail
          refine hK.out _ _ (hSx.out u1 n1) (fun _ => ?_)
          clear hK K
          try simp only [List.getElem_toArray, List.getElem_cons_succ, List.getElem_cons_zero, Act.put, List.setIfInBounds_toArray, List.set_cons_zero, List.set_cons_succ]
          refine wpAnyH_take (i := 18) (v := .int .i64 (rx + cx)) rfl (by kernel_rfl) (by kernel_rfl) (by kernel_rfl) (fun _ _ _ h => h) (Or.inl ⟨by rfl, by intro wx hx; go_simp⟩) (by assumption) ?_
          try simp only [List.getElem_toArray, List.getElem_cons_succ, List.getElem_cons_zero, Act.put, List.setIfInBounds_toArray, List.set_cons_zero, List.set_cons_succ]
          refine wpAnyH_take (i := 19) (v := .pointer (some ⟨gp, i, none⟩)) rfl (by kernel_rfl) (by kernel_rfl) (by kernel_rfl) (fun _ _ _ h => h) (Or.inl ⟨by rfl, by intro wx hx; go_simp⟩) (by assumption) ?_
          try simp only [List.getElem_toArray, List.getElem_cons_succ, List.getElem_cons_zero, Act.put, List.setIfInBounds_toArray, List.set_cons_zero, List.set_cons_succ]
          have own9 := own.ext (e := n1)
          have b9 : Below B w1 u1 := hb1.trans (n1.below.mono (hBs.out _ hb1))
          obtain ⟨z9, g9⟩ := own9.aAt (k := 1) rfl (j := i) hlt
          have own10 := own9.iSet (k := 1) rfl i (rx + cx)
          have b10 := b9.setCell (p := ⟨gp, i, none⟩) (own9.aLt (k := 1) rfl).1 (.int .i64 (rx + cx))
          have hS10 : (u1.setCell ⟨gp, i, none⟩ (.int .i64 (rx + cx))).cell? ⟨bx, 0, none⟩ = some (.slice a1 M.length c1) ∧ (u1.setCell ⟨gp, i, none⟩ (.int .i64 (rx + cx))).cell? ⟨bb, ob + i, none⟩ = some (.int .i64 (fi : Nat)) ∧ (u1.setCell ⟨gp, i, none⟩ (.int .i64 (rx + cx))).cell? ⟨gr, fi, none⟩ = some (.int .i64 rx) := by
            have e10 := hEx.out _ b10
            refine ⟨e10.cell x0, ?_, ?_⟩
            · obtain ⟨bb', ob', hd', hcx'⟩ := hbr.out _ (Ext.trans e01 e10) i hlt
              cases hd'
              rw [hq2.out] at hcx'
              exact hcx'
            · have := (own10.aAt (k := 0) rfl (j := fi) hfi).1
              rw [hq1.out] at this
              exact this
          clear own hb1 hHeld0
          refine wpAnyH_ready (rs := [20]) (by kernel_rfl) (by simp) ?_
          refine AllReadyH.cons rfl (fun K hK => ?_) AllReadyH.nil
          go_simp
          refine hK.out _ _ hS10 (fun _ => ?_)
          clear hK K
          try simp only [List.getElem_toArray, List.getElem_cons_succ, List.getElem_cons_zero, Act.put, List.setIfInBounds_toArray, List.set_cons_zero, List.set_cons_succ]
          refine wpAnyH_done (by kernel_rfl) ?_ _
          clear own9 b9 z9 g9 hS10
          generalize u1.setCell ⟨gp, i, none⟩ (.int .i64 (rx + cx)) = w8 at *
          have e8 := hEx.out _ b10
          have hpi : updI pr2 i (rx + cx) i = rx + cx := if_pos rfl
          clear hGx hSx ed m1 f1 n1 eq e0q wd hfa
          go_upto_region 11 with fail
          go_loopw [12, 14] (fun cv lv wr => ∃ (l : Nat) (r3 : Nat → Int) (ch3 : Bool), l ≤ a.length + i ∧ lv = .int .i64 l ∧ cv = .bool ch3 ∧ Hid (Rz a.length c X.length (a.length + X.length) f r r3 (updI pr2 i (rx + cx)) ch3 i l true) ∧ Own wr B [iA gr (a.length + X.length) (a.length + X.length) r3, iA gp X.length X.length (updI pr2 i (rx + cx))] ∧ Below B w1 wr) (fun _ lv _ => a.length + i - (intOf lv).toNat)
          case atStart => exact ⟨0, r2, ch2, by omega, rfl, rfl, hRz2, own10, b10⟩
          case round =>
            clear own10 b10 hRz2 e8
            obtain ⟨l, r3, ch3, hl, rfl, rfl, hRz, own, hb1⟩ := hrel
            obtain ⟨wq, rfl⟩ : ∃ y : World, y = wr := ⟨_, rfl⟩
            by_cases hll : l < a.length + i
            · have eq : Ext w1 wq := hEx.out _ hb1
              have e0q : Ext w0 wq := Ext.trans e01 eq
              have x1 := eq.cell x0
              have hlm : l < a.length + X.length := by omega
              obtain ⟨z1, _⟩ := own.aAt (k := 1) rfl (j := i) hlt
              rw [hpi] at z1
              have hGl := hid (hG.out i l hlt hll)
              have hcl := hcb.out i l hlt (alB_iff.2 hll)
              have hsame := hid (fun h => hRz.out.same h)
              have hrise := hid (fun h => hRz.out.rise hlt hlm (alB_iff.2 hll) h)
              rw [hpi] at hsame hrise
              generalize hq5 : c i l = cl at *
              replace hq5 := hid hq5
              obtain ⟨V, hV⟩ : ∃ V, V = rx + cx - cl := ⟨_, rfl⟩
              rw [← hV] at hsame hrise
              obtain ⟨pv, hpv⟩ : ∃ pv, pv = rx + cx := ⟨_, rfl⟩
              rw [← hpv] at z1
              rw [← hpv] at hV
              have hpvb : 0 ≤ pv ∧ pv ≤ 20000 := by omega
              have s2 : IntKind.i64.wrap (pv - cl) = V := by rw [hV]; exact IntWalk.i64_in _ (by omega)
              replace hV := hid hV
              replace hpv := hid hpv
              have hSx := hid (show ∀ u, Ext wq u → u.cell? ⟨bx, 0, none⟩ = some (.slice a1 M.length c1) ∧ u.cell? ⟨gp, i, none⟩ = some (.int .i64 pv) from fun u e => ⟨e.cell x1, e.cell z1⟩)
              go_upto_region 13 with fail
              refine region_held_from (w0 := wq) (S := fun u => u.cell? ⟨bx, 0, none⟩ = some (.slice a1 M.length c1) ∧ u.cell? ⟨gp, i, none⟩ = some (.int .i64 pv)) (by kernel_rfl) hSx.out (fun wd ed hHeld0 => ?_)
              clear z1 x1
              refine wpAnyH_take (i := 0) (v := .slice (some ⟨gp, 0, none⟩) X.length X.length) rfl (by kernel_rfl) (by kernel_rfl) (by kernel_rfl) (fun _ _ _ h => h) (Or.inl ⟨by rfl, by intro wx hx; go_simp⟩) (by assumption) ?_
              try simp only [List.getElem_toArray, List.getElem_cons_zero, Act.put, List.setIfInBounds_toArray, List.set_cons_zero, List.set_cons_succ]
              refine wpAnyH_take (i := 1) (v := .int .i64 i) rfl (by kernel_rfl) (by kernel_rfl) (by kernel_rfl) (fun _ _ _ h => h) (Or.inl ⟨by rfl, by intro wx hx; go_simp⟩) (by assumption) ?_
              try simp only [List.getElem_toArray, List.getElem_cons_succ, List.getElem_cons_zero, Act.put, List.setIfInBounds_toArray, List.set_cons_zero, List.set_cons_succ]
              refine wpAnyH_take (i := 2) (v := .pointer (some ⟨gp, i, none⟩)) rfl (by kernel_rfl) (by kernel_rfl) (by kernel_rfl) (fun _ _ _ h => h) (Or.inl ⟨by rfl, by intro wx hx; go_simp⟩) (by assumption) ?_
              try simp only [List.getElem_toArray, List.getElem_cons_succ, List.getElem_cons_zero, Act.put, List.setIfInBounds_toArray, List.set_cons_zero, List.set_cons_succ]
              refine wpAnyH_take (i := 3) (v := .int .i64 pv) rfl (by kernel_rfl) (by kernel_rfl) (by kernel_rfl) (fun _ _ _ h => h) (Or.inl ⟨by rfl, by intro wx hx; obtain ⟨_, _⟩ := hx; go_simp⟩) (by assumption) ?_
              try simp only [List.getElem_toArray, List.getElem_cons_succ, List.getElem_cons_zero, Act.put, List.setIfInBounds_toArray, List.set_cons_zero, List.set_cons_succ]
              refine wpAnyH_take (i := 4) (v := .agg #[.slice a1 M.length c1]) rfl (by kernel_rfl) (by kernel_rfl) (by kernel_rfl) (fun _ _ _ h => h) (Or.inl ⟨by rfl, by intro wx hx; obtain ⟨_, _⟩ := hx; go_simp⟩) (by assumption) ?_
              try simp only [List.getElem_toArray, List.getElem_cons_succ, List.getElem_cons_zero, Act.put, List.setIfInBounds_toArray, List.set_cons_zero, List.set_cons_succ]
              refine wpAnyH_take (i := 5) (v := .slice da a.length ma) rfl (by kernel_rfl) (by kernel_rfl) (by kernel_rfl) (fun _ _ _ h => h) (Or.inl ⟨by rfl, by intro wx hx; go_simp⟩) (by assumption) ?_
              try simp only [List.getElem_toArray, List.getElem_cons_succ, List.getElem_cons_zero, Act.put, List.setIfInBounds_toArray, List.set_cons_zero, List.set_cons_succ]
              refine wpAnyH_take (i := 6) (v := .slice dx X.length mx) rfl (by kernel_rfl) (by kernel_rfl) (by kernel_rfl) (fun _ _ _ h => h) (Or.inl ⟨by rfl, by intro wx hx; go_simp⟩) (by assumption) ?_
              try simp only [List.getElem_toArray, List.getElem_cons_succ, List.getElem_cons_zero, Act.put, List.setIfInBounds_toArray, List.set_cons_zero, List.set_cons_succ]
              refine wpAnyH_take (i := 7) (v := .int .i64 l) rfl (by kernel_rfl) (by kernel_rfl) (by kernel_rfl) (fun _ _ _ h => h) (Or.inl ⟨by rfl, by intro wx hx; go_simp⟩) (by assumption) ?_
              try simp only [List.getElem_toArray, List.getElem_cons_succ, List.getElem_cons_zero, Act.put, List.setIfInBounds_toArray, List.set_cons_zero, List.set_cons_succ]
              refine wpAnyH_take (i := 8) (v := .int .i64 i) rfl (by kernel_rfl) (by kernel_rfl) (by kernel_rfl) (fun _ _ _ h => h) (Or.inl ⟨by rfl, by intro wx hx; go_simp⟩) (by assumption) ?_
              try simp only [List.getElem_toArray, List.getElem_cons_succ, List.getElem_cons_zero, Act.put, List.setIfInBounds_toArray, List.set_cons_zero, List.set_cons_succ]
              refine wpAnyH_ready (rs := [9]) (by kernel_rfl) (by simp) ?_
              refine AllReadyH.cons rfl (fun K hK => ?_) AllReadyH.nil
              go_simp
              have m2 : Ext w0 wd := Ext.trans e0q ed
              go_at_call 49
              with_reducible refine (hGl.out wd m2).mono ?_
              rintro e u2 ⟨rfl, f2⟩
              have n2 : Ext wq u2 := Ext.trans ed f2
              go_wp2_with fail
              refine hK.out _ _ (hSx.out u2 n2) (fun _ => ?_)
              clear hK K
              try simp only [List.getElem_toArray, List.getElem_cons_succ, List.getElem_cons_zero, Act.put, List.setIfInBounds_toArray, List.set_cons_zero, List.set_cons_succ]
              refine wpAnyH_take (i := 10) (v := .int .i64 V) rfl (by kernel_rfl) (by kernel_rfl) (by kernel_rfl) (fun _ _ _ h => h) (Or.inl ⟨by rfl, by intro wx hx; go_simp⟩) (by assumption) ?_
              try simp only [List.getElem_toArray, List.getElem_cons_succ, List.getElem_cons_zero, Act.put, List.setIfInBounds_toArray, List.set_cons_zero, List.set_cons_succ]
              refine wpAnyH_take (i := 11) (v := .int .i64 V) rfl (by kernel_rfl) (by kernel_rfl) (by kernel_rfl) (fun _ _ _ h => h) (Or.inl ⟨by rfl, by intro wx hx; go_simp⟩) (by assumption) ?_
              try simp only [List.getElem_toArray, List.getElem_cons_succ, List.getElem_cons_zero, Act.put, List.setIfInBounds_toArray, List.set_cons_zero, List.set_cons_succ]
              refine wpAnyH_done (by kernel_rfl) ?_ _
              have own9 := own.ext (e := n2)
              have b9 : Below B w1 u2 := hb1.trans (n2.below.mono (hBs.out _ hb1))
              obtain ⟨z9, g9⟩ := own9.aAt (k := 0) rfl (j := l) hlm
              have own11 := own9.iSet (k := 0) rfl l V
              have b11 := b9.setCell (p := ⟨gr, l, none⟩) (own9.aLt (k := 0) rfl).1 (.int .i64 V)
              have hlm2 : (l : Int) < (a.length : Int) + (X.length : Int) := by omega
              clear own hb1 hRz s2 hSx
              generalize hq6 : r3 l = rl at z9 hsame hrise
              replace hq6 := hid hq6
              by_cases hgt : rl < V
              · have hRz3 := hid (hrise.out hgt)
                clear own9 b9 hsame hrise
                go_wp2_with fail
                go_roundw
                case rel => exact ⟨l + 1, _, true, by omega, by go_num, rfl, hRz3, own11, b11⟩
                case measure => simp [intOf]; omega
              · have hRz3 := hid (hsame.out (by omega))
                clear own11 b11 hsame hrise
                go_wp2_with fail
                go_roundw
                case rel => exact ⟨l + 1, r3, ch3, by omega, by go_num, rfl, hRz3, own9, b9⟩
                case measure => simp [intOf]; omega
            · have hRz3 := hid (hRz.out.row (by omega))
              go_wp2_with fail
              go_roundw
              case rel => exact ⟨i + 1, r3, _, ch3, by omega, by go_num, rfl, hRz3, own, hb1⟩
              case measure => simp [intOf]; omega
        · have hin : i = X.length := by omega
          subst hin
          have hsm := hRz.out.le
          have hsl := hRz.out.lt
          have hsp := sg_le (f := r2) (g := q) (n := a.length + X.length) fun l hl => (hRz.out.up p q hfC.out).2 l hl
          have hgn := hid (show (sgTo q (a.length + X.length) - sgTo r2 (a.length + X.length)).toNat + (if ch2 then 1 else 0) < gk by
            rw [hgk.out]
            cases ch2 with
            | true =>
              have := hsl rfl
              simp
              omega
            | false => simp; omega)
          have hR2 := hid (show ∃ r0, Rz a.length c X.length (a.length + X.length) f r0 r2 pr2 false 0 0 false from ⟨r2, Rz.begin hRz.out.lo hRz.out.lp hRz.out.up⟩)
          have hfx2 := hid (show ch2 = false → ∃ r0, Rz a.length c X.length (a.length + X.length) f r0 r2 pr2 false X.length 0 false from fun h => ⟨r, by have h2 := hRz.out; rw [h] at h2; exact h2⟩)
          clear hsm hsl hsp
          go_wp2_with fail
          go_roundg ((sgTo q (a.length + X.length) - sgTo r2 (a.length + X.length)).toNat + (if ch2 then 1 else 0))
          case rel => exact ⟨r2, pr2, ch2, rfl, hR2, hfx2, rfl, own, hb1⟩
          case measure => exact hgn.out
end Go.Proofs.YtllfchcocgdcjaaGreat
