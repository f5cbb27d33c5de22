/- The reference's way to one row more walked: l7Add. -/
import Derived.Test.YtllfchcocgdcjaaGreatRcW
import Derived.Test.YtllfchcocgdcjaaGreatGrG
import Derived.Test.YtllfchcocgdcjaaGreatLpI
import Derived.Deep.DeepCutAuto
namespace Go.Proofs.YtllfchcocgdcjaaGreat
open Go.RowKit

/-- a best matching of the first rows with what pays for it -/
def FlowOk (k : Nat) (c : Nat → Nat → Int) (i m : Nat) (f : Nat → Nat) (p q : Nat → Int) : Prop := Mtc (Al k) i m f ∧ Cert (Al k) c i m f p q ∧ ∀ x, x < i → p x ≤ 99 * (i : Int)
theorem FlowOk.rk {M : List (List Int)} {a X : List Int} {i : Nat} {f : Nat → Nat} {p q : Nat → Int} (h : FlowOk a.length (flC M a X) i (a.length + X.length) f p q) (hs : srvB M a X = true) (hi : i < X.length) : Rk a.length (flC M a X) f i (a.length + X.length) p q :=
  ⟨h.1, h.2.1, fun x l hx ha => srv_cost hs (by omega) ha, h.2.2, by have := (srv_pts hs).2.2.2.2; omega⟩
def AddPost (k : Nat) (c : Nat → Nat → Int) (i m : Nat) (w : World) (e : Ending) (w' : World) : Prop :=
  ∃ d n g p q, e = .returned (.slice d (i + 1) n) ∧ IsInts w' (.slice d (i + 1) n) (lsN (i + 1) g) ∧ FlowOk k c (i + 1) m g p q ∧ Ext w w'
set_option maxHeartbeats 6400000 in
set_option maxRecDepth 100000 in
theorem l7Add_any {v va vX vb : Value} {M : List (List Int)} {a X : List Int} {i : Nat} {f : Nat → Nat} {p q : Nat → Int} {w0 w : World} [Ext w0 w] (hm : IsMet w0 v M) (ha : IsInts w0 va a) (hXi : IsInts w0 vX X) (hb : IsInts w0 vb (lsN i f)) (hs : srvB M a X = true) (hi : i < X.length) (hF : FlowOk a.length (flC M a X) i (a.length + X.length) f p q) :
    Calls Tryz.prog 50 #[v, va, vX, vb] w (AddPost a.length (flC M a X) i (a.length + X.length) w) := by
  have hm' := hm
  have ha' := ha
  have hX' := hXi
  have hb' := hb
  have hk := hF.rk hs hi
  have hRc := hid (show ∀ (u : World), Ext w0 u → ∀ vh, IsInts u vh ((List.range (a.length + i)).map (hol f i)) → Calls Tryz.prog 79 #[v, va, vX, vb, vh] u (ReachPost a.length (flC M a X) f i u) from fun u eu vh hh => l7Reach_any (w0 := u) (w := u) (hm'.ext (e := eu)) (ha'.ext (e := eu)) (hX'.ext (e := eu)) (hb'.ext (e := eu)) hh hs hi hk)
  have hHo := hid (show ∀ (u : World), Ext w0 u → Calls Tryz.prog 78 #[.int .i64 ((a.length : Int) + (i : Int)), vb] u fun e w' => ∃ g, e = .returned (.slice (some ⟨g, 0, none⟩) (a.length + i) (a.length + i)) ∧ Own w' u.heap.size [iA g (a.length + i) (a.length + i) (hol f i)] ∧ Ext u w' from fun u eu => by
    have h1 := (srv_pts hs).2.1
    have h2 := (srv_pts hs).2.2.2.2
    have h := l7Holders_any (w0 := w0) (w := u) (N := a.length + i) hb' (by omega) (by omega) (fun r hr => by have := alB_iff.1 (hk.mt.1 r hr).2; omega)
    rw [show ((a.length + i : Nat) : Int) = (a.length : Int) + (i : Int) from by omega] at h
    exact h)
  have hLo := hid (show ∀ (u : World), Ext w0 u → Calls Tryz.prog 32 #[vb] u fun e w' => ∃ d m, e = .returned (.slice d i m) ∧ Own w' u.heap.size [⟨3, 1, .slice d i m, i, (lsN i f).map (Value.int .i64)⟩] ∧ Ext u w' from fun u eu => by
    have h := l1Own_any (w0 := w0) (w := u) hb'
    unfold intRowOf at h
    rw [lsN_len] at h
    exact h)
  obtain ⟨v1, rfl, hR⟩ := hm
  obtain ⟨a1, c1, rfl, l1⟩ := hR.form
  obtain ⟨db, mb, rfl, lb⟩ := hb.form
  obtain ⟨da, ma, rfl, la⟩ := ha.form
  obtain ⟨dx, mx, rfl, lx⟩ := hXi.form
  obtain ⟨hM, hal, hab, hXb, hXl⟩ := srv_pts hs
  rw [lsN_len] at hb hRc hHo hLo ⊢
  clear lb
  obtain ⟨c, hcE⟩ : ∃ c, c = flC M a X := ⟨_, rfl⟩
  have hG := hid (show ∀ (x l : Nat), x ≤ i → l < a.length + x → ∀ u, Ext w0 u → Calls Tryz.prog 49 #[.agg #[.slice a1 M.length c1], .slice da a.length ma, .slice dx X.length mx, .int .i64 l, .int .i64 x] u fun e w' => e = .returned (.int .i64 (c x l)) ∧ Ext u w' from fun x l hx hl u eu => by
    rw [hcE]
    exact l7Gap_any (w0 := w0) (w := u) hm' ha' hX' hM hab hXb (by omega) hl (by omega))
  rw [← hcE] at hk hRc hF ⊢
  have hk := hid hk
  have hib := hk.out.ib
  clear hs hM hab hXb
  replace hcE := hid hcE
  replace hF := hid hF
  go_enter Tryz.func50, Tryz.ntmps50
  go_upto_region 1 with fail
  have e1 : Ext w (w.alloc (.cells #[.slice a1 M.length c1] 26)) := inferInstance
  have x0 : (w.alloc (.cells #[.slice a1 M.length c1] 26)).cell? ⟨w.heap.size, 0, none⟩ = some (.slice a1 M.length c1) := by go_simp
  obtain ⟨bx, hbx⟩ : ∃ q, q = w.heap.size := ⟨_, rfl⟩
  rw [← hbx] at x0 ⊢
  generalize w.alloc (.cells #[.slice a1 M.length c1] 26) = w1 at *
  replace hbx := hid hbx
  have e01 : Ext w0 w1 := Ext.trans ‹Ext w0 w› e1
  go_wp2_with fail
  with_reducible refine (hHo.out w1 e01).mono ?_
  rintro e w2 ⟨gh, rfl, own2, e2⟩
  have e02 : Ext w0 w2 := Ext.trans e01 e2
  have x2 := e2.cell x0
  have hhl := hid (show ∀ u, Ext w2 u → ∀ l, l < a.length + i → u.cell? ⟨gh, l, none⟩ = some (.int .i64 (hol f i l)) from fun u eu l hl => eu.cell (own2.aAt (k := 0) rfl (j := l) hl).1)
  have hhi : IsInts w2 (.slice (some ⟨gh, 0, none⟩) (a.length + i) (a.length + i)) ((List.range (a.length + i)).map (hol f i)) := by
    have h1 : iA gh (a.length + i) (a.length + i) (hol f i) = intRowOf 3 (.slice (some ⟨gh, 0, none⟩) ((List.range (a.length + i)).map (hol f i)).length (a.length + i)) ((List.range (a.length + i)).map (hol f i)) := by
      unfold intRowOf
      simp only [List.length_map, List.length_range, List.map_map]
      rfl
    rw [h1] at own2
    have := own2.reads (by rw [List.length_map, List.length_range]; unfold Short; omega) (fun x hx => by
      obtain ⟨r, hr, rfl⟩ := List.mem_map.1 hx
      rcases hol_or (f := f) (l := r) (i := i) with ⟨y, h1, _, h3⟩ | ⟨h1, _⟩
      · rw [h3]; unfold I64; omega
      · rw [h1]; unfold I64; omega)
    rw [List.length_map, List.length_range] at this
    exact this
  have hRr := hid (hRc.out w2 e02 _ hhi)
  clear own2 hRc hHo
  go_wp2_with fail
  with_reducible refine hRr.out.mono ?_
  rintro e w3 ⟨gf, gr, fa, fr, rfl, own3, hBF, hDn, e3⟩
  have e03 : Ext w0 w3 := Ext.trans e02 e3
  have x3 := e3.cell x2
  have hfa := hid (show ∀ u, Ext w3 u → ∀ x, x ≤ i → u.cell? ⟨gf, x, none⟩ = some (.int .i64 (fa x)) from fun u eu x hx => eu.cell (own3.aAt (k := 1) rfl (j := x) (by omega)).1)
  have hfr := hid (show ∀ u, Ext w3 u → ∀ x, x ≤ i → u.cell? ⟨gr, x, none⟩ = some (.int .i64 (fr x : Nat)) from fun u eu x hx => eu.cell (own3.aAt (k := 0) rfl (j := x) (by omega)).1)
  replace hBF := hid hBF
  replace hDn := hid hDn
  clear own3 hhi hRr
  have hC0 := hid (Ch.begin (k := a.length) (c := c) (f := f) (i := i) (fa := fa))
  go_wp2_with fail
  go_loopw [13, 14, 15, 16] (fun lv av cv xv wr => ∃ (le : Int) (t l x : Nat), x ≤ i + 1 ∧ lv = .int .i64 le ∧ av = .int .i64 (t : Nat) ∧ cv = .int .i64 (l : Nat) ∧ xv = .int .i64 (x : Nat) ∧ Hid (Ch a.length c f i fa le t l x 0) ∧ Ext w3 wr) (fun _ _ _ xv _ => i + 1 - (intOf xv).toNat)
  case atStart => exact ⟨_, 0, 0, 0, by omega, rfl, rfl, rfl, rfl, hC0, Ext.refl _⟩
  case round =>
    clear hC0
    obtain ⟨le, t, l, x, hx, rfl, rfl, rfl, rfl, hC, he⟩ := hrel
    obtain ⟨wo, rfl⟩ : ∃ y : World, y = wr := ⟨_, rfl⟩
    by_cases hlx : x ≤ i
    · go_upto_region 11 with fail
      go_loopw [13, 14, 15, 17] (fun lv av cv xv wr => ∃ (le : Int) (t l y : Nat), y ≤ a.length + x ∧ lv = .int .i64 le ∧ av = .int .i64 (t : Nat) ∧ cv = .int .i64 (l : Nat) ∧ xv = .int .i64 (y : Nat) ∧ Hid (Ch a.length c f i fa le t l x y) ∧ Ext w3 wr) (fun _ _ _ xv _ => a.length + x - (intOf xv).toNat)
      case atStart => exact ⟨le, t, l, 0, by omega, rfl, rfl, rfl, rfl, hC, he⟩
      case round =>
        clear hC he
        obtain ⟨le, t, l, y, hy, rfl, rfl, rfl, rfl, hC, he⟩ := hrel
        obtain ⟨wq, rfl⟩ : ∃ y : World, y = wr := ⟨_, rfl⟩
        by_cases hly : y < a.length + x
        · have e0q : Ext w0 wq := Ext.trans e03 he
          have z0 := hhl.out wq (Ext.trans e3 he) y (by omega)
          have z1 := hfa.out wq he x (by omega)
          have x1 := he.cell x3
          have hyi : y < a.length + i := by omega
          have hxi : x < i + 1 := by omega
          rcases hol_or (f := f) (l := y) (i := i) with ⟨s, hs1, hs2, hho⟩ | ⟨hho, hfree⟩
          · rw [hho] at z0
            have hC2 := hid (hC.out.held hs1 hs2)
            replace hho := hid hho
            replace hs2 := hid hs2
            go_upto_region 13 with fail
            refine region_held_from (w0 := wq) (S := fun u => u.cell? ⟨gh, y, none⟩ = some (.int .i64 (s : Nat))) (by kernel_rfl) (fun u e => e.cell z0) (fun wd ed hHeld0 => ?_)
            refine wpAnyH_take (i := 0) (v := .slice (some ⟨gh, 0, none⟩) (a.length + i) (a.length + i)) rfl (by kernel_rfl) (by kernel_rfl) (by kernel_rfl) (fun _ _ _ h => h) (Or.inl ⟨by rfl, by intro wx hx; go_simp⟩) (by assumption) ?_
            try simp only [List.getElem_toArray, List.getElem_cons_zero, Act.put, List.setIfInBounds_toArray, List.set_cons_zero, List.set_cons_succ]
            refine wpAnyH_take (i := 1) (v := .int .i64 y) rfl (by kernel_rfl) (by kernel_rfl) (by kernel_rfl) (fun _ _ _ h => h) (Or.inl ⟨by rfl, by intro wx hx; go_simp⟩) (by assumption) ?_
            try simp only [List.getElem_toArray, List.getElem_cons_succ, List.getElem_cons_zero, Act.put, List.setIfInBounds_toArray, List.set_cons_zero, List.set_cons_succ]
            refine wpAnyH_take (i := 2) (v := .pointer (some ⟨gh, y, none⟩)) rfl (by kernel_rfl) (by kernel_rfl) (by kernel_rfl) (fun _ _ _ h => h) (Or.inl ⟨by rfl, by intro wx hx; (go_simp; intro hh; exfalso; omega)⟩) (by assumption) ?_
            try simp only [List.getElem_toArray, List.getElem_cons_succ, List.getElem_cons_zero, Act.put, List.setIfInBounds_toArray, List.set_cons_zero, List.set_cons_succ]
            refine wpAnyH_take (i := 3) (v := .int .i64 (s : Nat)) rfl (by kernel_rfl) (by kernel_rfl) (by kernel_rfl) (fun _ _ _ h => h) (Or.inl ⟨by rfl, by intro wx hx; go_simp⟩) (by assumption) ?_
            try simp only [List.getElem_toArray, List.getElem_cons_succ, List.getElem_cons_zero, Act.put, List.setIfInBounds_toArray, List.set_cons_zero, List.set_cons_succ]
            refine wpAnyH_take (i := 4) (v := .bool false) rfl (by kernel_rfl) (by kernel_rfl) (by kernel_rfl) (fun _ _ _ h => h) (Or.inl ⟨by rfl, by intro wx hx; go_simp⟩) (by assumption) ?_
            try simp only [List.getElem_toArray, List.getElem_cons_succ, List.getElem_cons_zero, Act.put, List.setIfInBounds_toArray, List.set_cons_zero, List.set_cons_succ]
            refine wpAnyH_take (i := 5) (v := .bool false) rfl (by kernel_rfl) (by kernel_rfl) (by kernel_rfl) (fun _ _ _ h => h) (Or.inl ⟨by rfl, by intro wx hx; go_simp⟩) (by assumption) ?_
            try simp only [List.getElem_toArray, List.getElem_cons_succ, List.getElem_cons_zero, Act.put, List.setIfInBounds_toArray, List.set_cons_zero, List.set_cons_succ]
            refine wpAnyH_take (i := 6) (v := undef) rfl (by kernel_rfl) (by kernel_rfl) (by kernel_rfl) (fun _ _ _ h => h) (Or.inr ⟨by kernel_rfl, rfl⟩) (by assumption) ?_
            try simp only [List.getElem_toArray, List.getElem_cons_succ, List.getElem_cons_zero, Act.put, List.setIfInBounds_toArray, List.set_cons_zero, List.set_cons_succ]
            refine wpAnyH_take (i := 7) (v := undef) rfl (by kernel_rfl) (by kernel_rfl) (by kernel_rfl) (fun _ _ _ h => h) (Or.inr ⟨by kernel_rfl, rfl⟩) (by assumption) ?_
            try simp only [List.getElem_toArray, List.getElem_cons_succ, List.getElem_cons_zero, Act.put, List.setIfInBounds_toArray, List.set_cons_zero, List.set_cons_succ]
            refine wpAnyH_take (i := 8) (v := undef) rfl (by kernel_rfl) (by kernel_rfl) (by kernel_rfl) (fun _ _ _ h => h) (Or.inr ⟨by kernel_rfl, rfl⟩) (by assumption) ?_
            try simp only [List.getElem_toArray, List.getElem_cons_succ, List.getElem_cons_zero, Act.put, List.setIfInBounds_toArray, List.set_cons_zero, List.set_cons_succ]
            refine wpAnyH_take (i := 9) (v := undef) rfl (by kernel_rfl) (by kernel_rfl) (by kernel_rfl) (fun _ _ _ h => h) (Or.inr ⟨by kernel_rfl, rfl⟩) (by assumption) ?_
            try simp only [List.getElem_toArray, List.getElem_cons_succ, List.getElem_cons_zero, Act.put, List.setIfInBounds_toArray, List.set_cons_zero, List.set_cons_succ]
            refine wpAnyH_take (i := 10) (v := undef) rfl (by kernel_rfl) (by kernel_rfl) (by kernel_rfl) (fun _ _ _ h => h) (Or.inr ⟨by kernel_rfl, rfl⟩) (by assumption) ?_
            try simp only [List.getElem_toArray, List.getElem_cons_succ, List.getElem_cons_zero, Act.put, List.setIfInBounds_toArray, List.set_cons_zero, List.set_cons_succ]
            refine wpAnyH_take (i := 11) (v := undef) rfl (by kernel_rfl) (by kernel_rfl) (by kernel_rfl) (fun _ _ _ h => h) (Or.inr ⟨by kernel_rfl, rfl⟩) (by assumption) ?_
            try simp only [List.getElem_toArray, List.getElem_cons_succ, List.getElem_cons_zero, Act.put, List.setIfInBounds_toArray, List.set_cons_zero, List.set_cons_succ]
            refine wpAnyH_take (i := 12) (v := undef) rfl (by kernel_rfl) (by kernel_rfl) (by kernel_rfl) (fun _ _ _ h => h) (Or.inr ⟨by kernel_rfl, rfl⟩) (by assumption) ?_
            try simp only [List.getElem_toArray, List.getElem_cons_succ, List.getElem_cons_zero, Act.put, List.setIfInBounds_toArray, List.set_cons_zero, List.set_cons_succ]
            refine wpAnyH_take (i := 13) (v := undef) rfl (by kernel_rfl) (by kernel_rfl) (by kernel_rfl) (fun _ _ _ h => h) (Or.inr ⟨by kernel_rfl, rfl⟩) (by assumption) ?_
            try simp only [List.getElem_toArray, List.getElem_cons_succ, List.getElem_cons_zero, Act.put, List.setIfInBounds_toArray, List.set_cons_zero, List.set_cons_succ]
            refine wpAnyH_take (i := 14) (v := undef) rfl (by kernel_rfl) (by kernel_rfl) (by kernel_rfl) (fun _ _ _ h => h) (Or.inr ⟨by kernel_rfl, rfl⟩) (by assumption) ?_
            try simp only [List.getElem_toArray, List.getElem_cons_succ, List.getElem_cons_zero, Act.put, List.setIfInBounds_toArray, List.set_cons_zero, List.set_cons_succ]
            refine wpAnyH_take (i := 15) (v := undef) rfl (by kernel_rfl) (by kernel_rfl) (by kernel_rfl) (fun _ _ _ h => h) (Or.inr ⟨by kernel_rfl, rfl⟩) (by assumption) ?_
            try simp only [List.getElem_toArray, List.getElem_cons_succ, List.getElem_cons_zero, Act.put, List.setIfInBounds_toArray, List.set_cons_zero, List.set_cons_succ]
            refine wpAnyH_take (i := 16) (v := undef) rfl (by kernel_rfl) (by kernel_rfl) (by kernel_rfl) (fun _ _ _ h => h) (Or.inr ⟨by kernel_rfl, rfl⟩) (by assumption) ?_
            try simp only [List.getElem_toArray, List.getElem_cons_succ, List.getElem_cons_zero, Act.put, List.setIfInBounds_toArray, List.set_cons_zero, List.set_cons_succ]
            refine wpAnyH_take (i := 17) (v := undef) rfl (by kernel_rfl) (by kernel_rfl) (by kernel_rfl) (fun _ _ _ h => h) (Or.inr ⟨by kernel_rfl, rfl⟩) (by assumption) ?_
            try simp only [List.getElem_toArray, List.getElem_cons_succ, List.getElem_cons_zero, Act.put, List.setIfInBounds_toArray, List.set_cons_zero, List.set_cons_succ]
            refine wpAnyH_take (i := 18) (v := undef) rfl (by kernel_rfl) (by kernel_rfl) (by kernel_rfl) (fun _ _ _ h => h) (Or.inr ⟨by kernel_rfl, rfl⟩) (by assumption) ?_
            try simp only [List.getElem_toArray, List.getElem_cons_succ, List.getElem_cons_zero, Act.put, List.setIfInBounds_toArray, List.set_cons_zero, List.set_cons_succ]
            refine wpAnyH_take (i := 19) (v := .bool false) rfl (by kernel_rfl) (by kernel_rfl) (by kernel_rfl) (fun _ _ _ h => h) (Or.inl ⟨by rfl, by intro wx hx; go_simp⟩) (by assumption) ?_
            try simp only [List.getElem_toArray, List.getElem_cons_succ, List.getElem_cons_zero, Act.put, List.setIfInBounds_toArray, List.set_cons_zero, List.set_cons_succ]
            refine wpAnyH_done (by kernel_rfl) ?_ _
            go_wp2_with fail
            go_roundw
            case rel => exact ⟨le, t, l, y + 1, by omega, rfl, rfl, rfl, by go_num, hC2, Ext.trans he ed⟩
            case measure => simp [intOf]; omega
          · rw [hho] at z0
            have hcx := hk.out.cb x y hlx (alB_iff.2 hly)
            have hrx := hBF.out.range hk.out (x := x) hlx
            have htop := hC.out.top
            have hGx := hid (hG.out x y hlx hly)
            have hsame := hid (fun h => hC.out.same (x := x) (l := y) h)
            have htake := hid (fun h => hC.out.take hlx hly hfree hcx.1 hrx.2 h htop)
            replace hho := hid hho
            replace hfree := hid hfree
            generalize hq1 : fa x = fx at *
            generalize hq3 : c x y = cx at *
            replace hq1 := hid hq1
            replace hq3 := hid hq3
            have s1 : IntKind.i64.wrap (fx + cx) = fx + cx := IntWalk.i64_in _ (by omega)
            have hSx := hid (show ∀ u, Ext wq u → u.cell? ⟨bx, 0, none⟩ = some (.slice a1 M.length c1) ∧ u.cell? ⟨gh, y, none⟩ = some (.int .i64 (-1)) ∧ u.cell? ⟨gf, x, none⟩ = some (.int .i64 fx) from fun u e => ⟨e.cell x1, e.cell z0, e.cell z1⟩)
            go_upto_region 13 with fail
            refine region_held_from (w0 := wq) (S := fun u => u.cell? ⟨bx, 0, none⟩ = some (.slice a1 M.length c1) ∧ u.cell? ⟨gh, y, none⟩ = some (.int .i64 (-1)) ∧ u.cell? ⟨gf, x, none⟩ = some (.int .i64 fx)) (by kernel_rfl) hSx.out (fun wd ed hHeld0 => ?_)
            clear z0 z1 x1
            refine wpAnyH_take (i := 0) (v := .slice (some ⟨gh, 0, none⟩) (a.length + i) (a.length + i)) rfl (by kernel_rfl) (by kernel_rfl) (by kernel_rfl) (fun _ _ _ h => h) (Or.inl ⟨by rfl, by intro wx hx; go_simp⟩) (by assumption) ?_
            try simp only [List.getElem_toArray, List.getElem_cons_zero, Act.put, List.setIfInBounds_toArray, List.set_cons_zero, List.set_cons_succ]
            refine wpAnyH_take (i := 1) (v := .int .i64 y) rfl (by kernel_rfl) (by kernel_rfl) (by kernel_rfl) (fun _ _ _ h => h) (Or.inl ⟨by rfl, by intro wx hx; go_simp⟩) (by assumption) ?_
            try simp only [List.getElem_toArray, List.getElem_cons_succ, List.getElem_cons_zero, Act.put, List.setIfInBounds_toArray, List.set_cons_zero, List.set_cons_succ]
            refine wpAnyH_take (i := 2) (v := .pointer (some ⟨gh, y, none⟩)) rfl (by kernel_rfl) (by kernel_rfl) (by kernel_rfl) (fun _ _ _ h => h) (Or.inl ⟨by rfl, by intro wx hx; (go_simp; intro hh; exfalso; omega)⟩) (by assumption) ?_
            try simp only [List.getElem_toArray, List.getElem_cons_succ, List.getElem_cons_zero, Act.put, List.setIfInBounds_toArray, List.set_cons_zero, List.set_cons_succ]
            refine wpAnyH_take (i := 3) (v := .int .i64 (-1)) rfl (by kernel_rfl) (by kernel_rfl) (by kernel_rfl) (fun _ _ _ h => h) (Or.inl ⟨by rfl, by intro wx hx; obtain ⟨_, _, _⟩ := hx; go_simp⟩) (by assumption) ?_
            try simp only [List.getElem_toArray, List.getElem_cons_succ, List.getElem_cons_zero, Act.put, List.setIfInBounds_toArray, List.set_cons_zero, List.set_cons_succ]
            refine wpAnyH_take (i := 4) (v := .bool true) rfl (by kernel_rfl) (by kernel_rfl) (by kernel_rfl) (fun _ _ _ h => h) (Or.inl ⟨by rfl, by intro wx hx; go_simp⟩) (by assumption) ?_
            try simp only [List.getElem_toArray, List.getElem_cons_succ, List.getElem_cons_zero, Act.put, List.setIfInBounds_toArray, List.set_cons_zero, List.set_cons_succ]
            refine wpAnyH_take (i := 5) (v := .bool true) rfl (by kernel_rfl) (by kernel_rfl) (by kernel_rfl) (fun _ _ _ h => h) (Or.inl ⟨by rfl, by intro wx hx; go_simp⟩) (by assumption) ?_
            try simp only [List.getElem_toArray, List.getElem_cons_succ, List.getElem_cons_zero, Act.put, List.setIfInBounds_toArray, List.set_cons_zero, List.set_cons_succ]
            refine wpAnyH_take (i := 6) (v := .slice (some ⟨gf, 0, none⟩) (i + 1) (i + 1)) rfl (by kernel_rfl) (by kernel_rfl) (by kernel_rfl) (fun _ _ _ h => h) (Or.inl ⟨by rfl, by intro wx hx; go_simp⟩) (by assumption) ?_
            try simp only [List.getElem_toArray, List.getElem_cons_succ, List.getElem_cons_zero, Act.put, List.setIfInBounds_toArray, List.set_cons_zero, List.set_cons_succ]
            refine wpAnyH_take (i := 7) (v := .int .i64 x) rfl (by kernel_rfl) (by kernel_rfl) (by kernel_rfl) (fun _ _ _ h => h) (Or.inl ⟨by rfl, by intro wx hx; go_simp⟩) (by assumption) ?_
            try simp only [List.getElem_toArray, List.getElem_cons_succ, List.getElem_cons_zero, Act.put, List.setIfInBounds_toArray, List.set_cons_zero, List.set_cons_succ]
            refine wpAnyH_take (i := 8) (v := .pointer (some ⟨gf, x, none⟩)) rfl (by kernel_rfl) (by kernel_rfl) (by kernel_rfl) (fun _ _ _ h => h) (Or.inl ⟨by rfl, by intro wx hx; (go_simp; intro hh; exfalso; omega)⟩) (by assumption) ?_
            try simp only [List.getElem_toArray, List.getElem_cons_succ, List.getElem_cons_zero, Act.put, List.setIfInBounds_toArray, List.set_cons_zero, List.set_cons_succ]
            refine wpAnyH_take (i := 9) (v := .int .i64 fx) rfl (by kernel_rfl) (by kernel_rfl) (by kernel_rfl) (fun _ _ _ h => h) (Or.inl ⟨by rfl, by intro wx hx; obtain ⟨_, _, _⟩ := hx; go_simp⟩) (by assumption) ?_
            try simp only [List.getElem_toArray, List.getElem_cons_succ, List.getElem_cons_zero, Act.put, List.setIfInBounds_toArray, List.set_cons_zero, List.set_cons_succ]
            refine wpAnyH_take (i := 10) (v := .agg #[.slice a1 M.length c1]) rfl (by kernel_rfl) (by kernel_rfl) (by kernel_rfl) (fun _ _ _ h => h) (Or.inl ⟨by rfl, by intro wx hx; obtain ⟨_, _, _⟩ := hx; go_simp⟩) (by assumption) ?_
            try simp only [List.getElem_toArray, List.getElem_cons_succ, List.getElem_cons_zero, Act.put, List.setIfInBounds_toArray, List.set_cons_zero, List.set_cons_succ]
            refine wpAnyH_take (i := 11) (v := .slice da a.length ma) rfl (by kernel_rfl) (by kernel_rfl) (by kernel_rfl) (fun _ _ _ h => h) (Or.inl ⟨by rfl, by intro wx hx; go_simp⟩) (by assumption) ?_
            try simp only [List.getElem_toArray, List.getElem_cons_succ, List.getElem_cons_zero, Act.put, List.setIfInBounds_toArray, List.set_cons_zero, List.set_cons_succ]
            refine wpAnyH_take (i := 12) (v := .slice dx X.length mx) rfl (by kernel_rfl) (by kernel_rfl) (by kernel_rfl) (fun _ _ _ h => h) (Or.inl ⟨by rfl, by intro wx hx; go_simp⟩) (by assumption) ?_
            try simp only [List.getElem_toArray, List.getElem_cons_succ, List.getElem_cons_zero, Act.put, List.setIfInBounds_toArray, List.set_cons_zero, List.set_cons_succ]
            refine wpAnyH_take (i := 13) (v := .int .i64 y) rfl (by kernel_rfl) (by kernel_rfl) (by kernel_rfl) (fun _ _ _ h => h) (Or.inl ⟨by rfl, by intro wx hx; go_simp⟩) (by assumption) ?_
            try simp only [List.getElem_toArray, List.getElem_cons_succ, List.getElem_cons_zero, Act.put, List.setIfInBounds_toArray, List.set_cons_zero, List.set_cons_succ]
            refine wpAnyH_take (i := 14) (v := .int .i64 x) rfl (by kernel_rfl) (by kernel_rfl) (by kernel_rfl) (fun _ _ _ h => h) (Or.inl ⟨by rfl, by intro wx hx; go_simp⟩) (by assumption) ?_
            try simp only [List.getElem_toArray, List.getElem_cons_succ, List.getElem_cons_zero, Act.put, List.setIfInBounds_toArray, List.set_cons_zero, List.set_cons_succ]
            refine wpAnyH_take (i := 17) (v := .int .i64 le) rfl (by kernel_rfl) (by kernel_rfl) (by kernel_rfl) (fun _ _ _ h => h) (Or.inl ⟨by rfl, by intro wx hx; go_simp⟩) (by assumption) ?_
            try simp only [List.getElem_toArray, List.getElem_cons_succ, List.getElem_cons_zero, Act.put, List.setIfInBounds_toArray, List.set_cons_zero, List.set_cons_succ]
            refine wpAnyH_ready (rs := [15]) (by kernel_rfl) (by simp) ?_
            refine AllReadyH.cons rfl (fun K hK => ?_) AllReadyH.nil
            go_simp
            have m1 : Ext w0 wd := Ext.trans e0q ed
            go_at_call 49
            with_reducible refine (hGx.out wd m1).mono ?_
            rintro e u1 ⟨rfl, f1⟩
            have n1 : Ext wq u1 := Ext.trans ed f1
            go_wp2_with fail
            refine hK.out _ _ (hSx.out u1 n1) (fun _ => ?_)
            clear hK K
            try simp only [List.getElem_toArray, List.getElem_cons_succ, List.getElem_cons_zero, Act.put, List.setIfInBounds_toArray, List.set_cons_zero, List.set_cons_succ]
            refine wpAnyH_take (i := 16) (v := .int .i64 (fx + cx)) rfl (by kernel_rfl) (by kernel_rfl) (by kernel_rfl) (fun _ _ _ h => h) (Or.inl ⟨by rfl, by intro wx hx; go_simp⟩) (by assumption) ?_
            try simp only [List.getElem_toArray, List.getElem_cons_succ, List.getElem_cons_zero, Act.put, List.setIfInBounds_toArray, List.set_cons_zero, List.set_cons_succ]
            by_cases hlt : fx + cx < le
            · have hC2 := hid (htake.out hlt)
              refine wpAnyH_take (i := 18) (v := .bool true) rfl (by kernel_rfl) (by kernel_rfl) (by kernel_rfl) (fun _ _ _ h => h) (Or.inl ⟨by rfl, by intro wx hx; go_simp⟩) (by assumption) ?_
              try simp only [List.getElem_toArray, List.getElem_cons_succ, List.getElem_cons_zero, Act.put, List.setIfInBounds_toArray, List.set_cons_zero, List.set_cons_succ]
              refine wpAnyH_take (i := 19) (v := .bool true) rfl (by kernel_rfl) (by kernel_rfl) (by kernel_rfl) (fun _ _ _ h => h) (Or.inl ⟨by rfl, by intro wx hx; go_simp⟩) (by assumption) ?_
              try simp only [List.getElem_toArray, List.getElem_cons_succ, List.getElem_cons_zero, Act.put, List.setIfInBounds_toArray, List.set_cons_zero, List.set_cons_succ]
              refine wpAnyH_done (by kernel_rfl) ?_ _
              clear hsame htake
              go_upto_region 14 with fail
              refine region_held_from (w0 := u1) (S := fun u => u.cell? ⟨bx, 0, none⟩ = some (.slice a1 M.length c1) ∧ u.cell? ⟨gh, y, none⟩ = some (.int .i64 (-1)) ∧ u.cell? ⟨gf, x, none⟩ = some (.int .i64 fx)) (by kernel_rfl) (fun u e => hSx.out u (Ext.trans n1 e)) (fun we ee hHeld0 => ?_)
              have n2 : Ext wq we := Ext.trans n1 ee
              refine wpAnyH_take (i := 0) (v := .slice (some ⟨gf, 0, none⟩) (i + 1) (i + 1)) rfl (by kernel_rfl) (by kernel_rfl) (by kernel_rfl) (fun _ _ _ h => h) (Or.inl ⟨by rfl, by intro wx hx; go_simp⟩) (by assumption) ?_
              try simp only [List.getElem_toArray, List.getElem_cons_zero, Act.put, List.setIfInBounds_toArray, List.set_cons_zero, List.set_cons_succ]
              refine wpAnyH_take (i := 1) (v := .int .i64 x) rfl (by kernel_rfl) (by kernel_rfl) (by kernel_rfl) (fun _ _ _ h => h) (Or.inl ⟨by rfl, by intro wx hx; go_simp⟩) (by assumption) ?_
              try simp only [List.getElem_toArray, List.getElem_cons_succ, List.getElem_cons_zero, Act.put, List.setIfInBounds_toArray, List.set_cons_zero, List.set_cons_succ]
              refine wpAnyH_take (i := 2) (v := .pointer (some ⟨gf, x, none⟩)) rfl (by kernel_rfl) (by kernel_rfl) (by kernel_rfl) (fun _ _ _ h => h) (Or.inl ⟨by rfl, by intro wx hx; (go_simp; intro hh; exfalso; omega)⟩) (by assumption) ?_
              try simp only [List.getElem_toArray, List.getElem_cons_succ, List.getElem_cons_zero, Act.put, List.setIfInBounds_toArray, List.set_cons_zero, List.set_cons_succ]
              refine wpAnyH_take (i := 3) (v := .int .i64 fx) rfl (by kernel_rfl) (by kernel_rfl) (by kernel_rfl) (fun _ _ _ h => h) (Or.inl ⟨by rfl, by intro wx hx; obtain ⟨_, _, _⟩ := hx; go_simp⟩) (by assumption) ?_
              try simp only [List.getElem_toArray, List.getElem_cons_succ, List.getElem_cons_zero, Act.put, List.setIfInBounds_toArray, List.set_cons_zero, List.set_cons_succ]
              refine wpAnyH_take (i := 4) (v := .agg #[.slice a1 M.length c1]) rfl (by kernel_rfl) (by kernel_rfl) (by kernel_rfl) (fun _ _ _ h => h) (Or.inl ⟨by rfl, by intro wx hx; obtain ⟨_, _, _⟩ := hx; go_simp⟩) (by assumption) ?_
              try simp only [List.getElem_toArray, List.getElem_cons_succ, List.getElem_cons_zero, Act.put, List.setIfInBounds_toArray, List.set_cons_zero, List.set_cons_succ]
              refine wpAnyH_take (i := 5) (v := .slice da a.length ma) rfl (by kernel_rfl) (by kernel_rfl) (by kernel_rfl) (fun _ _ _ h => h) (Or.inl ⟨by rfl, by intro wx hx; go_simp⟩) (by assumption) ?_
              try simp only [List.getElem_toArray, List.getElem_cons_succ, List.getElem_cons_zero, Act.put, List.setIfInBounds_toArray, List.set_cons_zero, List.set_cons_succ]
              refine wpAnyH_take (i := 6) (v := .slice dx X.length mx) rfl (by kernel_rfl) (by kernel_rfl) (by kernel_rfl) (fun _ _ _ h => h) (Or.inl ⟨by rfl, by intro wx hx; go_simp⟩) (by assumption) ?_
              try simp only [List.getElem_toArray, List.getElem_cons_succ, List.getElem_cons_zero, Act.put, List.setIfInBounds_toArray, List.set_cons_zero, List.set_cons_succ]
              refine wpAnyH_take (i := 7) (v := .int .i64 y) rfl (by kernel_rfl) (by kernel_rfl) (by kernel_rfl) (fun _ _ _ h => h) (Or.inl ⟨by rfl, by intro wx hx; go_simp⟩) (by assumption) ?_
              try simp only [List.getElem_toArray, List.getElem_cons_succ, List.getElem_cons_zero, Act.put, List.setIfInBounds_toArray, List.set_cons_zero, List.set_cons_succ]
              refine wpAnyH_take (i := 8) (v := .int .i64 x) rfl (by kernel_rfl) (by kernel_rfl) (by kernel_rfl) (fun _ _ _ h => h) (Or.inl ⟨by rfl, by intro wx hx; go_simp⟩) (by assumption) ?_
              try simp only [List.getElem_toArray, List.getElem_cons_succ, List.getElem_cons_zero, Act.put, List.setIfInBounds_toArray, List.set_cons_zero, List.set_cons_succ]
              refine wpAnyH_ready (rs := [9]) (by kernel_rfl) (by simp) ?_
              refine AllReadyH.cons rfl (fun K hK => ?_) AllReadyH.nil
              go_simp
              have m2 : Ext w0 we := Ext.trans e0q n2
              go_at_call 49
              with_reducible refine (hGx.out we m2).mono ?_
              rintro e u2 ⟨rfl, f2⟩
              have n3 : Ext wq u2 := Ext.trans n2 f2
              go_wp2_with fail
              refine hK.out _ _ (hSx.out u2 n3) (fun _ => ?_)
              clear hK K
              try simp only [List.getElem_toArray, List.getElem_cons_succ, List.getElem_cons_zero, Act.put, List.setIfInBounds_toArray, List.set_cons_zero, List.set_cons_succ]
              refine wpAnyH_take (i := 10) (v := .int .i64 (fx + cx)) rfl (by kernel_rfl) (by kernel_rfl) (by kernel_rfl) (fun _ _ _ h => h) (Or.inl ⟨by rfl, by intro wx hx; go_simp⟩) (by assumption) ?_
              try simp only [List.getElem_toArray, List.getElem_cons_succ, List.getElem_cons_zero, Act.put, List.setIfInBounds_toArray, List.set_cons_zero, List.set_cons_succ]
              refine wpAnyH_take (i := 11) (v := .int .i64 (fx + cx)) rfl (by kernel_rfl) (by kernel_rfl) (by kernel_rfl) (fun _ _ _ h => h) (Or.inl ⟨by rfl, by intro wx hx; go_simp⟩) (by assumption) ?_
              try simp only [List.getElem_toArray, List.getElem_cons_succ, List.getElem_cons_zero, Act.put, List.setIfInBounds_toArray, List.set_cons_zero, List.set_cons_succ]
              refine wpAnyH_done (by kernel_rfl) ?_ _
              go_wp2_with fail
              go_roundw
              case rel => exact ⟨fx + cx, x, y, y + 1, by omega, rfl, rfl, rfl, by go_num, hC2, Ext.trans he n3⟩
              case measure => simp [intOf]; omega
            · have hC2 := hid (hsame.out (by omega))
              refine wpAnyH_take (i := 18) (v := .bool false) rfl (by kernel_rfl) (by kernel_rfl) (by kernel_rfl) (fun _ _ _ h => h) (Or.inl ⟨by rfl, by intro wx hx; go_simp⟩) (by assumption) ?_
              try simp only [List.getElem_toArray, List.getElem_cons_succ, List.getElem_cons_zero, Act.put, List.setIfInBounds_toArray, List.set_cons_zero, List.set_cons_succ]
              refine wpAnyH_take (i := 19) (v := .bool false) rfl (by kernel_rfl) (by kernel_rfl) (by kernel_rfl) (fun _ _ _ h => h) (Or.inl ⟨by rfl, by intro wx hx; go_simp⟩) (by assumption) ?_
              try simp only [List.getElem_toArray, List.getElem_cons_succ, List.getElem_cons_zero, Act.put, List.setIfInBounds_toArray, List.set_cons_zero, List.set_cons_succ]
              refine wpAnyH_done (by kernel_rfl) ?_ _
              clear hsame htake
              go_wp2_with fail
              go_roundw
              case rel => exact ⟨le, t, l, y + 1, by omega, rfl, rfl, rfl, by go_num, hC2, Ext.trans he n1⟩
              case measure => simp [intOf]; omega
        · have hC2 := hid (hC.out.row (by omega))
          go_wp2_with fail
          go_roundw
          case rel => exact ⟨le, t, l, x + 1, by omega, rfl, rfl, rfl, by go_num, hC2, he⟩
          case measure => simp [intOf]; omega
    · have hxi : x = i + 1 := by omega
      subst hxi
      obtain ⟨⟨t1, t2, t3, t4, t5⟩, t6, hB1⟩ := hC.out.fin hk.out hal.1 hBF.out
      have h0le : 0 ≤ le ∧ le ≤ 99 := by
        refine ⟨?_, t6⟩
        by_cases e : t = i
        · rw [e, hBF.out.top] at t5
          have := hk.out.cb i l (Nat.le_refl _) (alB_iff.2 (by rw [← e]; exact t2))
          omega
        · have h1 := hBF.out.low hk.out.mt hk.out.ct hk.out.cb (hBF.out.rch t t1 t4).choose_spec t1 t4
          unfold phi at h1
          rw [if_neg e] at h1
          have h2 := hk.out.ct.1.2 t l (by omega) (by have := hk.out.mt; omega) (alB_iff.2 t2)
          rw [hk.out.ct.2.2 l (by omega) t3] at h2
          omega
      obtain ⟨dp0, hrch⟩ := hBF.out.rch t t1 t4
      have hAG := hid (AG.start (c := c) (m := a.length + X.length) (fr := fr) hk.out.mt (out := fun r => if r < i then f r else 0) t1 t4 (by omega) (alB_iff.2 t2) t3 (fun x hx => if_pos hx))
      rw [← t5] at hAG
      replace hB1 := hid hB1
      have eO : Ext w wo := Ext.trans e1 (Ext.trans e2 (Ext.trans e3 he))
      have e0o : Ext w0 wo := Ext.trans e03 he
      obtain ⟨B, hB⟩ : ∃ b, b = wo.heap.size := ⟨_, rfl⟩
      have hEx := hid (show ∀ u, Below B wo u → Ext wo u from fun u h => ⟨by rw [← hB]; exact h⟩)
      have hBs := hid (show ∀ u, Below B wo u → B ≤ u.heap.size from fun u h => by rw [hB]; exact h.size)
      have hL1 := hLo.out wo e0o
      rw [← hB] at hL1
      replace hL1 := hid hL1
      have hBX := hid (show ∀ u, Ext wo u → Below B wo u from fun u e => by rw [hB]; exact e.below)
      replace hB := hid hB
      clear hC t5 hLo
      go_upto_region 17 with fail
      have hap := hid (show (lsN i f).map (Value.int .i64) ++ [.int .i64 0] = (List.range (i + 1)).map (fun j => Value.int .i64 ((if j < i then f j else 0 : Nat) : Int)) by
        rw [List.range_succ, List.map_append]
        have h1 : (lsN i f).map (Value.int .i64) = (List.range i).map (fun j => Value.int .i64 ((if j < i then f j else 0 : Nat) : Int)) := by
          unfold lsN
          rw [List.map_map]
          exact List.map_congr_left fun j hj => by
            show Value.int .i64 (f j : Int) = _
            rw [if_pos (List.mem_range.1 hj)]
        rw [h1]
        simp)
      go_upto_region 18 with (first
        | (go_at_call 32; with_reducible refine hL1.out.mono ?_; rintro e w5 ⟨dO, mO, rfl, own5, e5⟩; have b5 := hBX.out _ e5; have hB5 := hBs.out _ b5)
        | (at_builtin; refine wpList_append1 rfl _ _ _ rfl elemInt rfl own5 hB5 rfl rfl (by omega) (by omega) ?_; intro v6 w6 own6 b6; rw [hap.out] at own6; obtain ⟨d6, m6, hf6⟩ := own6.form; simp only at hf6; subst hf6))
      have own6' : Own w6 B [dR d6 (i + 1) m6 (fun j => ((if j < i then f j else 0 : Nat) : Int))] := own6
      obtain ⟨g, rfl⟩ := own6'.at (j := 0) (by omega)
      have b6' := b5.trans b6
      clear own5 own6 b5 b6 hB5 e5
      go_loopg [14, 15] dp0 (fun gk av cv wr => ∃ (o : Nat → Nat) (t l : Nat), av = .int .i64 (t : Nat) ∧ cv = .int .i64 (l : Nat) ∧ t ≤ i ∧ Hid (Rch fr i gk t) ∧ Hid (AG (alB a.length) c f i (a.length + X.length) 1099511627776 fa fr le o t l) ∧ Own wr B [nA g (i + 1) m6 o] ∧ Below B wo wr)
      case atStart => exact ⟨_, t, l, rfl, rfl, t1, hid hrch, hAG, own6', b6'⟩
      case round =>
        clear own6' b6' hAG hrch t1 t2 t3 t4
        obtain ⟨o, t, l, rfl, rfl, t1, hrch, hAG, own, hb1⟩ := hrel
        obtain ⟨wq, rfl⟩ : ∃ y : World, y = wr := ⟨_, rfl⟩
        obtain ⟨z1, g1⟩ := own.aAt (k := 0) (c := m6) rfl (j := t) (by omega)
        by_cases hti : t = i
        · subst hti
          obtain ⟨hM2, hc2⟩ := hAG.out.end hBF.out.top
          obtain ⟨p2, q2, hC2, hp2⟩ := aug_best hk.out.mt hk.out.ct hk.out.cb hBF.out hDn.out (b := 99 * (t : Int)) (e := 99) hB1.out (by omega) hk.out.pb h0le.2 (by omega) (by omega) hM2 hc2
          have own7 := own.nSet (k := 0) (c := m6) rfl t l
          have b7 := hb1.setCell (p := ⟨g, t, none⟩) (own.aLt (k := 0) (c := m6) rfl).1 (.int .i64 (l : Nat))
          have eF : Ext w (wq.setCell ⟨g, t, none⟩ (.int .i64 (l : Nat))) := Ext.trans eO (hEx.out _ b7)
          have hres : IsInts (wq.setCell ⟨g, t, none⟩ (.int .i64 (l : Nat))) (.slice (some ⟨g, 0, none⟩) (t + 1) m6) (lsN (t + 1) (updN o t l)) := by
            have h1 : nA g (t + 1) m6 (updN o t l) = intRowOf 3 (.slice (some ⟨g, 0, none⟩) (lsN (t + 1) (updN o t l)).length m6) (lsN (t + 1) (updN o t l)) := by
              unfold intRowOf lsN
              simp only [List.length_map, List.length_range, List.map_map]
              rfl
            have own8 : Own (wq.setCell ⟨g, t, none⟩ (.int .i64 (l : Nat))) B [nA g (t + 1) m6 (updN o t l)] := own7
            rw [h1] at own8
            have := own8.reads (by rw [lsN_len]; unfold Short; omega) (fun x hx => by
              obtain ⟨r, hr, rfl⟩ := List.mem_map.1 hx
              have := (hM2.1 r (List.mem_range.1 hr)).1
              unfold I64; omega)
            rw [lsN_len] at this
            exact this
          have hfin := hid (show FlowOk a.length c (t + 1) (a.length + X.length) (updN o t l) p2 q2 from ⟨hM2, hC2, fun x hx => by have := hp2 x hx; omega⟩)
          replace hM2 := hid hM2
          replace hc2 := hid hc2
          replace hC2 := hid hC2
          replace hp2 := hid hp2
          clear own own7 hb1
          go_wp2_with fail
          refine bodyPost_ret (v := .slice (some ⟨g, 0, none⟩) (t + 1) m6) (by simp [results, Tryz.results50, go_sem]) rfl ?_
          exact ⟨_, m6, updN o t l, p2, q2, rfl, hres, hfin.out, eF⟩
        · obtain ⟨hAG2, hot⟩ := hAG.out.step hBF.out hDn.out hti
          have hrs : ∃ d, gk = d + 1 ∧ Rch fr i d (fr t) := by
            cases hrch.out with
            | base => exact absurd rfl hti
            | step _ h => exact ⟨_, rfl, h⟩
          obtain ⟨d, hgd, hr2⟩ := hrs
          have hne : ((t : Int) != (i : Int)) = true := by simp; omega
          rw [hot] at z1
          have own7 := own.nSet (k := 0) (c := m6) rfl t l
          have b7 := hb1.setCell (p := ⟨g, t, none⟩) (own.aLt (k := 0) (c := m6) rfl).1 (.int .i64 (l : Nat))
          have hft := hAG2.le
          have ht1 : t < i + 1 := by omega
          have zf := hfr.out wq (Ext.trans he (hEx.out _ hb1)) t (by omega)
          have zf2 := hfr.out (wq.setCell ⟨g, t, none⟩ (.int .i64 (l : Nat))) (Ext.trans he (hEx.out _ b7)) t (by omega)
          replace hAG2 := hid hAG2
          replace hr2 := hid hr2
          replace hot := hid hot
          replace hgd := hid hgd
          clear own hb1
          go_upto_region 21 with fail
          generalize wq.setCell ⟨g, t, none⟩ (.int .i64 (l : Nat)) = w8 at *
          clear z1 g1 zf
          go_wp2_with fail
          go_roundg d
          case rel => exact ⟨_, fr t, f t, rfl, rfl, hft, hr2, hAG2, own7, b7⟩
          case measure => rw [hgd.out]; exact Nat.lt_succ_self _
end Go.Proofs.YtllfchcocgdcjaaGreat
