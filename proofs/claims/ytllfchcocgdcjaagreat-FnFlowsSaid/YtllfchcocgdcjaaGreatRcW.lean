/- The reference's least changes walked: l7Holders, l7Reach. -/
import Derived.Test.YtllfchcocgdcjaaGreatRcP
import Derived.Test.YtllfchcocgdcjaaGreatArr
import Derived.Test.YtllfchcocgdcjaaGreatChS
namespace Go.Proofs.YtllfchcocgdcjaaGreat
open Go.RowKit

set_option maxHeartbeats 1600000 in
set_option maxRecDepth 100000 in
theorem l7Holders_any {vb : Value} {N i : Nat} {f : Nat → Nat} {w0 w : World} [Ext w0 w] (hb : IsInts w0 vb (lsN i f)) (hN : N ≤ 1000) (hi : i ≤ 1000) (hf : ∀ r, r < i → f r < N) :
    Calls Tryz.prog 78 #[.int .i64 N, vb] w fun e w' => ∃ g, e = .returned (.slice (some ⟨g, 0, none⟩) N N) ∧ Own w' w.heap.size [iA g N N (hol f i)] ∧ Ext w w' := by
  have hb' := hb
  obtain ⟨db, mb, rfl, lb⟩ := hb.form
  rw [lsN_len] at hb hb' ⊢
  replace hf := hid hf
  clear lb
  go_enter Tryz.func78, Tryz.ntmps78
  obtain ⟨B, hB⟩ : ∃ b, b = w.heap.size := ⟨_, rfl⟩
  have hEx := hid (show ∀ u, Below B w u → Ext w u from fun u h => ⟨by rw [← hB]; exact h⟩)
  have hBs := hid (show ∀ u, Below B w u → B ≤ u.heap.size from fun u h => by rw [hB]; exact h.size)
  have own0 : Own w B [] := Own.nil _ _
  have hBw : B ≤ w.heap.size := by rw [hB]; exact Nat.le_refl _
  rw [← hB]
  replace hB := hid hB
  go_upto_region 3 with (at_make; refine wpList_makeA rfl _ _ _ rfl elemInt N rfl rfl (by omega) (by omega) rfl own0 hBw ?_; intro g w3 own3 e3 b3)
  go_loopw [6] (fun q wr => ∃ t : Nat, t ≤ N ∧ q = .int .i64 t ∧ Own wr B [iA g N N (fun l => if l < t then -1 else 0)] ∧ Below B w wr) (fun q _ => N - (intOf q).toNat)
  case atStart => exact ⟨0, by omega, rfl, by simpa using own3, b3⟩
  case round =>
    clear own3 b3 e3
    obtain ⟨t, ht, rfl, own, hbw⟩ := hrel
    obtain ⟨wo, rfl⟩ : ∃ y : World, y = wr := ⟨_, rfl⟩
    by_cases hlt : t < N
    · obtain ⟨y1, g1⟩ := own.aAt (k := 0) rfl (j := t) hlt
      have own7 : Own (wo.setCell ⟨g, t, none⟩ (.int .i64 (-1))) B [iA g N N (fun l => if l < t + 1 then -1 else 0)] := by
        have h := own.iSet (k := 0) rfl t (-1)
        rw [show iA g N N (fun l => if l < t + 1 then (-1 : Int) else 0) = iA g N N (updI (fun l => if l < t then -1 else 0) t (-1)) from aR_congr fun j _ => by
          show Value.int .i64 (if j < t + 1 then (-1 : Int) else 0) = Value.int .i64 (if j = t then -1 else if j < t then -1 else 0)
          by_cases e : j = t
          · rw [if_pos e, if_pos (by omega)]
          · rw [if_neg e]
            by_cases e2 : j < t
            · rw [if_pos e2, if_pos (by omega)]
            · rw [if_neg e2, if_neg (by omega)]]
        exact h
      have b7 := hbw.setCell (p := ⟨g, t, none⟩) (own.aLt (k := 0) rfl).1 (.int .i64 (-1))
      clear own hbw
      go_wp2_with fail
      go_roundw
      case rel => exact ⟨t + 1, by omega, by go_num, own7, b7⟩
      case measure => simp [intOf]; omega
    · have htN : t = N := by omega
      subst htN
      have own4 : Own wo B [iA g t t (hol f 0)] := by
        rw [show iA g t t (hol f 0) = iA g t t (fun l => if l < t then (-1 : Int) else 0) from aR_congr fun j hj => by
          show Value.int .i64 (-1) = Value.int .i64 (if j < t then (-1 : Int) else 0)
          rw [if_pos hj]]
        exact own
      clear own
      go_wp2_with fail
      go_loopw [7] (fun q wr => ∃ r : Nat, r ≤ i ∧ q = .int .i64 r ∧ Own wr B [iA g t t (hol f r)] ∧ Below B w wr) (fun q _ => i - (intOf q).toNat)
      case atStart => exact ⟨0, by omega, rfl, own4, hbw⟩
      case round =>
        clear own4 hbw
        obtain ⟨r, hr, rfl, own, hbw⟩ := hrel
        obtain ⟨wq, rfl⟩ : ∃ y : World, y = wr := ⟨_, rfl⟩
        by_cases hlt2 : r < i
        · have e0 : Ext w0 wq := Ext.trans ‹Ext w0 w› (hEx.out _ hbw)
          obtain ⟨bb, ob, hdb, hcb⟩ := hb'.at (w' := wq) (k := r) (by rw [lsN_len]; exact hlt2)
          cases hdb
          rw [lsN_at hlt2] at hcb
          have hfr := hf.out r hlt2
          obtain ⟨y1, g1⟩ := own.aAt (k := 0) rfl (j := f r) hfr
          have own7 := own.iSet (k := 0) rfl (f r) (r : Int)
          have e7 : updI (hol f r) (f r) (r : Int) = hol f (r + 1) := rfl
          rw [e7] at own7
          have b7 := hbw.setCell (p := ⟨g, f r, none⟩) (own.aLt (k := 0) rfl).1 (.int .i64 (r : Nat))
          clear own hbw e7
          generalize f r = fr at hcb hfr y1 g1 own7 b7
          go_wp2_with fail
          go_roundw
          case rel => exact ⟨r + 1, by omega, by go_num, own7, b7⟩
          case measure => simp [intOf]; omega
        · have hri : r = i := by omega
          subst hri
          have eF := hEx.out _ hbw
          go_wp2_with fail
          refine bodyPost_ret (v := .slice (some ⟨g, 0, none⟩) t t) (by simp [results, Tryz.results78, go_sem]) rfl ?_
          exact ⟨g, rfl, own, eF⟩
/-- what l7Reach hands over -/
def ReachPost (k : Nat) (c : Nat → Nat → Int) (f : Nat → Nat) (i : Nat) (w : World) (e : Ending) (w' : World) : Prop :=
  ∃ gf gr fa fr, e = .returned (.tuple #[.slice (some ⟨gf, 0, none⟩) (i + 1) (i + 1), .slice (some ⟨gr, 0, none⟩) (i + 1) (i + 1)]) ∧ Own w' w.heap.size [nA gr (i + 1) (i + 1) fr, iA gf (i + 1) (i + 1) fa] ∧ BF (alB k) c f i 1099511627776 fa fr ∧ Done1 (alB k) c f i 1099511627776 fa ∧ Ext w w'
set_option maxHeartbeats 6400000 in
set_option maxRecDepth 100000 in
theorem l7Reach_any {v va vX vb vh : Value} {M : List (List Int)} {a X : List Int} {i : Nat} {f : Nat → Nat} {p q : Nat → Int} {w0 w : World} [Ext w0 w] (hm : IsMet w0 v M) (ha : IsInts w0 va a) (hXi : IsInts w0 vX X) (hb : IsInts w0 vb (lsN i f))
    (hh : IsInts w0 vh ((List.range (a.length + i)).map (hol f i))) (hs : srvB M a X = true) (hi : i < X.length) (hk : Rk a.length (flC M a X) f i (a.length + X.length) p q) :
    Calls Tryz.prog 79 #[v, va, vX, vb, vh] w (ReachPost a.length (flC M a X) f i w) := by
  have hm' := hm
  have ha' := ha
  have hX' := hXi
  have hh' := hh
  obtain ⟨v1, rfl, hR⟩ := hm
  obtain ⟨a1, c1, rfl, l1⟩ := hR.form
  obtain ⟨db, mb, rfl, lb⟩ := hb.form
  obtain ⟨da, ma, rfl, la⟩ := ha.form
  obtain ⟨dx, mx, rfl, lx⟩ := hXi.form
  obtain ⟨dh, mh, rfl, lh⟩ := hh.form
  obtain ⟨hM, hal, hab, hXb, hXl⟩ := srv_pts hs
  rw [lsN_len] at hb ⊢
  rw [List.length_map, List.length_range] at hh hh' ⊢
  clear lb lh
  obtain ⟨c, hcE⟩ : ∃ c, c = flC M a X := ⟨_, rfl⟩
  have hG := hid (show ∀ (x l : Nat), x ≤ i → l < a.length + x → ∀ u, Ext w0 u → Calls Tryz.prog 49 #[.agg #[.slice a1 M.length c1], .slice da a.length ma, .slice dx X.length mx, .int .i64 l, .int .i64 x] u fun e w' => e = .returned (.int .i64 (c x l)) ∧ Ext u w' from fun x l hx hl u eu => by
    rw [hcE]
    exact l7Gap_any (w0 := w0) (w := u) hm' ha' hX' hM hab hXb (by omega) hl (by omega))
  rw [← hcE] at hk ⊢
  have hk := hid hk
  have hib := hk.out.ib
  have hhol := hid (show ∀ u, Ext w0 u → ∀ l, l < a.length + i → ∃ b o, dh = some ⟨b, o, none⟩ ∧ u.cell? ⟨b, o + l, none⟩ = some (.int .i64 (hol f i l)) from fun u eu l hl => by
    obtain ⟨bb, ob, hd, hcx⟩ := hh'.at (w' := u) (k := l) (by simpa using hl)
    refine ⟨bb, ob, hd, ?_⟩
    rw [hcx]
    simp [nth, hl])
  clear hs hM hab hXb
  replace hcE := hid hcE
  go_enter Tryz.func79, Tryz.ntmps79
  go_upto_region 1 with fail
  have e1 : Ext w (w.alloc (.cells #[.slice a1 M.length c1] 26)) := inferInstance
  have x0 : (w.alloc (.cells #[.slice a1 M.length c1] 26)).cell? ⟨w.heap.size, 0, none⟩ = some (.slice a1 M.length c1) := by go_simp
  obtain ⟨bx, hbx⟩ : ∃ q, q = w.heap.size := ⟨_, rfl⟩
  rw [← hbx] at x0 ⊢
  generalize w.alloc (.cells #[.slice a1 M.length c1] 26) = w1 at *
  obtain ⟨B, hB⟩ : ∃ b, b = w1.heap.size := ⟨_, rfl⟩
  have hEx := hid (show ∀ u, Below B w1 u → Ext w1 u from fun u h => ⟨by rw [← hB]; exact h⟩)
  have hBs := hid (show ∀ u, Below B w1 u → B ≤ u.heap.size from fun u h => by rw [hB]; exact h.size)
  have own0 : Own w1 B [] := Own.nil _ _
  have hB1 : B ≤ w1.heap.size := by rw [hB]; exact Nat.le_refl _
  have hwB : w.heap.size ≤ B := by rw [hB]; exact e1.size
  replace hB := hid hB
  replace hbx := hid hbx
  have e01 : Ext w0 w1 := Ext.trans ‹Ext w0 w› e1
  go_upto_region 3 with (at_make; refine wpList_makeA rfl _ _ _ rfl elemInt (i + 1) rfl rfl (by omega) (by omega) rfl own0 hB1 ?_; intro gf w2 own2 e2 b2)
  have hB2 := hBs.out _ b2
  clear own0 hB1
  go_upto_region 5 with (at_make; refine wpList_makeA rfl _ _ _ rfl elemInt (i + 1) rfl rfl (by omega) (by omega) rfl own2 hB2 ?_; intro gr w3 own3 e3 b3)
  have b3' := b2.trans b3
  clear own2 hB2 e2 b2 e3 b3
  go_loopw [15] (fun q wr => ∃ t : Nat, t ≤ i ∧ q = .int .i64 t ∧ Own wr B [nA gr (i + 1) (i + 1) (fun _ => 0), iA gf (i + 1) (i + 1) (fun x => if x < t then 1099511627776 else 0)] ∧ Below B w1 wr) (fun q _ => i - (intOf q).toNat)
  case atStart => exact ⟨0, by omega, rfl, by rw [show iA gf (i + 1) (i + 1) (fun x => if x < 0 then (1099511627776 : Int) else 0) = iA gf (i + 1) (i + 1) (fun _ => 0) from aR_congr fun j _ => by show Value.int .i64 (if j < 0 then (1099511627776 : Int) else 0) = _; rw [if_neg (by omega)]]; exact own3, b3'⟩
  case round =>
    clear own3 b3'
    obtain ⟨t, ht, rfl, own, hb1⟩ := hrel
    obtain ⟨wo, rfl⟩ : ∃ y : World, y = wr := ⟨_, rfl⟩
    by_cases hlt : t < i
    · obtain ⟨y1, g1⟩ := own.aAt (k := 1) rfl (j := t) (by omega)
      have own7 : Own (wo.setCell ⟨gf, t, none⟩ (.int .i64 1099511627776)) B [nA gr (i + 1) (i + 1) (fun _ => 0), iA gf (i + 1) (i + 1) (fun x => if x < t + 1 then 1099511627776 else 0)] := by
        have h := own.iSet (k := 1) rfl t 1099511627776
        rw [show iA gf (i + 1) (i + 1) (fun l => if l < t + 1 then (1099511627776 : Int) else 0) = iA gf (i + 1) (i + 1) (updI (fun l => if l < t then 1099511627776 else 0) t 1099511627776) from aR_congr fun j _ => by
          show Value.int .i64 (if j < t + 1 then (1099511627776 : Int) else 0) = Value.int .i64 (if j = t then 1099511627776 else if j < t then 1099511627776 else 0)
          by_cases e : j = t
          · rw [if_pos e, if_pos (by omega)]
          · rw [if_neg e]
            by_cases e2 : j < t
            · rw [if_pos e2, if_pos (by omega)]
            · rw [if_neg e2, if_neg (by omega)]]
        exact h
      have b7 := hb1.setCell (p := ⟨gf, t, none⟩) (own.aLt (k := 1) rfl).1 (.int .i64 1099511627776)
      have hlt1 : t < i + 1 := by omega
      clear own hb1
      go_wp2_with fail
      go_roundw
      case rel => exact ⟨t + 1, by omega, by go_num, own7, b7⟩
      case measure => simp [intOf]; omega
    · have hti : t = i := by omega
      subst hti
      have hbf := hid (BF.init (k := a.length) (c := c) (f := f) (i := t) (fr := fun _ => 0))
      go_upto_region 9 with fail
      go_loopg [16] ((sgTo (fun x => if x < t then 1099511627776 else 0) t + 5940 * (t : Int)).toNat + 1) (fun gk cv wr => ∃ (fa : Nat → Int) (fr : Nat → Nat) (ch : Bool), cv = .bool ch ∧ Hid (BF (alB a.length) c f t 1099511627776 fa fr) ∧ Hid (ch = false → Done1 (alB a.length) c f t 1099511627776 fa) ∧ gk = (sgTo fa t + 5940 * (t : Int)).toNat + (if ch then 1 else 0) ∧ Own wr B [nA gr (t + 1) (t + 1) fr, iA gf (t + 1) (t + 1) fa] ∧ Below B w1 wr)
      case atStart => exact ⟨_, _, true, rfl, hbf, hid (fun h => by cases h), rfl, own, hb1⟩
      case round =>
        clear own hb1 hbf
        obtain ⟨fa, fr, ch, rfl, hBF, hfx, hgk, own, hb1⟩ := hrel
        obtain ⟨wa, rfl⟩ : ∃ y : World, y = wr := ⟨_, rfl⟩
        cases ch with
        | false =>
          have hdn := hid (hfx.out rfl)
          have eF : Ext w wa := Ext.trans e1 (hEx.out _ hb1)
          clear hgk hfx
          go_wp2_with fail
          refine bodyPost_ret (v := .tuple #[.slice (some ⟨gf, 0, none⟩) (t + 1) (t + 1), .slice (some ⟨gr, 0, none⟩) (t + 1) (t + 1)]) (by simp [results, Tryz.results79, go_sem]) rfl ?_
          exact ⟨gf, gr, fa, fr, rfl, own.mono hwB, hBF.out, hdn.out, eF⟩
        | true =>
          have hRs := hid (Rs.begin hBF.out)
          replace hgk := hid hgk
          clear hBF hfx
          go_upto_region 12 with fail
          go_loopw [16, 17] (fun cv q wr => ∃ (x : Nat) (fa2 : Nat → Int) (fr2 : Nat → Nat) (ch2 : Bool), x ≤ t + 1 ∧ q = .int .i64 x ∧ cv = .bool ch2 ∧ Hid (Rs a.length c f t fa fa2 fr2 ch2 x 0) ∧ Own wr B [nA gr (t + 1) (t + 1) fr2, iA gf (t + 1) (t + 1) fa2] ∧ Below B w1 wr) (fun _ q _ => t + 1 - (intOf q).toNat)
          case atStart => exact ⟨0, fa, fr, false, by omega, rfl, rfl, hRs, own, hb1⟩
          case round =>
            clear own hb1 hRs
            obtain ⟨x, fa2, fr2, ch2, hx, rfl, rfl, hRs, own, hb1⟩ := hrel
            obtain ⟨wb, rfl⟩ : ∃ y : World, y = wr := ⟨_, rfl⟩
            by_cases hlx : x ≤ t
            · go_upto_region 15 with fail
              go_loopw [16, 18] (fun cv q wr => ∃ (l : Nat) (fa3 : Nat → Int) (fr3 : Nat → Nat) (ch3 : Bool), l ≤ a.length + x ∧ q = .int .i64 l ∧ cv = .bool ch3 ∧ Hid (Rs a.length c f t fa fa3 fr3 ch3 x l) ∧ Own wr B [nA gr (t + 1) (t + 1) fr3, iA gf (t + 1) (t + 1) fa3] ∧ Below B w1 wr) (fun _ q _ => a.length + x - (intOf q).toNat)
              case atStart => exact ⟨0, fa2, fr2, ch2, by omega, rfl, rfl, hRs, own, hb1⟩
              case round =>
                clear own hb1 hRs
                obtain ⟨l, fa3, fr3, ch3, hl, rfl, rfl, hRs, own, hb1⟩ := hrel
                obtain ⟨wq, rfl⟩ : ∃ y : World, y = wr := ⟨_, rfl⟩
                have hrx := hRs.out.bf.range hk.out (x := x) (by omega)
                obtain ⟨z1, _⟩ := own.aAt (k := 1) rfl (j := x) (by omega)
                have hx1 : x < t + 1 := by omega
                by_cases hll : l < a.length + x
                · by_cases hz : fa3 x < 1099511627776
                  · have eq : Ext w1 wq := hEx.out _ hb1
                    have e0q : Ext w0 wq := Ext.trans e01 eq
                    obtain ⟨bh, oh, hd, hch⟩ := hhol.out wq e0q l (by omega)
                    subst hd
                    have x1 := eq.cell x0
                    have hGx := hid (hG.out x l (by omega) hll)
                    rcases hol_or (f := f) (l := l) (i := t) with ⟨y, hy, hfy, hho⟩ | ⟨hho, hfr⟩
                    · rw [hho] at hch
                      have hly : l < a.length + y := by
                        have := alB_iff.1 (hk.out.mt.1 y hy).2
                        omega
                      have hGy := hid (hG.out y l (by omega) hly)
                      obtain ⟨z2, g2⟩ := own.aAt (k := 1) rfl (j := y) (by omega)
                      have hry := hRs.out.bf.range hk.out (x := y) (by omega)
                      have hcx := hk.out.cb x l (by omega) (alB_iff.2 hll)
                      have hcy := hk.out.cb y l (by omega) (alB_iff.2 hly)
                      have hsame := hid (fun h => hRs.out.same hk.out hy hfy h)
                      have hrel := hid (fun h => hRs.out.relax hk.out (by omega) hz hy hfy hll h)
                      have hy1 : y < t + 1 := by omega
                      replace hho := hid hho
                      replace hfy := hid hfy
                      generalize hq1 : fa3 x = fx at *
                      generalize hq2 : fa3 y = fy at *
                      generalize hq3 : c x l = cx at *
                      generalize hq4 : c y l = cy at *
                      replace hq1 := hid hq1
                      replace hq2 := hid hq2
                      replace hq3 := hid hq3
                      replace hq4 := hid hq4
                      have s1 : IntKind.i64.wrap (fx + cx) = fx + cx := IntWalk.i64_in _ (by omega)
                      have s2 : IntKind.i64.wrap (fx + cx - cy) = fx + cx - cy := IntWalk.i64_in _ (by omega)
                      have hSx := hid (show ∀ u, Ext wq u → u.cell? ⟨bx, 0, none⟩ = some (.slice a1 M.length c1) ∧ u.cell? ⟨gf, x, none⟩ = some (.int .i64 fx) ∧ u.cell? ⟨gf, y, none⟩ = some (.int .i64 fy) from fun u e => ⟨e.cell x1, e.cell z1, e.cell z2⟩)
                      go_upto_region 18 with fail
                      obtain ⟨V, hV⟩ : ∃ V, V = fx + cx - cy := ⟨_, rfl⟩
                      rw [← hV] at s2
                      have hVr : -100000000 ≤ V ∧ V ≤ 1099511627776 + 99 := by omega
                      rw [← hV] at hsame hrel
                      have hRd : Hid (∀ (b : Bool), b = decide (V < fy) → _) := hid (fun b hb => hb)
                      clear hRd
                      refine region_held_from (w0 := wq) (S := fun u => u.cell? ⟨bx, 0, none⟩ = some (.slice a1 M.length c1) ∧ u.cell? ⟨gf, x, none⟩ = some (.int .i64 fx) ∧ u.cell? ⟨gf, y, none⟩ = some (.int .i64 fy)) (by kernel_rfl) hSx.out (fun wd ed hHeld0 => ?_)
                      clear z1 z2 x1 hch
                      refine wpAnyH_take (i := 0) (v := .int .i64 y) rfl (by kernel_rfl) (by kernel_rfl) (by kernel_rfl) (fun _ _ _ h => h) (Or.inl ⟨by rfl, by intro wx hx; go_simp⟩) (by assumption) ?_
                      try simp only [List.getElem_toArray, List.getElem_cons_zero, Act.put, List.setIfInBounds_toArray, List.set_cons_zero, List.set_cons_succ]
                      refine wpAnyH_take (i := 1) (v := .bool true) rfl (by kernel_rfl) (by kernel_rfl) (by kernel_rfl) (fun _ _ _ h => h) (Or.inl ⟨by rfl, by intro wx hx; go_simp⟩) (by assumption) ?_
                      try simp only [List.getElem_toArray, List.getElem_cons_succ, List.getElem_cons_zero, Act.put, List.setIfInBounds_toArray, List.set_cons_zero, List.set_cons_succ]
                      refine wpAnyH_take (i := 2) (v := .bool true) rfl (by kernel_rfl) (by kernel_rfl) (by kernel_rfl) (fun _ _ _ h => h) (Or.inl ⟨by rfl, by intro wx hx; go_simp⟩) (by assumption) ?_
                      try simp only [List.getElem_toArray, List.getElem_cons_succ, List.getElem_cons_zero, Act.put, List.setIfInBounds_toArray, List.set_cons_zero, List.set_cons_succ]
                      refine wpAnyH_take (i := 3) (v := .slice (some ⟨gf, 0, none⟩) (t + 1) (t + 1)) rfl (by kernel_rfl) (by kernel_rfl) (by kernel_rfl) (fun _ _ _ h => h) (Or.inl ⟨by rfl, by intro wx hx; go_simp⟩) (by assumption) ?_
                      try simp only [List.getElem_toArray, List.getElem_cons_succ, List.getElem_cons_zero, Act.put, List.setIfInBounds_toArray, List.set_cons_zero, List.set_cons_succ]
                      refine wpAnyH_take (i := 4) (v := .int .i64 x) rfl (by kernel_rfl) (by kernel_rfl) (by kernel_rfl) (fun _ _ _ h => h) (Or.inl ⟨by rfl, by intro wx hx; go_simp⟩) (by assumption) ?_
                      try simp only [List.getElem_toArray, List.getElem_cons_succ, List.getElem_cons_zero, Act.put, List.setIfInBounds_toArray, List.set_cons_zero, List.set_cons_succ]
                      refine wpAnyH_take (i := 5) (v := .pointer (some ⟨gf, x, none⟩)) rfl (by kernel_rfl) (by kernel_rfl) (by kernel_rfl) (fun _ _ _ h => h) (Or.inl ⟨by rfl, by intro wx hx; (go_simp; intro hh; exfalso; omega)⟩) (by assumption) ?_
                      try simp only [List.getElem_toArray, List.getElem_cons_succ, List.getElem_cons_zero, Act.put, List.setIfInBounds_toArray, List.set_cons_zero, List.set_cons_succ]
                      refine wpAnyH_take (i := 6) (v := .int .i64 fx) rfl (by kernel_rfl) (by kernel_rfl) (by kernel_rfl) (fun _ _ _ h => h) (Or.inl ⟨by rfl, by intro wx hx; obtain ⟨_, _, _⟩ := hx; go_simp⟩) (by assumption) ?_
                      try simp only [List.getElem_toArray, List.getElem_cons_succ, List.getElem_cons_zero, Act.put, List.setIfInBounds_toArray, List.set_cons_zero, List.set_cons_succ]
                      refine wpAnyH_take (i := 7) (v := .agg #[.slice a1 M.length c1]) rfl (by kernel_rfl) (by kernel_rfl) (by kernel_rfl) (fun _ _ _ h => h) (Or.inl ⟨by rfl, by intro wx hx; obtain ⟨_, _, _⟩ := hx; go_simp⟩) (by assumption) ?_
                      try simp only [List.getElem_toArray, List.getElem_cons_succ, List.getElem_cons_zero, Act.put, List.setIfInBounds_toArray, List.set_cons_zero, List.set_cons_succ]
                      refine wpAnyH_take (i := 8) (v := .slice da a.length ma) rfl (by kernel_rfl) (by kernel_rfl) (by kernel_rfl) (fun _ _ _ h => h) (Or.inl ⟨by rfl, by intro wx hx; go_simp⟩) (by assumption) ?_
                      try simp only [List.getElem_toArray, List.getElem_cons_succ, List.getElem_cons_zero, Act.put, List.setIfInBounds_toArray, List.set_cons_zero, List.set_cons_succ]
                      refine wpAnyH_take (i := 9) (v := .slice dx X.length mx) rfl (by kernel_rfl) (by kernel_rfl) (by kernel_rfl) (fun _ _ _ h => h) (Or.inl ⟨by rfl, by intro wx hx; go_simp⟩) (by assumption) ?_
                      try simp only [List.getElem_toArray, List.getElem_cons_succ, List.getElem_cons_zero, Act.put, List.setIfInBounds_toArray, List.set_cons_zero, List.set_cons_succ]
                      refine wpAnyH_take (i := 10) (v := .int .i64 l) rfl (by kernel_rfl) (by kernel_rfl) (by kernel_rfl) (fun _ _ _ h => h) (Or.inl ⟨by rfl, by intro wx hx; go_simp⟩) (by assumption) ?_
                      try simp only [List.getElem_toArray, List.getElem_cons_succ, List.getElem_cons_zero, Act.put, List.setIfInBounds_toArray, List.set_cons_zero, List.set_cons_succ]
                      refine wpAnyH_take (i := 11) (v := .int .i64 x) rfl (by kernel_rfl) (by kernel_rfl) (by kernel_rfl) (fun _ _ _ h => h) (Or.inl ⟨by rfl, by intro wx hx; go_simp⟩) (by assumption) ?_
                      try simp only [List.getElem_toArray, List.getElem_cons_succ, List.getElem_cons_zero, Act.put, List.setIfInBounds_toArray, List.set_cons_zero, List.set_cons_succ]
                      refine wpAnyH_take (i := 14) (v := .agg #[.slice a1 M.length c1]) rfl (by kernel_rfl) (by kernel_rfl) (by kernel_rfl) (fun _ _ _ h => h) (Or.inl ⟨by rfl, by intro wx hx; obtain ⟨_, _, _⟩ := hx; go_simp⟩) (by assumption) ?_
                      try simp only [List.getElem_toArray, List.getElem_cons_succ, List.getElem_cons_zero, Act.put, List.setIfInBounds_toArray, List.set_cons_zero, List.set_cons_succ]
                      refine wpAnyH_take (i := 15) (v := .slice da a.length ma) rfl (by kernel_rfl) (by kernel_rfl) (by kernel_rfl) (fun _ _ _ h => h) (Or.inl ⟨by rfl, by intro wx hx; go_simp⟩) (by assumption) ?_
                      try simp only [List.getElem_toArray, List.getElem_cons_succ, List.getElem_cons_zero, Act.put, List.setIfInBounds_toArray, List.set_cons_zero, List.set_cons_succ]
                      refine wpAnyH_take (i := 16) (v := .slice dx X.length mx) rfl (by kernel_rfl) (by kernel_rfl) (by kernel_rfl) (fun _ _ _ h => h) (Or.inl ⟨by rfl, by intro wx hx; go_simp⟩) (by assumption) ?_
                      try simp only [List.getElem_toArray, List.getElem_cons_succ, List.getElem_cons_zero, Act.put, List.setIfInBounds_toArray, List.set_cons_zero, List.set_cons_succ]
                      refine wpAnyH_take (i := 17) (v := .int .i64 l) rfl (by kernel_rfl) (by kernel_rfl) (by kernel_rfl) (fun _ _ _ h => h) (Or.inl ⟨by rfl, by intro wx hx; go_simp⟩) (by assumption) ?_
                      try simp only [List.getElem_toArray, List.getElem_cons_succ, List.getElem_cons_zero, Act.put, List.setIfInBounds_toArray, List.set_cons_zero, List.set_cons_succ]
                      refine wpAnyH_take (i := 18) (v := .int .i64 y) rfl (by kernel_rfl) (by kernel_rfl) (by kernel_rfl) (fun _ _ _ h => h) (Or.inl ⟨by rfl, by intro wx hx; go_simp⟩) (by assumption) ?_
                      try simp only [List.getElem_toArray, List.getElem_cons_succ, List.getElem_cons_zero, Act.put, List.setIfInBounds_toArray, List.set_cons_zero, List.set_cons_succ]
                      refine wpAnyH_take (i := 21) (v := .slice (some ⟨gf, 0, none⟩) (t + 1) (t + 1)) rfl (by kernel_rfl) (by kernel_rfl) (by kernel_rfl) (fun _ _ _ h => h) (Or.inl ⟨by rfl, by intro wx hx; go_simp⟩) (by assumption) ?_
                      try simp only [List.getElem_toArray, List.getElem_cons_succ, List.getElem_cons_zero, Act.put, List.setIfInBounds_toArray, List.set_cons_zero, List.set_cons_succ]
                      refine wpAnyH_take (i := 22) (v := .int .i64 y) rfl (by kernel_rfl) (by kernel_rfl) (by kernel_rfl) (fun _ _ _ h => h) (Or.inl ⟨by rfl, by intro wx hx; go_simp⟩) (by assumption) ?_
                      try simp only [List.getElem_toArray, List.getElem_cons_succ, List.getElem_cons_zero, Act.put, List.setIfInBounds_toArray, List.set_cons_zero, List.set_cons_succ]
                      refine wpAnyH_take (i := 23) (v := .pointer (some ⟨gf, y, none⟩)) rfl (by kernel_rfl) (by kernel_rfl) (by kernel_rfl) (fun _ _ _ h => h) (Or.inl ⟨by rfl, by intro wx hx; (go_simp; intro hh; exfalso; omega)⟩) (by assumption) ?_
                      try simp only [List.getElem_toArray, List.getElem_cons_succ, List.getElem_cons_zero, Act.put, List.setIfInBounds_toArray, List.set_cons_zero, List.set_cons_succ]
                      refine wpAnyH_take (i := 24) (v := .int .i64 fy) rfl (by kernel_rfl) (by kernel_rfl) (by kernel_rfl) (fun _ _ _ h => h) (Or.inl ⟨by rfl, by intro wx hx; obtain ⟨_, _, _⟩ := hx; go_simp⟩) (by assumption) ?_
                      try simp only [List.getElem_toArray, List.getElem_cons_succ, List.getElem_cons_zero, Act.put, List.setIfInBounds_toArray, List.set_cons_zero, List.set_cons_succ]
                      refine wpAnyH_ready (rs := [12]) (by kernel_rfl) (by simp) ?_
                      refine AllReadyH.cons rfl (fun K hK => ?_) AllReadyH.nil
                      go_simp
                      have m1 : Ext w0 wd := Ext.trans e0q ed
                      go_at_call 49
                      with_reducible refine (hGx.out wd m1).mono ?_
                      rintro e u1 ⟨rfl, f1⟩
                      have n1 : Ext wq u1 := Ext.trans ed f1
                      go_wp2_with fail
                      refine hK.out _ _ (hSx.out u1 n1) (fun _ => ?_)
                      clear hK K
                      try simp only [List.getElem_toArray, List.getElem_cons_succ, List.getElem_cons_zero, Act.put, List.setIfInBounds_toArray, List.set_cons_zero, List.set_cons_succ]
                      refine wpAnyH_take (i := 13) (v := .int .i64 (fx + cx)) rfl (by kernel_rfl) (by kernel_rfl) (by kernel_rfl) (fun _ _ _ h => h) (Or.inl ⟨by rfl, by intro wx hx; go_simp⟩) (by assumption) ?_
                      try simp only [List.getElem_toArray, List.getElem_cons_succ, List.getElem_cons_zero, Act.put, List.setIfInBounds_toArray, List.set_cons_zero, List.set_cons_succ]
                      refine wpAnyH_ready (rs := [19]) (by kernel_rfl) (by simp) ?_
                      refine AllReadyH.cons rfl (fun K hK => ?_) AllReadyH.nil
                      go_simp
                      have m2 : Ext w0 u1 := Ext.trans e0q n1
                      go_at_call 49
                      with_reducible refine (hGy.out u1 m2).mono ?_
                      rintro e u2 ⟨rfl, f2⟩
                      have n2 : Ext wq u2 := Ext.trans n1 f2
                      go_wp2_with fail
                      refine hK.out _ _ (hSx.out u2 n2) (fun _ => ?_)
                      clear hK K
                      try simp only [List.getElem_toArray, List.getElem_cons_succ, List.getElem_cons_zero, Act.put, List.setIfInBounds_toArray, List.set_cons_zero, List.set_cons_succ]
                      refine wpAnyH_take (i := 20) (v := .int .i64 V) rfl (by kernel_rfl) (by kernel_rfl) (by kernel_rfl) (fun _ _ _ h => h) (Or.inl ⟨by rfl, by intro wx hx; (go_simp; rw [← hV]; exact s2)⟩) (by assumption) ?_
                      try simp only [List.getElem_toArray, List.getElem_cons_succ, List.getElem_cons_zero, Act.put, List.setIfInBounds_toArray, List.set_cons_zero, List.set_cons_succ]
                      by_cases hlt9 : V < fy
                      · have hRs2 := hid (hrel.out hlt9)
                        refine wpAnyH_take (i := 25) (v := .bool true) rfl (by kernel_rfl) (by kernel_rfl) (by kernel_rfl) (fun _ _ _ h => h) (Or.inl ⟨by rfl, by intro wx hx; (go_simp; omega)⟩) (by assumption) ?_
                        try simp only [List.getElem_toArray, List.getElem_cons_succ, List.getElem_cons_zero, Act.put, List.setIfInBounds_toArray, List.set_cons_zero, List.set_cons_succ]
                        refine wpAnyH_take (i := 26) (v := .bool true) rfl (by kernel_rfl) (by kernel_rfl) (by kernel_rfl) (fun _ _ _ h => h) (Or.inl ⟨by rfl, by intro wx hx; go_simp⟩) (by assumption) ?_
                        try simp only [List.getElem_toArray, List.getElem_cons_succ, List.getElem_cons_zero, Act.put, List.setIfInBounds_toArray, List.set_cons_zero, List.set_cons_succ]
                        refine wpAnyH_done (by kernel_rfl) ?_ _
                        clear hsame hrel
                        have own9 := own.ext (e := n2)
                        have b9 : Below B w1 u2 := hb1.trans (n2.below.mono (hBs.out _ hb1))
                        have g9 := (own9.aAt (k := 1) rfl (j := y) (by omega)).2
                        clear own hb1 g2
                        go_upto_region 19 with fail
                        refine region_held_from (w0 := u2) (S := fun u => u.cell? ⟨bx, 0, none⟩ = some (.slice a1 M.length c1) ∧ u.cell? ⟨gf, x, none⟩ = some (.int .i64 fx)) (by kernel_rfl) (fun u e => ⟨(hSx.out u (Ext.trans n2 e)).1, (hSx.out u (Ext.trans n2 e)).2.1⟩) (fun we ee hHeld0 => ?_)
                        have n3 : Ext wq we := Ext.trans n2 ee
                        refine wpAnyH_take (i := 0) (v := .slice (some ⟨gf, 0, none⟩) (t + 1) (t + 1)) rfl (by kernel_rfl) (by kernel_rfl) (by kernel_rfl) (fun _ _ _ h => h) (Or.inl ⟨by rfl, by intro wx hx; go_simp⟩) (by assumption) ?_
                        try simp only [List.getElem_toArray, List.getElem_cons_zero, Act.put, List.setIfInBounds_toArray, List.set_cons_zero, List.set_cons_succ]
                        refine wpAnyH_take (i := 1) (v := .int .i64 y) rfl (by kernel_rfl) (by kernel_rfl) (by kernel_rfl) (fun _ _ _ h => h) (Or.inl ⟨by rfl, by intro wx hx; go_simp⟩) (by assumption) ?_
                        try simp only [List.getElem_toArray, List.getElem_cons_succ, List.getElem_cons_zero, Act.put, List.setIfInBounds_toArray, List.set_cons_zero, List.set_cons_succ]
                        refine wpAnyH_take (i := 2) (v := .slice (some ⟨gf, 0, none⟩) (t + 1) (t + 1)) rfl (by kernel_rfl) (by kernel_rfl) (by kernel_rfl) (fun _ _ _ h => h) (Or.inl ⟨by rfl, by intro wx hx; go_simp⟩) (by assumption) ?_
                        try simp only [List.getElem_toArray, List.getElem_cons_succ, List.getElem_cons_zero, Act.put, List.setIfInBounds_toArray, List.set_cons_zero, List.set_cons_succ]
                        refine wpAnyH_take (i := 3) (v := .int .i64 x) rfl (by kernel_rfl) (by kernel_rfl) (by kernel_rfl) (fun _ _ _ h => h) (Or.inl ⟨by rfl, by intro wx hx; go_simp⟩) (by assumption) ?_
                        try simp only [List.getElem_toArray, List.getElem_cons_succ, List.getElem_cons_zero, Act.put, List.setIfInBounds_toArray, List.set_cons_zero, List.set_cons_succ]
                        refine wpAnyH_take (i := 4) (v := .pointer (some ⟨gf, x, none⟩)) rfl (by kernel_rfl) (by kernel_rfl) (by kernel_rfl) (fun _ _ _ h => h) (Or.inl ⟨by rfl, by intro wx hx; (go_simp; intro hh; exfalso; omega)⟩) (by assumption) ?_
                        try simp only [List.getElem_toArray, List.getElem_cons_succ, List.getElem_cons_zero, Act.put, List.setIfInBounds_toArray, List.set_cons_zero, List.set_cons_succ]
                        refine wpAnyH_take (i := 5) (v := .int .i64 fx) rfl (by kernel_rfl) (by kernel_rfl) (by kernel_rfl) (fun _ _ _ h => h) (Or.inl ⟨by rfl, by intro wx hx; obtain ⟨_, _⟩ := hx; go_simp⟩) (by assumption) ?_
                        try simp only [List.getElem_toArray, List.getElem_cons_succ, List.getElem_cons_zero, Act.put, List.setIfInBounds_toArray, List.set_cons_zero, List.set_cons_succ]
                        refine wpAnyH_take (i := 6) (v := .agg #[.slice a1 M.length c1]) rfl (by kernel_rfl) (by kernel_rfl) (by kernel_rfl) (fun _ _ _ h => h) (Or.inl ⟨by rfl, by intro wx hx; obtain ⟨_, _⟩ := hx; go_simp⟩) (by assumption) ?_
                        try simp only [List.getElem_toArray, List.getElem_cons_succ, List.getElem_cons_zero, Act.put, List.setIfInBounds_toArray, List.set_cons_zero, List.set_cons_succ]
                        refine wpAnyH_take (i := 7) (v := .slice da a.length ma) rfl (by kernel_rfl) (by kernel_rfl) (by kernel_rfl) (fun _ _ _ h => h) (Or.inl ⟨by rfl, by intro wx hx; go_simp⟩) (by assumption) ?_
                        try simp only [List.getElem_toArray, List.getElem_cons_succ, List.getElem_cons_zero, Act.put, List.setIfInBounds_toArray, List.set_cons_zero, List.set_cons_succ]
                        refine wpAnyH_take (i := 8) (v := .slice dx X.length mx) rfl (by kernel_rfl) (by kernel_rfl) (by kernel_rfl) (fun _ _ _ h => h) (Or.inl ⟨by rfl, by intro wx hx; go_simp⟩) (by assumption) ?_
                        try simp only [List.getElem_toArray, List.getElem_cons_succ, List.getElem_cons_zero, Act.put, List.setIfInBounds_toArray, List.set_cons_zero, List.set_cons_succ]
                        refine wpAnyH_take (i := 9) (v := .int .i64 l) rfl (by kernel_rfl) (by kernel_rfl) (by kernel_rfl) (fun _ _ _ h => h) (Or.inl ⟨by rfl, by intro wx hx; go_simp⟩) (by assumption) ?_
                        try simp only [List.getElem_toArray, List.getElem_cons_succ, List.getElem_cons_zero, Act.put, List.setIfInBounds_toArray, List.set_cons_zero, List.set_cons_succ]
                        refine wpAnyH_take (i := 10) (v := .int .i64 x) rfl (by kernel_rfl) (by kernel_rfl) (by kernel_rfl) (fun _ _ _ h => h) (Or.inl ⟨by rfl, by intro wx hx; go_simp⟩) (by assumption) ?_
                        try simp only [List.getElem_toArray, List.getElem_cons_succ, List.getElem_cons_zero, Act.put, List.setIfInBounds_toArray, List.set_cons_zero, List.set_cons_succ]
                        refine wpAnyH_take (i := 13) (v := .agg #[.slice a1 M.length c1]) rfl (by kernel_rfl) (by kernel_rfl) (by kernel_rfl) (fun _ _ _ h => h) (Or.inl ⟨by rfl, by intro wx hx; obtain ⟨_, _⟩ := hx; go_simp⟩) (by assumption) ?_
                        try simp only [List.getElem_toArray, List.getElem_cons_succ, List.getElem_cons_zero, Act.put, List.setIfInBounds_toArray, List.set_cons_zero, List.set_cons_succ]
                        refine wpAnyH_take (i := 14) (v := .slice da a.length ma) rfl (by kernel_rfl) (by kernel_rfl) (by kernel_rfl) (fun _ _ _ h => h) (Or.inl ⟨by rfl, by intro wx hx; go_simp⟩) (by assumption) ?_
                        try simp only [List.getElem_toArray, List.getElem_cons_succ, List.getElem_cons_zero, Act.put, List.setIfInBounds_toArray, List.set_cons_zero, List.set_cons_succ]
                        refine wpAnyH_take (i := 15) (v := .slice dx X.length mx) rfl (by kernel_rfl) (by kernel_rfl) (by kernel_rfl) (fun _ _ _ h => h) (Or.inl ⟨by rfl, by intro wx hx; go_simp⟩) (by assumption) ?_
                        try simp only [List.getElem_toArray, List.getElem_cons_succ, List.getElem_cons_zero, Act.put, List.setIfInBounds_toArray, List.set_cons_zero, List.set_cons_succ]
                        refine wpAnyH_take (i := 16) (v := .int .i64 l) rfl (by kernel_rfl) (by kernel_rfl) (by kernel_rfl) (fun _ _ _ h => h) (Or.inl ⟨by rfl, by intro wx hx; go_simp⟩) (by assumption) ?_
                        try simp only [List.getElem_toArray, List.getElem_cons_succ, List.getElem_cons_zero, Act.put, List.setIfInBounds_toArray, List.set_cons_zero, List.set_cons_succ]
                        refine wpAnyH_take (i := 17) (v := .int .i64 y) rfl (by kernel_rfl) (by kernel_rfl) (by kernel_rfl) (fun _ _ _ h => h) (Or.inl ⟨by rfl, by intro wx hx; go_simp⟩) (by assumption) ?_
                        try simp only [List.getElem_toArray, List.getElem_cons_succ, List.getElem_cons_zero, Act.put, List.setIfInBounds_toArray, List.set_cons_zero, List.set_cons_succ]
                        refine wpAnyH_ready (rs := [11]) (by kernel_rfl) (by simp) ?_
                        refine AllReadyH.cons rfl (fun K hK => ?_) AllReadyH.nil
                        go_simp
                        have m3 : Ext w0 we := Ext.trans e0q n3
                        go_at_call 49
                        with_reducible refine (hGx.out we m3).mono ?_
                        rintro e u3 ⟨rfl, f3⟩
                        have n4 : Ext wq u3 := Ext.trans n3 f3
                        go_wp2_with fail
                        refine hK.out _ _ ⟨(hSx.out u3 n4).1, (hSx.out u3 n4).2.1⟩ (fun _ => ?_)
                        clear hK K
                        try simp only [List.getElem_toArray, List.getElem_cons_succ, List.getElem_cons_zero, Act.put, List.setIfInBounds_toArray, List.set_cons_zero, List.set_cons_succ]
                        refine wpAnyH_take (i := 12) (v := .int .i64 (fx + cx)) rfl (by kernel_rfl) (by kernel_rfl) (by kernel_rfl) (fun _ _ _ h => h) (Or.inl ⟨by rfl, by intro wx hx; go_simp⟩) (by assumption) ?_
                        try simp only [List.getElem_toArray, List.getElem_cons_succ, List.getElem_cons_zero, Act.put, List.setIfInBounds_toArray, List.set_cons_zero, List.set_cons_succ]
                        refine wpAnyH_ready (rs := [18]) (by kernel_rfl) (by simp) ?_
                        refine AllReadyH.cons rfl (fun K hK => ?_) AllReadyH.nil
                        go_simp
                        have m4 : Ext w0 u3 := Ext.trans e0q n4
                        go_at_call 49
                        with_reducible refine (hGy.out u3 m4).mono ?_
                        rintro e u4 ⟨rfl, f4⟩
                        have n5 : Ext wq u4 := Ext.trans n4 f4
                        go_wp2_with fail
                        refine hK.out _ _ ⟨(hSx.out u4 n5).1, (hSx.out u4 n5).2.1⟩ (fun _ => ?_)
                        clear hK K
                        try simp only [List.getElem_toArray, List.getElem_cons_succ, List.getElem_cons_zero, Act.put, List.setIfInBounds_toArray, List.set_cons_zero, List.set_cons_succ]
                        refine wpAnyH_take (i := 19) (v := .int .i64 V) rfl (by kernel_rfl) (by kernel_rfl) (by kernel_rfl) (fun _ _ _ h => h) (Or.inl ⟨by rfl, by intro wx hx; (go_simp; rw [← hV]; exact s2)⟩) (by assumption) ?_
                        try simp only [List.getElem_toArray, List.getElem_cons_succ, List.getElem_cons_zero, Act.put, List.setIfInBounds_toArray, List.set_cons_zero, List.set_cons_succ]
                        refine wpAnyH_take (i := 20) (v := .pointer (some ⟨gf, y, none⟩)) rfl (by kernel_rfl) (by kernel_rfl) (by kernel_rfl) (fun _ _ _ h => h) (Or.inl ⟨by rfl, by intro wx hx; (go_simp; intro hh; exfalso; omega)⟩) (by assumption) ?_
                        try simp only [List.getElem_toArray, List.getElem_cons_succ, List.getElem_cons_zero, Act.put, List.setIfInBounds_toArray, List.set_cons_zero, List.set_cons_succ]
                        have n24 : Ext u2 u4 := Ext.trans ee (Ext.trans f3 f4)
                        have own10 := own9.ext (e := n24)
                        have b10 : Below B w1 u4 := b9.trans (n24.below.mono (hBs.out _ b9))
                        obtain ⟨z10, g10⟩ := own10.aAt (k := 1) rfl (j := y) (by omega)
                        have own11 := own10.iSet (k := 1) rfl y V
                        have b11 := b10.setCell (p := ⟨gf, y, none⟩) (own10.aLt (k := 1) rfl).1 (.int .i64 V)
                        have hxy : x ≠ y := fun e => by
                          have h1 := hq1.out
                          have h3 := hq3.out
                          rw [e, hq2.out] at h1
                          rw [e, hq4.out] at h3
                          omega
                        have zx := (own11.aAt (k := 1) rfl (j := x) (by omega)).1
                        have zx2 : updI fa3 y V x = fx := by rw [← hq1.out]; exact if_neg hxy
                        rw [zx2] at zx
                        have xb := (hEx.out _ b11).cell x0
                        clear zx2 own9 b9 g9 hHeld0
                        refine wpAnyH_ready (rs := [21]) (by kernel_rfl) (by simp) ?_
                        refine AllReadyH.cons rfl (fun K hK => ?_) AllReadyH.nil
                        go_simp
                        rw [← hV]
                        refine hK.out _ _ ⟨xb, zx⟩ (fun _ => ?_)
                        clear hK K
                        try simp only [List.getElem_toArray, List.getElem_cons_succ, List.getElem_cons_zero, Act.put, List.setIfInBounds_toArray, List.set_cons_zero, List.set_cons_succ]
                        refine wpAnyH_done (by kernel_rfl) ?_ _
                        clear own10 b10 z10 g10
                        generalize u4.setCell ⟨gf, y, none⟩ (.int .i64 V) = w8 at *
                        obtain ⟨z12, g12⟩ := own11.aAt (k := 0) rfl (j := y) (by omega)
                        have own12 := own11.nSet (k := 0) rfl y x
                        have b12 := b11.setCell (p := ⟨gr, y, none⟩) (own11.aLt (k := 0) rfl).1 (.int .i64 (x : Nat))
                        clear own11 b11 hxy zx xb
                        go_wp2_with fail
                        go_roundw
                        case rel => exact ⟨l + 1, _, _, true, by omega, by go_num, rfl, hRs2, own12, b12⟩
                        case measure => simp [intOf]; omega
                      · have hRs2 := hid (hsame.out (by omega))
                        refine wpAnyH_take (i := 25) (v := .bool false) rfl (by kernel_rfl) (by kernel_rfl) (by kernel_rfl) (fun _ _ _ h => h) (Or.inl ⟨by rfl, by intro wx hx; (go_simp; omega)⟩) (by assumption) ?_
                        try simp only [List.getElem_toArray, List.getElem_cons_succ, List.getElem_cons_zero, Act.put, List.setIfInBounds_toArray, List.set_cons_zero, List.set_cons_succ]
                        refine wpAnyH_take (i := 26) (v := .bool false) rfl (by kernel_rfl) (by kernel_rfl) (by kernel_rfl) (fun _ _ _ h => h) (Or.inl ⟨by rfl, by intro wx hx; go_simp⟩) (by assumption) ?_
                        try simp only [List.getElem_toArray, List.getElem_cons_succ, List.getElem_cons_zero, Act.put, List.setIfInBounds_toArray, List.set_cons_zero, List.set_cons_succ]
                        refine wpAnyH_done (by kernel_rfl) ?_ _
                        clear hsame hrel
                        have own9 := own.ext (e := n2)
                        have b9 : Below B w1 u2 := hb1.trans (n2.below.mono (hBs.out _ hb1))
                        go_wp2_with fail
                        go_roundw
                        case rel => exact ⟨l + 1, fa3, fr3, ch3, by omega, by go_num, rfl, hRs2, own9, b9⟩
                        case measure => simp [intOf]; omega
                    · rw [hho] at hch
                      have hRs2 := hid (hRs.out.free hfr)
                      replace hho := hid hho
                      replace hfr := hid hfr
                      generalize fa3 x = fx at z1 hz hrx
                      go_upto_region 18 with fail
                      refine region_held_from (w0 := wq) (S := fun _ => True) (by kernel_rfl) (fun _ _ => trivial) (fun wd ed hHeld0 => ?_)
                      have ownd := own.ext (w' := wd)
                      have bd : Below B w1 wd := hb1.trans (ed.below.mono (hBs.out _ hb1))
                      refine wpAnyH_take (i := 0) (v := .int .i64 (-1)) rfl (by kernel_rfl) (by kernel_rfl) (by kernel_rfl) (fun _ _ _ h => h) (Or.inl ⟨by rfl, by intro wx hx; go_simp⟩) (by assumption) ?_
                      try simp only [List.getElem_toArray, List.getElem_cons_zero, Act.put, List.setIfInBounds_toArray, List.set_cons_zero, List.set_cons_succ]
                      refine wpAnyH_take (i := 1) (v := .bool false) rfl (by kernel_rfl) (by kernel_rfl) (by kernel_rfl) (fun _ _ _ h => h) (Or.inl ⟨by rfl, by intro wx hx; go_simp⟩) (by assumption) ?_
                      try simp only [List.getElem_toArray, List.getElem_cons_succ, List.getElem_cons_zero, Act.put, List.setIfInBounds_toArray, List.set_cons_zero, List.set_cons_succ]
                      refine wpAnyH_take (i := 2) (v := .bool false) rfl (by kernel_rfl) (by kernel_rfl) (by kernel_rfl) (fun _ _ _ h => h) (Or.inl ⟨by rfl, by intro wx hx; go_simp⟩) (by assumption) ?_
                      try simp only [List.getElem_toArray, List.getElem_cons_succ, List.getElem_cons_zero, Act.put, List.setIfInBounds_toArray, List.set_cons_zero, List.set_cons_succ]
                      refine wpAnyH_take (i := 3) (v := undef) rfl (by kernel_rfl) (by kernel_rfl) (by kernel_rfl) (fun _ _ _ h => h) (Or.inr ⟨by kernel_rfl, rfl⟩) (by assumption) ?_
                      try simp only [List.getElem_toArray, List.getElem_cons_succ, List.getElem_cons_zero, Act.put, List.setIfInBounds_toArray, List.set_cons_zero, List.set_cons_succ]
                      refine wpAnyH_take (i := 4) (v := undef) rfl (by kernel_rfl) (by kernel_rfl) (by kernel_rfl) (fun _ _ _ h => h) (Or.inr ⟨by kernel_rfl, rfl⟩) (by assumption) ?_
                      try simp only [List.getElem_toArray, List.getElem_cons_succ, List.getElem_cons_zero, Act.put, List.setIfInBounds_toArray, List.set_cons_zero, List.set_cons_succ]
                      refine wpAnyH_take (i := 5) (v := undef) rfl (by kernel_rfl) (by kernel_rfl) (by kernel_rfl) (fun _ _ _ h => h) (Or.inr ⟨by kernel_rfl, rfl⟩) (by assumption) ?_
                      try simp only [List.getElem_toArray, List.getElem_cons_succ, List.getElem_cons_zero, Act.put, List.setIfInBounds_toArray, List.set_cons_zero, List.set_cons_succ]
                      refine wpAnyH_take (i := 6) (v := undef) rfl (by kernel_rfl) (by kernel_rfl) (by kernel_rfl) (fun _ _ _ h => h) (Or.inr ⟨by kernel_rfl, rfl⟩) (by assumption) ?_
                      try simp only [List.getElem_toArray, List.getElem_cons_succ, List.getElem_cons_zero, Act.put, List.setIfInBounds_toArray, List.set_cons_zero, List.set_cons_succ]
                      refine wpAnyH_take (i := 7) (v := undef) rfl (by kernel_rfl) (by kernel_rfl) (by kernel_rfl) (fun _ _ _ h => h) (Or.inr ⟨by kernel_rfl, rfl⟩) (by assumption) ?_
                      try simp only [List.getElem_toArray, List.getElem_cons_succ, List.getElem_cons_zero, Act.put, List.setIfInBounds_toArray, List.set_cons_zero, List.set_cons_succ]
                      refine wpAnyH_take (i := 8) (v := undef) rfl (by kernel_rfl) (by kernel_rfl) (by kernel_rfl) (fun _ _ _ h => h) (Or.inr ⟨by kernel_rfl, rfl⟩) (by assumption) ?_
                      try simp only [List.getElem_toArray, List.getElem_cons_succ, List.getElem_cons_zero, Act.put, List.setIfInBounds_toArray, List.set_cons_zero, List.set_cons_succ]
                      refine wpAnyH_take (i := 9) (v := undef) rfl (by kernel_rfl) (by kernel_rfl) (by kernel_rfl) (fun _ _ _ h => h) (Or.inr ⟨by kernel_rfl, rfl⟩) (by assumption) ?_
                      try simp only [List.getElem_toArray, List.getElem_cons_succ, List.getElem_cons_zero, Act.put, List.setIfInBounds_toArray, List.set_cons_zero, List.set_cons_succ]
                      refine wpAnyH_take (i := 10) (v := undef) rfl (by kernel_rfl) (by kernel_rfl) (by kernel_rfl) (fun _ _ _ h => h) (Or.inr ⟨by kernel_rfl, rfl⟩) (by assumption) ?_
                      try simp only [List.getElem_toArray, List.getElem_cons_succ, List.getElem_cons_zero, Act.put, List.setIfInBounds_toArray, List.set_cons_zero, List.set_cons_succ]
                      refine wpAnyH_take (i := 11) (v := undef) rfl (by kernel_rfl) (by kernel_rfl) (by kernel_rfl) (fun _ _ _ h => h) (Or.inr ⟨by kernel_rfl, rfl⟩) (by assumption) ?_
                      try simp only [List.getElem_toArray, List.getElem_cons_succ, List.getElem_cons_zero, Act.put, List.setIfInBounds_toArray, List.set_cons_zero, List.set_cons_succ]
                      refine wpAnyH_take (i := 12) (v := undef) rfl (by kernel_rfl) (by kernel_rfl) (by kernel_rfl) (fun _ _ _ h => h) (Or.inr ⟨by kernel_rfl, rfl⟩) (by assumption) ?_
                      try simp only [List.getElem_toArray, List.getElem_cons_succ, List.getElem_cons_zero, Act.put, List.setIfInBounds_toArray, List.set_cons_zero, List.set_cons_succ]
                      refine wpAnyH_take (i := 13) (v := undef) rfl (by kernel_rfl) (by kernel_rfl) (by kernel_rfl) (fun _ _ _ h => h) (Or.inr ⟨by kernel_rfl, rfl⟩) (by assumption) ?_
                      try simp only [List.getElem_toArray, List.getElem_cons_succ, List.getElem_cons_zero, Act.put, List.setIfInBounds_toArray, List.set_cons_zero, List.set_cons_succ]
                      refine wpAnyH_take (i := 14) (v := undef) rfl (by kernel_rfl) (by kernel_rfl) (by kernel_rfl) (fun _ _ _ h => h) (Or.inr ⟨by kernel_rfl, rfl⟩) (by assumption) ?_
                      try simp only [List.getElem_toArray, List.getElem_cons_succ, List.getElem_cons_zero, Act.put, List.setIfInBounds_toArray, List.set_cons_zero, List.set_cons_succ]
                      refine wpAnyH_take (i := 15) (v := undef) rfl (by kernel_rfl) (by kernel_rfl) (by kernel_rfl) (fun _ _ _ h => h) (Or.inr ⟨by kernel_rfl, rfl⟩) (by assumption) ?_
                      try simp only [List.getElem_toArray, List.getElem_cons_succ, List.getElem_cons_zero, Act.put, List.setIfInBounds_toArray, List.set_cons_zero, List.set_cons_succ]
                      refine wpAnyH_take (i := 16) (v := undef) rfl (by kernel_rfl) (by kernel_rfl) (by kernel_rfl) (fun _ _ _ h => h) (Or.inr ⟨by kernel_rfl, rfl⟩) (by assumption) ?_
                      try simp only [List.getElem_toArray, List.getElem_cons_succ, List.getElem_cons_zero, Act.put, List.setIfInBounds_toArray, List.set_cons_zero, List.set_cons_succ]
                      refine wpAnyH_take (i := 17) (v := undef) rfl (by kernel_rfl) (by kernel_rfl) (by kernel_rfl) (fun _ _ _ h => h) (Or.inr ⟨by kernel_rfl, rfl⟩) (by assumption) ?_
                      try simp only [List.getElem_toArray, List.getElem_cons_succ, List.getElem_cons_zero, Act.put, List.setIfInBounds_toArray, List.set_cons_zero, List.set_cons_succ]
                      refine wpAnyH_take (i := 18) (v := undef) rfl (by kernel_rfl) (by kernel_rfl) (by kernel_rfl) (fun _ _ _ h => h) (Or.inr ⟨by kernel_rfl, rfl⟩) (by assumption) ?_
                      try simp only [List.getElem_toArray, List.getElem_cons_succ, List.getElem_cons_zero, Act.put, List.setIfInBounds_toArray, List.set_cons_zero, List.set_cons_succ]
                      refine wpAnyH_take (i := 19) (v := undef) rfl (by kernel_rfl) (by kernel_rfl) (by kernel_rfl) (fun _ _ _ h => h) (Or.inr ⟨by kernel_rfl, rfl⟩) (by assumption) ?_
                      try simp only [List.getElem_toArray, List.getElem_cons_succ, List.getElem_cons_zero, Act.put, List.setIfInBounds_toArray, List.set_cons_zero, List.set_cons_succ]
                      refine wpAnyH_take (i := 20) (v := undef) rfl (by kernel_rfl) (by kernel_rfl) (by kernel_rfl) (fun _ _ _ h => h) (Or.inr ⟨by kernel_rfl, rfl⟩) (by assumption) ?_
                      try simp only [List.getElem_toArray, List.getElem_cons_succ, List.getElem_cons_zero, Act.put, List.setIfInBounds_toArray, List.set_cons_zero, List.set_cons_succ]
                      refine wpAnyH_take (i := 21) (v := undef) rfl (by kernel_rfl) (by kernel_rfl) (by kernel_rfl) (fun _ _ _ h => h) (Or.inr ⟨by kernel_rfl, rfl⟩) (by assumption) ?_
                      try simp only [List.getElem_toArray, List.getElem_cons_succ, List.getElem_cons_zero, Act.put, List.setIfInBounds_toArray, List.set_cons_zero, List.set_cons_succ]
                      refine wpAnyH_take (i := 22) (v := undef) rfl (by kernel_rfl) (by kernel_rfl) (by kernel_rfl) (fun _ _ _ h => h) (Or.inr ⟨by kernel_rfl, rfl⟩) (by assumption) ?_
                      try simp only [List.getElem_toArray, List.getElem_cons_succ, List.getElem_cons_zero, Act.put, List.setIfInBounds_toArray, List.set_cons_zero, List.set_cons_succ]
                      refine wpAnyH_take (i := 23) (v := undef) rfl (by kernel_rfl) (by kernel_rfl) (by kernel_rfl) (fun _ _ _ h => h) (Or.inr ⟨by kernel_rfl, rfl⟩) (by assumption) ?_
                      try simp only [List.getElem_toArray, List.getElem_cons_succ, List.getElem_cons_zero, Act.put, List.setIfInBounds_toArray, List.set_cons_zero, List.set_cons_succ]
                      refine wpAnyH_take (i := 24) (v := undef) rfl (by kernel_rfl) (by kernel_rfl) (by kernel_rfl) (fun _ _ _ h => h) (Or.inr ⟨by kernel_rfl, rfl⟩) (by assumption) ?_
                      try simp only [List.getElem_toArray, List.getElem_cons_succ, List.getElem_cons_zero, Act.put, List.setIfInBounds_toArray, List.set_cons_zero, List.set_cons_succ]
                      refine wpAnyH_take (i := 25) (v := undef) rfl (by kernel_rfl) (by kernel_rfl) (by kernel_rfl) (fun _ _ _ h => h) (Or.inr ⟨by kernel_rfl, rfl⟩) (by assumption) ?_
                      try simp only [List.getElem_toArray, List.getElem_cons_succ, List.getElem_cons_zero, Act.put, List.setIfInBounds_toArray, List.set_cons_zero, List.set_cons_succ]
                      refine wpAnyH_take (i := 26) (v := .bool false) rfl (by kernel_rfl) (by kernel_rfl) (by kernel_rfl) (fun _ _ _ h => h) (Or.inl ⟨by rfl, by intro wx hx; go_simp⟩) (by assumption) ?_
                      try simp only [List.getElem_toArray, List.getElem_cons_succ, List.getElem_cons_zero, Act.put, List.setIfInBounds_toArray, List.set_cons_zero, List.set_cons_succ]
                      refine wpAnyH_done (by kernel_rfl) ?_ _
                      go_wp2_with fail
                      go_roundw
                      case rel => exact ⟨l + 1, fa3, fr3, ch3, by omega, by go_num, rfl, hRs2, ownd, bd⟩
                      case measure => simp [intOf]; omega
                  · have hRs2 := hid (hRs.out.row (Or.inr (by omega)))
                    generalize fa3 x = fx at z1 hz hrx
                    go_wp2_with fail
                    go_roundw
                    case rel => exact ⟨x + 1, fa3, fr3, ch3, by omega, by go_num, rfl, hRs2, own, hb1⟩
                    case measure => simp [intOf]; omega
                · have hRs2 := hid (hRs.out.row (Or.inl (by omega)))
                  go_wp2_with fail
                  go_roundw
                  case rel => exact ⟨x + 1, fa3, fr3, ch3, by omega, by go_num, rfl, hRs2, own, hb1⟩
                  case measure => simp [intOf]; omega
            · have hxt : x = t + 1 := by omega
              subst hxt
              have hsm := hRs.out.le
              have hsl := hRs.out.lt
              have hsp := hRs.out.bf.sum hk.out
              have hgn := hid (show (sgTo fa2 t + 5940 * (t : Int)).toNat + (if ch2 then 1 else 0) < gk by
                rw [hgk.out]
                cases ch2 with
                | true =>
                  have := hsl rfl
                  simp
                  omega
                | false => simp; omega)
              have hbf2 := hid hRs.out.bf
              have hfx2 := hid (show ch2 = false → Done1 (alB a.length) c f t 1099511627776 fa2 from fun h => by
                have h2 := hRs.out
                rw [h] at h2
                exact h2.done)
              clear hsm hsl hsp
              go_wp2_with fail
              go_roundg ((sgTo fa2 t + 5940 * (t : Int)).toNat + (if ch2 then 1 else 0))
              case rel => exact ⟨fa2, fr2, ch2, rfl, hbf2, hfx2, rfl, own, hb1⟩
              case measure => exact hgn.out
end Go.Proofs.YtllfchcocgdcjaaGreat
