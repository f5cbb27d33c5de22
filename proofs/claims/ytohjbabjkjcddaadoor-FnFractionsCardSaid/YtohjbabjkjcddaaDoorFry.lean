/- Fractions drawn from a code: the two of FracBetween. -/
import Derived.Test.YtohjbabjkjcddaaDoorFrz
namespace Go.Proofs.YtohjbabjkjcddaaDoor
open Go.RowKit

set_option maxHeartbeats 3200000 in
theorem drawFB_any {w0 w : World} [Ext w0 w] {vc : Value} {nb : Nat} (hc : IsBytes w0 vc nb) :
    Calls Tryd.prog 18 #[vc] w fun e w' => AfPost w e w' := by
  obtain ⟨ac, cc, rfl⟩ := hc.form
  have hsz : w0.heap.size ≤ w.heap.size := (‹Ext w0 w›).size
  obtain ⟨own1, b1⟩ := own_two w (.slice ac nb cc)
  obtain ⟨B, hB⟩ : ∃ B, B = w.heap.size := ⟨_, rfl⟩
  have hwB : w0.heap.size ≤ B := by omega
  have hE := hid (show ∀ u, Below B w u → Ext w u from fun u h => ⟨by rw [← hB]; exact h⟩)
  rw [← hB] at own1 b1
  go_enter Tryd.func18, Tryd.ntmps18
  go_upto_region 2 with fail
  rw [← hB]
  replace hB := hid hB
  generalize ((w.alloc (.cells #[.int .i64 0, .int .i64 0] 25)).alloc (.cells #[.int .i64 0, .int .i64 0] 25)).alloc (.cells #[.slice ac nb cc, .int .i64 0, .int .u64 0] 41) = w1 at *
  have e1 : Ext w0 w1 := Ext.trans ‹Ext w0 w› (hE.out _ b1)
  go_wp2_with fail
  refine (frac_any (w0 := w0) hc own1 hwB (by omega) (by omega)).mono ?_
  rintro e w2 ⟨n1, d1, a2, rfl, h2a, h2b, own2, b2'⟩
  have b2 := b1.trans b2'
  have e2 : Ext w0 w2 := Ext.trans ‹Ext w0 w› (hE.out _ b2)
  go_wp2_with fail
  refine (frac_any (w0 := w0) hc own2 hwB (by omega) (by omega)).mono ?_
  rintro e w3 ⟨n2, d2, a3, rfl, h3a, h3b, own3, b3'⟩
  have b3 := b2.trans b3'
  have e3 : Ext w0 w3 := Ext.trans ‹Ext w0 w› (hE.out _ b3)
  have hw3 := own3.sz
  have own4 := (own3.frac n1 d1).frac n2 d2
  have s4 : (w3.alloc (.cells #[.int .i64 n1, .int .i64 d1] 25)).heap.size = w3.heap.size + 1 := by go_simp
  rw [s4] at own4
  have b4 : Below B w ((w3.alloc (.cells #[.int .i64 n1, .int .i64 d1] 25)).alloc (.cells #[.int .i64 n2, .int .i64 d2] 25)) := (b3.alloc own3.sz _).alloc (by omega) _
  go_upto_region 3 with fail
  generalize (w3.alloc (.cells #[.int .i64 n1, .int .i64 d1] 25)).alloc (.cells #[.int .i64 n2, .int .i64 d2] 25) = w4 at *
  generalize w3.heap.size = X at *
  have e4 : Ext w0 w4 := Ext.trans ‹Ext w0 w› (hE.out _ b4)
  obtain ⟨a0, a1, _, _, _⟩ := own4.frac0
  obtain ⟨s0, s1, _, _, _⟩ := own4.drop.frac0
  cases hb : fcB n1 d1 n2 d2 with
  | false =>
    go_wp2_with fail
    refine (l2Two_any (a := n1) (b := d1) (c := n2) (d := d2) w4).mono ?_
    rw [show (fracB n1 d1 && fracB n2 d2) = false from hb]
    rintro e w5 ⟨rfl, e5⟩
    have own5 := own4.ext (w' := w5)
    have b5 : Below B w w5 := b4.trans (e5.below.mono own4.sz)
    have e5' : Ext w0 w5 := Ext.trans ‹Ext w0 w› (hE.out _ b5)
    go_wp2_with fail
    refine (one_any (w0 := w0) hc own5 hwB (by omega) (by omega)).mono ?_
    rintro e wt ⟨bt, at', rfl, hta, htb, ownt, bt'⟩
    have btt := (b5).trans bt'
    have ett : Ext w0 wt := Ext.trans ‹Ext w0 w› (hE.out _ btt)
    cases bt with
    | true =>
      obtain ⟨t0, t1, t2, t3, _⟩ := ownt.drop.drop.swap.frac0
      obtain ⟨u0, u1, u2, u3, _⟩ := ownt.drop.drop.frac0
      go_wp2_with fail
      have hs1 := ((ownt.drop.drop)).swap.frSet 1 100000
      have hw1 := CurAt.frBelow (w := wt) (B := B) (g := B) (Nat.le_refl B) (.int .i64 1) (.int .i64 100000)
      have hs2 := hs1.swap.frSet 1 99999
      obtain ⟨c0, c1, c2, c3, _⟩ := hs2.frac0
      obtain ⟨d0', d1', _, _, _⟩ := hs2.swap.frac0
      have hw2 := (btt).trans (hw1.trans (CurAt.frBelow (B := B) (g := B + 1) (Nat.le_succ B) (.int .i64 1) (.int .i64 99999)))
      replace hw2 := hid hw2
      clear hw1 hs1 hs2
      refine bodyPost_ret (v := .tuple #[.agg #[.int .i64 1, .int .i64 100000], .agg #[.int .i64 1, .int .i64 99999]]) (by simp [results, Tryd.results18, go_sem, c0, c1, d0', d1']) rfl ?_
      exact ⟨_, _, _, _, rfl, hE.out _ hw2.out⟩
    | false =>
      go_upto_region 7 with fail
      refine region_held_from (w0 := wt) (S := fun u => (∃ p q p' q' : Int, CurAt u B (B + 1 + 1) (.slice ac nb cc) at' [frRow (X + 1) n2 d2, frRow X n1 d1, frRow (B + 1) p q, frRow B p' q']) ∧ Below B w u) (by kernel_rfl) (fun u e => ⟨⟨0, 0, 0, 0, (ownt).ext (w' := u)⟩, (btt).trans (e.below.mono (ownt).sz)⟩) (fun wd ed hHeld0 => ?_)
      refine wpAnyH_take (i := 0) (v := .agg #[.int .i64 n1, .int .i64 d1]) rfl (by kernel_rfl) (by kernel_rfl) (by kernel_rfl) (fun _ _ _ h => h) (Or.inl ⟨by rfl, by intro wx hx; (obtain ⟨⟨_, _, _, _, ho⟩, _⟩ := hx; obtain ⟨c0, c1, _⟩ := ho.frac0; obtain ⟨c2, c3, _⟩ := ho.drop.frac0; go_simp)⟩) (by assumption) ?_
      try simp only [List.getElem_toArray, List.getElem_cons_zero, Act.put, List.setIfInBounds_toArray, List.set_cons_zero, List.set_cons_succ]
      refine wpAnyH_take (i := 1) (v := .agg #[.int .i64 n2, .int .i64 d2]) rfl (by kernel_rfl) (by kernel_rfl) (by kernel_rfl) (fun _ _ _ h => h) (Or.inl ⟨by rfl, by intro wx hx; (obtain ⟨⟨_, _, _, _, ho⟩, _⟩ := hx; obtain ⟨c0, c1, _⟩ := ho.frac0; obtain ⟨c2, c3, _⟩ := ho.drop.frac0; go_simp)⟩) (by assumption) ?_
      try simp only [List.getElem_toArray, List.getElem_cons_succ, List.getElem_cons_zero, Act.put, List.setIfInBounds_toArray, List.set_cons_zero, List.set_cons_succ]
      obtain ⟨⟨p, q, p', q', ho⟩, hbe⟩ := hid hHeld0 |>.out
      obtain ⟨t0, t1, t2, t3, _⟩ := ho.drop.drop.swap.frac0
      obtain ⟨u0, u1, u2, u3, _⟩ := ho.drop.drop.frac0
      have hp1 : CurAt wd B (B + 1 + 1) (.slice ac nb cc) at' [frRow B p' q', frRow (X + 1) n2 d2, frRow X n1 d1, frRow (B + 1) p q] := ho.perm (List.perm_append_comm (l₁ := [frRow B p' q']) (l₂ := [frRow (X + 1) n2 d2, frRow X n1 d1, frRow (B + 1) p q]))
      have hs1 := hp1.frSet n1 d1
      have hw1 := hbe.trans (CurAt.frBelow (w := wd) (B := B) (g := B) (Nat.le_refl B) (.int .i64 n1) (.int .i64 d1))
      have hp2 := hs1.perm (List.perm_append_comm (l₂ := [frRow B n1 d1]) (l₁ := [frRow (X + 1) n2 d2, frRow X n1 d1, frRow (B + 1) p q]))
      refine wpAnyH_ready (rs := [2]) (by kernel_rfl) (by simp) ?_
      refine AllReadyH.cons rfl (fun K hK => ?_) AllReadyH.nil
      go_simp
      refine hK.out _ _ ⟨⟨p, q, n1, d1, hp2⟩, hw1⟩ (fun hHeld1 => ?_)
      clear hK K hHeld0
      try simp only [List.getElem_toArray, List.getElem_cons_succ, List.getElem_cons_zero, Act.put, List.setIfInBounds_toArray, List.set_cons_zero, List.set_cons_succ]
      obtain ⟨x0, x1, x2, x3, _⟩ := hp2.drop.drop.frac0
      have hp3 := hp2.perm (List.perm_append_comm (l₁ := [frRow (B + 1) p q, frRow B n1 d1]) (l₂ := [frRow (X + 1) n2 d2, frRow X n1 d1]))
      have hs2 := hp3.frSet n2 d2
      have hw2 := hw1.trans (CurAt.frBelow (B := B) (g := B + 1) (Nat.le_succ B) (.int .i64 n2) (.int .i64 d2))
      have hp4 := hs2.perm (List.perm_append_comm (l₂ := [frRow (B + 1) n2 d2, frRow B n1 d1]) (l₁ := [frRow (X + 1) n2 d2, frRow X n1 d1]))
      obtain ⟨c0, c1, c2, c3, _⟩ := hs2.frac0
      obtain ⟨d0', d1', _, _, _⟩ := hs2.swap.frac0
      refine wpAnyH_ready (rs := [3]) (by kernel_rfl) (by simp) ?_
      refine AllReadyH.cons rfl (fun K hK => ?_) AllReadyH.nil
      go_simp
      refine hK.out _ _ ⟨⟨n2, d2, n1, d1, hp4⟩, hw2⟩ (fun hHeld2 => ?_)
      clear hK K hHeld1
      try simp only [List.getElem_toArray, List.getElem_cons_succ, List.getElem_cons_zero, Act.put, List.setIfInBounds_toArray, List.set_cons_zero, List.set_cons_succ]
      refine wpAnyH_done (by kernel_rfl) ?_ _
      go_wp2_with fail
      replace hw2 := hid hw2
      clear hw1 hs1 hs2 hp1 hp2 hp3 hp4
      refine bodyPost_ret (v := .tuple #[.agg #[.int .i64 n1, .int .i64 d1], .agg #[.int .i64 n2, .int .i64 d2]]) (by simp [results, Tryd.results18, go_sem, c0, c1, d0', d1']) rfl ?_
      exact ⟨_, _, _, _, rfl, hE.out _ hw2.out⟩
  | true =>
    go_wp2_with fail
    refine (l2Two_any (a := n1) (b := d1) (c := n2) (d := d2) w4).mono ?_
    rw [show (fracB n1 d1 && fracB n2 d2) = true from hb]
    rintro e w5 ⟨rfl, e5⟩
    have own5 := own4.ext (w' := w5)
    have b5 : Below B w w5 := b4.trans (e5.below.mono own4.sz)
    have e5' : Ext w0 w5 := Ext.trans ‹Ext w0 w› (hE.out _ b5)
    obtain ⟨a0, a1, _, _, _⟩ := own5.frac0
    obtain ⟨s0, s1, _, _, _⟩ := own5.drop.frac0
    go_wp2_with fail
    refine (l2Cmp_any (a := n1) (b := d1) (c := n2) (d := d2) hb w5).mono ?_
    rintro e w6 ⟨rfl, e6⟩
    have own6 := own5.ext (w' := w6)
    have b6 : Below B w w6 := b5.trans (e6.below.mono own5.sz)
    have e6' : Ext w0 w6 := Ext.trans ‹Ext w0 w› (hE.out _ b6)
    generalize cmp1 (n1 * d2) (n2 * d1) = vc at *
    by_cases hv : 0 < vc
    · go_wp2_with fail
      refine (one_any (w0 := w0) hc own6 hwB (by omega) (by omega)).mono ?_
      rintro e wy ⟨by', ay, rfl, hya, hyb, owny, by1⟩
      have byy := b6.trans by1
      have eyy : Ext w0 wy := Ext.trans ‹Ext w0 w› (hE.out _ byy)
      cases by' with
      | false =>
        go_upto_region 4 with fail
        refine region_held_from (w0 := wy) (S := fun u => (∃ p q p' q' : Int, CurAt u B (B + 1 + 1) (.slice ac nb cc) ay [frRow (X + 1) n2 d2, frRow X n1 d1, frRow (B + 1) p q, frRow B p' q']) ∧ Below B w u) (by kernel_rfl) (fun u e => ⟨⟨0, 0, 0, 0, (owny).ext (w' := u)⟩, (byy).trans (e.below.mono (owny).sz)⟩) (fun wd ed hHeld0 => ?_)
        refine wpAnyH_take (i := 0) (v := .agg #[.int .i64 n2, .int .i64 d2]) rfl (by kernel_rfl) (by kernel_rfl) (by kernel_rfl) (fun _ _ _ h => h) (Or.inl ⟨by rfl, by intro wx hx; (obtain ⟨⟨_, _, _, _, ho⟩, _⟩ := hx; obtain ⟨c0, c1, _⟩ := ho.frac0; obtain ⟨c2, c3, _⟩ := ho.drop.frac0; go_simp)⟩) (by assumption) ?_
        try simp only [List.getElem_toArray, List.getElem_cons_zero, Act.put, List.setIfInBounds_toArray, List.set_cons_zero, List.set_cons_succ]
        refine wpAnyH_take (i := 1) (v := .agg #[.int .i64 n1, .int .i64 d1]) rfl (by kernel_rfl) (by kernel_rfl) (by kernel_rfl) (fun _ _ _ h => h) (Or.inl ⟨by rfl, by intro wx hx; (obtain ⟨⟨_, _, _, _, ho⟩, _⟩ := hx; obtain ⟨c0, c1, _⟩ := ho.frac0; obtain ⟨c2, c3, _⟩ := ho.drop.frac0; go_simp)⟩) (by assumption) ?_
        try simp only [List.getElem_toArray, List.getElem_cons_succ, List.getElem_cons_zero, Act.put, List.setIfInBounds_toArray, List.set_cons_zero, List.set_cons_succ]
        obtain ⟨⟨p, q, p', q', ho⟩, hbe⟩ := hid hHeld0 |>.out
        obtain ⟨t0, t1, t2, t3, _⟩ := ho.drop.drop.swap.frac0
        obtain ⟨u0, u1, u2, u3, _⟩ := ho.drop.drop.frac0
        have hp1 : CurAt wd B (B + 1 + 1) (.slice ac nb cc) ay [frRow B p' q', frRow (X + 1) n2 d2, frRow X n1 d1, frRow (B + 1) p q] := ho.perm (List.perm_append_comm (l₁ := [frRow B p' q']) (l₂ := [frRow (X + 1) n2 d2, frRow X n1 d1, frRow (B + 1) p q]))
        have hs1 := hp1.frSet n2 d2
        have hw1 := hbe.trans (CurAt.frBelow (w := wd) (B := B) (g := B) (Nat.le_refl B) (.int .i64 n2) (.int .i64 d2))
        have hp2 := hs1.perm (List.perm_append_comm (l₂ := [frRow B n2 d2]) (l₁ := [frRow (X + 1) n2 d2, frRow X n1 d1, frRow (B + 1) p q]))
        refine wpAnyH_ready (rs := [2]) (by kernel_rfl) (by simp) ?_
        refine AllReadyH.cons rfl (fun K hK => ?_) AllReadyH.nil
        go_simp
        refine hK.out _ _ ⟨⟨p, q, n2, d2, hp2⟩, hw1⟩ (fun hHeld1 => ?_)
        clear hK K hHeld0
        try simp only [List.getElem_toArray, List.getElem_cons_succ, List.getElem_cons_zero, Act.put, List.setIfInBounds_toArray, List.set_cons_zero, List.set_cons_succ]
        obtain ⟨x0, x1, x2, x3, _⟩ := hp2.drop.drop.frac0
        have hp3 := hp2.perm (List.perm_append_comm (l₁ := [frRow (B + 1) p q, frRow B n2 d2]) (l₂ := [frRow (X + 1) n2 d2, frRow X n1 d1]))
        have hs2 := hp3.frSet n1 d1
        have hw2 := hw1.trans (CurAt.frBelow (B := B) (g := B + 1) (Nat.le_succ B) (.int .i64 n1) (.int .i64 d1))
        have hp4 := hs2.perm (List.perm_append_comm (l₂ := [frRow (B + 1) n1 d1, frRow B n2 d2]) (l₁ := [frRow (X + 1) n2 d2, frRow X n1 d1]))
        obtain ⟨c0, c1, c2, c3, _⟩ := hs2.frac0
        obtain ⟨d0', d1', _, _, _⟩ := hs2.swap.frac0
        refine wpAnyH_ready (rs := [3]) (by kernel_rfl) (by simp) ?_
        refine AllReadyH.cons rfl (fun K hK => ?_) AllReadyH.nil
        go_simp
        refine hK.out _ _ ⟨⟨n1, d1, n2, d2, hp4⟩, hw2⟩ (fun hHeld2 => ?_)
        clear hK K hHeld1
        try simp only [List.getElem_toArray, List.getElem_cons_succ, List.getElem_cons_zero, Act.put, List.setIfInBounds_toArray, List.set_cons_zero, List.set_cons_succ]
        refine wpAnyH_done (by kernel_rfl) ?_ _
        go_wp2_with fail
        replace hw2 := hid hw2
        clear hw1 hs1 hs2 hp1 hp2 hp3 hp4
        refine bodyPost_ret (v := .tuple #[.agg #[.int .i64 n2, .int .i64 d2], .agg #[.int .i64 n1, .int .i64 d1]]) (by simp [results, Tryd.results18, go_sem, c0, c1, d0', d1']) rfl ?_
        exact ⟨_, _, _, _, rfl, hE.out _ hw2.out⟩
      | true =>
        go_wp2_with fail
        refine (one_any (w0 := w0) hc owny hwB (by omega) (by omega)).mono ?_
        rintro e wt ⟨bt, at', rfl, hta, htb, ownt, bt'⟩
        have btt := (byy).trans bt'
        have ett : Ext w0 wt := Ext.trans ‹Ext w0 w› (hE.out _ btt)
        cases bt with
        | true =>
          obtain ⟨t0, t1, t2, t3, _⟩ := ownt.drop.drop.swap.frac0
          obtain ⟨u0, u1, u2, u3, _⟩ := ownt.drop.drop.frac0
          go_wp2_with fail
          have hs1 := ((ownt.drop.drop)).swap.frSet 1 100000
          have hw1 := CurAt.frBelow (w := wt) (B := B) (g := B) (Nat.le_refl B) (.int .i64 1) (.int .i64 100000)
          have hs2 := hs1.swap.frSet 1 99999
          obtain ⟨c0, c1, c2, c3, _⟩ := hs2.frac0
          obtain ⟨d0', d1', _, _, _⟩ := hs2.swap.frac0
          have hw2 := (btt).trans (hw1.trans (CurAt.frBelow (B := B) (g := B + 1) (Nat.le_succ B) (.int .i64 1) (.int .i64 99999)))
          replace hw2 := hid hw2
          clear hw1 hs1 hs2
          refine bodyPost_ret (v := .tuple #[.agg #[.int .i64 1, .int .i64 100000], .agg #[.int .i64 1, .int .i64 99999]]) (by simp [results, Tryd.results18, go_sem, c0, c1, d0', d1']) rfl ?_
          exact ⟨_, _, _, _, rfl, hE.out _ hw2.out⟩
        | false =>
          go_upto_region 7 with fail
          refine region_held_from (w0 := wt) (S := fun u => (∃ p q p' q' : Int, CurAt u B (B + 1 + 1) (.slice ac nb cc) at' [frRow (X + 1) n2 d2, frRow X n1 d1, frRow (B + 1) p q, frRow B p' q']) ∧ Below B w u) (by kernel_rfl) (fun u e => ⟨⟨0, 0, 0, 0, (ownt).ext (w' := u)⟩, (btt).trans (e.below.mono (ownt).sz)⟩) (fun wd ed hHeld0 => ?_)
          refine wpAnyH_take (i := 0) (v := .agg #[.int .i64 n1, .int .i64 d1]) rfl (by kernel_rfl) (by kernel_rfl) (by kernel_rfl) (fun _ _ _ h => h) (Or.inl ⟨by rfl, by intro wx hx; (obtain ⟨⟨_, _, _, _, ho⟩, _⟩ := hx; obtain ⟨c0, c1, _⟩ := ho.frac0; obtain ⟨c2, c3, _⟩ := ho.drop.frac0; go_simp)⟩) (by assumption) ?_
          try simp only [List.getElem_toArray, List.getElem_cons_zero, Act.put, List.setIfInBounds_toArray, List.set_cons_zero, List.set_cons_succ]
          refine wpAnyH_take (i := 1) (v := .agg #[.int .i64 n2, .int .i64 d2]) rfl (by kernel_rfl) (by kernel_rfl) (by kernel_rfl) (fun _ _ _ h => h) (Or.inl ⟨by rfl, by intro wx hx; (obtain ⟨⟨_, _, _, _, ho⟩, _⟩ := hx; obtain ⟨c0, c1, _⟩ := ho.frac0; obtain ⟨c2, c3, _⟩ := ho.drop.frac0; go_simp)⟩) (by assumption) ?_
          try simp only [List.getElem_toArray, List.getElem_cons_succ, List.getElem_cons_zero, Act.put, List.setIfInBounds_toArray, List.set_cons_zero, List.set_cons_succ]
          obtain ⟨⟨p, q, p', q', ho⟩, hbe⟩ := hid hHeld0 |>.out
          obtain ⟨t0, t1, t2, t3, _⟩ := ho.drop.drop.swap.frac0
          obtain ⟨u0, u1, u2, u3, _⟩ := ho.drop.drop.frac0
          have hp1 : CurAt wd B (B + 1 + 1) (.slice ac nb cc) at' [frRow B p' q', frRow (X + 1) n2 d2, frRow X n1 d1, frRow (B + 1) p q] := ho.perm (List.perm_append_comm (l₁ := [frRow B p' q']) (l₂ := [frRow (X + 1) n2 d2, frRow X n1 d1, frRow (B + 1) p q]))
          have hs1 := hp1.frSet n1 d1
          have hw1 := hbe.trans (CurAt.frBelow (w := wd) (B := B) (g := B) (Nat.le_refl B) (.int .i64 n1) (.int .i64 d1))
          have hp2 := hs1.perm (List.perm_append_comm (l₂ := [frRow B n1 d1]) (l₁ := [frRow (X + 1) n2 d2, frRow X n1 d1, frRow (B + 1) p q]))
          refine wpAnyH_ready (rs := [2]) (by kernel_rfl) (by simp) ?_
          refine AllReadyH.cons rfl (fun K hK => ?_) AllReadyH.nil
          go_simp
          refine hK.out _ _ ⟨⟨p, q, n1, d1, hp2⟩, hw1⟩ (fun hHeld1 => ?_)
          clear hK K hHeld0
          try simp only [List.getElem_toArray, List.getElem_cons_succ, List.getElem_cons_zero, Act.put, List.setIfInBounds_toArray, List.set_cons_zero, List.set_cons_succ]
          obtain ⟨x0, x1, x2, x3, _⟩ := hp2.drop.drop.frac0
          have hp3 := hp2.perm (List.perm_append_comm (l₁ := [frRow (B + 1) p q, frRow B n1 d1]) (l₂ := [frRow (X + 1) n2 d2, frRow X n1 d1]))
          have hs2 := hp3.frSet n2 d2
          have hw2 := hw1.trans (CurAt.frBelow (B := B) (g := B + 1) (Nat.le_succ B) (.int .i64 n2) (.int .i64 d2))
          have hp4 := hs2.perm (List.perm_append_comm (l₂ := [frRow (B + 1) n2 d2, frRow B n1 d1]) (l₁ := [frRow (X + 1) n2 d2, frRow X n1 d1]))
          obtain ⟨c0, c1, c2, c3, _⟩ := hs2.frac0
          obtain ⟨d0', d1', _, _, _⟩ := hs2.swap.frac0
          refine wpAnyH_ready (rs := [3]) (by kernel_rfl) (by simp) ?_
          refine AllReadyH.cons rfl (fun K hK => ?_) AllReadyH.nil
          go_simp
          refine hK.out _ _ ⟨⟨n2, d2, n1, d1, hp4⟩, hw2⟩ (fun hHeld2 => ?_)
          clear hK K hHeld1
          try simp only [List.getElem_toArray, List.getElem_cons_succ, List.getElem_cons_zero, Act.put, List.setIfInBounds_toArray, List.set_cons_zero, List.set_cons_succ]
          refine wpAnyH_done (by kernel_rfl) ?_ _
          go_wp2_with fail
          replace hw2 := hid hw2
          clear hw1 hs1 hs2 hp1 hp2 hp3 hp4
          refine bodyPost_ret (v := .tuple #[.agg #[.int .i64 n1, .int .i64 d1], .agg #[.int .i64 n2, .int .i64 d2]]) (by simp [results, Tryd.results18, go_sem, c0, c1, d0', d1']) rfl ?_
          exact ⟨_, _, _, _, rfl, hE.out _ hw2.out⟩
    · skip
      go_wp2_with fail
      refine (one_any (w0 := w0) hc own6 hwB (by omega) (by omega)).mono ?_
      rintro e wt ⟨bt, at', rfl, hta, htb, ownt, bt'⟩
      have btt := (b6).trans bt'
      have ett : Ext w0 wt := Ext.trans ‹Ext w0 w› (hE.out _ btt)
      cases bt with
      | true =>
        obtain ⟨t0, t1, t2, t3, _⟩ := ownt.drop.drop.swap.frac0
        obtain ⟨u0, u1, u2, u3, _⟩ := ownt.drop.drop.frac0
        go_wp2_with fail
        have hs1 := ((ownt.drop.drop)).swap.frSet 1 100000
        have hw1 := CurAt.frBelow (w := wt) (B := B) (g := B) (Nat.le_refl B) (.int .i64 1) (.int .i64 100000)
        have hs2 := hs1.swap.frSet 1 99999
        obtain ⟨c0, c1, c2, c3, _⟩ := hs2.frac0
        obtain ⟨d0', d1', _, _, _⟩ := hs2.swap.frac0
        have hw2 := (btt).trans (hw1.trans (CurAt.frBelow (B := B) (g := B + 1) (Nat.le_succ B) (.int .i64 1) (.int .i64 99999)))
        replace hw2 := hid hw2
        clear hw1 hs1 hs2
        refine bodyPost_ret (v := .tuple #[.agg #[.int .i64 1, .int .i64 100000], .agg #[.int .i64 1, .int .i64 99999]]) (by simp [results, Tryd.results18, go_sem, c0, c1, d0', d1']) rfl ?_
        exact ⟨_, _, _, _, rfl, hE.out _ hw2.out⟩
      | false =>
        go_upto_region 7 with fail
        refine region_held_from (w0 := wt) (S := fun u => (∃ p q p' q' : Int, CurAt u B (B + 1 + 1) (.slice ac nb cc) at' [frRow (X + 1) n2 d2, frRow X n1 d1, frRow (B + 1) p q, frRow B p' q']) ∧ Below B w u) (by kernel_rfl) (fun u e => ⟨⟨0, 0, 0, 0, (ownt).ext (w' := u)⟩, (btt).trans (e.below.mono (ownt).sz)⟩) (fun wd ed hHeld0 => ?_)
        refine wpAnyH_take (i := 0) (v := .agg #[.int .i64 n1, .int .i64 d1]) rfl (by kernel_rfl) (by kernel_rfl) (by kernel_rfl) (fun _ _ _ h => h) (Or.inl ⟨by rfl, by intro wx hx; (obtain ⟨⟨_, _, _, _, ho⟩, _⟩ := hx; obtain ⟨c0, c1, _⟩ := ho.frac0; obtain ⟨c2, c3, _⟩ := ho.drop.frac0; go_simp)⟩) (by assumption) ?_
        try simp only [List.getElem_toArray, List.getElem_cons_zero, Act.put, List.setIfInBounds_toArray, List.set_cons_zero, List.set_cons_succ]
        refine wpAnyH_take (i := 1) (v := .agg #[.int .i64 n2, .int .i64 d2]) rfl (by kernel_rfl) (by kernel_rfl) (by kernel_rfl) (fun _ _ _ h => h) (Or.inl ⟨by rfl, by intro wx hx; (obtain ⟨⟨_, _, _, _, ho⟩, _⟩ := hx; obtain ⟨c0, c1, _⟩ := ho.frac0; obtain ⟨c2, c3, _⟩ := ho.drop.frac0; go_simp)⟩) (by assumption) ?_
        try simp only [List.getElem_toArray, List.getElem_cons_succ, List.getElem_cons_zero, Act.put, List.setIfInBounds_toArray, List.set_cons_zero, List.set_cons_succ]
        obtain ⟨⟨p, q, p', q', ho⟩, hbe⟩ := hid hHeld0 |>.out
        obtain ⟨t0, t1, t2, t3, _⟩ := ho.drop.drop.swap.frac0
        obtain ⟨u0, u1, u2, u3, _⟩ := ho.drop.drop.frac0
        have hp1 : CurAt wd B (B + 1 + 1) (.slice ac nb cc) at' [frRow B p' q', frRow (X + 1) n2 d2, frRow X n1 d1, frRow (B + 1) p q] := ho.perm (List.perm_append_comm (l₁ := [frRow B p' q']) (l₂ := [frRow (X + 1) n2 d2, frRow X n1 d1, frRow (B + 1) p q]))
        have hs1 := hp1.frSet n1 d1
        have hw1 := hbe.trans (CurAt.frBelow (w := wd) (B := B) (g := B) (Nat.le_refl B) (.int .i64 n1) (.int .i64 d1))
        have hp2 := hs1.perm (List.perm_append_comm (l₂ := [frRow B n1 d1]) (l₁ := [frRow (X + 1) n2 d2, frRow X n1 d1, frRow (B + 1) p q]))
        refine wpAnyH_ready (rs := [2]) (by kernel_rfl) (by simp) ?_
        refine AllReadyH.cons rfl (fun K hK => ?_) AllReadyH.nil
        go_simp
        refine hK.out _ _ ⟨⟨p, q, n1, d1, hp2⟩, hw1⟩ (fun hHeld1 => ?_)
        clear hK K hHeld0
        try simp only [List.getElem_toArray, List.getElem_cons_succ, List.getElem_cons_zero, Act.put, List.setIfInBounds_toArray, List.set_cons_zero, List.set_cons_succ]
        obtain ⟨x0, x1, x2, x3, _⟩ := hp2.drop.drop.frac0
        have hp3 := hp2.perm (List.perm_append_comm (l₁ := [frRow (B + 1) p q, frRow B n1 d1]) (l₂ := [frRow (X + 1) n2 d2, frRow X n1 d1]))
        have hs2 := hp3.frSet n2 d2
        have hw2 := hw1.trans (CurAt.frBelow (B := B) (g := B + 1) (Nat.le_succ B) (.int .i64 n2) (.int .i64 d2))
        have hp4 := hs2.perm (List.perm_append_comm (l₂ := [frRow (B + 1) n2 d2, frRow B n1 d1]) (l₁ := [frRow (X + 1) n2 d2, frRow X n1 d1]))
        obtain ⟨c0, c1, c2, c3, _⟩ := hs2.frac0
        obtain ⟨d0', d1', _, _, _⟩ := hs2.swap.frac0
        refine wpAnyH_ready (rs := [3]) (by kernel_rfl) (by simp) ?_
        refine AllReadyH.cons rfl (fun K hK => ?_) AllReadyH.nil
        go_simp
        refine hK.out _ _ ⟨⟨n2, d2, n1, d1, hp4⟩, hw2⟩ (fun hHeld2 => ?_)
        clear hK K hHeld1
        try simp only [List.getElem_toArray, List.getElem_cons_succ, List.getElem_cons_zero, Act.put, List.setIfInBounds_toArray, List.set_cons_zero, List.set_cons_succ]
        refine wpAnyH_done (by kernel_rfl) ?_ _
        go_wp2_with fail
        replace hw2 := hid hw2
        clear hw1 hs1 hs2 hp1 hp2 hp3 hp4
        refine bodyPost_ret (v := .tuple #[.agg #[.int .i64 n1, .int .i64 d1], .agg #[.int .i64 n2, .int .i64 d2]]) (by simp [results, Tryd.results18, go_sem, c0, c1, d0', d1']) rfl ?_
        exact ⟨_, _, _, _, rfl, hE.out _ hw2.out⟩
end Go.Proofs.YtohjbabjkjcddaaDoor
