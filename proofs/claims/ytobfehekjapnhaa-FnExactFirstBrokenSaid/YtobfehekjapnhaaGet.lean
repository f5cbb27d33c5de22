/- The reference's graph, if there is one; walks in it; PairAfter of both sides. -/
import Derived.Test.YtobfehekjapnhaaPairI
import Derived.Test.YtobfehekjapnhaaRatio
namespace Go.Proofs.Ytobfehekjapnhaa
open Go.RowKit

theorem IsFlat.far {w : World} {v : Value} {z : Nat} {L : List (List Int)} (h : IsFlat w v z L) {p : Addr} {v0 : Value} (hp : w.cell? p = some v0) (hv : ∀ i, v0 ≠ .int .i64 i) (u : Value) : IsFlat (w.setCell p u) v z L := by
  obtain ⟨a, c, h1, h2, h3, h5, h4⟩ := h
  refine ⟨a, c, h1, h2, h3, h5, fun j hj => ?_⟩
  obtain ⟨b, o, h6, h7⟩ := h4 j hj
  refine ⟨b, o, h6, fun k hk => ?_⟩
  have hc := h7 k hk
  rw [World.cell?_setCell_other w p _ u (fun e => by
    rw [← e, hp] at hc
    exact hv _ (Option.some.inj hc))]
  exact hc
theorem IsFlats.far {w : World} {v : Value} {z : Nat} {Ms : List (List (List Int))} (h : IsFlats w v z Ms) (hne : ∀ j, j < Ms.length → 0 < (Ms.getD j []).length) {p : Addr} {v0 : Value} (hp : w.cell? p = some v0) (hv : ∀ i, v0 ≠ .int .i64 i) (hv2 : ∀ d n m, 0 < n → v0 ≠ .slice d n m) (u : Value) : IsFlats (w.setCell p u) v z Ms := by
  obtain ⟨a, c, h1, h2, h4⟩ := h
  refine ⟨a, c, h1, h2, fun j hj => ?_⟩
  obtain ⟨b, o, x, h6, h7, h8⟩ := h4 j hj
  refine ⟨b, o, x, h6, ?_, h8.far hp hv u⟩
  obtain ⟨d, m, rfl, _⟩ := h8.form
  rw [World.cell?_setCell_other w p _ u (fun e => by
    rw [← e, hp] at h7
    exact hv2 _ _ _ (hne j hj) (Option.some.inj h7))]
  exact h7
/-- the three cells of a graph's result are written: what reads elsewhere reads on -/
theorem far3 {w : World} {B : Nat} {v vs x0 x1 x2 : Value} {z : Nat} {L : List (List Int)} {Ms : List (List (List Int))} (h : IsFlat w v z L) (hs : IsFlats w vs 3 Ms) (hne : ∀ j, j < Ms.length → 0 < (Ms.getD j []).length)
    (h0 : w.cell? ⟨B, 0, none⟩ = some (.slice none 0 0)) (h1 : w.cell? ⟨B, 1, none⟩ = some (.slice none 0 0)) (h2 : w.cell? ⟨B, 2, none⟩ = some (.bool false)) :
    IsFlat (((w.setCell ⟨B, 0, none⟩ x0).setCell ⟨B, 1, none⟩ x1).setCell ⟨B, 2, none⟩ x2) v z L ∧ IsFlats (((w.setCell ⟨B, 0, none⟩ x0).setCell ⟨B, 1, none⟩ x1).setCell ⟨B, 2, none⟩ x2) vs 3 Ms := by
  have n0 : ∀ i, (Value.slice none 0 0) ≠ .int .i64 i := fun i e => by cases e
  have n1 : ∀ d n m, 0 < n → (Value.slice none 0 0) ≠ .slice d n m := fun d n m hn e => by cases e; omega
  have n2 : ∀ i, (Value.bool false) ≠ .int .i64 i := fun i e => by cases e
  have n3 : ∀ d n m, 0 < n → (Value.bool false) ≠ .slice d n m := fun d n m hn e => by cases e
  have g1 : (w.setCell ⟨B, 0, none⟩ x0).cell? ⟨B, 1, none⟩ = some (.slice none 0 0) := by rw [World.cell?_setCell_other w _ _ _ (fun e => by simp at e)]; exact h1
  have g2 : ((w.setCell ⟨B, 0, none⟩ x0).setCell ⟨B, 1, none⟩ x1).cell? ⟨B, 2, none⟩ = some (.bool false) := by
    rw [World.cell?_setCell_other _ _ _ _ (fun e => by simp at e), World.cell?_setCell_other w _ _ _ (fun e => by simp at e)]; exact h2
  exact ⟨((h.far h0 n0 x0).far g1 n0 x1).far g2 n2 x2, ((hs.far hne h0 n0 n1 x0).far hne g1 n0 n1 x1).far hne g2 n2 n3 x2⟩
theorem prSt_ne {g : Gr} {n s m : Nat} (hg : g.Ok n) : ∀ j, j < (prSt g s m).length → 0 < ((prSt g s m).getD j []).length := by
  intro j hj
  rw [prSt_length] at hj
  rw [prSt_at hj, rowSt_length]
  exact (probB_len hg.prob).2.2.1
def getPost (M S N : List (List Int)) (s : Int) (e : Ending) (w' : World) : Prop :=
  (prB M S N s = false ∧ ∃ d1 n1 m1 d2 n2 m2 b, e = .returned (.tuple #[.agg #[.slice d1 n1 m1, .slice d2 n2 m2, .bool b], .bool false])) ∨
  ∃ n m, algOk M S N s [] = true ∧ offEnd M S s.toNat = some n ∧ prEnd (grOf M S N s.toNat n) s.toNat = some m ∧
    ∃ pd pm sd sm, e = .returned (.tuple #[.agg #[.slice pd (prLst (grOf M S N s.toNat n) s.toNat m).length pm, .slice sd (prSt (grOf M S N s.toNat n) s.toNat m).length sm, .bool false], .bool true]) ∧
    IsFlat w' (.slice pd (prLst (grOf M S N s.toNat n) s.toNat m).length pm) 2 (prLst (grOf M S N s.toNat n) s.toNat m) ∧ IsFlats w' (.slice sd (prSt (grOf M S N s.toNat n) s.toNat m).length sm) 3 (prSt (grOf M S N s.toNat n) s.toNat m)

set_option maxHeartbeats 1600000 in
set_option maxRecDepth 100000 in
theorem l9Get_any {v vN : Value} {M S N : List (List Int)} {s : Int} {w0 w : World} [Ext w0 w] (hp : IsProb w0 v M S) (hN : IsRows w0 vN N) :
    Calls Try.prog 55 #[v, vN, .int .i64 s] w fun e w' => getPost M S N s e w' ∧ Ext w w' := by
  have hp' := hp
  obtain ⟨v1, v2, rfl, hM, hS⟩ := hp
  have hM' := hM
  have hS' := hS
  have hN' := hN
  obtain ⟨a1, c1, rfl, l1⟩ := hM.form
  obtain ⟨a2, c2, rfl, l2⟩ := hS.form
  obtain ⟨aN, cN, rfl, lN⟩ := hN.form
  obtain ⟨W, hW⟩ : ∃ W, W = (w.alloc (.cells #[.slice a1 M.length c1, .slice a2 S.length c2] 29)).alloc (.cells #[.slice none 0 0, .slice none 0 0, .bool false] 76) := ⟨_, rfl⟩
  have eW : Ext w W := by rw [hW]; infer_instance
  have k0 : W.cell? ⟨w.heap.size, 0, none⟩ = some (.slice a1 M.length c1) := by rw [hW]; go_simp
  have k1 : W.cell? ⟨w.heap.size, 1, none⟩ = some (.slice a2 S.length c2) := by rw [hW]; go_simp
  have c0 : W.cell? ⟨w.heap.size + 1, 0, none⟩ = some (.slice none 0 0) := by rw [hW]; go_simp
  have c1' : W.cell? ⟨w.heap.size + 1, 1, none⟩ = some (.slice none 0 0) := by rw [hW]; go_simp
  have c2' : W.cell? ⟨w.heap.size + 1, 2, none⟩ = some (.bool false) := by rw [hW]; go_simp
  have f0 : W.frozen? ⟨w.heap.size + 1, 0, none⟩ = false := by rw [hW]; go_simp
  have f1 : W.frozen? ⟨w.heap.size + 1, 1, none⟩ = false := by rw [hW]; go_simp
  have f2 : W.frozen? ⟨w.heap.size + 1, 2, none⟩ = false := by rw [hW]; go_simp
  obtain ⟨WA, hWA⟩ : ∃ WA, WA = W.alloc (.cells #[] 3) := ⟨_, rfl⟩
  have eWA : Ext W WA := by rw [hWA]; infer_instance
  have hnil : IsInts WA (.slice (some ⟨W.heap.size, 0, none⟩) 0 0) [] := ⟨_, _, rfl, ⟨Nat.zero_le _, Nat.le_refl _⟩, by simp, fun j hj => by simp at hj⟩
  have ka0 := eWA.cell k0
  have ka1 := eWA.cell k1
  have eWA0 : Ext w0 WA := Ext.trans ‹Ext w0 w› (Ext.trans eW eWA)
  cases hA : algOk M S N s [] with
  | false =>
    have hr := hid (prB_alg hA)
    replace hA := hid hA
    go_enter Try.func55, Try.ntmps55
    go_upto_region 1 with fail
    rw [← hW]
    clear hW
    go_wp2_with fail
    rw [← hWA]
    clear hWA
    refine (l9Takes_any (w0 := WA) (w := WA) (hp'.ext (w' := WA)) (hN'.ext (w' := WA)) hnil).mono ?_; rw [hA.out]; rintro e w1 ⟨rfl, hb1⟩
    have e1 : Ext W w1 := Ext.trans eWA hb1
    have r0 := e1.cell c0
    have r1 := e1.cell c1'
    have r2 := e1.cell c2'
    have rf0 := e1.frozen c0 f0
    have rf1 := e1.frozen c1' f1
    have rf2 := e1.frozen c2' f2
    go_wp2_with fail
    refine bodyPost_ret (v := .tuple #[.agg #[.slice none 0 0, .slice none 0 0, .bool false], .bool false]) (by simp [results, Try.results55, go_sem, r0, r1, r2]) rfl ?_
    refine ⟨.inl ⟨hr.out, _, _, _, _, _, _, _, rfl⟩, ?_⟩
    exact @Ext.set _ _ (@Ext.set _ _ (@Ext.set _ _ (Ext.trans eW e1) ⟨w.heap.size + 1, 0, none⟩ (Nat.le_succ _) _) ⟨w.heap.size + 1, 1, none⟩ (Nat.le_succ _) _) ⟨w.heap.size + 1, 2, none⟩ (Nat.le_succ _) _
  | true =>
    have hA' := hid hA
    have hpt := hid (algOk_parts hA)
    replace hA := hid hA
    go_enter Try.func55, Try.ntmps55
    go_upto_region 1 with fail
    rw [← hW]
    clear hW
    go_wp2_with fail
    rw [← hWA]
    clear hWA
    refine (l9Takes_any (w0 := WA) (w := WA) (hp'.ext (w' := WA)) (hN'.ext (w' := WA)) hnil).mono ?_; rw [hA.out]; rintro e w1 ⟨rfl, hb1⟩
    have e1 : Ext W w1 := Ext.trans eWA hb1
    have z0 := e1.cell k0
    have z1 := e1.cell k1
    have e01 : Ext w0 w1 := Ext.trans ‹Ext w0 w› (Ext.trans eW e1)
    go_wp2_with fail
    refine (l9Make_any (w0 := w0) hM' hS' hN' hpt.out.1 hpt.out.2).mono ?_
    rintro e w2 ⟨hpost, hb2⟩
    have e2 : Ext W w2 := Ext.trans e1 hb2
    have r0 := e2.cell c0
    have r1 := e2.cell c1'
    have r2 := e2.cell c2'
    have rf0 := e2.frozen c0 f0
    have rf1 := e2.frozen c1' f1
    have rf2 := e2.frozen c2' f2
    rcases hpost with ⟨hbad, d1, n1, m1, d2, n2, m2, rfl⟩ | ⟨n, m, hoff, hend, pd, pm, sd, sm, rfl, hL, hMs⟩
    · have hr := hid (show prB M S N s = false by
        rcases hbad with h | ⟨n, h, h2⟩
        · exact prB_off h
        · exact prB_pr h h2)
      clear hbad
      have eb : Ext w2 (w2.alloc (.cells #[.slice d1 n1 m1, .slice d2 n2 m2, .bool true] 76)) := inferInstance
      have b0 : (w2.alloc (.cells #[.slice d1 n1 m1, .slice d2 n2 m2, .bool true] 76)).cell? ⟨w2.heap.size, 0, none⟩ = some (.slice d1 n1 m1) := by go_simp
      have b1 : (w2.alloc (.cells #[.slice d1 n1 m1, .slice d2 n2 m2, .bool true] 76)).cell? ⟨w2.heap.size, 1, none⟩ = some (.slice d2 n2 m2) := by go_simp
      have b2 : (w2.alloc (.cells #[.slice d1 n1 m1, .slice d2 n2 m2, .bool true] 76)).cell? ⟨w2.heap.size, 2, none⟩ = some (.bool true) := by go_simp
      have q0 := eb.cell r0
      have q1 := eb.cell r1
      have q2 := eb.cell r2
      have qf0 := eb.frozen r0 rf0
      have qf1 := eb.frozen r1 rf1
      have qf2 := eb.frozen r2 rf2
      have e3 := Ext.trans e2 eb
      go_upto_region 4 with fail
      generalize w2.alloc (.cells #[.slice d1 n1 m1, .slice d2 n2 m2, .bool true] 76) = w3 at *
      refine wp_region_held_drew (S := fun w' => w'.cell? ⟨w2.heap.size, 0, none⟩ = some (.slice d1 n1 m1) ∧ w'.cell? ⟨w2.heap.size, 1, none⟩ = some (.slice d2 n2 m2) ∧ w'.cell? ⟨w2.heap.size, 2, none⟩ = some (.bool true)) (by kernel_rfl) ⟨b0, b1, b2⟩ (fun hHeld0 => ?_)
      have ed : Ext w3 w3.drew := inferInstance
      have q0d := ed.cell q0
      have q1d := ed.cell q1
      have q2d := ed.cell q2
      have qf0d := ed.frozen q0 qf0
      have qf1d := ed.frozen q1 qf1
      have qf2d := ed.frozen q2 qf2
      have e4 : Ext W w3.drew := Ext.trans e3 ed
      have e24 : Ext w2 w3.drew := Ext.trans eb ed
      clear b0 b1 b2 q0 q1 q2 qf0 qf1 qf2 ed
      generalize w3.drew = w4 at *
      have hne2 : w.heap.size + 1 ≠ w2.heap.size := Nat.ne_of_lt (World.block_lt_of_cell? w2 _ r0)
      have hsf : ∀ (x0 x1 x2 : Value), (((w4.setCell ⟨w.heap.size + 1, 0, none⟩ x0).setCell ⟨w.heap.size + 1, 1, none⟩ x1).setCell ⟨w.heap.size + 1, 2, none⟩ x2).cell? ⟨w2.heap.size, 0, none⟩ = some (.slice d1 n1 m1) ∧ (((w4.setCell ⟨w.heap.size + 1, 0, none⟩ x0).setCell ⟨w.heap.size + 1, 1, none⟩ x1).setCell ⟨w.heap.size + 1, 2, none⟩ x2).cell? ⟨w2.heap.size, 1, none⟩ = some (.slice d2 n2 m2) ∧ (((w4.setCell ⟨w.heap.size + 1, 0, none⟩ x0).setCell ⟨w.heap.size + 1, 1, none⟩ x1).setCell ⟨w.heap.size + 1, 2, none⟩ x2).cell? ⟨w2.heap.size, 2, none⟩ = some (.bool true) := by
        intro x0 x1 x2
        refine ⟨?_, ?_, ?_⟩ <;> rw [World.cell?_setCell_far _ _ _ _ hne2, World.cell?_setCell_far _ _ _ _ hne2, World.cell?_setCell_far _ _ _ _ hne2]
        · exact hHeld0.1
        · exact hHeld0.2.1
        · exact hHeld0.2.2
      replace hsf := hid hsf
      replace hne2 := hid hne2
      refine wpAnyH_take (i := 0) (v := .agg #[.slice d1 n1 m1, .slice d2 n2 m2, .bool true]) rfl (by kernel_rfl) (by kernel_rfl) (by kernel_rfl) (fun _ _ _ h => h) (Or.inl ⟨by rfl, by intro wx hx; obtain ⟨_, _, _⟩ := hx; go_simp⟩) (by assumption) ?_
      try simp only [List.getElem_toArray, List.getElem_cons_zero, Act.put, List.setIfInBounds_toArray, List.set_cons_zero, List.set_cons_succ]
      refine wpAnyH_take (i := 1) (v := .pointer (some ⟨w2.heap.size, 2, none⟩)) rfl (by kernel_rfl) (by kernel_rfl) (by kernel_rfl) (fun _ _ _ h => h) (Or.inl ⟨by rfl, by intro wx hx; go_simp⟩) (by assumption) ?_
      try simp only [List.getElem_toArray, List.getElem_cons_succ, List.getElem_cons_zero, Act.put, List.setIfInBounds_toArray, List.set_cons_zero, List.set_cons_succ]
      refine wpAnyH_take (i := 2) (v := .bool true) rfl (by kernel_rfl) (by kernel_rfl) (by kernel_rfl) (fun _ _ _ h => h) (Or.inl ⟨by rfl, by intro wx hx; obtain ⟨_, _, _⟩ := hx; go_simp⟩) (by assumption) ?_
      try simp only [List.getElem_toArray, List.getElem_cons_succ, List.getElem_cons_zero, Act.put, List.setIfInBounds_toArray, List.set_cons_zero, List.set_cons_succ]
      refine wpAnyH_take (i := 3) (v := .bool false) rfl (by kernel_rfl) (by kernel_rfl) (by kernel_rfl) (fun _ _ _ h => h) (Or.inl ⟨by rfl, by intro wx hx; go_simp⟩) (by assumption) ?_
      try simp only [List.getElem_toArray, List.getElem_cons_succ, List.getElem_cons_zero, Act.put, List.setIfInBounds_toArray, List.set_cons_zero, List.set_cons_succ]
      refine wpAnyH_ready (rs := [4]) (by kernel_rfl) (by simp) ?_
      refine AllReadyH.cons rfl (fun K hK => ?_) AllReadyH.nil
      go_simp
      refine hK.out _ _ (hsf.out _ _ _) (fun _ => ?_)
      clear hK K
      try simp only [List.getElem_toArray, List.getElem_cons_succ, List.getElem_cons_zero, Act.put, List.setIfInBounds_toArray, List.set_cons_zero, List.set_cons_succ]
      refine wpAnyH_take (i := 5) (v := .bool false) rfl (by kernel_rfl) (by kernel_rfl) (by kernel_rfl) (fun _ _ _ h => h) (Or.inl ⟨by rfl, by intro wx hx; go_simp⟩) (by assumption) ?_
      try simp only [List.getElem_toArray, List.getElem_cons_succ, List.getElem_cons_zero, Act.put, List.setIfInBounds_toArray, List.set_cons_zero, List.set_cons_succ]
      refine wpAnyH_done (by kernel_rfl) ?_ _
      go_wp2_with fail
      refine bodyPost_ret (v := .tuple #[.agg #[.slice d1 n1 m1, .slice d2 n2 m2, .bool true], .bool false]) (by simp [results, Try.results55, go_sem, q0d, q1d, q2d]) rfl ?_
      refine ⟨.inl ⟨hr.out, _, _, _, _, _, _, _, rfl⟩, ?_⟩
      exact @Ext.set _ _ (@Ext.set _ _ (@Ext.set _ _ (Ext.trans eW e4) ⟨w.heap.size + 1, 0, none⟩ (Nat.le_succ _) _) ⟨w.heap.size + 1, 1, none⟩ (Nat.le_succ _) _) ⟨w.heap.size + 1, 2, none⟩ (Nat.le_succ _) _
    · replace hoff := hid hoff
      replace hend := hid hend
      have hne := hid (prSt_ne (s := s.toNat) (m := m) (gr_ok hpt.out.1 hpt.out.2 hoff.out))
      have hgd : grOf M S N s.toNat n = ⟨M, S, N, offStp M S s.toNat n, offGrw M S s.toNat n⟩ := rfl
      rw [← hgd] at hne
      clear hgd
      generalize hLg : prLst (grOf M S N s.toNat n) s.toNat m = L at *
      replace hLg := hid hLg
      generalize hMg : prSt (grOf M S N s.toNat n) s.toNat m = Ms at *
      replace hMg := hid hMg
      have eb : Ext w2 (w2.alloc (.cells #[.slice pd L.length pm, .slice sd Ms.length sm, .bool false] 76)) := inferInstance
      have b0 : (w2.alloc (.cells #[.slice pd L.length pm, .slice sd Ms.length sm, .bool false] 76)).cell? ⟨w2.heap.size, 0, none⟩ = some (.slice pd L.length pm) := by go_simp
      have b1 : (w2.alloc (.cells #[.slice pd L.length pm, .slice sd Ms.length sm, .bool false] 76)).cell? ⟨w2.heap.size, 1, none⟩ = some (.slice sd Ms.length sm) := by go_simp
      have b2 : (w2.alloc (.cells #[.slice pd L.length pm, .slice sd Ms.length sm, .bool false] 76)).cell? ⟨w2.heap.size, 2, none⟩ = some (.bool false) := by go_simp
      have q0 := eb.cell r0
      have q1 := eb.cell r1
      have q2 := eb.cell r2
      have qf0 := eb.frozen r0 rf0
      have qf1 := eb.frozen r1 rf1
      have qf2 := eb.frozen r2 rf2
      have e3 := Ext.trans e2 eb
      go_upto_region 4 with fail
      generalize w2.alloc (.cells #[.slice pd L.length pm, .slice sd Ms.length sm, .bool false] 76) = w3 at *
      refine wp_region_held_drew (S := fun w' => w'.cell? ⟨w2.heap.size, 0, none⟩ = some (.slice pd L.length pm) ∧ w'.cell? ⟨w2.heap.size, 1, none⟩ = some (.slice sd Ms.length sm) ∧ w'.cell? ⟨w2.heap.size, 2, none⟩ = some (.bool false)) (by kernel_rfl) ⟨b0, b1, b2⟩ (fun hHeld0 => ?_)
      have ed : Ext w3 w3.drew := inferInstance
      have q0d := ed.cell q0
      have q1d := ed.cell q1
      have q2d := ed.cell q2
      have qf0d := ed.frozen q0 qf0
      have qf1d := ed.frozen q1 qf1
      have qf2d := ed.frozen q2 qf2
      have e4 : Ext W w3.drew := Ext.trans e3 ed
      have e24 : Ext w2 w3.drew := Ext.trans eb ed
      clear b0 b1 b2 q0 q1 q2 qf0 qf1 qf2 ed
      generalize w3.drew = w4 at *
      have hne2 : w.heap.size + 1 ≠ w2.heap.size := Nat.ne_of_lt (World.block_lt_of_cell? w2 _ r0)
      have hsf : ∀ (x0 x1 x2 : Value), (((w4.setCell ⟨w.heap.size + 1, 0, none⟩ x0).setCell ⟨w.heap.size + 1, 1, none⟩ x1).setCell ⟨w.heap.size + 1, 2, none⟩ x2).cell? ⟨w2.heap.size, 0, none⟩ = some (.slice pd L.length pm) ∧ (((w4.setCell ⟨w.heap.size + 1, 0, none⟩ x0).setCell ⟨w.heap.size + 1, 1, none⟩ x1).setCell ⟨w.heap.size + 1, 2, none⟩ x2).cell? ⟨w2.heap.size, 1, none⟩ = some (.slice sd Ms.length sm) ∧ (((w4.setCell ⟨w.heap.size + 1, 0, none⟩ x0).setCell ⟨w.heap.size + 1, 1, none⟩ x1).setCell ⟨w.heap.size + 1, 2, none⟩ x2).cell? ⟨w2.heap.size, 2, none⟩ = some (.bool false) := by
        intro x0 x1 x2
        refine ⟨?_, ?_, ?_⟩ <;> rw [World.cell?_setCell_far _ _ _ _ hne2, World.cell?_setCell_far _ _ _ _ hne2, World.cell?_setCell_far _ _ _ _ hne2]
        · exact hHeld0.1
        · exact hHeld0.2.1
        · exact hHeld0.2.2
      replace hsf := hid hsf
      replace hne2 := hid hne2
      refine wpAnyH_take (i := 0) (v := .agg #[.slice pd L.length pm, .slice sd Ms.length sm, .bool false]) rfl (by kernel_rfl) (by kernel_rfl) (by kernel_rfl) (fun _ _ _ h => h) (Or.inl ⟨by rfl, by intro wx hx; obtain ⟨_, _, _⟩ := hx; go_simp⟩) (by assumption) ?_
      try simp only [List.getElem_toArray, List.getElem_cons_zero, Act.put, List.setIfInBounds_toArray, List.set_cons_zero, List.set_cons_succ]
      refine wpAnyH_take (i := 1) (v := .pointer (some ⟨w2.heap.size, 2, none⟩)) rfl (by kernel_rfl) (by kernel_rfl) (by kernel_rfl) (fun _ _ _ h => h) (Or.inl ⟨by rfl, by intro wx hx; go_simp⟩) (by assumption) ?_
      try simp only [List.getElem_toArray, List.getElem_cons_succ, List.getElem_cons_zero, Act.put, List.setIfInBounds_toArray, List.set_cons_zero, List.set_cons_succ]
      refine wpAnyH_take (i := 2) (v := .bool false) rfl (by kernel_rfl) (by kernel_rfl) (by kernel_rfl) (fun _ _ _ h => h) (Or.inl ⟨by rfl, by intro wx hx; obtain ⟨_, _, _⟩ := hx; go_simp⟩) (by assumption) ?_
      try simp only [List.getElem_toArray, List.getElem_cons_succ, List.getElem_cons_zero, Act.put, List.setIfInBounds_toArray, List.set_cons_zero, List.set_cons_succ]
      refine wpAnyH_take (i := 3) (v := .bool true) rfl (by kernel_rfl) (by kernel_rfl) (by kernel_rfl) (fun _ _ _ h => h) (Or.inl ⟨by rfl, by intro wx hx; go_simp⟩) (by assumption) ?_
      try simp only [List.getElem_toArray, List.getElem_cons_succ, List.getElem_cons_zero, Act.put, List.setIfInBounds_toArray, List.set_cons_zero, List.set_cons_succ]
      refine wpAnyH_ready (rs := [4]) (by kernel_rfl) (by simp) ?_
      refine AllReadyH.cons rfl (fun K hK => ?_) AllReadyH.nil
      go_simp
      refine hK.out _ _ (hsf.out _ _ _) (fun _ => ?_)
      clear hK K
      try simp only [List.getElem_toArray, List.getElem_cons_succ, List.getElem_cons_zero, Act.put, List.setIfInBounds_toArray, List.set_cons_zero, List.set_cons_succ]
      refine wpAnyH_take (i := 5) (v := .bool true) rfl (by kernel_rfl) (by kernel_rfl) (by kernel_rfl) (fun _ _ _ h => h) (Or.inl ⟨by rfl, by intro wx hx; go_simp⟩) (by assumption) ?_
      try simp only [List.getElem_toArray, List.getElem_cons_succ, List.getElem_cons_zero, Act.put, List.setIfInBounds_toArray, List.set_cons_zero, List.set_cons_succ]
      refine wpAnyH_done (by kernel_rfl) ?_ _
      go_wp2_with fail
      refine bodyPost_ret (v := .tuple #[.agg #[.slice pd L.length pm, .slice sd Ms.length sm, .bool false], .bool true]) (by simp [results, Try.results55, go_sem, q0d, q1d, q2d]) rfl ?_
      refine ⟨.inr ⟨n, m, hA'.out, hoff.out, hend.out, pd, pm, sd, sm, by rw [hLg.out, hMg.out], ?_, ?_⟩, ?_⟩
      · rw [hLg.out]
        exact (far3 (hL.ext (w' := w4)) (hMs.ext (w' := w4)) hne.out q0d q1d q2d).1
      · rw [hMg.out]
        exact (far3 (hL.ext (w' := w4)) (hMs.ext (w' := w4)) hne.out q0d q1d q2d).2
      exact @Ext.set _ _ (@Ext.set _ _ (@Ext.set _ _ (Ext.trans eW e4) ⟨w.heap.size + 1, 0, none⟩ (Nat.le_succ _) _) ⟨w.heap.size + 1, 1, none⟩ (Nat.le_succ _) _) ⟨w.heap.size + 1, 2, none⟩ (Nat.le_succ _) _

end Go.Proofs.Ytobfehekjapnhaa
