/- The pair behind requests; PairAfter of both sides. -/
import Derived.Test.YtobfehekjapnhaaGet
namespace Go.Proofs.Ytobfehekjapnhaa
open Go.RowKit

/-- the pair behind k requests, from a pair on -/
def pAft (g : Gr) (s a0 : Nat) (X : List Int) : Nat → Nat
  | 0 => a0
  | k + 1 => (nth (stepAt g s (pAft g s a0 X k) (nth X k).toNat) 0).toNat
def reqsIn (g : Gr) (X : List Int) : Prop := ∀ k, k < X.length → 0 ≤ nth X k ∧ nth X k < g.S.length
theorem pAft_in {g : Gr} {n s m a0 : Nat} {X : List Int} (hg : g.Ok n) (hs : s < g.M.length) (h : prEnd g s = some m) (ha : a0 < m) (hX : reqsIn g X) : ∀ {k : Nat}, k ≤ X.length → pAft g s a0 X k < m
  | 0, _ => ha
  | k + 1, hk => by
    have ih := pAft_in hg hs h ha hX (k := k) (by omega)
    have hr := hX k (by omega)
    obtain ⟨t, c, y, e, h1, h2, _⟩ := stepAt_in hg hs h ih (r := (nth X k).toNat) (by omega)
    rw [pAft, e]
    show t.toNat < m
    omega
theorem prEnd_pos {g : Gr} {s m : Nat} (h : prEnd g s = some m) : 0 < m := by
  by_cases h0 : 0 < m
  · exact h0
  · have : m = 0 := by omega
    subst this
    have h' : prGo g s 700 0 = some 0 := h
    rw [show 700 = 699 + 1 from rfl, prGo, if_pos (by show 0 < [[(s : Int), 0]].length; simp)] at h'
    split at h'
    · cases h'
    · exfalso
      have : ∀ f i, prGo g s f i = some 0 → i = 0 := by
        intro f
        induction f with
        | zero => intro i hh; simp [prGo] at hh
        | succ f ih =>
          intro i hh
          rw [prGo] at hh
          split at hh
          · split at hh
            · cases hh
            · have := ih (i + 1) hh
              omega
          · exact Option.some.inj hh
      have := this _ _ h'
      omega

set_option maxHeartbeats 800000 in
set_option maxRecDepth 100000 in
theorem l9After_any {pd sd : Option Addr} {pn pm sm : Nat} {bb : Bool} {vX : Value} {g : Gr} {n s m a0 : Nat} {X : List Int} {w0 w : World} [Ext w0 w] (hg : g.Ok n) (hs : s < g.M.length) (hend : prEnd g s = some m)
    (hMs : IsFlats w0 (.slice sd (prSt g s m).length sm) 3 (prSt g s m)) (hX : IsInts w0 vX X) (hreq : reqsIn g X) (ha : a0 < m) :
    Calls Try.prog 56 #[.agg #[.slice pd pn pm, .slice sd (prSt g s m).length sm, .bool bb], .int .i64 a0, vX] w fun e w' => e = .returned (.int .i64 (pAft g s a0 X X.length)) ∧ Ext w w' := by
  obtain ⟨aX, cX, rfl, lX⟩ := hX.form
  have hin := hid (fun k (hk : k ≤ X.length) => pAft_in hg hs hend ha hreq hk)
  have hl := hid (prSt_length g s m)
  replace hg := hid hg
  replace hend := hid hend
  replace hreq := hid hreq
  go_enter Try.func56, Try.ntmps56
  go_upto_region 1 with fail
  have eW : Ext w (w.alloc (.cells #[.slice pd pn pm, .slice sd (prSt g s m).length sm, .bool bb] 76)) := inferInstance
  have x1 : (w.alloc (.cells #[.slice pd pn pm, .slice sd (prSt g s m).length sm, .bool bb] 76)).cell? ⟨w.heap.size, 1, none⟩ = some (.slice sd (prSt g s m).length sm) := by go_simp
  generalize w.alloc (.cells #[.slice pd pn pm, .slice sd (prSt g s m).length sm, .bool bb] 76) = W at *
  go_wp2
  go_loopw [1, 7] (fun p i wr => ∃ k : Nat, k ≤ X.length ∧ i = .int .i64 k ∧ p = .int .i64 (pAft g s a0 X k) ∧ Ext W wr) (fun _ i _ => X.length - (intOf i).toNat)
  case atStart => exact ⟨0, by omega, rfl, rfl, Ext.refl _⟩
  case round =>
    obtain ⟨k, hk, rfl, rfl, hex⟩ := hrel
    have er : Ext w wr := Ext.trans eW hex
    have er0 : Ext w0 wr := Ext.trans ‹Ext w0 w› er
    have y1 := hex.cell x1
    by_cases hlt : k < X.length
    · obtain ⟨b3, o3, rfl, hc3⟩ := hX.at (w' := wr) hlt
      have hr := hreq.out k hlt
      have hat := hin.out k hk
      have hnx := hid (show pAft g s a0 X (k + 1) = (nth (stepAt g s (pAft g s a0 X k) (nth X k).toNat) 0).toNat from rfl)
      obtain ⟨r, hr'⟩ := Int.eq_ofNat_of_zero_le hr.1
      have hrS : r < g.S.length := by omega
      rw [hr', Int.toNat_natCast] at hnx
      rw [hr'] at hc3
      replace hr' := hid hr'
      clear hr
      obtain ⟨t, c, y, hst, ht0, _⟩ := stepAt_in hg.out hs hend.out hat hrS
      generalize hp : pAft g s a0 X k = p at *
      replace hp := hid hp
      obtain ⟨b4, o4, d4, m4, rfl, hc4, hr4⟩ := hMs.at (w' := wr) (k := p) (by rw [hl.out]; exact hat)
      have hrow := hid (prSt_at (g := g) (s := s) hat)
      have hrl : ((prSt g s m).getD p []).length = g.S.length := by rw [hrow.out, rowSt_length]
      rw [hrl] at hc4 hr4
      obtain ⟨b5, o5, rfl, hc5⟩ := hr4.at (w' := wr) (j := r) (by rw [hrl]; exact hrS)
      have hc5' : wr.cell? ⟨b5, o5 + r * 3, none⟩ = some (.int .i64 t) := by
        have := hc5 0 (by omega)
        rw [Nat.add_zero] at this
        rw [this, hrow.out]
        unfold cell
        rw [row_rowSt hrS]
        have e : stpRow g (prLst g s p) p r = [t, c, y] := hst
        rw [e]
        rfl
      clear hc5
      rw [hst] at hnx
      have hnx2 := hid (show ((pAft g s a0 X (k + 1) : Nat) : Int) = t by
        rw [hnx.out]
        show ((t.toNat : Nat) : Int) = t
        omega)
      have hpl : p < (prSt g s m).length := by rw [hl.out]; exact hat
      replace hst := hid hst
      go_wp2_with (go_quiet (fail))
      go_roundw
      case rel => exact ⟨k + 1, by omega, by go_num, by rw [hnx2.out], Ext.trans hex inferInstance⟩
      case measure => simp [intOf]; omega
    · have hkl : k = X.length := by omega
      subst hkl
      go_wp2
      go_ret
      exact ⟨rfl, er⟩

theorem fieldTo (a b c d : Int) : ∀ w, (Instr.field 120 (.agg #[.int .i64 a, .int .i64 b, .int .i64 c, .int .i64 d]) 1).run Try.prog w = .ok (.int .i64 b) w := fun w => by kernel_rfl
/-- the program's pairs read in w: the box, the pairs, the edges -/
structure IsPx (w : World) (bx : Nat) (g : Gr) (s m kn : Nat) : Prop where
  list : ∃ pd pm, w.cell? ⟨bx, 0, none⟩ = some (.slice pd (prLst g s m).length pm) ∧ IsFlat w (.slice pd (prLst g s m).length pm) 2 (prLst g s m)
  edges : ∃ ed em, w.cell? ⟨bx, 1, none⟩ = some (.slice ed (prEd g s m).length em) ∧ IsFlat w (.slice ed (prEd g s m).length em) 4 (prEd g s m)
  kinds : w.cell? ⟨bx, 2, none⟩ = some (.int .i64 kn)
theorem IsPx.ext {w w' : World} {bx : Nat} {g : Gr} {s m kn : Nat} (h : IsPx w bx g s m kn) [e : Ext w w'] : IsPx w' bx g s m kn where
  list := by obtain ⟨pd, pm, h1, h2⟩ := h.list; exact ⟨pd, pm, e.cell h1, h2.ext⟩
  edges := by obtain ⟨pd, pm, h1, h2⟩ := h.edges; exact ⟨pd, pm, e.cell h1, h2.ext⟩
  kinds := e.cell h.kinds
theorem prEd_read {g : Gr} {n s m : Nat} (hg : g.Ok n) (hs : s < g.M.length) (h : prEnd g s = some m) : (prEd g s m).length ≤ 1000000 ∧ (∀ x ∈ prEd g s m, x.length = 4) ∧ ∀ x ∈ prEd g s m, ∀ y ∈ x, I64 y := by
  have hn := probB_len hg.prob
  have h6 := (prEnd_some hg hs h).2.1
  have hall : ∀ i, i ≤ m → ∀ x ∈ prEd g s i, x.length = 4 ∧ ∀ y ∈ x, I64 y := by
    intro i
    induction i with
    | zero => intro _ x hx; simp [prEd] at hx
    | succ i ih =>
      intro hi x hx
      rw [prEd] at hx
      rcases List.mem_append.1 hx with hx | hx
      · exact ih (by omega) x hx
      · obtain ⟨r, hr, rfl⟩ := List.mem_map.1 hx
        have hr' := List.mem_range.1 hr
        refine ⟨rfl, fun y hy => ?_⟩
        obtain ⟨t, c, z, e, h1, h2, h3, h4, h5, h7⟩ := stepAt_in hg hs h (i := i) (by omega) hr'
        have e' : stpRow g (prLst g s i) i r = [t, c, z] := e
        rw [e'] at hy
        simp only [List.mem_cons, List.not_mem_nil, or_false] at hy
        unfold I64
        rcases hy with rfl | rfl | rfl | rfl <;> omega
  refine ⟨?_, fun x hx => (hall m (Nat.le_refl _) x hx).1, fun x hx => (hall m (Nat.le_refl _) x hx).2⟩
  rw [prEd_length]
  have h2 : m * g.S.length ≤ 600 * 4 := Nat.mul_le_mul h6 (by omega)
  omega
theorem isPx_of_own {w : World} {B bx kn : Nat} {pd ed : Option Addr} {pm em : Nat} {g : Gr} {n s m : Nat} (hg : g.Ok n) (hs : s < g.M.length) (h : prEnd g s = some m) (own : Own w B (pxRows bx kn pd ed pm em (prLst g s m) (prEd g s m))) : IsPx w bx g s m kn := by
  have h6 := prEnd_some hg hs h
  have hn := probB_len hg.prob
  have hpf := prOk_flat h6.2.2
  have he := prEd_read hg hs h
  refine ⟨⟨pd, pm, own.cellIn (.head _) (j := 0) (by omega), own.tail.readsFlat (by omega) hpf.1 (hpf.2 hg.n1.2 (by omega))⟩, ⟨ed, em, own.cellIn (.head _) (j := 1) (by omega), own.tail.tail.readsFlat he.1 he.2.1 he.2.2⟩, own.cellIn (.head _) (j := 2) (by omega)⟩

set_option maxHeartbeats 800000 in
set_option maxRecDepth 100000 in
theorem edge_any {bx : Nat} {g : Gr} {n s m i r : Nat} {w0 w : World} [Ext w0 w] (hg : g.Ok n) (hs : s < g.M.length) (hend : prEnd g s = some m) (hpx : IsPx w0 bx g s m g.S.length) (hi : i < m) (hr : r < g.S.length) :
    Calls Try.prog 93 #[.pointer (some ⟨bx, 0, none⟩), .int .i64 i, .int .i64 r] w fun e w' => e = .returned (.agg #[.int .i64 i, .int .i64 (nth (stepAt g s i r) 0), .int .i64 (nth (stepAt g s i r) 1), .int .i64 (nth (stepAt g s i r) 2)]) ∧ Ext w w' := by
  obtain ⟨ed, em, hb1, hE⟩ := hpx.edges
  have hb2 := hpx.kinds
  have hrow := hid (row_prEd (g := g) (s := s) hi hr)
  have hel := hid (prEd_length g s m)
  have h6 := hid (prEnd_some hg hs hend)
  have hn := hid (probB_len hg.prob)
  obtain ⟨t, c, y, hst, ht0, _⟩ := stepAt_in hg hs hend hi hr
  have hlt : i * g.S.length + r < (prEd g s m).length := by
    rw [hel.out]
    have h1 : (i + 1) * g.S.length ≤ m * g.S.length := Nat.mul_le_mul_right _ (by omega)
    rw [Nat.add_mul, Nat.one_mul] at h1
    omega
  have hbig : i * g.S.length + r ≤ 100000 := by
    have h1 : i * g.S.length ≤ 600 * 4 := Nat.mul_le_mul (by have := h6.out; omega) (by have := hn.out; omega)
    have := hn.out
    omega
  have eW : Ext w (w.alloc (.cells #[.int .i64 0, .int .i64 0, .int .i64 0, .int .i64 0] 120)) := inferInstance
  obtain ⟨W, hW⟩ : ∃ W, W = w.alloc (.cells #[.int .i64 0, .int .i64 0, .int .i64 0, .int .i64 0] 120) := ⟨_, rfl⟩
  rw [← hW] at eW
  have c0 : W.cell? ⟨w.heap.size, 0, none⟩ = some (.int .i64 0) := by rw [hW]; go_simp
  have c1 : W.cell? ⟨w.heap.size, 1, none⟩ = some (.int .i64 0) := by rw [hW]; go_simp
  have c2 : W.cell? ⟨w.heap.size, 2, none⟩ = some (.int .i64 0) := by rw [hW]; go_simp
  have c3 : W.cell? ⟨w.heap.size, 3, none⟩ = some (.int .i64 0) := by rw [hW]; go_simp
  have f0 : W.frozen? ⟨w.heap.size, 0, none⟩ = false := by rw [hW]; go_simp
  have f1 : W.frozen? ⟨w.heap.size, 1, none⟩ = false := by rw [hW]; go_simp
  have f2 : W.frozen? ⟨w.heap.size, 2, none⟩ = false := by rw [hW]; go_simp
  have f3 : W.frozen? ⟨w.heap.size, 3, none⟩ = false := by rw [hW]; go_simp
  have eW0 : Ext w0 W := Ext.trans ‹Ext w0 w› eW
  have y1 := ‹Ext w0 w›.cell hb1
  have y2 := ‹Ext w0 w›.cell hb2
  obtain ⟨be, oe, rfl, hce⟩ := hE.at (w' := w) hlt
  have g0 : w.cell? ⟨be, oe + (i * g.S.length + r) * 4, none⟩ = some (.int .i64 i) := by
    have := hce 0 (by omega)
    rw [Nat.add_zero] at this
    rw [this]; unfold cell; rw [hrow.out]; rfl
  have g1 : w.cell? ⟨be, oe + (i * g.S.length + r) * 4 + 1, none⟩ = some (.int .i64 (nth (stepAt g s i r) 0)) := by
    rw [hce 1 (by omega)]; unfold cell; rw [hrow.out]; rfl
  have g2 : w.cell? ⟨be, oe + (i * g.S.length + r) * 4 + 2, none⟩ = some (.int .i64 (nth (stepAt g s i r) 1)) := by
    rw [hce 2 (by omega)]; unfold cell; rw [hrow.out]; rfl
  have g3 : w.cell? ⟨be, oe + (i * g.S.length + r) * 4 + 3, none⟩ = some (.int .i64 (nth (stepAt g s i r) 2)) := by
    rw [hce 3 (by omega)]; unfold cell; rw [hrow.out]; rfl
  clear hce
  obtain ⟨q, hq⟩ : ∃ q, q = i * g.S.length + r := ⟨_, rfl⟩
  have hqI : (i : Int) * (g.S.length : Int) + (r : Int) = (q : Int) := by rw [hq]; simp
  have hmul : (i : Int) * (g.S.length : Int) = ((i * g.S.length : Nat) : Int) := by simp
  rw [← hq] at g0 g1 g2 g3 hlt hbig
  have hmb : i * g.S.length ≤ 100000 := by omega
  replace hq := hid hq
  replace hqI := hid hqI
  replace hmul := hid hmul
  replace hst := hid hst
  replace hg := hid hg
  replace hend := hid hend
  generalize nth (stepAt g s i r) 0 = v0 at *
  generalize nth (stepAt g s i r) 1 = v1 at *
  generalize nth (stepAt g s i r) 2 = v2 at *
  generalize hpl : (prEd g s m).length = pl at *
  replace hpl := hid hpl
  go_enter Try.func93, Try.ntmps93
  go_upto_region 1 with fail
  rw [← hW]
  clear hW
  have ed : Ext w (W).drew := Ext.trans eW inferInstance
  refine wp_region_held_drew (S := fun w' => Ext w w' ∧ w'.cell? ⟨bx, 1, none⟩ = some (.slice (some ⟨be, oe, none⟩) pl em) ∧ w'.cell? ⟨bx, 2, none⟩ = some (.int .i64 g.S.length) ∧ w'.cell? ⟨be, oe + q * 4, none⟩ = some (.int .i64 i) ∧ w'.cell? ⟨be, oe + q * 4 + 1, none⟩ = some (.int .i64 v0) ∧ w'.cell? ⟨be, oe + q * 4 + 2, none⟩ = some (.int .i64 v1) ∧ w'.cell? ⟨be, oe + q * 4 + 3, none⟩ = some (.int .i64 v2)) (by kernel_rfl) ⟨ed, ed.cell y1, ed.cell y2, ed.cell g0, ed.cell g1, ed.cell g2, ed.cell g3⟩ (fun hHeld0 => ?_)
  have hqb : ¬ (pl : Int) ≤ (q : Int) := by omega
  refine wpAnyH_take (i := 0) (v := .pointer (some ⟨bx, 0, none⟩)) rfl (by kernel_rfl) (by kernel_rfl) (by kernel_rfl) (fun _ _ _ h => h) (Or.inl ⟨by rfl, by intro wx hx; go_simp⟩) (by assumption) ?_
  try simp only [List.getElem_toArray, List.getElem_cons_zero, Act.put, List.setIfInBounds_toArray, List.set_cons_zero, List.set_cons_succ]
  refine wpAnyH_take (i := 1) (v := .pointer (some ⟨bx, 0, none⟩)) rfl (by kernel_rfl) (by kernel_rfl) (by kernel_rfl) (fun _ _ _ h => h) (Or.inl ⟨by rfl, by intro wx hx; go_simp⟩) (by assumption) ?_
  try simp only [List.getElem_toArray, List.getElem_cons_succ, List.getElem_cons_zero, Act.put, List.setIfInBounds_toArray, List.set_cons_zero, List.set_cons_succ]
  refine wpAnyH_take (i := 2) (v := .pointer (some ⟨bx, 1, none⟩)) rfl (by kernel_rfl) (by kernel_rfl) (by kernel_rfl) (fun _ _ _ h => h) (Or.inl ⟨by rfl, by intro wx hx; go_simp⟩) (by assumption) ?_
  try simp only [List.getElem_toArray, List.getElem_cons_succ, List.getElem_cons_zero, Act.put, List.setIfInBounds_toArray, List.set_cons_zero, List.set_cons_succ]
  refine wpAnyH_take (i := 3) (v := .slice (some ⟨be, oe, none⟩) pl em) rfl (by kernel_rfl) (by kernel_rfl) (by kernel_rfl) (fun _ _ _ h => h) (Or.inl ⟨by rfl, by intro wx hx; obtain ⟨_, _, _, _, _, _, _⟩ := hx; go_simp⟩) (by assumption) ?_
  try simp only [List.getElem_toArray, List.getElem_cons_succ, List.getElem_cons_zero, Act.put, List.setIfInBounds_toArray, List.set_cons_zero, List.set_cons_succ]
  refine wpAnyH_take (i := 4) (v := .int .i64 i) rfl (by kernel_rfl) (by kernel_rfl) (by kernel_rfl) (fun _ _ _ h => h) (Or.inl ⟨by rfl, by intro wx hx; go_simp⟩) (by assumption) ?_
  try simp only [List.getElem_toArray, List.getElem_cons_succ, List.getElem_cons_zero, Act.put, List.setIfInBounds_toArray, List.set_cons_zero, List.set_cons_succ]
  refine wpAnyH_take (i := 5) (v := .pointer (some ⟨bx, 0, none⟩)) rfl (by kernel_rfl) (by kernel_rfl) (by kernel_rfl) (fun _ _ _ h => h) (Or.inl ⟨by rfl, by intro wx hx; go_simp⟩) (by assumption) ?_
  try simp only [List.getElem_toArray, List.getElem_cons_succ, List.getElem_cons_zero, Act.put, List.setIfInBounds_toArray, List.set_cons_zero, List.set_cons_succ]
  refine wpAnyH_take (i := 6) (v := .pointer (some ⟨bx, 0, none⟩)) rfl (by kernel_rfl) (by kernel_rfl) (by kernel_rfl) (fun _ _ _ h => h) (Or.inl ⟨by rfl, by intro wx hx; go_simp⟩) (by assumption) ?_
  try simp only [List.getElem_toArray, List.getElem_cons_succ, List.getElem_cons_zero, Act.put, List.setIfInBounds_toArray, List.set_cons_zero, List.set_cons_succ]
  refine wpAnyH_take (i := 7) (v := .pointer (some ⟨bx, 2, none⟩)) rfl (by kernel_rfl) (by kernel_rfl) (by kernel_rfl) (fun _ _ _ h => h) (Or.inl ⟨by rfl, by intro wx hx; go_simp⟩) (by assumption) ?_
  try simp only [List.getElem_toArray, List.getElem_cons_succ, List.getElem_cons_zero, Act.put, List.setIfInBounds_toArray, List.set_cons_zero, List.set_cons_succ]
  refine wpAnyH_take (i := 8) (v := .int .i64 g.S.length) rfl (by kernel_rfl) (by kernel_rfl) (by kernel_rfl) (fun _ _ _ h => h) (Or.inl ⟨by rfl, by intro wx hx; obtain ⟨_, _, _, _, _, _, _⟩ := hx; go_simp⟩) (by assumption) ?_
  try simp only [List.getElem_toArray, List.getElem_cons_succ, List.getElem_cons_zero, Act.put, List.setIfInBounds_toArray, List.set_cons_zero, List.set_cons_succ]
  refine wpAnyH_take (i := 9) (v := .int .i64 ((i : Int) * (g.S.length : Int))) rfl (by kernel_rfl) (by kernel_rfl) (by kernel_rfl) (fun _ _ _ h => h) (Or.inl ⟨by rfl, by intro wx hx; go_simp; exact IntWalk.i64_in _ (by rw [hmul.out]; omega)⟩) (by assumption) ?_
  try simp only [List.getElem_toArray, List.getElem_cons_succ, List.getElem_cons_zero, Act.put, List.setIfInBounds_toArray, List.set_cons_zero, List.set_cons_succ]
  refine wpAnyH_take (i := 10) (v := .int .i64 r) rfl (by kernel_rfl) (by kernel_rfl) (by kernel_rfl) (fun _ _ _ h => h) (Or.inl ⟨by rfl, by intro wx hx; go_simp⟩) (by assumption) ?_
  try simp only [List.getElem_toArray, List.getElem_cons_succ, List.getElem_cons_zero, Act.put, List.setIfInBounds_toArray, List.set_cons_zero, List.set_cons_succ]
  refine wpAnyH_take (i := 11) (v := .int .i64 q) rfl (by kernel_rfl) (by kernel_rfl) (by kernel_rfl) (fun _ _ _ h => h) (Or.inl ⟨by rfl, by intro wx hx; go_simp; rw [hqI.out]; exact IntWalk.i64_in _ (by omega)⟩) (by assumption) ?_
  try simp only [List.getElem_toArray, List.getElem_cons_succ, List.getElem_cons_zero, Act.put, List.setIfInBounds_toArray, List.set_cons_zero, List.set_cons_succ]
  refine wpAnyH_take (i := 12) (v := .pointer (some ⟨be, oe + q * 4, none⟩)) rfl (by kernel_rfl) (by kernel_rfl) (by kernel_rfl) (fun _ _ _ h => h) (Or.inl ⟨by rfl, by intro wx hx; go_simp⟩) (by assumption) ?_
  try simp only [List.getElem_toArray, List.getElem_cons_succ, List.getElem_cons_zero, Act.put, List.setIfInBounds_toArray, List.set_cons_zero, List.set_cons_succ]
  refine wpAnyH_take (i := 13) (v := .agg #[.int .i64 i, .int .i64 v0, .int .i64 v1, .int .i64 v2]) rfl (by kernel_rfl) (by kernel_rfl) (by kernel_rfl) (fun _ _ _ h => h) (Or.inl ⟨by rfl, by intro wx hx; obtain ⟨_, _, _, _, _, _, _⟩ := hx; go_simp⟩) (by assumption) ?_
  try simp only [List.getElem_toArray, List.getElem_cons_succ, List.getElem_cons_zero, Act.put, List.setIfInBounds_toArray, List.set_cons_zero, List.set_cons_succ]
  have eWd : Ext W W.drew := inferInstance
  have d0 := eWd.cell c0
  have d1 := eWd.cell c1
  have d2 := eWd.cell c2
  have d3 := eWd.cell c3
  have h0 := eWd.frozen c0 f0
  have h1 := eWd.frozen c1 f1
  have h2 := eWd.frozen c2 f2
  have h3 := eWd.frozen c3 f3
  clear c0 c1 c2 c3 f0 f1 f2 f3 eWd
  generalize W.drew = wy at *
  have ef : Ext w ((((wy.setCell ⟨w.heap.size, 0, none⟩ (.int .i64 i)).setCell ⟨w.heap.size, 1, none⟩ (.int .i64 v0)).setCell ⟨w.heap.size, 2, none⟩ (.int .i64 v1)).setCell ⟨w.heap.size, 3, none⟩ (.int .i64 v2)) :=
    @Ext.set _ _ (@Ext.set _ _ (@Ext.set _ _ (@Ext.set _ _ ed ⟨w.heap.size, 0, none⟩ (Nat.le_refl _) _) ⟨w.heap.size, 1, none⟩ (Nat.le_refl _) _) ⟨w.heap.size, 2, none⟩ (Nat.le_refl _) _) ⟨w.heap.size, 3, none⟩ (Nat.le_refl _) _
  refine wpAnyH_ready (rs := [14]) (by kernel_rfl) (by simp) ?_
  refine AllReadyH.cons rfl (fun K hK => ?_) AllReadyH.nil
  go_simp
  refine hK.out _ _ ⟨ef, ef.cell y1, ef.cell y2, ef.cell g0, ef.cell g1, ef.cell g2, ef.cell g3⟩ (fun _ => ?_)
  clear hK K
  try simp only [List.getElem_toArray, List.getElem_cons_succ, List.getElem_cons_zero, Act.put, List.setIfInBounds_toArray, List.set_cons_zero, List.set_cons_succ]
  refine wpAnyH_done (by kernel_rfl) ?_ _
  go_wp2_with fail
  refine bodyPost_ret (v := .agg #[.int .i64 i, .int .i64 v0, .int .i64 v1, .int .i64 v2]) (by simp [results, Try.results93, go_sem, d0, d1, d2, d3]) rfl ?_
  exact ⟨rfl, ef⟩

set_option maxHeartbeats 800000 in
set_option maxRecDepth 100000 in
theorem after_any {bx : Nat} {vX : Value} {g : Gr} {n s m a0 : Nat} {X : List Int} {w0 w : World} [Ext w0 w] (hg : g.Ok n) (hs : s < g.M.length) (hend : prEnd g s = some m)
    (hpx : IsPx w0 bx g s m g.S.length) (hX : IsInts w0 vX X) (hreq : reqsIn g X) (ha : a0 < m) :
    Calls Try.prog 59 #[.pointer (some ⟨bx, 0, none⟩), .int .i64 a0, vX] w fun e w' => e = .returned (.int .i64 (pAft g s a0 X X.length)) ∧ Ext w w' := by
  obtain ⟨aX, cX, rfl, lX⟩ := hX.form
  have hin := hid (fun k (hk : k ≤ X.length) => pAft_in hg hs hend ha hreq hk)
  replace hg := hid hg
  replace hend := hid hend
  replace hreq := hid hreq
  go_enter Try.func59, Try.ntmps59
  go_wp2
  go_loopw [1, 11] (fun p i wr => ∃ k : Nat, k ≤ X.length ∧ i = .int .i64 k ∧ p = .int .i64 (pAft g s a0 X k) ∧ Ext w wr) (fun _ i _ => X.length - (intOf i).toNat)
  case atStart => exact ⟨0, by omega, rfl, rfl, Ext.refl _⟩
  case round =>
    obtain ⟨k, hk, rfl, rfl, hex⟩ := hrel
    have er0 : Ext w0 wr := Ext.trans ‹Ext w0 w› hex
    by_cases hlt : k < X.length
    · obtain ⟨b3, o3, rfl, hc3⟩ := hX.at (w' := wr) hlt
      have hr := hreq.out k hlt
      have hat := hin.out k hk
      have hnx := hid (show pAft g s a0 X (k + 1) = (nth (stepAt g s (pAft g s a0 X k) (nth X k).toNat) 0).toNat from rfl)
      obtain ⟨r, hr'⟩ := Int.eq_ofNat_of_zero_le hr.1
      have hrS : r < g.S.length := by omega
      rw [hr', Int.toNat_natCast] at hnx
      rw [hr'] at hc3
      replace hr' := hid hr'
      clear hr
      obtain ⟨t, c, y, hst, ht0, _⟩ := stepAt_in hg.out hs hend.out hat hrS
      generalize hp : pAft g s a0 X k = p at *
      replace hp := hid hp
      have hnx2 := hid (show ((pAft g s a0 X (k + 1) : Nat) : Int) = nth (stepAt g s p r) 0 by
        rw [hnx.out, hst]
        show ((t.toNat : Nat) : Int) = t
        omega)
      replace hst := hid hst
      have hfld := fieldTo p (nth (stepAt g s p r) 0) (nth (stepAt g s p r) 1) (nth (stepAt g s p r) 2)
      go_wp2_with fail
      refine (edge_any (w0 := w0) hg.out hs hend.out hpx hat hrS).mono ?_
      rintro e w1 ⟨rfl, hb⟩
      go_wp2_with fail
      go_roundw
      case rel => exact ⟨k + 1, by omega, by go_num, by rw [hnx2.out], Ext.trans hex hb⟩
      case measure => simp [intOf]; omega
    · have hkl : k = X.length := by omega
      subst hkl
      go_wp2
      go_ret
      exact ⟨rfl, hex⟩

/-- PairAfter: whether there is one, and the pair -/
def paB (M S N : List (List Int)) (s : Int) (X : List Int) : Bool := prB M S N s && seqB S.length X
def paR (M S N : List (List Int)) (s : Int) (X : List Int) : Int := if paB M S N s X = true then (pAft (grOf M S N s.toNat (offN M S s)) s.toNat 0 X X.length : Nat) else 0
theorem prB_takes {M S N : List (List Int)} {s : Int} {X : List Int} (h : algOk M S N s [] = true) : algOk M S N s X = seqB S.length X := by
  simp only [algOk, startB, Bool.and_eq_true] at h ⊢
  rw [h.1.1.1, h.1.1.2, h.2]
  simp
theorem takes_start {M S N : List (List Int)} {s : Int} {X : List Int} (h : algOk M S N s X = true) : algOk M S N s [] = true := by
  simp only [algOk, startB, Bool.and_eq_true] at h ⊢
  exact ⟨⟨h.1.1, by simp [seqB, belowB]⟩, h.2⟩
theorem prB_no {M S N : List (List Int)} {s : Int} {X : List Int} (h : algOk M S N s X = false) : paB M S N s X = false := by
  cases hb : paB M S N s X with
  | false => rfl
  | true =>
    simp only [paB, Bool.and_eq_true] at hb
    have h0 : algOk M S N s [] = true := by
      have := hb.1
      simp only [prB, Bool.and_eq_true] at this
      exact this.1
    rw [prB_takes h0, hb.2] at h
    cases h
theorem paB_pr {M S N : List (List Int)} {s : Int} {X : List Int} (h : prB M S N s = false) : paB M S N s X = false := by simp [paB, h]
theorem paB_seq {M S N : List (List Int)} {s : Int} {X : List Int} (h : seqB S.length X = false) : paB M S N s X = false := by simp [paB, h]
theorem paR_no {M S N : List (List Int)} {s : Int} {X : List Int} (h : paB M S N s X = false) : paR M S N s X = 0 := by simp [paR, h]
theorem paR_yes {M S N : List (List Int)} {s : Int} {X : List Int} {n : Nat} (h : paB M S N s X = true) (hn : offEnd M S s.toNat = some n) : paR M S N s X = (pAft (grOf M S N s.toNat n) s.toNat 0 X X.length : Nat) := by rw [paR, if_pos h, offN_some hn]
theorem seq_reqs {S : List (List Int)} {X : List Int} {g : Gr} (hg : g.S = S) (h : seqB S.length X = true) : reqsIn g X := by
  simp only [seqB, Bool.and_eq_true] at h
  intro k hk
  rw [hg]
  exact belowB_at h.2 hk

set_option maxHeartbeats 1600000 in
set_option maxRecDepth 100000 in
theorem specPA_any {v vN vX : Value} {M S N : List (List Int)} {X : List Int} {s : Int} {w0 w : World} [Ext w0 w] (hp : IsProb w0 v M S) (hN : IsRows w0 vN N) (_hs : I64 s) (hX : IsInts w0 vX X) :
    Calls Try.prog 26 #[v, vN, .int .i64 s, vX] w fun e w' => e = .returned (.tuple #[.int .i64 (paR M S N s X), .bool (paB M S N s X)]) ∧ Ext w w' := by
  have hp' := hp
  obtain ⟨v1, v2, rfl, hM, hS⟩ := hp
  obtain ⟨a1, c1, rfl, l1⟩ := hM.form
  obtain ⟨a2, c2, rfl, l2⟩ := hS.form
  have hN' := hN
  obtain ⟨aN, cN, rfl, lN⟩ := hN.form
  have hX' := hX
  obtain ⟨aX, cX, rfl, lX⟩ := hX.form
  cases hA : algOk M S N s X with
  | false =>
    have hr := hid (prB_no hA)
    have hz := hid (paR_no hr.out)
    replace hA := hid hA
    go_enter Try.func26, Try.ntmps26
    go_wp2_with fail
    refine (l9Takes_any (w0 := w0) hp' hN' hX').mono ?_; rw [hA.out]; rintro e w1 ⟨rfl, hb1⟩
    go_wp2_with fail
    go_ret2
    rw [hz.out, hr.out]
    exact ⟨rfl, Ext.trans inferInstance hb1⟩
  | true =>
    have hA' := hid hA
    have hA0 := hid (takes_start hA)
    have hseq := hid (show seqB S.length X = true by rw [← prB_takes hA0.out]; exact hA'.out)
    replace hA := hid hA
    go_enter Try.func26, Try.ntmps26
    go_wp2_with fail
    refine (l9Takes_any (w0 := w0) hp' hN' hX').mono ?_; rw [hA.out]; rintro e w1 ⟨rfl, hb1⟩
    have x0 : w1.cell? ⟨w.heap.size, 0, none⟩ = some (.slice a1 M.length c1) := hb1.cell (by go_simp)
    have x1 : w1.cell? ⟨w.heap.size, 1, none⟩ = some (.slice a2 S.length c2) := hb1.cell (by go_simp)
    have e1 : Ext w w1 := Ext.trans inferInstance hb1
    have e01 : Ext w0 w1 := Ext.trans ‹Ext w0 w› e1
    clear hb1
    go_wp2_with fail
    refine (l9Get_any (w0 := w0) hp' hN').mono ?_
    rintro e w2 ⟨hpost, hb2⟩
    have e2 : Ext w w2 := Ext.trans e1 hb2
    rcases hpost with ⟨hno, d1, n1, m1, d2, n2, m2, bb, rfl⟩ | ⟨n, m, hal, hoff, hend, pd, pm, sd, sm, rfl, hL, hMs⟩
    · have hr := hid (paB_pr (X := X) hno)
      have hz := hid (paR_no hr.out)
      go_wp2_with fail
      go_ret2
      rw [hz.out, hr.out]
      exact ⟨rfl, Ext.trans e2 inferInstance⟩
    · have hok := hid (show paB M S N s X = true by rw [paB, prB_some hal hoff hend, hseq.out]; rfl)
      have hv := hid (paR_yes hok.out hoff)
      have hgk := hid (gr_ok (algOk_parts hal).1 (algOk_parts hal).2 hoff)
      have hgd : grOf M S N s.toNat n = ⟨M, S, N, offStp M S s.toNat n, offGrw M S s.toNat n⟩ := rfl
      rw [← hgd] at hgk
      clear hgd
      have hsI := startB_state (algOk_parts hal).1
      have hsM : s.toNat < (grOf M S N s.toNat n).M.length := by show s.toNat < M.length; omega
      have hrq := hid (seq_reqs (g := grOf M S N s.toNat n) rfl hseq.out)
      have hpos := prEnd_pos hend
      have heb : Ext w2 (w2.alloc (.cells #[.slice pd (prLst (grOf M S N s.toNat n) s.toNat m).length pm, .slice sd (prSt (grOf M S N s.toNat n) s.toNat m).length sm, .bool false] 76)) := inferInstance
      have e02 : Ext w0 w2 := Ext.trans e01 hb2
      replace hoff := hid hoff
      replace hend := hid hend
      replace hal := hid hal
      generalize grOf M S N s.toNat n = g at *
      go_wp2_with fail
      refine (l9After_any (w0 := w2) hgk.out hsM hend.out hMs (hX'.ext (w' := w2)) hrq.out hpos).mono ?_
      rw [← hv.out]
      rintro e w3 ⟨rfl, hb3⟩
      go_wp2_with fail
      go_ret2
      rw [hok.out]
      exact ⟨rfl, Ext.trans e2 (Ext.trans heb hb3)⟩

set_option maxHeartbeats 1600000 in
set_option maxRecDepth 100000 in
theorem implPA_any {v vN vX : Value} {M S N : List (List Int)} {X : List Int} {s : Int} {w0 w : World} [Ext w0 w] (hp : IsProb w0 v M S) (hN : IsRows w0 vN N) (_hs : I64 s) (hX : IsInts w0 vX X) :
    Calls Try.prog 27 #[v, vN, .int .i64 s, vX] w fun e w' => e = .returned (.tuple #[.int .i64 (paR M S N s X), .bool (paB M S N s X)]) ∧ Ext w w' := by
  have hp' := hp
  obtain ⟨v1, v2, rfl, hM, hS⟩ := hp
  have hM' := hM
  have hS' := hS
  obtain ⟨a1, c1, rfl, l1⟩ := hM.form
  obtain ⟨a2, c2, rfl, l2⟩ := hS.form
  have hN' := hN
  obtain ⟨aN, cN, rfl, lN⟩ := hN.form
  have hX' := hX
  obtain ⟨aX, cX, rfl, lX⟩ := hX.form
  go_enter Try.func27, Try.ntmps27
  go_wp2_with fail
  refine (pairsOf_any (w0 := w0) hp' hN').mono ?_
  rintro e w1 ⟨hpost, hb1⟩
  have x0 : w1.cell? ⟨w.heap.size, 0, none⟩ = some (.slice a1 M.length c1) := hb1.cell (by go_simp)
  have x1 : w1.cell? ⟨w.heap.size, 1, none⟩ = some (.slice a2 S.length c2) := hb1.cell (by go_simp)
  have e1 : Ext w w1 := Ext.trans inferInstance hb1
  have e01 : Ext w0 w1 := Ext.trans ‹Ext w0 w› e1
  rcases hpost with ⟨hno, rfl⟩ | ⟨n, m, hal, hoff, hend, bx, pd, ed, pm, em, rfl, hown⟩
  · have hr := hid (paB_pr (X := X) hno)
    have hz := hid (paR_no hr.out)
    replace hno := hid hno
    go_wp2_with fail
    go_ret2
    rw [hz.out, hr.out]
    exact ⟨rfl, e1⟩
  · have hgk := hid (gr_ok (algOk_parts hal).1 (algOk_parts hal).2 hoff)
    have hgd : grOf M S N s.toNat n = ⟨M, S, N, offStp M S s.toNat n, offGrw M S s.toNat n⟩ := rfl
    rw [← hgd] at hgk
    clear hgd
    have hsI := startB_state (algOk_parts hal).1
    have hsM : s.toNat < (grOf M S N s.toNat n).M.length := by show s.toNat < M.length; omega
    have hpx : IsPx w1 bx (grOf M S N s.toNat n) s.toNat m (grOf M S N s.toNat n).S.length := isPx_of_own hgk.out hsM hend hown
    have hpos := prEnd_pos hend
    have hprb := hid (prB_some hal hoff hend)
    clear hown
    cases hseq : seqB S.length X with
    | false =>
      have hr := hid (paB_seq (M := M) (N := N) (s := s) hseq)
      have hz := hid (paR_no hr.out)
      replace hseq := hid hseq
      go_wp2_with fail
      refine (isSequence_any (w0 := w0) hM' hS' hX').mono ?_; rw [hseq.out]; rintro e w2 ⟨rfl, hb2⟩
      go_wp2_with fail
      go_ret2
      rw [hz.out, hr.out]
      exact ⟨rfl, Ext.trans e1 hb2⟩
    | true =>
      have hok := hid (show paB M S N s X = true by rw [paB, hprb.out, hseq]; rfl)
      have hv := hid (paR_yes hok.out hoff)
      have hrq := hid (seq_reqs (g := grOf M S N s.toNat n) rfl hseq)
      replace hseq := hid hseq
      replace hoff := hid hoff
      replace hend := hid hend
      replace hal := hid hal
      generalize grOf M S N s.toNat n = g at *
      go_wp2_with fail
      refine (isSequence_any (w0 := w0) hM' hS' hX').mono ?_; rw [hseq.out]; rintro e w2 ⟨rfl, hb2⟩
      have e02 : Ext w0 w2 := Ext.trans e01 hb2
      go_wp2_with fail
      refine (after_any (w0 := w1) hgk.out hsM hend.out hpx (hX'.ext (w' := w1)) hrq.out hpos).mono ?_
      rw [← hv.out]
      rintro e w3 ⟨rfl, hb3⟩
      go_wp2_with fail
      go_ret2
      rw [hok.out]
      exact ⟨rfl, Ext.trans e1 (Ext.trans hb2 hb3)⟩

end Go.Proofs.Ytobfehekjapnhaa
