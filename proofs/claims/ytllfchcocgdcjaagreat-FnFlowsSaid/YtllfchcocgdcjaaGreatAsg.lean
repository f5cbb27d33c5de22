/- The best matching of the rows of a table with its columns: assigned of the program. -/
import Derived.Test.YtllfchcocgdcjaaGreatArr
import Derived.Test.YtllfchcocgdcjaaGreatUse
import Derived.Deep.DeepCutAuto
namespace Go.Proofs.YtllfchcocgdcjaaGreat
open Go.RowKit

/-- what assigned hands over -/
def AsPost (c : Nat → Nat → Int) (n m : Nat) (w : World) (e : Ending) (w' : World) : Prop :=
  ∃ x f p q, e = .returned (.tuple #[x, .int .i64 (mcost c f n)]) ∧ IsInts w' x ((List.range n).map fun r => (f r : Int)) ∧ Mtc (fun _ _ => True) n m f ∧ Cert (fun _ _ => True) c n m f p q ∧ (∀ r, r < n → p r ≤ 1073741824) ∧ Ext w w'
/-- how many columns are not used -/
def cntU (us : Nat → Bool) : Nat → Nat
  | 0 => 0
  | k + 1 => cntU us k + if us k then 0 else 1
theorem cntU_upd {us : Nat → Bool} {a : Nat} : ∀ {k : Nat}, cntU (updB us a) k ≤ cntU us k ∧ (a < k → us a = false → cntU (updB us a) k < cntU us k)
  | 0 => ⟨Nat.le_refl _, fun h => by omega⟩
  | k + 1 => by
    obtain ⟨h1, h2⟩ := cntU_upd (us := us) (a := a) (k := k)
    have e : updB us a k = if k = a then true else us k := rfl
    simp only [cntU]
    rw [e]
    by_cases h : k = a
    · rw [if_pos h]
      refine ⟨by simp; omega, fun _ hu => ?_⟩
      rw [h, hu]
      simp
      rw [h] at h1
      omega
    · rw [if_neg h]
      refine ⟨by omega, fun h3 hu => ?_⟩
      have := h2 (by omega) hu
      omega
theorem repA_any {v : Value} {c : Int} {n : Nat} {w0 w : World} [Ext w0 w] (hx : IsInts w0 v [c]) (hn : n ≤ 1000) (h0 : 0 < n) :
    Calls Tryz.prog 28 #[v, .int .i64 n] w fun e w' => ∃ b m, e = .returned (.slice (some ⟨b, 0, none⟩) n m) ∧ (∀ B R, Own w B R → B ≤ w.heap.size → Own w' B (iA b n m (fun _ => c) :: R)) ∧ Ext w w' := by
  refine (sRepeatM_any (w0 := w0) (w := w) hx hn).mono ?_
  rintro e w' ⟨d, m, rfl, own, e1⟩
  obtain ⟨g, rfl⟩ := own.at (j := 0) h0
  refine ⟨g, m, rfl, fun B R h hB => ?_, e1⟩
  have := Own.join h own hB
  rw [List.map_replicate, rep_range] at this
  exact this
theorem litOne (w : World) {x : Int} (hx : I64 x) : IsInts (w.alloc (.cells #[.int .i64 x] 3)) (.slice (some ⟨w.heap.size, 0, none⟩) 1 1) [x] :=
  (Own.litInts (B := w.heap.size) (xs := [x]) (Nat.le_refl _) rfl rfl (by simp) rfl).reads (by unfold Short; simp) (by intro y hy; rw [List.mem_singleton.1 hy]; exact hx)
theorem prm3 {a b c : Row} {R : List Row} : (a :: b :: c :: R).Perm (a :: b :: c :: R) ∧ (a :: b :: c :: R).Perm (a :: c :: b :: R) ∧ (a :: b :: c :: R).Perm (b :: a :: c :: R) ∧ (a :: b :: c :: R).Perm (b :: c :: a :: R) ∧ (a :: b :: c :: R).Perm (c :: a :: b :: R) ∧ (a :: b :: c :: R).Perm (c :: b :: a :: R) :=
  ⟨.refl _, .cons _ (.swap _ _ _), .swap _ _ _, (List.Perm.swap _ _ _).trans (.cons _ (.swap _ _ _)), (List.Perm.cons _ (.swap _ _ _)).trans (.swap _ _ _), (List.Perm.swap _ _ _).trans ((List.Perm.cons _ (.swap _ _ _)).trans (.swap _ _ _))⟩
set_option maxHeartbeats 6400000 in
set_option maxRecDepth 100000 in
theorem assigned_any {a1 : Option Addr} {c1 : Nat} {C : List (List Int)} {n m : Nat} {w0 w : World} [Ext w0 w] (hC : IsRows w0 (.slice a1 n c1) C) (hCn : C.length = n) (hrl : ∀ r, r < n → (row C r).length = m) (hn1 : 1 ≤ n) (hnm : n ≤ m) (hm : m ≤ 900) (hcb : ∀ r l, r < n → l < m → 0 ≤ nth (row C r) l ∧ nth (row C r) l ≤ 1073741824) :
    Calls Tryz.prog 25 #[.slice a1 n c1] w (AsPost (fun r l => nth (row C r) l) n m w) := by
  obtain ⟨bm, om, d0, m0, hdm, hcm, him, hlm⟩ := hC.at (w' := w) (k := 0) (by omega)
  cases hdm
  rw [hrl 0 (by omega), Nat.add_zero] at hcm
  clear him hlm
  have hcell := hid (show ∀ (u : World), Ext w0 u → ∀ r l, r < n → l < m → ∃ b o mm, u.cell? ⟨bm, om + r, none⟩ = some (.slice (some ⟨b, o, none⟩) m mm) ∧ u.cell? ⟨b, o + l, none⟩ = some (.int .i64 (nth (row C r) l)) from fun u eu r l hr hl => by
    have := eu
    obtain ⟨bm', om', d4, m4, hdm, hcm, him, _⟩ := hC.at (w' := u) (k := r) (by omega)
    cases hdm
    rw [hrl r hr] at hcm him
    obtain ⟨b, o, hd, hc⟩ := him.at (w' := u) (k := l) (by rw [hrl r hr]; exact hl)
    cases hd
    exact ⟨b, o, m4, hcm, hc⟩)
  obtain ⟨c, hc⟩ : ∃ c : Nat → Nat → Int, c = fun r l => nth (row C r) l := ⟨_, rfl⟩
  have hcc : ∀ r l, nth (row C r) l = c r l := fun r l => by rw [hc]
  rw [← hc]
  simp only [hcc] at hcell hcb
  obtain ⟨cc, hce⟩ : ∃ cc : Nat → Nat → Int, cc = fun r j => c (r - 1) (j - 1) := ⟨_, rfl⟩
  have hcb2 := hid (show ∀ r j, 1 ≤ r → r ≤ n → 1 ≤ j → j ≤ m → 0 ≤ cc r j ∧ cc r j ≤ 1073741824 from fun r j h1 h2 h3 h4 => by rw [hce]; exact hcb (r - 1) (j - 1) (by omega) (by omega))
  have hcc1 := hid (show ∀ r j, cc (r + 1) (j + 1) = c r j from fun r j => by rw [hce]; rfl)
  replace hce := hid hce
  replace hcb := hid hcb
  clear hC hrl hcc hCn
  replace hc := hid hc
  go_enter Tryz.func25, Tryz.ntmps25
  have hn0 : ((n : Int) == 0) = false := by simp; omega
  go_upto_region 3 with fail
  go_upto_region 4 with (go_quiet (fail))
  generalize hw1 : World.drewN w _ = w1
  have e1 : Ext w w1 := by rw [← hw1]; infer_instance
  have own1 : Own w1 w.heap.size [] := Own.nil _ _
  have b1 : Below w.heap.size w w1 := e1.below
  replace hw1 := hid hw1
  obtain ⟨B, hB⟩ : ∃ b, b = w.heap.size := ⟨_, rfl⟩
  have hEx := hid (show ∀ u, Below B w u → Ext w u from fun u h => ⟨by rw [← hB]; exact h⟩)
  have hBs := hid (show ∀ u, Below B w u → B ≤ u.heap.size from fun u h => by rw [hB]; exact h.size)
  rw [← hB] at own1 b1
  replace hB := hid hB
  have hB1 := hBs.out _ b1
  go_cut [6, 7] (fun q1 q2 wx => ∃ bu bv, q1 = .slice (some ⟨bu, 0, none⟩) (n + 1) (n + 1) ∧ q2 = .slice (some ⟨bv, 0, none⟩) (m + 1) (m + 1) ∧ Own wx B [iA bu (n + 1) (n + 1) (fun _ => 0), iA bv (m + 1) (m + 1) (fun _ => 0)] ∧ Below B w wx)
  case first =>
    refine region_held_from (w0 := w1) (S := fun _ => True) (by kernel_rfl) (fun _ _ => trivial) (fun wd ed hHeld0 => ?_)
    have ownd := own1.ext (w' := wd)
    have bd : Below B w wd := b1.trans (ed.below.mono hB1)
    have hBd := hBs.out _ bd
    have s1 : IntKind.i64.wrap ((n : Int) + 1) = ((n + 1 : Nat) : Int) := IntWalk.i64_in _ (by omega)
    have s2 : IntKind.i64.wrap ((m : Int) + 1) = ((m + 1 : Nat) : Int) := IntWalk.i64_in _ (by omega)
    refine wpAnyH_take (i := 0) (v := .int .i64 n) rfl (by kernel_rfl) (by kernel_rfl) (by kernel_rfl) (fun _ _ _ h => h) (Or.inl ⟨by rfl, by intro wx hx; go_simp⟩) (by assumption) ?_
    try simp only [List.getElem_toArray, List.getElem_cons_zero, Act.put, List.setIfInBounds_toArray, List.set_cons_zero, List.set_cons_succ]
    refine wpAnyH_take (i := 1) (v := .int .i64 ((n + 1 : Nat) : Int)) rfl (by kernel_rfl) (by kernel_rfl) (by kernel_rfl) (fun _ _ _ h => h) (Or.inl ⟨by rfl, by intro wx hx; go_simp⟩) (by assumption) ?_
    try simp only [List.getElem_toArray, List.getElem_cons_succ, List.getElem_cons_zero, Act.put, List.setIfInBounds_toArray, List.set_cons_zero, List.set_cons_succ]
    refine wpAnyH_take (i := 3) (v := .int .i64 m) rfl (by kernel_rfl) (by kernel_rfl) (by kernel_rfl) (fun _ _ _ h => h) (Or.inl ⟨by rfl, by intro wx hx; go_simp⟩) (by assumption) ?_
    try simp only [List.getElem_toArray, List.getElem_cons_succ, List.getElem_cons_zero, Act.put, List.setIfInBounds_toArray, List.set_cons_zero, List.set_cons_succ]
    refine wpAnyH_take (i := 4) (v := .int .i64 ((m + 1 : Nat) : Int)) rfl (by kernel_rfl) (by kernel_rfl) (by kernel_rfl) (fun _ _ _ h => h) (Or.inl ⟨by rfl, by intro wx hx; go_simp⟩) (by assumption) ?_
    try simp only [List.getElem_toArray, List.getElem_cons_succ, List.getElem_cons_zero, Act.put, List.setIfInBounds_toArray, List.set_cons_zero, List.set_cons_succ]
    clear s1 s2
    refine wpAnyH_ready (rs := [2, 5]) (by kernel_rfl) (by simp) ?_
    refine AllReadyH.cons rfl (fun K hK => ?_) (AllReadyH.cons rfl (fun K hK => ?_) AllReadyH.nil)
    · refine stp_makeA rfl (.tmp 33) (.tmp 33) _ rfl elemInt (n + 1) rfl rfl (by omega) (by omega) rfl ownd hBd ?_
      intro bu w2 own2 e2 b2
      have bd2 := bd.trans b2
      refine hK.out _ _ trivial (fun _ => ?_)
      clear hK K
      try simp only [List.getElem_toArray, List.getElem_cons_succ, List.getElem_cons_zero, Act.put, List.setIfInBounds_toArray, List.set_cons_zero, List.set_cons_succ]
      refine wpAnyH_take (i := 6) (v := .slice (some ⟨bu, 0, none⟩) (n + 1) (n + 1)) rfl (by kernel_rfl) (by kernel_rfl) (by kernel_rfl) (fun _ _ _ h => h) (Or.inl ⟨by rfl, by intro wx hx; go_simp⟩) (by assumption) ?_
      try simp only [List.getElem_toArray, List.getElem_cons_succ, List.getElem_cons_zero, Act.put, List.setIfInBounds_toArray, List.set_cons_zero, List.set_cons_succ]
      refine wpAnyH_ready (rs := [5]) (by kernel_rfl) (by simp) ?_
      refine AllReadyH.cons rfl (fun K hK => ?_) AllReadyH.nil
      refine stp_makeA rfl (.tmp 36) (.tmp 36) _ rfl elemInt (m + 1) rfl rfl (by omega) (by omega) rfl own2 (hBs.out _ bd2) ?_
      intro bv w3 own3 e3 b3
      refine hK.out _ _ trivial (fun _ => ?_)
      clear hK K
      try simp only [List.getElem_toArray, List.getElem_cons_succ, List.getElem_cons_zero, Act.put, List.setIfInBounds_toArray, List.set_cons_zero, List.set_cons_succ]
      refine wpAnyH_take (i := 7) (v := .slice (some ⟨bv, 0, none⟩) (m + 1) (m + 1)) rfl (by kernel_rfl) (by kernel_rfl) (by kernel_rfl) (fun _ _ _ h => h) (Or.inl ⟨by rfl, by intro wx hx; go_simp⟩) (by assumption) ?_
      try simp only [List.getElem_toArray, List.getElem_cons_succ, List.getElem_cons_zero, Act.put, List.setIfInBounds_toArray, List.set_cons_zero, List.set_cons_succ]
      refine wpAnyH_done (by kernel_rfl) ?_ _
      go_wp2_with fail
      go_meet
      exact ⟨bu, bv, rfl, rfl, own3.perm (List.Perm.swap _ _ _), bd2.trans b3⟩
    · refine stp_makeA rfl (.tmp 36) (.tmp 36) _ rfl elemInt (m + 1) rfl rfl (by omega) (by omega) rfl ownd hBd ?_
      intro bv w2 own2 e2 b2
      have bd2 := bd.trans b2
      refine hK.out _ _ trivial (fun _ => ?_)
      clear hK K
      try simp only [List.getElem_toArray, List.getElem_cons_succ, List.getElem_cons_zero, Act.put, List.setIfInBounds_toArray, List.set_cons_zero, List.set_cons_succ]
      refine wpAnyH_ready (rs := [2]) (by kernel_rfl) (by simp) ?_
      refine AllReadyH.cons rfl (fun K hK => ?_) AllReadyH.nil
      refine stp_makeA rfl (.tmp 33) (.tmp 33) _ rfl elemInt (n + 1) rfl rfl (by omega) (by omega) rfl own2 (hBs.out _ bd2) ?_
      intro bu w3 own3 e3 b3
      refine hK.out _ _ trivial (fun _ => ?_)
      clear hK K
      try simp only [List.getElem_toArray, List.getElem_cons_succ, List.getElem_cons_zero, Act.put, List.setIfInBounds_toArray, List.set_cons_zero, List.set_cons_succ]
      refine wpAnyH_take (i := 6) (v := .slice (some ⟨bu, 0, none⟩) (n + 1) (n + 1)) rfl (by kernel_rfl) (by kernel_rfl) (by kernel_rfl) (fun _ _ _ h => h) (Or.inl ⟨by rfl, by intro wx hx; go_simp⟩) (by assumption) ?_
      try simp only [List.getElem_toArray, List.getElem_cons_succ, List.getElem_cons_zero, Act.put, List.setIfInBounds_toArray, List.set_cons_zero, List.set_cons_succ]
      refine wpAnyH_take (i := 7) (v := .slice (some ⟨bv, 0, none⟩) (m + 1) (m + 1)) rfl (by kernel_rfl) (by kernel_rfl) (by kernel_rfl) (fun _ _ _ h => h) (Or.inl ⟨by rfl, by intro wx hx; go_simp⟩) (by assumption) ?_
      try simp only [List.getElem_toArray, List.getElem_cons_succ, List.getElem_cons_zero, Act.put, List.setIfInBounds_toArray, List.set_cons_zero, List.set_cons_succ]
      refine wpAnyH_done (by kernel_rfl) ?_ _
      go_wp2_with fail
      go_meet
      exact ⟨bu, bv, rfl, rfl, own3, bd2.trans b3⟩
  case rest => as_aux_lemma =>
    obtain ⟨bu, bv, rfl, rfl, own2, b2⟩ := hcut
    clear own1 b1 hB1 e1
    have hB2 := hBs.out _ b2
    have own2' := own2
    clear own2
    go_upto_region 7 with (at_make; refine wpList_makeA rfl _ _ _ rfl elemInt (m + 1) rfl rfl (by omega) (by omega) rfl own2' hB2 ?_; intro br w3 own3 e3 b3)
    have b3' := b2.trans b3
    clear own2' hB2 e3 b3
    have hs0 : Hid (HS cc n m 0 (fun _ => 0) (fun _ => 0) (fun _ => 0)) := hid ⟨fun r j h1 h2 h3 h4 => by have := hcb2.out r j h1 h2 h3 h4; show (0 : Int) + 0 ≤ _; omega, fun _ _ _ => rfl, fun _ _ _ => Int.le_refl _, fun _ _ _ => Int.le_refl _, fun _ _ _ _ => rfl, fun _ _ _ h => absurd rfl h, fun _ _ _ => Nat.le_refl _, fun _ _ _ _ _ _ h => absurd rfl h, fun r h1 h2 => by omega, by simp, fun r _ _ => by show (0 : Int) ≤ _; omega⟩
    go_loopw [9] (fun q wr => ∃ (i : Nat) (u v : Nat → Int) (ro : Nat → Nat), i ≤ n ∧ q = .int .i64 ((i + 1 : Nat) : Int) ∧ Hid (HS cc n m i u v ro) ∧ Own wr B [nA br (m + 1) (m + 1) ro, iA bu (n + 1) (n + 1) u, iA bv (m + 1) (m + 1) v] ∧ Below B w wr) (fun q _ => n + 1 - (intOf q).toNat)
    case atStart => exact ⟨0, _, _, _, by omega, rfl, hs0, own3, b3'⟩
    case round =>
      clear own3 b3' hs0
      obtain ⟨i, u, v, ro, hi, rfl, hS, own, hb⟩ := hrel
      obtain ⟨wo, rfl⟩ : ∃ y : World, y = wr := ⟨_, rfl⟩
      have hBo := hBs.out _ hb
      by_cases hlt : i + 1 ≤ n
      · obtain ⟨x0, f0⟩ := own.aAt (k := 0) rfl (j := 0) (by omega)
        have ownA := own.nSet (k := 0) rfl 0 (i + 1)
        have bA' := hb.setCell (p := ⟨br, 0, none⟩) (own.aLt (k := 0) rfl).1 (.int .i64 ((i + 1 : Nat) : Int))
        have hI := hid (HI.start (cc := cc) (i := i + 1) hS.out (by omega) hlt)
        clear own hb hS
        go_upto_region 11 with fail
        have hw9 : (wo.setCell ⟨br, 0, none⟩ (.int .i64 ((i + 1 : Nat) : Int))) = (wo.setCell ⟨br, 0, none⟩ (.int .i64 ((i : Int) + 1))) := rfl
        rw [hw9] at ownA bA'
        generalize (wo.setCell ⟨br, 0, none⟩ (.int .i64 ((i : Int) + 1))) = w4 at *
        clear hw9 x0 f0 hBo
        go_cut [11, 12, 13] (fun q1 q2 q3 wx => ∃ bw bl cl bs, q1 = .slice (some ⟨bw, 0, none⟩) (m + 1) (m + 1) ∧ q2 = .slice (some ⟨bl, 0, none⟩) (m + 1) cl ∧ q3 = .slice (some ⟨bs, 0, none⟩) (m + 1) (m + 1) ∧ Own wx B [iA bl (m + 1) cl (fun _ => 1152921504606846976), nA bw (m + 1) (m + 1) (fun _ => 0), bA bs (m + 1) (m + 1) (fun _ => false), nA br (m + 1) (m + 1) (updN ro 0 (i + 1)), iA bu (n + 1) (n + 1) u, iA bv (m + 1) (m + 1) v] ∧ Below B w wx)
        case first =>
          refine region_held_from (w0 := w4) (S := fun _ => True) (by kernel_rfl) (fun _ _ => trivial) (fun wd ed hHeld0 => ?_)
          have o0 := ownA.ext (w' := wd)
          have q0 : Below B w wd := bA'.trans (ed.below.mono (hBs.out _ bA'))
          have s2 : IntKind.i64.wrap ((m : Int) + 1) = ((m : Int) + 1) := IntWalk.i64_in _ (by omega)
          refine wpAnyH_take (i := 0) (v := .int .i64 m) rfl (by kernel_rfl) (by kernel_rfl) (by kernel_rfl) (fun _ _ _ h => h) (Or.inl ⟨by rfl, by intro wx hx; go_simp⟩) (by assumption) ?_
          try simp only [List.getElem_toArray, List.getElem_cons_zero, Act.put, List.setIfInBounds_toArray, List.set_cons_zero, List.set_cons_succ]
          refine wpAnyH_take (i := 1) (v := .int .i64 ((m + 1 : Nat) : Int)) rfl (by kernel_rfl) (by kernel_rfl) (by kernel_rfl) (fun _ _ _ h => h) (Or.inl ⟨by rfl, by intro wx hx; go_simp⟩) (by assumption) ?_
          try simp only [List.getElem_toArray, List.getElem_cons_succ, List.getElem_cons_zero, Act.put, List.setIfInBounds_toArray, List.set_cons_zero, List.set_cons_succ]
          refine wpAnyH_take (i := 4) (v := .int .i64 m) rfl (by kernel_rfl) (by kernel_rfl) (by kernel_rfl) (fun _ _ _ h => h) (Or.inl ⟨by rfl, by intro wx hx; go_simp⟩) (by assumption) ?_
          try simp only [List.getElem_toArray, List.getElem_cons_succ, List.getElem_cons_zero, Act.put, List.setIfInBounds_toArray, List.set_cons_zero, List.set_cons_succ]
          refine wpAnyH_take (i := 5) (v := .int .i64 ((m + 1 : Nat) : Int)) rfl (by kernel_rfl) (by kernel_rfl) (by kernel_rfl) (fun _ _ _ h => h) (Or.inl ⟨by rfl, by intro wx hx; go_simp⟩) (by assumption) ?_
          try simp only [List.getElem_toArray, List.getElem_cons_succ, List.getElem_cons_zero, Act.put, List.setIfInBounds_toArray, List.set_cons_zero, List.set_cons_succ]
          refine wpAnyH_take (i := 7) (v := .int .i64 m) rfl (by kernel_rfl) (by kernel_rfl) (by kernel_rfl) (fun _ _ _ h => h) (Or.inl ⟨by rfl, by intro wx hx; go_simp⟩) (by assumption) ?_
          try simp only [List.getElem_toArray, List.getElem_cons_succ, List.getElem_cons_zero, Act.put, List.setIfInBounds_toArray, List.set_cons_zero, List.set_cons_succ]
          refine wpAnyH_take (i := 8) (v := .int .i64 ((m + 1 : Nat) : Int)) rfl (by kernel_rfl) (by kernel_rfl) (by kernel_rfl) (fun _ _ _ h => h) (Or.inl ⟨by rfl, by intro wx hx; go_simp⟩) (by assumption) ?_
          try simp only [List.getElem_toArray, List.getElem_cons_succ, List.getElem_cons_zero, Act.put, List.setIfInBounds_toArray, List.set_cons_zero, List.set_cons_succ]
          clear s2
          refine wpAnyH_ready (rs := [2, 3, 9]) (by kernel_rfl) (by simp) ?_
          refine AllReadyH.cons rfl (fun K hK => ?_) (AllReadyH.cons rfl (fun K hK => ?_) (AllReadyH.cons rfl (fun K hK => ?_) AllReadyH.nil))
          · skip
            refine stp_makeA rfl (.tmp 50) (.tmp 50) _ rfl elemInt (m + 1) rfl rfl (by omega) (by omega) rfl o0 (hBs.out _ q0) ?_
            intro bw u1 o1 eo1 bo1
            have q1 := q0.trans bo1
            refine hK.out _ _ trivial (fun _ => ?_)
            clear hK K
            try simp only [List.getElem_toArray, List.getElem_cons_succ, List.getElem_cons_zero, Act.put, List.setIfInBounds_toArray, List.set_cons_zero, List.set_cons_succ]
            refine wpAnyH_ready (rs := [3, 9]) (by kernel_rfl) (by simp) ?_
            refine AllReadyH.cons rfl (fun K hK => ?_) (AllReadyH.cons rfl (fun K hK => ?_) AllReadyH.nil)
            · skip
              go_simp
              have hlit := litOne u1 (x := 1152921504606846976) (by unfold I64; omega)
              have elit : Ext u1 (u1.alloc (.cells #[.int .i64 1152921504606846976] 3)) := inferInstance
              have o2 := o1.ext (e := elit)
              have q2 := q1.alloc (hBs.out _ q1) (.cells #[.int .i64 1152921504606846976] 3)
              refine hK.out _ _ trivial (fun _ => ?_)
              clear hK K
              try simp only [List.getElem_toArray, List.getElem_cons_succ, List.getElem_cons_zero, Act.put, List.setIfInBounds_toArray, List.set_cons_zero, List.set_cons_succ]
              obtain ⟨blit, hblit⟩ : ∃ b, b = u1.heap.size := ⟨_, rfl⟩
              rw [← hblit] at hlit ⊢
              replace hblit := hid hblit
              generalize u1.alloc (.cells #[.int .i64 1152921504606846976] 3) = u2 at *
              have elu2 : Ext u2 u2 := Ext.refl _
              refine wpAnyH_ready (rs := [6, 9]) (by kernel_rfl) (by simp) ?_
              refine AllReadyH.cons rfl (fun K hK => ?_) (AllReadyH.cons rfl (fun K hK => ?_) AllReadyH.nil)
              · skip
                go_simp
                have helit : Ext u2 u2 := elu2
                go_at_call 28
                have hRp := repA_any (w0 := u2) (w := u2) (n := m + 1) hlit (by omega) (by omega)
                rw [show ((m + 1 : Nat) : Int) = (m : Int) + 1 from rfl] at hRp
                with_reducible refine hRp.mono ?_
                rintro e u3 ⟨bl, cl, rfl, hO, eu3⟩
                have o3 := hO _ _ o2 (hBs.out _ q2)
                have q3 := q2.trans (eu3.below.mono (hBs.out _ q2))
                go_wp2_with fail
                refine hK.out _ _ trivial (fun _ => ?_)
                clear hK K
                try simp only [List.getElem_toArray, List.getElem_cons_succ, List.getElem_cons_zero, Act.put, List.setIfInBounds_toArray, List.set_cons_zero, List.set_cons_succ]
                refine wpAnyH_take (i := 10) (v := .slice (some ⟨bw, 0, none⟩) (m + 1) (m + 1)) rfl (by kernel_rfl) (by kernel_rfl) (by kernel_rfl) (fun _ _ _ h => h) (Or.inl ⟨by rfl, by intro wx hx; go_simp⟩) (by assumption) ?_
                try simp only [List.getElem_toArray, List.getElem_cons_succ, List.getElem_cons_zero, Act.put, List.setIfInBounds_toArray, List.set_cons_zero, List.set_cons_succ]
                refine wpAnyH_take (i := 11) (v := .slice (some ⟨bl, 0, none⟩) (m + 1) cl) rfl (by kernel_rfl) (by kernel_rfl) (by kernel_rfl) (fun _ _ _ h => h) (Or.inl ⟨by rfl, by intro wx hx; go_simp⟩) (by assumption) ?_
                try simp only [List.getElem_toArray, List.getElem_cons_succ, List.getElem_cons_zero, Act.put, List.setIfInBounds_toArray, List.set_cons_zero, List.set_cons_succ]
                refine wpAnyH_ready (rs := [9]) (by kernel_rfl) (by simp) ?_
                refine AllReadyH.cons rfl (fun K hK => ?_) AllReadyH.nil
                refine stp_makeA rfl (.tmp 57) (.tmp 57) _ rfl elemBool (m + 1) rfl rfl (by omega) (by omega) rfl o3 (hBs.out _ q3) ?_
                intro bs u4 o4 eo4 bo4
                have q4 := q3.trans bo4
                refine hK.out _ _ trivial (fun _ => ?_)
                clear hK K
                try simp only [List.getElem_toArray, List.getElem_cons_succ, List.getElem_cons_zero, Act.put, List.setIfInBounds_toArray, List.set_cons_zero, List.set_cons_succ]
                refine wpAnyH_take (i := 12) (v := .slice (some ⟨bs, 0, none⟩) (m + 1) (m + 1)) rfl (by kernel_rfl) (by kernel_rfl) (by kernel_rfl) (fun _ _ _ h => h) (Or.inl ⟨by rfl, by intro wx hx; go_simp⟩) (by assumption) ?_
                try simp only [List.getElem_toArray, List.getElem_cons_succ, List.getElem_cons_zero, Act.put, List.setIfInBounds_toArray, List.set_cons_zero, List.set_cons_succ]
                refine wpAnyH_done (by kernel_rfl) ?_ _
                go_wp2_with fail
                go_meet
                exact ⟨bw, bl, cl, bs, rfl, rfl, rfl, o4.perm (by first | exact prm3.1 | exact prm3.2.1 | exact prm3.2.2.1 | exact prm3.2.2.2.1 | exact prm3.2.2.2.2.1 | exact prm3.2.2.2.2.2), q4⟩
              · skip
                refine stp_makeA rfl (.tmp 57) (.tmp 57) _ rfl elemBool (m + 1) rfl rfl (by omega) (by omega) rfl o2 (hBs.out _ q2) ?_
                intro bs u3 o3 eo3 bo3
                have q3 := q2.trans bo3
                refine hK.out _ _ trivial (fun _ => ?_)
                clear hK K
                try simp only [List.getElem_toArray, List.getElem_cons_succ, List.getElem_cons_zero, Act.put, List.setIfInBounds_toArray, List.set_cons_zero, List.set_cons_succ]
                refine wpAnyH_ready (rs := [6]) (by kernel_rfl) (by simp) ?_
                refine AllReadyH.cons rfl (fun K hK => ?_) AllReadyH.nil
                go_simp
                have helit : Ext u2 u3 := eo3
                go_at_call 28
                have hRp := repA_any (w0 := u2) (w := u3) (n := m + 1) hlit (by omega) (by omega)
                rw [show ((m + 1 : Nat) : Int) = (m : Int) + 1 from rfl] at hRp
                with_reducible refine hRp.mono ?_
                rintro e u4 ⟨bl, cl, rfl, hO, eu4⟩
                have o4 := hO _ _ o3 (hBs.out _ q3)
                have q4 := q3.trans (eu4.below.mono (hBs.out _ q3))
                go_wp2_with fail
                refine hK.out _ _ trivial (fun _ => ?_)
                clear hK K
                try simp only [List.getElem_toArray, List.getElem_cons_succ, List.getElem_cons_zero, Act.put, List.setIfInBounds_toArray, List.set_cons_zero, List.set_cons_succ]
                refine wpAnyH_take (i := 10) (v := .slice (some ⟨bw, 0, none⟩) (m + 1) (m + 1)) rfl (by kernel_rfl) (by kernel_rfl) (by kernel_rfl) (fun _ _ _ h => h) (Or.inl ⟨by rfl, by intro wx hx; go_simp⟩) (by assumption) ?_
                try simp only [List.getElem_toArray, List.getElem_cons_succ, List.getElem_cons_zero, Act.put, List.setIfInBounds_toArray, List.set_cons_zero, List.set_cons_succ]
                refine wpAnyH_take (i := 11) (v := .slice (some ⟨bl, 0, none⟩) (m + 1) cl) rfl (by kernel_rfl) (by kernel_rfl) (by kernel_rfl) (fun _ _ _ h => h) (Or.inl ⟨by rfl, by intro wx hx; go_simp⟩) (by assumption) ?_
                try simp only [List.getElem_toArray, List.getElem_cons_succ, List.getElem_cons_zero, Act.put, List.setIfInBounds_toArray, List.set_cons_zero, List.set_cons_succ]
                refine wpAnyH_take (i := 12) (v := .slice (some ⟨bs, 0, none⟩) (m + 1) (m + 1)) rfl (by kernel_rfl) (by kernel_rfl) (by kernel_rfl) (fun _ _ _ h => h) (Or.inl ⟨by rfl, by intro wx hx; go_simp⟩) (by assumption) ?_
                try simp only [List.getElem_toArray, List.getElem_cons_succ, List.getElem_cons_zero, Act.put, List.setIfInBounds_toArray, List.set_cons_zero, List.set_cons_succ]
                refine wpAnyH_done (by kernel_rfl) ?_ _
                go_wp2_with fail
                go_meet
                exact ⟨bw, bl, cl, bs, rfl, rfl, rfl, o4.perm (by first | exact prm3.1 | exact prm3.2.1 | exact prm3.2.2.1 | exact prm3.2.2.2.1 | exact prm3.2.2.2.2.1 | exact prm3.2.2.2.2.2), q4⟩
            · skip
              refine stp_makeA rfl (.tmp 57) (.tmp 57) _ rfl elemBool (m + 1) rfl rfl (by omega) (by omega) rfl o1 (hBs.out _ q1) ?_
              intro bs u2 o2 eo2 bo2
              have q2 := q1.trans bo2
              refine hK.out _ _ trivial (fun _ => ?_)
              clear hK K
              try simp only [List.getElem_toArray, List.getElem_cons_succ, List.getElem_cons_zero, Act.put, List.setIfInBounds_toArray, List.set_cons_zero, List.set_cons_succ]
              refine wpAnyH_ready (rs := [3]) (by kernel_rfl) (by simp) ?_
              refine AllReadyH.cons rfl (fun K hK => ?_) AllReadyH.nil
              go_simp
              have hlit := litOne u2 (x := 1152921504606846976) (by unfold I64; omega)
              have elit : Ext u2 (u2.alloc (.cells #[.int .i64 1152921504606846976] 3)) := inferInstance
              have o3 := o2.ext (e := elit)
              have q3 := q2.alloc (hBs.out _ q2) (.cells #[.int .i64 1152921504606846976] 3)
              refine hK.out _ _ trivial (fun _ => ?_)
              clear hK K
              try simp only [List.getElem_toArray, List.getElem_cons_succ, List.getElem_cons_zero, Act.put, List.setIfInBounds_toArray, List.set_cons_zero, List.set_cons_succ]
              obtain ⟨blit, hblit⟩ : ∃ b, b = u2.heap.size := ⟨_, rfl⟩
              rw [← hblit] at hlit ⊢
              replace hblit := hid hblit
              generalize u2.alloc (.cells #[.int .i64 1152921504606846976] 3) = u3 at *
              have elu3 : Ext u3 u3 := Ext.refl _
              refine wpAnyH_ready (rs := [6]) (by kernel_rfl) (by simp) ?_
              refine AllReadyH.cons rfl (fun K hK => ?_) AllReadyH.nil
              go_simp
              have helit : Ext u3 u3 := elu3
              go_at_call 28
              have hRp := repA_any (w0 := u3) (w := u3) (n := m + 1) hlit (by omega) (by omega)
              rw [show ((m + 1 : Nat) : Int) = (m : Int) + 1 from rfl] at hRp
              with_reducible refine hRp.mono ?_
              rintro e u4 ⟨bl, cl, rfl, hO, eu4⟩
              have o4 := hO _ _ o3 (hBs.out _ q3)
              have q4 := q3.trans (eu4.below.mono (hBs.out _ q3))
              go_wp2_with fail
              refine hK.out _ _ trivial (fun _ => ?_)
              clear hK K
              try simp only [List.getElem_toArray, List.getElem_cons_succ, List.getElem_cons_zero, Act.put, List.setIfInBounds_toArray, List.set_cons_zero, List.set_cons_succ]
              refine wpAnyH_take (i := 10) (v := .slice (some ⟨bw, 0, none⟩) (m + 1) (m + 1)) rfl (by kernel_rfl) (by kernel_rfl) (by kernel_rfl) (fun _ _ _ h => h) (Or.inl ⟨by rfl, by intro wx hx; go_simp⟩) (by assumption) ?_
              try simp only [List.getElem_toArray, List.getElem_cons_succ, List.getElem_cons_zero, Act.put, List.setIfInBounds_toArray, List.set_cons_zero, List.set_cons_succ]
              refine wpAnyH_take (i := 11) (v := .slice (some ⟨bl, 0, none⟩) (m + 1) cl) rfl (by kernel_rfl) (by kernel_rfl) (by kernel_rfl) (fun _ _ _ h => h) (Or.inl ⟨by rfl, by intro wx hx; go_simp⟩) (by assumption) ?_
              try simp only [List.getElem_toArray, List.getElem_cons_succ, List.getElem_cons_zero, Act.put, List.setIfInBounds_toArray, List.set_cons_zero, List.set_cons_succ]
              refine wpAnyH_take (i := 12) (v := .slice (some ⟨bs, 0, none⟩) (m + 1) (m + 1)) rfl (by kernel_rfl) (by kernel_rfl) (by kernel_rfl) (fun _ _ _ h => h) (Or.inl ⟨by rfl, by intro wx hx; go_simp⟩) (by assumption) ?_
              try simp only [List.getElem_toArray, List.getElem_cons_succ, List.getElem_cons_zero, Act.put, List.setIfInBounds_toArray, List.set_cons_zero, List.set_cons_succ]
              refine wpAnyH_done (by kernel_rfl) ?_ _
              go_wp2_with fail
              go_meet
              exact ⟨bw, bl, cl, bs, rfl, rfl, rfl, o4.perm (by first | exact prm3.1 | exact prm3.2.1 | exact prm3.2.2.1 | exact prm3.2.2.2.1 | exact prm3.2.2.2.2.1 | exact prm3.2.2.2.2.2), q4⟩
          · skip
            go_simp
            have hlit := litOne wd (x := 1152921504606846976) (by unfold I64; omega)
            have elit : Ext wd (wd.alloc (.cells #[.int .i64 1152921504606846976] 3)) := inferInstance
            have o1 := o0.ext (e := elit)
            have q1 := q0.alloc (hBs.out _ q0) (.cells #[.int .i64 1152921504606846976] 3)
            refine hK.out _ _ trivial (fun _ => ?_)
            clear hK K
            try simp only [List.getElem_toArray, List.getElem_cons_succ, List.getElem_cons_zero, Act.put, List.setIfInBounds_toArray, List.set_cons_zero, List.set_cons_succ]
            obtain ⟨blit, hblit⟩ : ∃ b, b = wd.heap.size := ⟨_, rfl⟩
            rw [← hblit] at hlit ⊢
            replace hblit := hid hblit
            generalize wd.alloc (.cells #[.int .i64 1152921504606846976] 3) = u1 at *
            have elu1 : Ext u1 u1 := Ext.refl _
            refine wpAnyH_ready (rs := [2, 6, 9]) (by kernel_rfl) (by simp) ?_
            refine AllReadyH.cons rfl (fun K hK => ?_) (AllReadyH.cons rfl (fun K hK => ?_) (AllReadyH.cons rfl (fun K hK => ?_) AllReadyH.nil))
            · skip
              refine stp_makeA rfl (.tmp 50) (.tmp 50) _ rfl elemInt (m + 1) rfl rfl (by omega) (by omega) rfl o1 (hBs.out _ q1) ?_
              intro bw u2 o2 eo2 bo2
              have q2 := q1.trans bo2
              refine hK.out _ _ trivial (fun _ => ?_)
              clear hK K
              try simp only [List.getElem_toArray, List.getElem_cons_succ, List.getElem_cons_zero, Act.put, List.setIfInBounds_toArray, List.set_cons_zero, List.set_cons_succ]
              refine wpAnyH_ready (rs := [6, 9]) (by kernel_rfl) (by simp) ?_
              refine AllReadyH.cons rfl (fun K hK => ?_) (AllReadyH.cons rfl (fun K hK => ?_) AllReadyH.nil)
              · skip
                go_simp
                have helit : Ext u1 u2 := eo2
                go_at_call 28
                have hRp := repA_any (w0 := u1) (w := u2) (n := m + 1) hlit (by omega) (by omega)
                rw [show ((m + 1 : Nat) : Int) = (m : Int) + 1 from rfl] at hRp
                with_reducible refine hRp.mono ?_
                rintro e u3 ⟨bl, cl, rfl, hO, eu3⟩
                have o3 := hO _ _ o2 (hBs.out _ q2)
                have q3 := q2.trans (eu3.below.mono (hBs.out _ q2))
                go_wp2_with fail
                refine hK.out _ _ trivial (fun _ => ?_)
                clear hK K
                try simp only [List.getElem_toArray, List.getElem_cons_succ, List.getElem_cons_zero, Act.put, List.setIfInBounds_toArray, List.set_cons_zero, List.set_cons_succ]
                refine wpAnyH_take (i := 10) (v := .slice (some ⟨bw, 0, none⟩) (m + 1) (m + 1)) rfl (by kernel_rfl) (by kernel_rfl) (by kernel_rfl) (fun _ _ _ h => h) (Or.inl ⟨by rfl, by intro wx hx; go_simp⟩) (by assumption) ?_
                try simp only [List.getElem_toArray, List.getElem_cons_succ, List.getElem_cons_zero, Act.put, List.setIfInBounds_toArray, List.set_cons_zero, List.set_cons_succ]
                refine wpAnyH_take (i := 11) (v := .slice (some ⟨bl, 0, none⟩) (m + 1) cl) rfl (by kernel_rfl) (by kernel_rfl) (by kernel_rfl) (fun _ _ _ h => h) (Or.inl ⟨by rfl, by intro wx hx; go_simp⟩) (by assumption) ?_
                try simp only [List.getElem_toArray, List.getElem_cons_succ, List.getElem_cons_zero, Act.put, List.setIfInBounds_toArray, List.set_cons_zero, List.set_cons_succ]
                refine wpAnyH_ready (rs := [9]) (by kernel_rfl) (by simp) ?_
                refine AllReadyH.cons rfl (fun K hK => ?_) AllReadyH.nil
                refine stp_makeA rfl (.tmp 57) (.tmp 57) _ rfl elemBool (m + 1) rfl rfl (by omega) (by omega) rfl o3 (hBs.out _ q3) ?_
                intro bs u4 o4 eo4 bo4
                have q4 := q3.trans bo4
                refine hK.out _ _ trivial (fun _ => ?_)
                clear hK K
                try simp only [List.getElem_toArray, List.getElem_cons_succ, List.getElem_cons_zero, Act.put, List.setIfInBounds_toArray, List.set_cons_zero, List.set_cons_succ]
                refine wpAnyH_take (i := 12) (v := .slice (some ⟨bs, 0, none⟩) (m + 1) (m + 1)) rfl (by kernel_rfl) (by kernel_rfl) (by kernel_rfl) (fun _ _ _ h => h) (Or.inl ⟨by rfl, by intro wx hx; go_simp⟩) (by assumption) ?_
                try simp only [List.getElem_toArray, List.getElem_cons_succ, List.getElem_cons_zero, Act.put, List.setIfInBounds_toArray, List.set_cons_zero, List.set_cons_succ]
                refine wpAnyH_done (by kernel_rfl) ?_ _
                go_wp2_with fail
                go_meet
                exact ⟨bw, bl, cl, bs, rfl, rfl, rfl, o4.perm (by first | exact prm3.1 | exact prm3.2.1 | exact prm3.2.2.1 | exact prm3.2.2.2.1 | exact prm3.2.2.2.2.1 | exact prm3.2.2.2.2.2), q4⟩
              · skip
                refine stp_makeA rfl (.tmp 57) (.tmp 57) _ rfl elemBool (m + 1) rfl rfl (by omega) (by omega) rfl o2 (hBs.out _ q2) ?_
                intro bs u3 o3 eo3 bo3
                have q3 := q2.trans bo3
                refine hK.out _ _ trivial (fun _ => ?_)
                clear hK K
                try simp only [List.getElem_toArray, List.getElem_cons_succ, List.getElem_cons_zero, Act.put, List.setIfInBounds_toArray, List.set_cons_zero, List.set_cons_succ]
                have exx : Ext u1 u3 := Ext.trans eo2 eo3
                refine wpAnyH_ready (rs := [6]) (by kernel_rfl) (by simp) ?_
                refine AllReadyH.cons rfl (fun K hK => ?_) AllReadyH.nil
                go_simp
                have helit : Ext u1 u3 := exx
                go_at_call 28
                have hRp := repA_any (w0 := u1) (w := u3) (n := m + 1) hlit (by omega) (by omega)
                rw [show ((m + 1 : Nat) : Int) = (m : Int) + 1 from rfl] at hRp
                with_reducible refine hRp.mono ?_
                rintro e u4 ⟨bl, cl, rfl, hO, eu4⟩
                have o4 := hO _ _ o3 (hBs.out _ q3)
                have q4 := q3.trans (eu4.below.mono (hBs.out _ q3))
                go_wp2_with fail
                refine hK.out _ _ trivial (fun _ => ?_)
                clear hK K
                try simp only [List.getElem_toArray, List.getElem_cons_succ, List.getElem_cons_zero, Act.put, List.setIfInBounds_toArray, List.set_cons_zero, List.set_cons_succ]
                refine wpAnyH_take (i := 10) (v := .slice (some ⟨bw, 0, none⟩) (m + 1) (m + 1)) rfl (by kernel_rfl) (by kernel_rfl) (by kernel_rfl) (fun _ _ _ h => h) (Or.inl ⟨by rfl, by intro wx hx; go_simp⟩) (by assumption) ?_
                try simp only [List.getElem_toArray, List.getElem_cons_succ, List.getElem_cons_zero, Act.put, List.setIfInBounds_toArray, List.set_cons_zero, List.set_cons_succ]
                refine wpAnyH_take (i := 11) (v := .slice (some ⟨bl, 0, none⟩) (m + 1) cl) rfl (by kernel_rfl) (by kernel_rfl) (by kernel_rfl) (fun _ _ _ h => h) (Or.inl ⟨by rfl, by intro wx hx; go_simp⟩) (by assumption) ?_
                try simp only [List.getElem_toArray, List.getElem_cons_succ, List.getElem_cons_zero, Act.put, List.setIfInBounds_toArray, List.set_cons_zero, List.set_cons_succ]
                refine wpAnyH_take (i := 12) (v := .slice (some ⟨bs, 0, none⟩) (m + 1) (m + 1)) rfl (by kernel_rfl) (by kernel_rfl) (by kernel_rfl) (fun _ _ _ h => h) (Or.inl ⟨by rfl, by intro wx hx; go_simp⟩) (by assumption) ?_
                try simp only [List.getElem_toArray, List.getElem_cons_succ, List.getElem_cons_zero, Act.put, List.setIfInBounds_toArray, List.set_cons_zero, List.set_cons_succ]
                refine wpAnyH_done (by kernel_rfl) ?_ _
                go_wp2_with fail
                go_meet
                exact ⟨bw, bl, cl, bs, rfl, rfl, rfl, o4.perm (by first | exact prm3.1 | exact prm3.2.1 | exact prm3.2.2.1 | exact prm3.2.2.2.1 | exact prm3.2.2.2.2.1 | exact prm3.2.2.2.2.2), q4⟩
            · skip
              go_simp
              have helit : Ext u1 u1 := elu1
              go_at_call 28
              have hRp := repA_any (w0 := u1) (w := u1) (n := m + 1) hlit (by omega) (by omega)
              rw [show ((m + 1 : Nat) : Int) = (m : Int) + 1 from rfl] at hRp
              with_reducible refine hRp.mono ?_
              rintro e u2 ⟨bl, cl, rfl, hO, eu2⟩
              have o2 := hO _ _ o1 (hBs.out _ q1)
              have q2 := q1.trans (eu2.below.mono (hBs.out _ q1))
              go_wp2_with fail
              refine hK.out _ _ trivial (fun _ => ?_)
              clear hK K
              try simp only [List.getElem_toArray, List.getElem_cons_succ, List.getElem_cons_zero, Act.put, List.setIfInBounds_toArray, List.set_cons_zero, List.set_cons_succ]
              refine wpAnyH_ready (rs := [2, 9]) (by kernel_rfl) (by simp) ?_
              refine AllReadyH.cons rfl (fun K hK => ?_) (AllReadyH.cons rfl (fun K hK => ?_) AllReadyH.nil)
              · skip
                refine stp_makeA rfl (.tmp 50) (.tmp 50) _ rfl elemInt (m + 1) rfl rfl (by omega) (by omega) rfl o2 (hBs.out _ q2) ?_
                intro bw u3 o3 eo3 bo3
                have q3 := q2.trans bo3
                refine hK.out _ _ trivial (fun _ => ?_)
                clear hK K
                try simp only [List.getElem_toArray, List.getElem_cons_succ, List.getElem_cons_zero, Act.put, List.setIfInBounds_toArray, List.set_cons_zero, List.set_cons_succ]
                refine wpAnyH_take (i := 10) (v := .slice (some ⟨bw, 0, none⟩) (m + 1) (m + 1)) rfl (by kernel_rfl) (by kernel_rfl) (by kernel_rfl) (fun _ _ _ h => h) (Or.inl ⟨by rfl, by intro wx hx; go_simp⟩) (by assumption) ?_
                try simp only [List.getElem_toArray, List.getElem_cons_succ, List.getElem_cons_zero, Act.put, List.setIfInBounds_toArray, List.set_cons_zero, List.set_cons_succ]
                refine wpAnyH_take (i := 11) (v := .slice (some ⟨bl, 0, none⟩) (m + 1) cl) rfl (by kernel_rfl) (by kernel_rfl) (by kernel_rfl) (fun _ _ _ h => h) (Or.inl ⟨by rfl, by intro wx hx; go_simp⟩) (by assumption) ?_
                try simp only [List.getElem_toArray, List.getElem_cons_succ, List.getElem_cons_zero, Act.put, List.setIfInBounds_toArray, List.set_cons_zero, List.set_cons_succ]
                refine wpAnyH_ready (rs := [9]) (by kernel_rfl) (by simp) ?_
                refine AllReadyH.cons rfl (fun K hK => ?_) AllReadyH.nil
                refine stp_makeA rfl (.tmp 57) (.tmp 57) _ rfl elemBool (m + 1) rfl rfl (by omega) (by omega) rfl o3 (hBs.out _ q3) ?_
                intro bs u4 o4 eo4 bo4
                have q4 := q3.trans bo4
                refine hK.out _ _ trivial (fun _ => ?_)
                clear hK K
                try simp only [List.getElem_toArray, List.getElem_cons_succ, List.getElem_cons_zero, Act.put, List.setIfInBounds_toArray, List.set_cons_zero, List.set_cons_succ]
                refine wpAnyH_take (i := 12) (v := .slice (some ⟨bs, 0, none⟩) (m + 1) (m + 1)) rfl (by kernel_rfl) (by kernel_rfl) (by kernel_rfl) (fun _ _ _ h => h) (Or.inl ⟨by rfl, by intro wx hx; go_simp⟩) (by assumption) ?_
                try simp only [List.getElem_toArray, List.getElem_cons_succ, List.getElem_cons_zero, Act.put, List.setIfInBounds_toArray, List.set_cons_zero, List.set_cons_succ]
                refine wpAnyH_done (by kernel_rfl) ?_ _
                go_wp2_with fail
                go_meet
                exact ⟨bw, bl, cl, bs, rfl, rfl, rfl, o4.perm (by first | exact prm3.1 | exact prm3.2.1 | exact prm3.2.2.1 | exact prm3.2.2.2.1 | exact prm3.2.2.2.2.1 | exact prm3.2.2.2.2.2), q4⟩
              · skip
                refine stp_makeA rfl (.tmp 57) (.tmp 57) _ rfl elemBool (m + 1) rfl rfl (by omega) (by omega) rfl o2 (hBs.out _ q2) ?_
                intro bs u3 o3 eo3 bo3
                have q3 := q2.trans bo3
                refine hK.out _ _ trivial (fun _ => ?_)
                clear hK K
                try simp only [List.getElem_toArray, List.getElem_cons_succ, List.getElem_cons_zero, Act.put, List.setIfInBounds_toArray, List.set_cons_zero, List.set_cons_succ]
                refine wpAnyH_ready (rs := [2]) (by kernel_rfl) (by simp) ?_
                refine AllReadyH.cons rfl (fun K hK => ?_) AllReadyH.nil
                refine stp_makeA rfl (.tmp 50) (.tmp 50) _ rfl elemInt (m + 1) rfl rfl (by omega) (by omega) rfl o3 (hBs.out _ q3) ?_
                intro bw u4 o4 eo4 bo4
                have q4 := q3.trans bo4
                refine hK.out _ _ trivial (fun _ => ?_)
                clear hK K
                try simp only [List.getElem_toArray, List.getElem_cons_succ, List.getElem_cons_zero, Act.put, List.setIfInBounds_toArray, List.set_cons_zero, List.set_cons_succ]
                refine wpAnyH_take (i := 10) (v := .slice (some ⟨bw, 0, none⟩) (m + 1) (m + 1)) rfl (by kernel_rfl) (by kernel_rfl) (by kernel_rfl) (fun _ _ _ h => h) (Or.inl ⟨by rfl, by intro wx hx; go_simp⟩) (by assumption) ?_
                try simp only [List.getElem_toArray, List.getElem_cons_succ, List.getElem_cons_zero, Act.put, List.setIfInBounds_toArray, List.set_cons_zero, List.set_cons_succ]
                refine wpAnyH_take (i := 11) (v := .slice (some ⟨bl, 0, none⟩) (m + 1) cl) rfl (by kernel_rfl) (by kernel_rfl) (by kernel_rfl) (fun _ _ _ h => h) (Or.inl ⟨by rfl, by intro wx hx; go_simp⟩) (by assumption) ?_
                try simp only [List.getElem_toArray, List.getElem_cons_succ, List.getElem_cons_zero, Act.put, List.setIfInBounds_toArray, List.set_cons_zero, List.set_cons_succ]
                refine wpAnyH_take (i := 12) (v := .slice (some ⟨bs, 0, none⟩) (m + 1) (m + 1)) rfl (by kernel_rfl) (by kernel_rfl) (by kernel_rfl) (fun _ _ _ h => h) (Or.inl ⟨by rfl, by intro wx hx; go_simp⟩) (by assumption) ?_
                try simp only [List.getElem_toArray, List.getElem_cons_succ, List.getElem_cons_zero, Act.put, List.setIfInBounds_toArray, List.set_cons_zero, List.set_cons_succ]
                refine wpAnyH_done (by kernel_rfl) ?_ _
                go_wp2_with fail
                go_meet
                exact ⟨bw, bl, cl, bs, rfl, rfl, rfl, o4.perm (by first | exact prm3.1 | exact prm3.2.1 | exact prm3.2.2.1 | exact prm3.2.2.2.1 | exact prm3.2.2.2.2.1 | exact prm3.2.2.2.2.2), q4⟩
            · skip
              refine stp_makeA rfl (.tmp 57) (.tmp 57) _ rfl elemBool (m + 1) rfl rfl (by omega) (by omega) rfl o1 (hBs.out _ q1) ?_
              intro bs u2 o2 eo2 bo2
              have q2 := q1.trans bo2
              refine hK.out _ _ trivial (fun _ => ?_)
              clear hK K
              try simp only [List.getElem_toArray, List.getElem_cons_succ, List.getElem_cons_zero, Act.put, List.setIfInBounds_toArray, List.set_cons_zero, List.set_cons_succ]
              refine wpAnyH_ready (rs := [2, 6]) (by kernel_rfl) (by simp) ?_
              refine AllReadyH.cons rfl (fun K hK => ?_) (AllReadyH.cons rfl (fun K hK => ?_) AllReadyH.nil)
              · skip
                refine stp_makeA rfl (.tmp 50) (.tmp 50) _ rfl elemInt (m + 1) rfl rfl (by omega) (by omega) rfl o2 (hBs.out _ q2) ?_
                intro bw u3 o3 eo3 bo3
                have q3 := q2.trans bo3
                refine hK.out _ _ trivial (fun _ => ?_)
                clear hK K
                try simp only [List.getElem_toArray, List.getElem_cons_succ, List.getElem_cons_zero, Act.put, List.setIfInBounds_toArray, List.set_cons_zero, List.set_cons_succ]
                have exx : Ext u1 u3 := Ext.trans eo2 eo3
                refine wpAnyH_ready (rs := [6]) (by kernel_rfl) (by simp) ?_
                refine AllReadyH.cons rfl (fun K hK => ?_) AllReadyH.nil
                go_simp
                have helit : Ext u1 u3 := exx
                go_at_call 28
                have hRp := repA_any (w0 := u1) (w := u3) (n := m + 1) hlit (by omega) (by omega)
                rw [show ((m + 1 : Nat) : Int) = (m : Int) + 1 from rfl] at hRp
                with_reducible refine hRp.mono ?_
                rintro e u4 ⟨bl, cl, rfl, hO, eu4⟩
                have o4 := hO _ _ o3 (hBs.out _ q3)
                have q4 := q3.trans (eu4.below.mono (hBs.out _ q3))
                go_wp2_with fail
                refine hK.out _ _ trivial (fun _ => ?_)
                clear hK K
                try simp only [List.getElem_toArray, List.getElem_cons_succ, List.getElem_cons_zero, Act.put, List.setIfInBounds_toArray, List.set_cons_zero, List.set_cons_succ]
                refine wpAnyH_take (i := 10) (v := .slice (some ⟨bw, 0, none⟩) (m + 1) (m + 1)) rfl (by kernel_rfl) (by kernel_rfl) (by kernel_rfl) (fun _ _ _ h => h) (Or.inl ⟨by rfl, by intro wx hx; go_simp⟩) (by assumption) ?_
                try simp only [List.getElem_toArray, List.getElem_cons_succ, List.getElem_cons_zero, Act.put, List.setIfInBounds_toArray, List.set_cons_zero, List.set_cons_succ]
                refine wpAnyH_take (i := 11) (v := .slice (some ⟨bl, 0, none⟩) (m + 1) cl) rfl (by kernel_rfl) (by kernel_rfl) (by kernel_rfl) (fun _ _ _ h => h) (Or.inl ⟨by rfl, by intro wx hx; go_simp⟩) (by assumption) ?_
                try simp only [List.getElem_toArray, List.getElem_cons_succ, List.getElem_cons_zero, Act.put, List.setIfInBounds_toArray, List.set_cons_zero, List.set_cons_succ]
                refine wpAnyH_take (i := 12) (v := .slice (some ⟨bs, 0, none⟩) (m + 1) (m + 1)) rfl (by kernel_rfl) (by kernel_rfl) (by kernel_rfl) (fun _ _ _ h => h) (Or.inl ⟨by rfl, by intro wx hx; go_simp⟩) (by assumption) ?_
                try simp only [List.getElem_toArray, List.getElem_cons_succ, List.getElem_cons_zero, Act.put, List.setIfInBounds_toArray, List.set_cons_zero, List.set_cons_succ]
                refine wpAnyH_done (by kernel_rfl) ?_ _
                go_wp2_with fail
                go_meet
                exact ⟨bw, bl, cl, bs, rfl, rfl, rfl, o4.perm (by first | exact prm3.1 | exact prm3.2.1 | exact prm3.2.2.1 | exact prm3.2.2.2.1 | exact prm3.2.2.2.2.1 | exact prm3.2.2.2.2.2), q4⟩
              · skip
                go_simp
                have helit : Ext u1 u2 := eo2
                go_at_call 28
                have hRp := repA_any (w0 := u1) (w := u2) (n := m + 1) hlit (by omega) (by omega)
                rw [show ((m + 1 : Nat) : Int) = (m : Int) + 1 from rfl] at hRp
                with_reducible refine hRp.mono ?_
                rintro e u3 ⟨bl, cl, rfl, hO, eu3⟩
                have o3 := hO _ _ o2 (hBs.out _ q2)
                have q3 := q2.trans (eu3.below.mono (hBs.out _ q2))
                go_wp2_with fail
                refine hK.out _ _ trivial (fun _ => ?_)
                clear hK K
                try simp only [List.getElem_toArray, List.getElem_cons_succ, List.getElem_cons_zero, Act.put, List.setIfInBounds_toArray, List.set_cons_zero, List.set_cons_succ]
                refine wpAnyH_ready (rs := [2]) (by kernel_rfl) (by simp) ?_
                refine AllReadyH.cons rfl (fun K hK => ?_) AllReadyH.nil
                refine stp_makeA rfl (.tmp 50) (.tmp 50) _ rfl elemInt (m + 1) rfl rfl (by omega) (by omega) rfl o3 (hBs.out _ q3) ?_
                intro bw u4 o4 eo4 bo4
                have q4 := q3.trans bo4
                refine hK.out _ _ trivial (fun _ => ?_)
                clear hK K
                try simp only [List.getElem_toArray, List.getElem_cons_succ, List.getElem_cons_zero, Act.put, List.setIfInBounds_toArray, List.set_cons_zero, List.set_cons_succ]
                refine wpAnyH_take (i := 10) (v := .slice (some ⟨bw, 0, none⟩) (m + 1) (m + 1)) rfl (by kernel_rfl) (by kernel_rfl) (by kernel_rfl) (fun _ _ _ h => h) (Or.inl ⟨by rfl, by intro wx hx; go_simp⟩) (by assumption) ?_
                try simp only [List.getElem_toArray, List.getElem_cons_succ, List.getElem_cons_zero, Act.put, List.setIfInBounds_toArray, List.set_cons_zero, List.set_cons_succ]
                refine wpAnyH_take (i := 11) (v := .slice (some ⟨bl, 0, none⟩) (m + 1) cl) rfl (by kernel_rfl) (by kernel_rfl) (by kernel_rfl) (fun _ _ _ h => h) (Or.inl ⟨by rfl, by intro wx hx; go_simp⟩) (by assumption) ?_
                try simp only [List.getElem_toArray, List.getElem_cons_succ, List.getElem_cons_zero, Act.put, List.setIfInBounds_toArray, List.set_cons_zero, List.set_cons_succ]
                refine wpAnyH_take (i := 12) (v := .slice (some ⟨bs, 0, none⟩) (m + 1) (m + 1)) rfl (by kernel_rfl) (by kernel_rfl) (by kernel_rfl) (fun _ _ _ h => h) (Or.inl ⟨by rfl, by intro wx hx; go_simp⟩) (by assumption) ?_
                try simp only [List.getElem_toArray, List.getElem_cons_succ, List.getElem_cons_zero, Act.put, List.setIfInBounds_toArray, List.set_cons_zero, List.set_cons_succ]
                refine wpAnyH_done (by kernel_rfl) ?_ _
                go_wp2_with fail
                go_meet
                exact ⟨bw, bl, cl, bs, rfl, rfl, rfl, o4.perm (by first | exact prm3.1 | exact prm3.2.1 | exact prm3.2.2.1 | exact prm3.2.2.2.1 | exact prm3.2.2.2.2.1 | exact prm3.2.2.2.2.2), q4⟩
          · skip
            refine stp_makeA rfl (.tmp 57) (.tmp 57) _ rfl elemBool (m + 1) rfl rfl (by omega) (by omega) rfl o0 (hBs.out _ q0) ?_
            intro bs u1 o1 eo1 bo1
            have q1 := q0.trans bo1
            refine hK.out _ _ trivial (fun _ => ?_)
            clear hK K
            try simp only [List.getElem_toArray, List.getElem_cons_succ, List.getElem_cons_zero, Act.put, List.setIfInBounds_toArray, List.set_cons_zero, List.set_cons_succ]
            refine wpAnyH_ready (rs := [2, 3]) (by kernel_rfl) (by simp) ?_
            refine AllReadyH.cons rfl (fun K hK => ?_) (AllReadyH.cons rfl (fun K hK => ?_) AllReadyH.nil)
            · skip
              refine stp_makeA rfl (.tmp 50) (.tmp 50) _ rfl elemInt (m + 1) rfl rfl (by omega) (by omega) rfl o1 (hBs.out _ q1) ?_
              intro bw u2 o2 eo2 bo2
              have q2 := q1.trans bo2
              refine hK.out _ _ trivial (fun _ => ?_)
              clear hK K
              try simp only [List.getElem_toArray, List.getElem_cons_succ, List.getElem_cons_zero, Act.put, List.setIfInBounds_toArray, List.set_cons_zero, List.set_cons_succ]
              refine wpAnyH_ready (rs := [3]) (by kernel_rfl) (by simp) ?_
              refine AllReadyH.cons rfl (fun K hK => ?_) AllReadyH.nil
              go_simp
              have hlit := litOne u2 (x := 1152921504606846976) (by unfold I64; omega)
              have elit : Ext u2 (u2.alloc (.cells #[.int .i64 1152921504606846976] 3)) := inferInstance
              have o3 := o2.ext (e := elit)
              have q3 := q2.alloc (hBs.out _ q2) (.cells #[.int .i64 1152921504606846976] 3)
              refine hK.out _ _ trivial (fun _ => ?_)
              clear hK K
              try simp only [List.getElem_toArray, List.getElem_cons_succ, List.getElem_cons_zero, Act.put, List.setIfInBounds_toArray, List.set_cons_zero, List.set_cons_succ]
              obtain ⟨blit, hblit⟩ : ∃ b, b = u2.heap.size := ⟨_, rfl⟩
              rw [← hblit] at hlit ⊢
              replace hblit := hid hblit
              generalize u2.alloc (.cells #[.int .i64 1152921504606846976] 3) = u3 at *
              have elu3 : Ext u3 u3 := Ext.refl _
              refine wpAnyH_ready (rs := [6]) (by kernel_rfl) (by simp) ?_
              refine AllReadyH.cons rfl (fun K hK => ?_) AllReadyH.nil
              go_simp
              have helit : Ext u3 u3 := elu3
              go_at_call 28
              have hRp := repA_any (w0 := u3) (w := u3) (n := m + 1) hlit (by omega) (by omega)
              rw [show ((m + 1 : Nat) : Int) = (m : Int) + 1 from rfl] at hRp
              with_reducible refine hRp.mono ?_
              rintro e u4 ⟨bl, cl, rfl, hO, eu4⟩
              have o4 := hO _ _ o3 (hBs.out _ q3)
              have q4 := q3.trans (eu4.below.mono (hBs.out _ q3))
              go_wp2_with fail
              refine hK.out _ _ trivial (fun _ => ?_)
              clear hK K
              try simp only [List.getElem_toArray, List.getElem_cons_succ, List.getElem_cons_zero, Act.put, List.setIfInBounds_toArray, List.set_cons_zero, List.set_cons_succ]
              refine wpAnyH_take (i := 10) (v := .slice (some ⟨bw, 0, none⟩) (m + 1) (m + 1)) rfl (by kernel_rfl) (by kernel_rfl) (by kernel_rfl) (fun _ _ _ h => h) (Or.inl ⟨by rfl, by intro wx hx; go_simp⟩) (by assumption) ?_
              try simp only [List.getElem_toArray, List.getElem_cons_succ, List.getElem_cons_zero, Act.put, List.setIfInBounds_toArray, List.set_cons_zero, List.set_cons_succ]
              refine wpAnyH_take (i := 11) (v := .slice (some ⟨bl, 0, none⟩) (m + 1) cl) rfl (by kernel_rfl) (by kernel_rfl) (by kernel_rfl) (fun _ _ _ h => h) (Or.inl ⟨by rfl, by intro wx hx; go_simp⟩) (by assumption) ?_
              try simp only [List.getElem_toArray, List.getElem_cons_succ, List.getElem_cons_zero, Act.put, List.setIfInBounds_toArray, List.set_cons_zero, List.set_cons_succ]
              refine wpAnyH_take (i := 12) (v := .slice (some ⟨bs, 0, none⟩) (m + 1) (m + 1)) rfl (by kernel_rfl) (by kernel_rfl) (by kernel_rfl) (fun _ _ _ h => h) (Or.inl ⟨by rfl, by intro wx hx; go_simp⟩) (by assumption) ?_
              try simp only [List.getElem_toArray, List.getElem_cons_succ, List.getElem_cons_zero, Act.put, List.setIfInBounds_toArray, List.set_cons_zero, List.set_cons_succ]
              refine wpAnyH_done (by kernel_rfl) ?_ _
              go_wp2_with fail
              go_meet
              exact ⟨bw, bl, cl, bs, rfl, rfl, rfl, o4.perm (by first | exact prm3.1 | exact prm3.2.1 | exact prm3.2.2.1 | exact prm3.2.2.2.1 | exact prm3.2.2.2.2.1 | exact prm3.2.2.2.2.2), q4⟩
            · skip
              go_simp
              have hlit := litOne u1 (x := 1152921504606846976) (by unfold I64; omega)
              have elit : Ext u1 (u1.alloc (.cells #[.int .i64 1152921504606846976] 3)) := inferInstance
              have o2 := o1.ext (e := elit)
              have q2 := q1.alloc (hBs.out _ q1) (.cells #[.int .i64 1152921504606846976] 3)
              refine hK.out _ _ trivial (fun _ => ?_)
              clear hK K
              try simp only [List.getElem_toArray, List.getElem_cons_succ, List.getElem_cons_zero, Act.put, List.setIfInBounds_toArray, List.set_cons_zero, List.set_cons_succ]
              obtain ⟨blit, hblit⟩ : ∃ b, b = u1.heap.size := ⟨_, rfl⟩
              rw [← hblit] at hlit ⊢
              replace hblit := hid hblit
              generalize u1.alloc (.cells #[.int .i64 1152921504606846976] 3) = u2 at *
              have elu2 : Ext u2 u2 := Ext.refl _
              refine wpAnyH_ready (rs := [2, 6]) (by kernel_rfl) (by simp) ?_
              refine AllReadyH.cons rfl (fun K hK => ?_) (AllReadyH.cons rfl (fun K hK => ?_) AllReadyH.nil)
              · skip
                refine stp_makeA rfl (.tmp 50) (.tmp 50) _ rfl elemInt (m + 1) rfl rfl (by omega) (by omega) rfl o2 (hBs.out _ q2) ?_
                intro bw u3 o3 eo3 bo3
                have q3 := q2.trans bo3
                refine hK.out _ _ trivial (fun _ => ?_)
                clear hK K
                try simp only [List.getElem_toArray, List.getElem_cons_succ, List.getElem_cons_zero, Act.put, List.setIfInBounds_toArray, List.set_cons_zero, List.set_cons_succ]
                refine wpAnyH_ready (rs := [6]) (by kernel_rfl) (by simp) ?_
                refine AllReadyH.cons rfl (fun K hK => ?_) AllReadyH.nil
                go_simp
                have helit : Ext u2 u3 := eo3
                go_at_call 28
                have hRp := repA_any (w0 := u2) (w := u3) (n := m + 1) hlit (by omega) (by omega)
                rw [show ((m + 1 : Nat) : Int) = (m : Int) + 1 from rfl] at hRp
                with_reducible refine hRp.mono ?_
                rintro e u4 ⟨bl, cl, rfl, hO, eu4⟩
                have o4 := hO _ _ o3 (hBs.out _ q3)
                have q4 := q3.trans (eu4.below.mono (hBs.out _ q3))
                go_wp2_with fail
                refine hK.out _ _ trivial (fun _ => ?_)
                clear hK K
                try simp only [List.getElem_toArray, List.getElem_cons_succ, List.getElem_cons_zero, Act.put, List.setIfInBounds_toArray, List.set_cons_zero, List.set_cons_succ]
                refine wpAnyH_take (i := 10) (v := .slice (some ⟨bw, 0, none⟩) (m + 1) (m + 1)) rfl (by kernel_rfl) (by kernel_rfl) (by kernel_rfl) (fun _ _ _ h => h) (Or.inl ⟨by rfl, by intro wx hx; go_simp⟩) (by assumption) ?_
                try simp only [List.getElem_toArray, List.getElem_cons_succ, List.getElem_cons_zero, Act.put, List.setIfInBounds_toArray, List.set_cons_zero, List.set_cons_succ]
                refine wpAnyH_take (i := 11) (v := .slice (some ⟨bl, 0, none⟩) (m + 1) cl) rfl (by kernel_rfl) (by kernel_rfl) (by kernel_rfl) (fun _ _ _ h => h) (Or.inl ⟨by rfl, by intro wx hx; go_simp⟩) (by assumption) ?_
                try simp only [List.getElem_toArray, List.getElem_cons_succ, List.getElem_cons_zero, Act.put, List.setIfInBounds_toArray, List.set_cons_zero, List.set_cons_succ]
                refine wpAnyH_take (i := 12) (v := .slice (some ⟨bs, 0, none⟩) (m + 1) (m + 1)) rfl (by kernel_rfl) (by kernel_rfl) (by kernel_rfl) (fun _ _ _ h => h) (Or.inl ⟨by rfl, by intro wx hx; go_simp⟩) (by assumption) ?_
                try simp only [List.getElem_toArray, List.getElem_cons_succ, List.getElem_cons_zero, Act.put, List.setIfInBounds_toArray, List.set_cons_zero, List.set_cons_succ]
                refine wpAnyH_done (by kernel_rfl) ?_ _
                go_wp2_with fail
                go_meet
                exact ⟨bw, bl, cl, bs, rfl, rfl, rfl, o4.perm (by first | exact prm3.1 | exact prm3.2.1 | exact prm3.2.2.1 | exact prm3.2.2.2.1 | exact prm3.2.2.2.2.1 | exact prm3.2.2.2.2.2), q4⟩
              · skip
                go_simp
                have helit : Ext u2 u2 := elu2
                go_at_call 28
                have hRp := repA_any (w0 := u2) (w := u2) (n := m + 1) hlit (by omega) (by omega)
                rw [show ((m + 1 : Nat) : Int) = (m : Int) + 1 from rfl] at hRp
                with_reducible refine hRp.mono ?_
                rintro e u3 ⟨bl, cl, rfl, hO, eu3⟩
                have o3 := hO _ _ o2 (hBs.out _ q2)
                have q3 := q2.trans (eu3.below.mono (hBs.out _ q2))
                go_wp2_with fail
                refine hK.out _ _ trivial (fun _ => ?_)
                clear hK K
                try simp only [List.getElem_toArray, List.getElem_cons_succ, List.getElem_cons_zero, Act.put, List.setIfInBounds_toArray, List.set_cons_zero, List.set_cons_succ]
                refine wpAnyH_ready (rs := [2]) (by kernel_rfl) (by simp) ?_
                refine AllReadyH.cons rfl (fun K hK => ?_) AllReadyH.nil
                refine stp_makeA rfl (.tmp 50) (.tmp 50) _ rfl elemInt (m + 1) rfl rfl (by omega) (by omega) rfl o3 (hBs.out _ q3) ?_
                intro bw u4 o4 eo4 bo4
                have q4 := q3.trans bo4
                refine hK.out _ _ trivial (fun _ => ?_)
                clear hK K
                try simp only [List.getElem_toArray, List.getElem_cons_succ, List.getElem_cons_zero, Act.put, List.setIfInBounds_toArray, List.set_cons_zero, List.set_cons_succ]
                refine wpAnyH_take (i := 10) (v := .slice (some ⟨bw, 0, none⟩) (m + 1) (m + 1)) rfl (by kernel_rfl) (by kernel_rfl) (by kernel_rfl) (fun _ _ _ h => h) (Or.inl ⟨by rfl, by intro wx hx; go_simp⟩) (by assumption) ?_
                try simp only [List.getElem_toArray, List.getElem_cons_succ, List.getElem_cons_zero, Act.put, List.setIfInBounds_toArray, List.set_cons_zero, List.set_cons_succ]
                refine wpAnyH_take (i := 11) (v := .slice (some ⟨bl, 0, none⟩) (m + 1) cl) rfl (by kernel_rfl) (by kernel_rfl) (by kernel_rfl) (fun _ _ _ h => h) (Or.inl ⟨by rfl, by intro wx hx; go_simp⟩) (by assumption) ?_
                try simp only [List.getElem_toArray, List.getElem_cons_succ, List.getElem_cons_zero, Act.put, List.setIfInBounds_toArray, List.set_cons_zero, List.set_cons_succ]
                refine wpAnyH_take (i := 12) (v := .slice (some ⟨bs, 0, none⟩) (m + 1) (m + 1)) rfl (by kernel_rfl) (by kernel_rfl) (by kernel_rfl) (fun _ _ _ h => h) (Or.inl ⟨by rfl, by intro wx hx; go_simp⟩) (by assumption) ?_
                try simp only [List.getElem_toArray, List.getElem_cons_succ, List.getElem_cons_zero, Act.put, List.setIfInBounds_toArray, List.set_cons_zero, List.set_cons_succ]
                refine wpAnyH_done (by kernel_rfl) ?_ _
                go_wp2_with fail
                go_meet
                exact ⟨bw, bl, cl, bs, rfl, rfl, rfl, o4.perm (by first | exact prm3.1 | exact prm3.2.1 | exact prm3.2.2.1 | exact prm3.2.2.2.1 | exact prm3.2.2.2.2.1 | exact prm3.2.2.2.2.2), q4⟩
        case rest => as_aux_lemma =>
          obtain ⟨bw, bl, cl, bs, rfl, rfl, rfl, own, hb⟩ := hcut
          clear ownA bA'
          obtain ⟨ro1, hro1⟩ : ∃ f, f = updN ro 0 (i + 1) := ⟨_, rfl⟩
          rw [← hro1] at own hI
          have h10 := hid (show ro1 0 ≠ 0 by rw [hro1]; show (if 0 = 0 then i + 1 else _) ≠ 0; rw [if_pos rfl]; omega)
          replace hro1 := hid hro1
          go_upto_region 12 with fail
          go_loopg [10] (cntU (fun _ => false) (m + 1)) (fun gk q wr => ∃ (a : Nat) (u v : Nat → Int) (wy : Nat → Nat) (le : Nat → Int) (us : Nat → Bool) (rk : Nat → Nat), q = .int .i64 (a : Nat) ∧ a ≤ m ∧ gk = cntU us (m + 1) ∧ Hid (HI cc n m (i + 1) u v ro1 wy le us a rk) ∧ Hid (ro1 a ≠ 0) ∧ Own wr B [iA bl (m + 1) cl le, nA bw (m + 1) (m + 1) wy, bA bs (m + 1) (m + 1) us, nA br (m + 1) (m + 1) ro1, iA bu (n + 1) (n + 1) u, iA bv (m + 1) (m + 1) v] ∧ Below B w wr)
          case atStart => exact ⟨0, u, v, _, _, _, _, rfl, by omega, rfl, hI, h10, own, hb⟩
          case round =>
            clear own hb hI h10
            obtain ⟨a, u, v, wy, le, us, rk, rfl, ham, hgk, hI, hra, own, hb⟩ := hrel
            obtain ⟨wo, rfl⟩ : ∃ y : World, y = wr := ⟨_, rfl⟩
            obtain ⟨hru, hrv⟩ := hI.out.range hnm (by omega) hlt hcb2.out
            have hgn := hid (show cntU (updB us a) (m + 1) < gk by rw [hgk]; exact cntU_upd.2 (by omega) hI.out.atu)
            replace hgk := hid hgk
            obtain ⟨r, hr⟩ : ∃ r, ro1 a = r + 1 := ⟨ro1 a - 1, by have := hra.out; omega⟩
            have hrn : r < n := by
              by_cases e : a = 0
              · rw [e, hI.out.top] at hr; omega
              · have := hI.out.rows a (by omega) ham; omega
            obtain ⟨x1, f1⟩ := own.aAt (k := 2) rfl (j := a) (by omega)
            have own5 := own.bSet (k := 2) rfl a
            have b5 := hb.setCell (p := ⟨bs, a, none⟩) (own.aLt (k := 2) rfl).1 (.bool true)
            clear own hb
            go_upto_region 13 with fail
            generalize (wo.setCell ⟨bs, a, none⟩ (.bool true)) = w5 at *
            clear x1 f1
            obtain ⟨x2, _⟩ := own5.aAt (k := 3) rfl (j := a) (by omega)
            rw [hr] at x2
            replace hru := hid hru
            replace hrv := hid hrv
            have hur := hru.out (r + 1) (by omega) (by omega)
            replace hr := hid hr
            go_wp2_with fail
            go_loopw [15, 16, 17] (fun dv tv jv wr => ∃ (t tt : Nat) (d : Int) (wy2 : Nat → Nat) (le2 : Nat → Int), 1 ≤ t ∧ t ≤ m + 1 ∧ tt ≤ m ∧ jv = .int .i64 (t : Nat) ∧ tv = .int .i64 (tt : Nat) ∧ dv = .int .i64 d ∧ Hid (HP cc m u v ro1 wy le us a wy2 le2 d tt t) ∧ Own wr B [iA bl (m + 1) cl le2, nA bw (m + 1) (m + 1) wy2, bA bs (m + 1) (m + 1) (updB us a), nA br (m + 1) (m + 1) ro1, iA bu (n + 1) (n + 1) u, iA bv (m + 1) (m + 1) v] ∧ Below B w wr) (fun _ _ jv _ => m + 1 - (intOf jv).toNat)
            case atStart => exact ⟨1, 0, _, _, _, by omega, by omega, by omega, rfl, rfl, rfl, hid HP.start, own5, b5⟩
            case round =>
              clear own5 b5 x2
              obtain ⟨t, tt, d, wy2, le2, ht1, htm, hto, rfl, rfl, rfl, hP, own, hb⟩ := hrel
              obtain ⟨wq, rfl⟩ : ∃ y : World, y = wr := ⟨_, rfl⟩
              by_cases hlt2 : t ≤ m
              · obtain ⟨xs, _⟩ := own.aAt (k := 2) rfl (j := t) (by omega)
                cases hu : updB us a t with
                | true =>
                  have hut : us t = true ∨ t = a := by
                    have h2 : (if t = a then true else us t) = true := hu
                    by_cases e : t = a
                    · exact Or.inr e
                    · rw [if_neg e] at h2; exact Or.inl h2
                  have hP2 := hid (hP.out.skip hut)
                  rw [hu] at xs
                  clear hut
                  replace hu := hid hu
                  go_wp2_with fail
                  go_roundw
                  case rel => exact ⟨t + 1, tt, d, wy2, le2, by omega, by omega, by omega, by go_num, rfl, rfl, hP2, own, hb⟩
                  case measure => simp [intOf]; omega
                | false =>
                  have hu2 : us t = false ∧ t ≠ a := by
                    have h2 : (if t = a then true else us t) = false := hu
                    by_cases e : t = a
                    · rw [if_pos e] at h2; cases h2
                    · rw [if_neg e] at h2; exact ⟨h2, e⟩
                  obtain ⟨q, rfl⟩ : ∃ z, t = z + 1 := ⟨t - 1, by omega⟩
                  rw [hu] at xs
                  obtain ⟨y1, g1⟩ := own.aAt (k := 0) rfl (j := q + 1) (by omega)
                  obtain ⟨y2, g2⟩ := own.aAt (k := 1) rfl (j := q + 1) (by omega)
                  obtain ⟨y3, _⟩ := own.aAt (k := 4) rfl (j := r + 1) (by omega)
                  obtain ⟨y4, _⟩ := own.aAt (k := 5) rfl (j := q + 1) (by omega)
                  obtain ⟨bb, ob, mb, z1, z2⟩ := hcell.out wq (Ext.trans ‹Ext w0 w› (hEx.out _ hb)) r q hrn (by omega)
                  have hcv := hcb.out r q hrn (by omega)
                  have hvv := hrv.out (q + 1) (by omega) (by omega)
                  have hkc : cc (ro1 a) (q + 1) - u (ro1 a) - v (q + 1) = c r q - u (r + 1) - v (q + 1) := by rw [hr.out, hcc1.out]
                  have hN : ∀ wy3 le3 d3 to3, _ := fun wy3 le3 d3 to3 => HP.next (wy3 := wy3) (le3 := le3) (d3 := d3) (to3 := to3) hP.out ht1 hu2.1 hu2.2
                  rw [hkc] at hN
                  clear hu2 hkc
                  replace hN := hid hN
                  replace hu := hid hu
                  generalize hU : u (r + 1) = U at y3 hur hN
                  generalize hV : v (q + 1) = V at y4 hvv hN
                  generalize hW : c r q = cv at z2 hcv hN
                  generalize hL : le2 (q + 1) = L at y1 hN
                  replace hU := hid hU
                  replace hV := hid hV
                  replace hW := hid hW
                  replace hL := hid hL
                  have s1 : IntKind.i64.wrap (cv - U) = cv - U := IntWalk.i64_in _ (by omega)
                  have s2 : IntKind.i64.wrap (cv - U - V) = cv - U - V := IntWalk.i64_in _ (by omega)
                  go_upto_region 19 with (go_quiet (fail))
                  clear s1 s2 y3 y4 z1 z2 xs
                  generalize hwq : World.drewN wq _ = w6
                  have eq6 : Ext wq w6 := by rw [← hwq]; infer_instance
                  have own6 := own.ext (w' := w6)
                  have b6 : Below B w w6 := hb.trans (eq6.below.mono (hBs.out _ hb))
                  have y1 := eq6.cell y1
                  have y2 := eq6.cell y2
                  replace g1 := (own6.aAt (k := 0) rfl (j := q + 1) (by omega)).2
                  replace g2 := (own6.aAt (k := 1) rfl (j := q + 1) (by omega)).2
                  replace hwq := hid hwq
                  clear own hb eq6
                  obtain ⟨X, hX⟩ : ∃ x, x = cv - U - V := ⟨_, rfl⟩
                  rw [← hX] at hN ⊢
                  replace hX := hid hX
                  clear hcv hvv hur
                  by_cases hlx : X < L
                  · have hN1 := hid (hN.out (updN wy2 (q + 1) a) (updI le2 (q + 1) X))
                    have own7 := own6.iSet (k := 0) rfl (q + 1) X
                    have own8 := own7.nSet (k := 1) rfl (q + 1) a
                    have b7 := b6.setCell (p := ⟨bl, q + 1, none⟩) (own6.aLt (k := 0) rfl).1 (.int .i64 X)
                    have b8 := b7.setCell (p := ⟨bw, q + 1, none⟩) (own7.aLt (k := 1) rfl).1 (.int .i64 (a : Nat))
                    obtain ⟨y2', g2'⟩ := own7.aAt (k := 1) rfl (j := q + 1) (by omega)
                    have g3 := hid (show ∀ d3 to3, _ from fun d3 to3 => (hN1.out d3 to3 (fun _ => ⟨rfl, rfl⟩) (fun h => by omega)))
                    clear own6 b6 own7 b7 hN
                    go_upto_region 21 with fail
                    generalize ((w6.setCell ⟨bl, q + 1, none⟩ (.int .i64 X)).setCell ⟨bw, q + 1, none⟩ (.int .i64 (a : Nat))) = w8 at *
                    obtain ⟨y5, _⟩ := own8.aAt (k := 0) rfl (j := q + 1) (by omega)
                    have e5 : updI le2 (q + 1) X (q + 1) = X := if_pos rfl
                    rw [e5] at y5
                    by_cases hD : X < d
                    · have hN2 := hid (g3.out X (q + 1) (fun _ => ⟨e5.symm, rfl⟩) (fun h => by rw [e5] at h; omega))
                      clear e5 g3
                      go_wp2_with fail
                      go_roundw
                      case rel => exact ⟨q + 1 + 1, q + 1, X, _, _, by omega, by omega, by omega, by go_num, rfl, rfl, hN2, own8, b8⟩
                      case measure => simp [intOf]; omega
                    · have hN2 := hid (g3.out d tt (fun h => by rw [e5] at h; omega) (fun _ => ⟨rfl, rfl⟩))
                      clear e5 g3
                      go_wp2_with fail
                      go_roundw
                      case rel => exact ⟨q + 1 + 1, tt, d, _, _, by omega, by omega, by omega, by go_num, rfl, rfl, hN2, own8, b8⟩
                      case measure => simp [intOf]; omega
                  · have e5 : le2 (q + 1) = L := hL.out
                    have g3 := hid (show ∀ d3 to3, _ from fun d3 to3 => (hN.out wy2 le2 d3 to3 (fun h => absurd h (by omega)) (fun _ => ⟨rfl, rfl⟩)))
                    clear hN
                    by_cases hD : L < d
                    · have hN2 := hid (g3.out L (q + 1) (fun _ => ⟨e5.symm, rfl⟩) (fun h => by rw [e5] at h; omega))
                      clear e5 g3
                      go_wp2_with fail
                      go_roundw
                      case rel => exact ⟨q + 1 + 1, q + 1, L, _, _, by omega, by omega, by omega, by go_num, rfl, rfl, hN2, own6, b6⟩
                      case measure => simp [intOf]; omega
                    · have hN2 := hid (g3.out d tt (fun h => by rw [e5] at h; omega) (fun _ => ⟨rfl, rfl⟩))
                      clear e5 g3
                      go_wp2_with fail
                      go_roundw
                      case rel => exact ⟨q + 1 + 1, tt, d, _, _, by omega, by omega, by omega, by go_num, rfl, rfl, hN2, own6, b6⟩
                      case measure => simp [intOf]; omega
              · have htm2 : t = m + 1 := by omega
                subst htm2
                obtain ⟨⟨t1, t2, t3, t4, t5⟩, ⟨d0, d1⟩, hj, _⟩ := HP.fin hI.out hnm (by omega) hlt hcb2.out hra.out hP.out
                have hjl := hid (show ∀ j, j ≤ m → updB us a j = false → 1 ≤ j ∧ d ≤ le2 j ∧ le2 j ≤ 2147483648 from fun j hj' hu => by
                  have h2 : (if j = a then true else us j) = false := hu
                  by_cases e : j = a
                  · rw [if_pos e] at h2; cases h2
                  · rw [if_neg e] at h2
                    have h1j : 1 ≤ j := by
                      refine Nat.one_le_iff_ne_zero.2 fun e0 => ?_
                      rw [e0] at h2 e
                      exact e ((hI.out.first h2).1).symm
                    obtain ⟨g1, g2, _⟩ := hj j h1j hj' h2 e
                    exact ⟨h1j, g1, g2⟩)
                have hinj := hid (hI.out.inj2 hra.out)
                have hv0 := hI.out.v0
                have hui := hru.out (i + 1) (by omega) (by omega)
                have hrb := hid (show ∀ j, j ≤ m → updB us a j = true → ∃ s, ro1 j = s ∧ 1 ≤ s ∧ s ≤ n ∧ 0 ≤ u s ∧ u s ≤ 1073741824 from fun j hj' hu => by
                  have h0 : ro1 j ≠ 0 := by
                    have h2 : (if j = a then true else us j) = true := hu
                    by_cases e : j = a
                    · rw [e]; exact hra.out
                    · rw [if_neg e] at h2; exact hI.out.full j hj' h2
                  have h1 : ro1 j ≤ n := by
                    by_cases e : j = 0
                    · rw [e, hI.out.top]; omega
                    · have := hI.out.rows j (by omega) hj'; omega
                  exact ⟨ro1 j, rfl, by omega, h1, hru.out (ro1 j) (by omega) h1⟩)
                have hvb := hid (show ∀ j, j ≤ m → -70000000000 * 1000 ≤ v j ∧ v j ≤ 0 from fun j hj' => by
                  by_cases e : j = 0
                  · rw [e]; omega
                  · have := hrv.out j (by omega) hj'; omega)
                replace hj := hid hj
                replace hv0 := hid hv0
                clear hui t5
                go_wp2_with fail
                go_loopw [121] (fun jv wr => ∃ (t : Nat) (u2 v2 le3 : Nat → Int), t ≤ m + 1 ∧ jv = .int .i64 (t : Nat) ∧ Hid (HQ m u v ro1 (updB us a) le2 d u2 v2 le3 t) ∧ Own wr B [iA bl (m + 1) cl le3, nA bw (m + 1) (m + 1) wy2, bA bs (m + 1) (m + 1) (updB us a), nA br (m + 1) (m + 1) ro1, iA bu (n + 1) (n + 1) u2, iA bv (m + 1) (m + 1) v2] ∧ Below B w wr) (fun jv _ => m + 1 - (intOf jv).toNat)
                case atStart => exact ⟨0, u, v, le2, by omega, rfl, hid HQ.start, own, hb⟩
                case round =>
                  clear own hb
                  obtain ⟨t, u2, v2, le3, htm3, rfl, hQ, own, hb⟩ := hrel
                  obtain ⟨wz, rfl⟩ : ∃ y : World, y = wr := ⟨_, rfl⟩
                  by_cases hlt3 : t < m + 1
                  · obtain ⟨xs, _⟩ := own.aAt (k := 2) rfl (j := t) hlt3
                    cases hu : updB us a t with
                    | true =>
                      obtain ⟨s, hs, s1, s2, s3, s4⟩ := hrb.out t (by omega) hu
                      have hvt := hvb.out t (by omega)
                      obtain ⟨k1, k2, hQ2⟩ := hQ.out.yes hu fun j hj hju e => by have := hinj.out j t (by omega) (by omega) hju hu e; omega
                      rw [hs] at k1 hQ2
                      rw [hu] at xs
                      obtain ⟨y1, _⟩ := own.aAt (k := 3) rfl (j := t) hlt3
                      obtain ⟨y2, g2⟩ := own.aAt (k := 4) rfl (j := s) (by omega)
                      rw [hs] at y1
                      rw [k1] at y2
                      have own7 := own.iSet (k := 4) rfl s (u s + d)
                      have b7 := hb.setCell (p := ⟨bu, s, none⟩) (own.aLt (k := 4) rfl).1 (.int .i64 (u s + d))
                      have own8 := own7.iSet (k := 5) rfl t (v t - d)
                      have b8 := b7.setCell (p := ⟨bv, t, none⟩) (own7.aLt (k := 5) rfl).1 (.int .i64 (v t - d))
                      obtain ⟨y3, g3⟩ := own7.aAt (k := 5) rfl (j := t) hlt3
                      rw [k2] at y3
                      replace hQ2 := hid hQ2
                      replace hu := hid hu
                      replace hs := hid hs
                      have hsn : s < n + 1 := by omega
                      clear own hb k1 k2 b7
                      go_upto_region 28 with fail
                      generalize (wz.setCell ⟨bu, s, none⟩ (.int .i64 (u s + d))) = w7 at *
                      clear y1 y2 g2 own7
                      go_wp2_with fail
                      go_roundw
                      case rel => exact ⟨t + 1, _, _, _, by omega, by go_num, hQ2, own8, b8⟩
                      case measure => simp [intOf]; omega
                    | false =>
                      obtain ⟨l1, l2, l3⟩ := hjl.out t (by omega) hu
                      obtain ⟨k1, hQ2⟩ := hQ.out.no hu
                      rw [hu] at xs
                      obtain ⟨y1, g1⟩ := own.aAt (k := 0) rfl (j := t) hlt3
                      rw [k1] at y1
                      have own7 := own.iSet (k := 0) rfl t (le2 t - d)
                      have b7 := hb.setCell (p := ⟨bl, t, none⟩) (own.aLt (k := 0) rfl).1 (.int .i64 (le2 t - d))
                      replace hQ2 := hid hQ2
                      replace hu := hid hu
                      clear own hb k1
                      go_wp2_with fail
                      go_roundw
                      case rel => exact ⟨t + 1, _, _, _, by omega, by go_num, hQ2, own7, b7⟩
                      case measure => simp [intOf]; omega
                  · have htm4 : t = m + 1 := by omega
                    subst htm4
                    obtain ⟨rk2, hI2⟩ := hI.out.step hnm (by omega) hlt hcb2.out hra.out hP.out hQ.out
                    replace hI2 := hid hI2
                    clear hQ hP hI hjl hinj hrb hvb hj hv0
                    obtain ⟨x9, _⟩ := own.aAt (k := 3) rfl (j := tt) (by omega)
                    by_cases hz : ro1 tt = 0
                    · rw [hz] at x9
                      have hA := hid (HA.start hI2.out (by omega) hz)
                      replace hz := hid hz
                      go_upto_region 33 with fail
                      go_loopg [10] (rk2 tt) (fun gk q wr => ∃ (h : Nat) (ro2 : Nat → Nat), q = .int .i64 (h : Nat) ∧ h ≤ m ∧ gk = rk2 h ∧ Hid (HA cc n m (i + 1) u2 v2 ro1 wy2 (updB us a) rk2 ro2 h) ∧ Own wr B [iA bl (m + 1) cl le3, nA bw (m + 1) (m + 1) wy2, bA bs (m + 1) (m + 1) (updB us a), nA br (m + 1) (m + 1) ro2, iA bu (n + 1) (n + 1) u2, iA bv (m + 1) (m + 1) v2] ∧ Below B w wr)
                      case atStart => exact ⟨tt, ro1, rfl, by omega, rfl, hA, own, hb⟩
                      case round =>
                        clear own hb hA x9
                        obtain ⟨h, ro2, rfl, hhm, hgk2, hA, own, hb⟩ := hrel
                        obtain ⟨wz2, rfl⟩ : ∃ y : World, y = wr := ⟨_, rfl⟩
                        by_cases h0 : h = 0
                        · subst h0
                          have hS2 := hid (HA.end hI2.out hnm (by omega) hlt hcb2.out hA.out)
                          clear hgk2
                          go_wp2_with fail
                          go_roundw
                          case rel => exact ⟨i + 1, u2, v2, ro2, by omega, by go_num, hS2, own.tail.tail.tail, hb⟩
                          case measure => simp [intOf]; omega
                        · obtain ⟨hA2, hlt9⟩ := hA.out.step hI2.out h0
                          have hwm := hA2.hom
                          have hgn2 := hid (show rk2 (wy2 h) < gk by omega)
                          replace hA2 := hid hA2
                          have h0' : ((h : Int) != 0) = true := by simp; omega
                          obtain ⟨y1, _⟩ := own.aAt (k := 1) rfl (j := h) (by omega)
                          obtain ⟨y2, _⟩ := own.aAt (k := 3) rfl (j := wy2 h) (by omega)
                          obtain ⟨y3, g3⟩ := own.aAt (k := 3) rfl (j := h) (by omega)
                          have own7 := own.nSet (k := 3) rfl h (ro2 (wy2 h))
                          have b7 := hb.setCell (p := ⟨br, h, none⟩) (own.aLt (k := 3) rfl).1 (.int .i64 (ro2 (wy2 h) : Nat))
                          obtain ⟨y4, _⟩ := own7.aAt (k := 1) rfl (j := h) (by omega)
                          replace hgk2 := hid hgk2
                          replace h0 := hid h0
                          have hwm2 : wy2 h < m + 1 := by omega
                          have hhm2 : h < m + 1 := by omega
                          generalize hq1 : wy2 h = p1 at *
                          generalize hq2 : ro2 p1 = p2 at *
                          replace hq1 := hid hq1
                          replace hq2 := hid hq2
                          clear own hb hlt9
                          go_upto_region 35 with fail
                          generalize (wz2.setCell ⟨br, h, none⟩ (.int .i64 (p2 : Nat))) = w7 at *
                          clear y1 y2 y3 g3
                          go_wp2_with fail
                          go_roundg (rk2 p1)
                          case rel => exact ⟨p1, _, rfl, by omega, rfl, hA2, own7, b7⟩
                          case measure => exact hgn2.out
                    · have hz' : (((ro1 tt : Nat) : Int) == 0) = false := by simp; omega
                      replace hz := hid hz
                      go_wp2_with fail
                      go_roundg (cntU (updB us a) (m + 1))
                      case rel => exact ⟨tt, u2, v2, wy2, le3, updB us a, rk2, rfl, by omega, rfl, hI2, hz, own, hb⟩
                      case measure => exact hgn.out
      · have hin : i = n := by omega
        subst hin
        clear hlt
        go_upto_region 38 with (at_make; refine wpList_makeA rfl _ _ _ rfl elemInt i rfl rfl (by omega) (by omega) rfl own hBo ?_; intro bo w3 own3 e3 b3)
        have b4 := hb.trans b3
        clear own hb hBo e3 b3 hi
        have hsum0 : Hid ((0 : Int) = sgTo (fun l => if ro (l + 1) ≠ 0 then c (ro (l + 1) - 1) l else 0) 0) := hid rfl
        go_loopw [21, 22] (fun sv jv wr => ∃ (t : Nat) (o : Nat → Int) (s : Int), t ≤ m ∧ jv = .int .i64 ((t + 1 : Nat) : Int) ∧ sv = .int .i64 s ∧ Hid (s = sgTo (fun l => if ro (l + 1) ≠ 0 then c (ro (l + 1) - 1) l else 0) t) ∧ Hid (∀ j, 1 ≤ j → j ≤ t → ro j ≠ 0 → o (ro j - 1) = (j : Int) - 1) ∧ (0 ≤ s ∧ s ≤ 1073741824 * t) ∧ Own wr B [iA bo i i o, nA br (m + 1) (m + 1) ro, iA bu (i + 1) (i + 1) u, iA bv (m + 1) (m + 1) v] ∧ Below B w wr) (fun _ jv _ => m + 1 - (intOf jv).toNat)
        case atStart => exact ⟨0, _, 0, by omega, rfl, rfl, hsum0, hid (fun j h1 h2 => by omega), by omega, own3, b4⟩
        case round =>
          clear own3 b4 hsum0
          obtain ⟨t, o, s, htm, rfl, rfl, hsum, ho, ⟨hs0, hs1⟩, own, hb⟩ := hrel
          obtain ⟨wq, rfl⟩ : ∃ y : World, y = wr := ⟨_, rfl⟩
          by_cases hlt2 : t + 1 ≤ m
          · obtain ⟨x1, _⟩ := own.aAt (k := 1) rfl (j := t + 1) (by omega)
            have htm1 : t + 1 < m + 1 := by omega
            by_cases hz : ro (t + 1) = 0
            · rw [hz] at x1
              have hsum2 := hid (show s = sgTo (fun l => if ro (l + 1) ≠ 0 then c (ro (l + 1) - 1) l else 0) (t + 1) by rw [sgTo, ← hsum.out, if_neg (by simpa using hz)]; omega)
              have ho2 := hid (show ∀ j, 1 ≤ j → j ≤ t + 1 → ro j ≠ 0 → o (ro j - 1) = (j : Int) - 1 from fun j h1 h2 h3 => ho.out j h1 (Nat.le_of_lt_succ (Nat.lt_of_le_of_ne h2 fun e => h3 (by rw [e]; exact hz))) h3)
              replace hz := hid hz
              go_wp2_with fail
              go_roundw
              case rel => exact ⟨t + 1, o, s, by omega, by go_num, rfl, hsum2, ho2, by omega, own, hb⟩
              case measure => simp [intOf]; omega
            · obtain ⟨r, hr⟩ : ∃ r, ro (t + 1) = r + 1 := ⟨ro (t + 1) - 1, by omega⟩
              have hrn : r < i := by have := hS.out.rows (t + 1) (by omega) (by omega); omega
              obtain ⟨bb, ob, mb, z1, z2⟩ := hcell.out wq (Ext.trans ‹Ext w0 w› (hEx.out _ hb)) r t hrn (by omega)
              have hcv := hcb.out r t hrn (by omega)
              obtain ⟨y1, g1⟩ := own.aAt (k := 0) rfl (j := r) hrn
              have own7 := own.iSet (k := 0) rfl r (t : Int)
              have b7 := hb.setCell (p := ⟨bo, r, none⟩) (own.aLt (k := 0) rfl).1 (.int .i64 (t : Int))
              have e7 : Ext w (wq.setCell ⟨bo, r, none⟩ (.int .i64 (t : Int))) := hEx.out _ b7
              obtain ⟨bb', ob', mb', z3, z4⟩ := hcell.out (wq.setCell ⟨bo, r, none⟩ (.int .i64 (t : Int))) (Ext.trans ‹Ext w0 w› e7) r t hrn (by omega)
              obtain ⟨x2, _⟩ := own7.aAt (k := 1) rfl (j := t + 1) (by omega)
              rw [hr] at x1 x2
              have hsum2 := hid (show s + c r t = sgTo (fun l => if ro (l + 1) ≠ 0 then c (ro (l + 1) - 1) l else 0) (t + 1) by rw [sgTo, ← hsum.out, if_pos hz, hr]; rfl)
              have ho2 := hid (show ∀ j, 1 ≤ j → j ≤ t + 1 → ro j ≠ 0 → updI o r (t : Int) (ro j - 1) = (j : Int) - 1 from fun j h1 h2 h3 => by
                show (if ro j - 1 = r then (t : Int) else o (ro j - 1)) = _
                by_cases e : j = t + 1
                · rw [e, hr, Nat.add_sub_cancel, if_pos rfl]; omega
                · have : ro j - 1 ≠ r := fun e2 => e (hS.out.inj j (t + 1) h1 (by omega) (by omega) hlt2 h3 (by omega))
                  rw [if_neg this]
                  exact ho.out j h1 (by omega) h3)
              replace hz := hid hz
              replace hr := hid hr
              generalize hW : c r t = cv at z2 z4 hcv hsum2
              replace hW := hid hW
              clear own hb
              go_upto_region 42 with fail
              generalize (wq.setCell ⟨bo, r, none⟩ (.int .i64 (t : Int))) = w7 at *
              clear x1 y1 g1 z1 z2
              go_wp2_with fail
              go_roundw
              case rel => exact ⟨t + 1, _, _, by omega, by go_num, rfl, hsum2, ho2, by omega, own7, b7⟩
              case measure => simp [intOf]; omega
          · have htm2 : t = m := by omega
            subst htm2
            have hS2 := hS.out
            rw [hce.out] at hS2
            obtain ⟨f1, f2, f3⟩ := hS2.fin (f := fun r => (o r).toNat) (fun j h1 h2 h3 => by
              have := ho.out j h1 h2 h3
              show (o (ro j - 1)).toNat = j - 1
              omega)
            have hof : ∀ r, r < i → o r = (((o r).toNat : Nat) : Int) := fun r hr => by
              obtain ⟨j, a1, a2, a3⟩ := hS.out.surj (r + 1) (by omega) (by omega)
              have := ho.out j a1 a2 (by omega)
              rw [a3, Nat.add_sub_cancel] at this
              omega
            have hrow : iA bo i i o = intRowOf 3 (.slice (some ⟨bo, 0, none⟩) ((List.range i).map fun r => (((o r).toNat : Nat) : Int)).length i) ((List.range i).map fun r => (((o r).toNat : Nat) : Int)) := by
              have h1 : iA bo i i o = iA bo i i (fun r => (((o r).toNat : Nat) : Int)) := aR_congr fun j hj => congrArg (Value.int .i64) (hof j hj)
              rw [h1]
              unfold intRowOf
              simp only [List.length_map, List.length_range, List.map_map]
              rfl
            have hres : IsInts wq (.slice (some ⟨bo, 0, none⟩) i i) ((List.range i).map fun r => (((o r).toNat : Nat) : Int)) := by
              rw [hrow] at own
              have := own.reads (by rw [List.length_map, List.length_range]; unfold Short; omega) (fun x hx => by
                obtain ⟨r, hr, rfl⟩ := List.mem_map.1 hx
                have h2 := (f1.1 r (List.mem_range.1 hr)).1
                have h3 : (o r).toNat < t := h2
                unfold I64
                omega)
              rw [List.length_map, List.length_range] at this
              exact this
            have hsf := hid (hsum.out.trans f3)
            have hpb : ∀ r, r < i → (fun r => u (r + 1)) r ≤ 1073741824 := fun r hr => hS.out.umax (r + 1) (by omega) (by omega)
            replace f1 := hid f1
            replace f2 := hid f2
            replace hof := hid hof
            replace hrow := hid hrow
            replace hpb := hid hpb
            clear f3
            have eF := hEx.out _ hb
            go_wp2_with fail
            refine bodyPost_ret (v := .tuple #[.slice (some ⟨bo, 0, none⟩) i i, .int .i64 s]) (by simp [results, Tryz.results25, go_sem]) rfl ?_
            exact ⟨_, _, _, _, by rw [hsf.out], hres, f1.out, f2.out, hpb.out, eF⟩
end Go.Proofs.YtllfchcocgdcjaaGreat
