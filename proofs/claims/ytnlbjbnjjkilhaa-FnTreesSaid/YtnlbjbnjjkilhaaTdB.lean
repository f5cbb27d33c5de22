/- The draw of a metric and of a row of its points: DrawIsIsometry. -/
import Derived.Test.YtnlbjbnjjkilhaaTdA
namespace Go.Proofs.Ytnlbjbnjjkilhaa
open Go.RowKit

theorem SmQ.ins {T : List Int} (h : SmQ T) (k : Nat) {x : Int} (hx : -1 ≤ x ∧ x ≤ 100) : SmQ (T.take k ++ [x] ++ T.drop k) := fun y hy => by
  rcases List.mem_append.1 hy with h1 | h1
  · rcases List.mem_append.1 h1 with h2 | h2
    · exact h y (List.mem_of_mem_take h2)
    · rw [List.mem_singleton.1 h2]; exact hx
  · exact h y (List.mem_of_mem_drop h1)
/-- what the draw gives -/
def DIPost (w : World) (e : Ending) (w' : World) : Prop :=
  ∃ d m tv M T, e = .returned (.tuple #[.agg #[.slice d (M : List (List Int)).length m], tv]) ∧ MOk M ∧ (T : List Int).length ≤ 8 ∧ IsMet w' (.agg #[.slice d M.length m]) M ∧ IsInts w' tv T ∧ Ext w w'
set_option maxHeartbeats 6400000 in
set_option maxRecDepth 100000 in
theorem drawIS_any {w0 w : World} [Ext w0 w] {vc : Value} {nb : Nat} (hc : IsBytes w0 vc nb) :
    Calls Try.prog 11 #[vc] w (DIPost w) := by
  obtain ⟨ac, cc, rfl⟩ := hc.form
  go_enter Try.func11, Try.ntmps11
  go_upto_region 2 with fail
  have hsz : w0.heap.size ≤ w.heap.size := (‹Ext w0 w›).size
  have own1 := CurAt.startT (vc := .slice ac nb cc) (((Own.nil w w.heap.size).lit 29 1 1 #[.slice none 0 0] (Nat.le_refl _) (by unfold maxLen; omega) rfl)) (by simp)
  have e1 : Ext w ((w.alloc (.cells #[.slice none 0 0] 29)).alloc (.cells #[.slice ac nb cc, .int .i64 0, .int .u64 0] 50)) := inferInstance
  have hcs : (w.alloc (.cells #[.slice none 0 0] 29)).heap.size = w.heap.size + 1 := by simp
  rw [hcs] at own1
  obtain ⟨r, hr⟩ : ∃ r, r = w.heap.size := ⟨_, rfl⟩
  obtain ⟨c, hcd⟩ : ∃ c, c = w.heap.size + 1 := ⟨_, rfl⟩
  obtain ⟨B, hBd⟩ : ∃ B, B = w.heap.size := ⟨_, rfl⟩
  have own1' : CurAt ((w.alloc (.cells #[.slice none 0 0] 29)).alloc (.cells #[.slice ac nb cc, .int .i64 0, .int .u64 0] 50)) B c (.slice ac nb cc) 0 [boxRow 29 1 r [.slice none 0 0]] := by
    rw [hBd, hcd, hr]; exact own1
  have hwB : w0.heap.size ≤ B := by omega
  have b1 : Below B w ((w.alloc (.cells #[.slice none 0 0] 29)).alloc (.cells #[.slice ac nb cc, .int .i64 0, .int .u64 0] 50)) := by rw [hBd]; exact e1.below
  rw [← hcd, ← hr]
  generalize (w.alloc (.cells #[.slice none 0 0] 29)).alloc (.cells #[.slice ac nb cc, .int .i64 0, .int .u64 0] 50) = w1 at *
  replace hr := hid hr
  replace hcd := hid hcd
  have hBs := hid (show ∀ u, Below B w u → B ≤ u.heap.size from fun u h => by rw [hBd]; exact h.size)
  have hEw := hid (show ∀ u, Below B w u → Ext w u from fun u h => ⟨by rw [← hBd]; exact h⟩)
  replace hBd := hid hBd
  have hE : ∀ u, Below B w u → Ext w0 u := fun u h => ⟨(‹Ext w0 w›).below.trans (h.mono hwB)⟩
  replace hE := hid hE
  clear own1 e1 hcs
  have e1 : Ext w0 w1 := hE.out _ b1
  go_wp2_with fail
  with_reducible refine (metricD_any (w0 := w0) hc own1' hwB (by omega) (by omega)).mono ?_
  rintro e w2 ⟨d, m, vs, M, a2, rfl, hvs, hM, h21, h22, own2, b2⟩
  have b2' := b1.trans b2
  have hB2 := hBs.out _ b2'
  have own4 := own2.box 29 1 #[.slice d M.length m] hB2 rfl
  have b4 := b2'.alloc hB2 (.cells #[.slice d M.length m] 29)
  clear own1' b1 b2 b2' e1 own2
  go_upto_region 3 with fail
  obtain ⟨q, hq⟩ : ∃ q, q = w2.heap.size := ⟨_, rfl⟩
  rw [← hq] at own4 ⊢
  replace hq := hid hq
  generalize w2.alloc (.cells #[.slice d M.length m] 29) = w4 at *
  have hB4 := hBs.out _ b4
  have own5 := CurAt.lit (e := 3) (n := 0) (cs := #[]) own4 [] hB4 rfl rfl (by simp)
  have b5 := b4.alloc hB4 (.cells #[] 3)
  clear own4 b4
  go_upto_region 4 with fail
  obtain ⟨g0, hg0⟩ : ∃ q, q = w4.heap.size := ⟨_, rfl⟩
  rw [← hg0] at own5 ⊢
  replace hg0 := hid hg0
  generalize w4.alloc (.cells #[] 3) = w5 at *
  have hM7 : M.length ≤ 7 := hM.1
  have hMh := hid hM
  have hvh := hid hvs
  clear hM hvs
  have own5' : CurAt w5 B c (.slice ac nb cc) a2 (lsQ (some ⟨g0, 0, none⟩) 0 0 [] :: boxRow 29 1 q [.slice d M.length m] :: (rowsOf 24 3 (.slice d M.length m) vs M ++ [boxRow 29 1 r [.slice none 0 0]])) := own5
  clear own5
  have hrd := hid (show ∀ u pl a', CurAt u B c (.slice ac nb cc) a' (pl :: boxRow 29 1 q [.slice d M.length m] :: (rowsOf 24 3 (.slice d M.length m) vs M ++ [boxRow 29 1 r [.slice none 0 0]])) → u.cell? ⟨q, 0, none⟩ = some (.slice d M.length m) from fun u pl a' h => (h.at (.tail _ (.head _)) (j := 0) (by omega)).1)
  obtain ⟨R0, hR0⟩ : ∃ R0, R0 = boxRow 29 1 q [.slice d M.length m] :: (rowsOf 24 3 (.slice d M.length m) vs M ++ [boxRow 29 1 r [.slice none 0 0]]) := ⟨_, rfl⟩
  rw [← hR0] at own5' hrd
  replace hR0 := hid hR0
  have hS0 := hid SmQ.nil
  go_wp2_with fail
  go_loopw [6, 7] (fun tv xv wr => ∃ (i : Nat) (dT : Option Addr) (pT : Nat) (T : List Int) (a' : Int), tv = .slice dT i pT ∧ xv = .int .i64 i ∧ i ≤ M.length ∧ Hid (T.length = i) ∧ Hid (SmQ T) ∧ a2 ≤ a' ∧ a' ≤ a2 + 2 * (i : Int) ∧ CurAt wr B c (.slice ac nb cc) a' (lsQ dT i pT T :: R0) ∧ Below B w wr) (fun _ xv _ => M.length - (intOf xv).toNat)
  case atStart => exact ⟨0, _, _, [], a2, rfl, rfl, by omega, hid rfl, hS0, by omega, by omega, own5', b5⟩
  case round =>
    clear own5' b5 hS0
    obtain ⟨i, dT, pT, T, a6, rfl, rfl, hin, hTl, hTs, h61, h62, own, hb⟩ := hrel
    obtain ⟨wo, rfl⟩ : ∃ y : World, y = wr := ⟨_, rfl⟩
    have xq := hrd.out _ _ _ own
    by_cases hlt : i < M.length
    · have e0o := hE.out _ hb
      go_wp2_with fail
      with_reducible refine (pick_any (w0 := w0) hc own hwB (by omega) (by omega)).mono ?_
      rintro e wq ⟨k0, a8, rfl, hk0, _, hk2, h81, h82, own8, b8⟩
      have hk3 := hk2 (by omega)
      obtain ⟨k, rfl⟩ := Int.eq_ofNat_of_zero_le hk0
      have hki : k ≤ i := by omega
      have bq := hb.trans b8
      clear own hb e0o b8 hk2 hk0 xq
      obtain ⟨s8, o8⟩ := own8
      have ownq : Own wq B (intRowOf 3 (.slice dT i pT) T :: curRow c (.slice ac nb cc) a8 s8 :: R0) := by
        rw [← lsQ_row hTl.out]; exact o8.perm (List.Perm.swap _ _ _)
      obtain ⟨RR, hRR⟩ : ∃ RR, RR = curRow c (.slice ac nb cc) a8 s8 :: R0 := ⟨_, rfl⟩
      rw [← hRR] at ownq
      have hback := hid (show ∀ u rw, Own u B (rw :: RR) → CurAt u B c (.slice ac nb cc) a8 (rw :: R0) from fun u rw h => ⟨s8, by rw [hRR] at h; exact h.perm (List.Perm.swap _ _ _)⟩)
      replace hRR := hid hRR
      have hTi := hid (show ∀ y ∈ T, I64 y from fun y hy => by have := hTs.out y hy; unfold I64; omega)
      have hTsh := hid (show Short T.length from by rw [hTl.out]; unfold Short; omega)
      have htkl := hid (show (T.take k).length = k by rw [List.length_take, hTl.out]; omega)
      have hrO : IsInts wq (.slice dT i pT) T := ownq.reads hTsh.out hTi.out
      have hcp : i ≤ pT := by have := hrO.cap; rw [hTl.out] at this; exact this
      have hform := hid (own_some (n := i) (c := pT) (d := dT) (xs := T) (by have h := ownq; rw [← lsQ_row hTl.out] at h; exact h))
      have hT1000 : T.length ≤ 1000 := by rw [hTl.out]; omega
      have hk4 : ¬ i < k := by omega
      have hk5 : ¬ pT < i := by omega
      clear o8 hrO
      by_cases hkm : pT = k
      · have hik : i = k := by omega
        rw [← hkm] at hik
        subst hkm
        subst hik
        have hrd := hid (show ∀ z, Own z B (intRowOf 3 (.slice dT i i) T :: RR) → IsInts z (.slice dT i i) (T.take i) ∧ IsInts z (.slice dT 0 0) (T.drop i) from fun z hz => by
          have h := hz.reads hTsh.out hTi.out
          refine ⟨h.cut (by rw [hTl.out]; omega), ?_⟩
          rw [List.drop_eq_nil_of_le (by rw [hTl.out]; omega)]
          exact ints_zero _ _ _)
        clear hform
        go_wp2_with (go_quiet (fail))
        refine region_held_from (w0 := wq) (S := fun _ => True) (by kernel_rfl) (fun _ _ => trivial) (fun wd ed hHeld0 => ?_)
        have ownd := ownq.ext (w' := wd)
        have bd : Below B w wd := bq.trans (ed.below.mono (hBs.out _ bq))
        have hlB : B ≤ wd.heap.size := hBs.out _ bd
        refine wpAnyH_take (i := 1) (v := .slice dT i i) rfl (by kernel_rfl) (by kernel_rfl) (by kernel_rfl) (fun _ _ _ h => h) (Or.inl ⟨by rfl, by intro wx hx; go_simp⟩) (by assumption) ?_
        try simp only [List.getElem_toArray, List.getElem_cons_succ, List.getElem_cons_zero, Act.put, List.setIfInBounds_toArray, List.set_cons_zero, List.set_cons_succ]
        refine wpAnyH_take (i := 2) (v := .int .i64 i) rfl (by kernel_rfl) (by kernel_rfl) (by kernel_rfl) (fun _ _ _ h => h) (Or.inl ⟨by rfl, by intro wx hx; go_simp⟩) (by assumption) ?_
        try simp only [List.getElem_toArray, List.getElem_cons_succ, List.getElem_cons_zero, Act.put, List.setIfInBounds_toArray, List.set_cons_zero, List.set_cons_succ]
        refine wpAnyH_take (i := 3) (v := .slice dT i i) rfl (by kernel_rfl) (by kernel_rfl) (by kernel_rfl) (fun _ _ _ h => h) (Or.inl ⟨by rfl, by intro wx hx; go_simp⟩) (by assumption) ?_
        try simp only [List.getElem_toArray, List.getElem_cons_succ, List.getElem_cons_zero, Act.put, List.setIfInBounds_toArray, List.set_cons_zero, List.set_cons_succ]
        refine wpAnyH_take (i := 5) (v := .int .i64 i) rfl (by kernel_rfl) (by kernel_rfl) (by kernel_rfl) (fun _ _ _ h => h) (Or.inl ⟨by rfl, by intro wx hx; go_simp⟩) (by assumption) ?_
        try simp only [List.getElem_toArray, List.getElem_cons_succ, List.getElem_cons_zero, Act.put, List.setIfInBounds_toArray, List.set_cons_zero, List.set_cons_succ]
        refine wpAnyH_take (i := 8) (v := .slice dT i i) rfl (by kernel_rfl) (by kernel_rfl) (by kernel_rfl) (fun _ _ _ h => h) (Or.inl ⟨by rfl, by intro wx hx; go_simp⟩) (by assumption) ?_
        try simp only [List.getElem_toArray, List.getElem_cons_succ, List.getElem_cons_zero, Act.put, List.setIfInBounds_toArray, List.set_cons_zero, List.set_cons_succ]
        refine wpAnyH_take (i := 9) (v := .int .i64 i) rfl (by kernel_rfl) (by kernel_rfl) (by kernel_rfl) (fun _ _ _ h => h) (Or.inl ⟨by rfl, by intro wx hx; go_simp⟩) (by assumption) ?_
        try simp only [List.getElem_toArray, List.getElem_cons_succ, List.getElem_cons_zero, Act.put, List.setIfInBounds_toArray, List.set_cons_zero, List.set_cons_succ]
        refine wpAnyH_take (i := 10) (v := .slice dT 0 0) rfl (by kernel_rfl) (by kernel_rfl) (by kernel_rfl) (fun _ _ _ h => h) (Or.inl ⟨by rfl, by intro wx hx; go_simp⟩) (by assumption) ?_
        try simp only [List.getElem_toArray, List.getElem_cons_succ, List.getElem_cons_zero, Act.put, List.setIfInBounds_toArray, List.set_cons_zero, List.set_cons_succ]
        refine wpAnyH_ready (rs := [0, 6]) (by kernel_rfl) (by simp) ?_
        refine AllReadyH.cons rfl (fun K hK => ?_) (AllReadyH.cons rfl (fun K hK => ?_) AllReadyH.nil)
        · go_simp
          have oE := ownd.lit 3 1 0 #[] hlB (by unfold maxLen; omega) rfl
          have bE : Below B w (wd.alloc (.cells #[] 3)) := bd.alloc hlB _
          refine hK.out _ _ trivial (fun _ => ?_)
          clear hK K
          try simp only [List.getElem_toArray, List.getElem_cons_succ, List.getElem_cons_zero, Act.put, List.setIfInBounds_toArray, List.set_cons_zero, List.set_cons_succ]
          generalize wd.alloc (.cells #[] 3) = wE at *
          generalize wd.heap.size = gE at *
          have hlE : B ≤ wE.heap.size := hBs.out _ bE
          refine wpAnyH_ready (rs := [4, 6]) (by kernel_rfl) (by simp) ?_
          refine AllReadyH.cons rfl (fun K hK => ?_) (AllReadyH.cons rfl (fun K hK => ?_) AllReadyH.nil)
          · refine stp_ints rfl (.tmp 27) (.tmp 30) 24 rfl elemInt rfl oE hlE rfl (hrd.out _ oE.tail).1 (by rw [htkl.out]; omega) ?_
            intro v4 w4 ho4 hb4
            have o4 : Own w4 B (intRowOf 3 v4 (T.take i) :: intRowOf 3 (.slice dT i i) T :: RR) := by
              have h := own_more (xs := []) ho4 rfl
              rwa [List.nil_append] at h
            obtain ⟨d4, n4, m4, hv4, hn4⟩ := own_formN o4
            subst hv4
            have b4 := bE.trans hb4
            have hl4 : B ≤ w4.heap.size := hBs.out _ b4
            refine hK.out _ _ trivial (fun _ => ?_)
            clear hK K
            try simp only [List.getElem_toArray, List.getElem_cons_succ, List.getElem_cons_zero, Act.put, List.setIfInBounds_toArray, List.set_cons_zero, List.set_cons_succ]
            refine wpAnyH_ready (rs := [6]) (by kernel_rfl) (by simp) ?_
            refine AllReadyH.cons rfl (fun K hK => ?_) AllReadyH.nil
            go_simp
            have oL := o4.lit 3 1 1 #[.int .i64 i] hl4 (by unfold maxLen; omega) rfl
            have b6 : Below B w (w4.alloc (.cells #[.int .i64 i] 3)) := b4.alloc hl4 _
            refine hK.out _ _ trivial (fun _ => ?_)
            clear hK K
            try simp only [List.getElem_toArray, List.getElem_cons_succ, List.getElem_cons_zero, Act.put, List.setIfInBounds_toArray, List.set_cons_zero, List.set_cons_succ]
            generalize w4.alloc (.cells #[.int .i64 i] 3) = w6 at *
            generalize w4.heap.size = gl at *
            have o6 := oL.perm (List.Perm.swap _ _ _)
            refine wpAnyH_ready (rs := [7]) (by kernel_rfl) (by simp) ?_
            refine AllReadyH.cons rfl (fun K hK => ?_) AllReadyH.nil
            have c6 : w6.cell? ⟨gl, 0, none⟩ = some (.int .i64 i) := by
              have h := o6.tail.head.cellAt 0 (show 0 < 1 * 1 by omega)
              simpa using h
            refine stp_one rfl (.tmp 31) (.tmp 33) 24 rfl elemInt rfl o6 (hBs.out _ b6) (us := [.int .i64 i]) rfl rfl ?_ (by intro u hu; simp at hu; subst hu; rfl) (by simp; omega) (by simp; omega) ?_
            · intro jj u hj
              match jj, hj with
              | 0, hj => simp at hj; subst hj; exact c6
            intro v7 w7 ho7 hb7
            have o7 := own_grow1 ho7 rfl
            have b7 := b6.trans hb7
            obtain ⟨d7, n7, m7, hv7, hn7⟩ := own_formN o7
            subst hv7
            have r7 := (hrd.out _ o7.tail.tail).2
            refine hK.out _ _ trivial (fun _ => ?_)
            clear hK K
            try simp only [List.getElem_toArray, List.getElem_cons_succ, List.getElem_cons_zero, Act.put, List.setIfInBounds_toArray, List.set_cons_zero, List.set_cons_succ]
            refine wpAnyH_ready (rs := [11]) (by kernel_rfl) (by simp) ?_
            refine AllReadyH.cons rfl (fun K hK => ?_) AllReadyH.nil
            refine stp_ints rfl (.tmp 34) (.tmp 37) 24 rfl elemInt rfl o7 (hBs.out _ b7) rfl r7 (by simp; omega) ?_
            intro v8 w8 ho8 hb8
            have o8 := own_more ho8 rfl
            have b8 := b7.trans hb8
            obtain ⟨d8, n8, m8, hv8, hn8⟩ := own_formN o8
            subst hv8
            refine hK.out _ _ trivial (fun _ => ?_)
            clear hK K
            try simp only [List.getElem_toArray, List.getElem_cons_succ, List.getElem_cons_zero, Act.put, List.setIfInBounds_toArray, List.set_cons_zero, List.set_cons_succ]
            refine wpAnyH_take (i := 12) (v := .slice d8 n8 m8) rfl (by kernel_rfl) (by kernel_rfl) (by kernel_rfl) (fun _ _ _ h => h) (Or.inl ⟨by rfl, by intro wx hx; go_simp⟩) (by assumption) ?_
            try simp only [List.getElem_toArray, List.getElem_cons_succ, List.getElem_cons_zero, Act.put, List.setIfInBounds_toArray, List.set_cons_zero, List.set_cons_succ]
            refine wpAnyH_done (by kernel_rfl) ?_ _
            have hn8' : n8 = i + 1 := by
              have h := hn8.out
              rw [List.length_append, List.length_append, htkl.out, List.length_drop, List.length_singleton] at h
              have h2 := hTl.out
              omega
            subst hn8'
            have hn9 := hid hn8.out.symm
            have own9 := hback.out _ _ (o8.sub (List.Sublist.cons_cons _ (List.Sublist.cons _ (List.sublist_cons_self _ _))))
            go_wp2_with fail
            go_roundw
            case rel => exact ⟨i + 1, d8, m8, T.take i ++ [(i : Int)] ++ T.drop i, a8, rfl, by go_num, by omega, hn9, hid (hTs.out.ins _ ⟨by omega, by omega⟩), by omega, by omega, by rw [← lsQ_row hn9.out] at own9; exact own9, b8⟩
            case measure => simp [intOf]; omega
          · have oL := oE.lit 3 1 1 #[.int .i64 i] hlE (by unfold maxLen; omega) rfl
            have b5 : Below B w (wE.alloc (.cells #[.int .i64 i] 3)) := bE.alloc hlE _
            go_simp
            refine hK.out _ _ trivial (fun _ => ?_)
            clear hK K
            try simp only [List.getElem_toArray, List.getElem_cons_succ, List.getElem_cons_zero, Act.put, List.setIfInBounds_toArray, List.set_cons_zero, List.set_cons_succ]
            generalize wE.alloc (.cells #[.int .i64 i] 3) = w5 at *
            generalize wE.heap.size = gl at *
            have o5 := oL.perm (List.Perm.swap _ _ _)
            refine wpAnyH_ready (rs := [4]) (by kernel_rfl) (by simp) ?_
            refine AllReadyH.cons rfl (fun K hK => ?_) AllReadyH.nil
            refine stp_ints rfl (.tmp 27) (.tmp 30) 24 rfl elemInt rfl o5 (hBs.out _ b5) rfl (hrd.out _ o5.tail.tail).1 (by rw [htkl.out]; omega) ?_
            intro v4 w6 ho4 hb4
            have o6 := own_more (xs := []) ho4 rfl
            rw [List.nil_append] at o6
            obtain ⟨d4, n4, m4, hv4, hn4⟩ := own_formN o6
            subst hv4
            have b6 := b5.trans hb4
            refine hK.out _ _ trivial (fun _ => ?_)
            clear hK K
            try simp only [List.getElem_toArray, List.getElem_cons_succ, List.getElem_cons_zero, Act.put, List.setIfInBounds_toArray, List.set_cons_zero, List.set_cons_succ]
            refine wpAnyH_ready (rs := [7]) (by kernel_rfl) (by simp) ?_
            refine AllReadyH.cons rfl (fun K hK => ?_) AllReadyH.nil
            have c6 : w6.cell? ⟨gl, 0, none⟩ = some (.int .i64 i) := by
              have h := o6.tail.head.cellAt 0 (show 0 < 1 * 1 by omega)
              simpa using h
            refine stp_one rfl (.tmp 31) (.tmp 33) 24 rfl elemInt rfl o6 (hBs.out _ b6) (us := [.int .i64 i]) rfl rfl ?_ (by intro u hu; simp at hu; subst hu; rfl) (by simp; omega) (by simp; omega) ?_
            · intro jj u hj
              match jj, hj with
              | 0, hj => simp at hj; subst hj; exact c6
            intro v7 w7 ho7 hb7
            have o7 := own_grow1 ho7 rfl
            have b7 := b6.trans hb7
            obtain ⟨d7, n7, m7, hv7, hn7⟩ := own_formN o7
            subst hv7
            have r7 := (hrd.out _ o7.tail.tail).2
            refine hK.out _ _ trivial (fun _ => ?_)
            clear hK K
            try simp only [List.getElem_toArray, List.getElem_cons_succ, List.getElem_cons_zero, Act.put, List.setIfInBounds_toArray, List.set_cons_zero, List.set_cons_succ]
            refine wpAnyH_ready (rs := [11]) (by kernel_rfl) (by simp) ?_
            refine AllReadyH.cons rfl (fun K hK => ?_) AllReadyH.nil
            refine stp_ints rfl (.tmp 34) (.tmp 37) 24 rfl elemInt rfl o7 (hBs.out _ b7) rfl r7 (by simp; omega) ?_
            intro v8 w8 ho8 hb8
            have o8 := own_more ho8 rfl
            have b8 := b7.trans hb8
            obtain ⟨d8, n8, m8, hv8, hn8⟩ := own_formN o8
            subst hv8
            refine hK.out _ _ trivial (fun _ => ?_)
            clear hK K
            try simp only [List.getElem_toArray, List.getElem_cons_succ, List.getElem_cons_zero, Act.put, List.setIfInBounds_toArray, List.set_cons_zero, List.set_cons_succ]
            refine wpAnyH_take (i := 12) (v := .slice d8 n8 m8) rfl (by kernel_rfl) (by kernel_rfl) (by kernel_rfl) (fun _ _ _ h => h) (Or.inl ⟨by rfl, by intro wx hx; go_simp⟩) (by assumption) ?_
            try simp only [List.getElem_toArray, List.getElem_cons_succ, List.getElem_cons_zero, Act.put, List.setIfInBounds_toArray, List.set_cons_zero, List.set_cons_succ]
            refine wpAnyH_done (by kernel_rfl) ?_ _
            have hn8' : n8 = i + 1 := by
              have h := hn8.out
              rw [List.length_append, List.length_append, htkl.out, List.length_drop, List.length_singleton] at h
              have h2 := hTl.out
              omega
            subst hn8'
            have hn9 := hid hn8.out.symm
            have own9 := hback.out _ _ (o8.sub (List.Sublist.cons_cons _ (List.Sublist.cons _ (List.sublist_cons_self _ _))))
            go_wp2_with fail
            go_roundw
            case rel => exact ⟨i + 1, d8, m8, T.take i ++ [(i : Int)] ++ T.drop i, a8, rfl, by go_num, by omega, hn9, hid (hTs.out.ins _ ⟨by omega, by omega⟩), by omega, by omega, by rw [← lsQ_row hn9.out] at own9; exact own9, b8⟩
            case measure => simp [intOf]; omega
        · have oL := ownd.lit 3 1 1 #[.int .i64 i] hlB (by unfold maxLen; omega) rfl
          have bL : Below B w (wd.alloc (.cells #[.int .i64 i] 3)) := bd.alloc hlB _
          go_simp
          refine hK.out _ _ trivial (fun _ => ?_)
          clear hK K
          try simp only [List.getElem_toArray, List.getElem_cons_succ, List.getElem_cons_zero, Act.put, List.setIfInBounds_toArray, List.set_cons_zero, List.set_cons_succ]
          generalize wd.alloc (.cells #[.int .i64 i] 3) = wL at *
          generalize wd.heap.size = gl at *
          have hlL : B ≤ wL.heap.size := hBs.out _ bL
          refine wpAnyH_ready (rs := [0]) (by kernel_rfl) (by simp) ?_
          refine AllReadyH.cons rfl (fun K hK => ?_) AllReadyH.nil
          go_simp
          have o5 := oL.lit 3 1 0 #[] hlL (by unfold maxLen; omega) rfl
          have b5 : Below B w (wL.alloc (.cells #[] 3)) := bL.alloc hlL _
          refine hK.out _ _ trivial (fun _ => ?_)
          clear hK K
          try simp only [List.getElem_toArray, List.getElem_cons_succ, List.getElem_cons_zero, Act.put, List.setIfInBounds_toArray, List.set_cons_zero, List.set_cons_succ]
          generalize wL.alloc (.cells #[] 3) = w5 at *
          generalize wL.heap.size = gE at *
          refine wpAnyH_ready (rs := [4]) (by kernel_rfl) (by simp) ?_
          refine AllReadyH.cons rfl (fun K hK => ?_) AllReadyH.nil
          refine stp_ints rfl (.tmp 27) (.tmp 30) 24 rfl elemInt rfl o5 (hBs.out _ b5) rfl (hrd.out _ o5.tail.tail).1 (by rw [htkl.out]; omega) ?_
          intro v4 w6 ho4 hb4
          have o6 := own_more (xs := []) ho4 rfl
          rw [List.nil_append] at o6
          obtain ⟨d4, n4, m4, hv4, hn4⟩ := own_formN o6
          subst hv4
          have b6 := b5.trans hb4
          refine hK.out _ _ trivial (fun _ => ?_)
          clear hK K
          try simp only [List.getElem_toArray, List.getElem_cons_succ, List.getElem_cons_zero, Act.put, List.setIfInBounds_toArray, List.set_cons_zero, List.set_cons_succ]
          refine wpAnyH_ready (rs := [7]) (by kernel_rfl) (by simp) ?_
          refine AllReadyH.cons rfl (fun K hK => ?_) AllReadyH.nil
          have c6 : w6.cell? ⟨gl, 0, none⟩ = some (.int .i64 i) := by
            have h := o6.tail.head.cellAt 0 (show 0 < 1 * 1 by omega)
            simpa using h
          refine stp_one rfl (.tmp 31) (.tmp 33) 24 rfl elemInt rfl o6 (hBs.out _ b6) (us := [.int .i64 i]) rfl rfl ?_ (by intro u hu; simp at hu; subst hu; rfl) (by simp; omega) (by simp; omega) ?_
          · intro jj u hj
            match jj, hj with
            | 0, hj => simp at hj; subst hj; exact c6
          intro v7 w7 ho7 hb7
          have o7 := own_grow1 ho7 rfl
          have b7 := b6.trans hb7
          obtain ⟨d7, n7, m7, hv7, hn7⟩ := own_formN o7
          subst hv7
          have r7 := (hrd.out _ o7.tail.tail).2
          refine hK.out _ _ trivial (fun _ => ?_)
          clear hK K
          try simp only [List.getElem_toArray, List.getElem_cons_succ, List.getElem_cons_zero, Act.put, List.setIfInBounds_toArray, List.set_cons_zero, List.set_cons_succ]
          refine wpAnyH_ready (rs := [11]) (by kernel_rfl) (by simp) ?_
          refine AllReadyH.cons rfl (fun K hK => ?_) AllReadyH.nil
          refine stp_ints rfl (.tmp 34) (.tmp 37) 24 rfl elemInt rfl o7 (hBs.out _ b7) rfl r7 (by simp; omega) ?_
          intro v8 w8 ho8 hb8
          have o8 := own_more ho8 rfl
          have b8 := b7.trans hb8
          obtain ⟨d8, n8, m8, hv8, hn8⟩ := own_formN o8
          subst hv8
          refine hK.out _ _ trivial (fun _ => ?_)
          clear hK K
          try simp only [List.getElem_toArray, List.getElem_cons_succ, List.getElem_cons_zero, Act.put, List.setIfInBounds_toArray, List.set_cons_zero, List.set_cons_succ]
          refine wpAnyH_take (i := 12) (v := .slice d8 n8 m8) rfl (by kernel_rfl) (by kernel_rfl) (by kernel_rfl) (fun _ _ _ h => h) (Or.inl ⟨by rfl, by intro wx hx; go_simp⟩) (by assumption) ?_
          try simp only [List.getElem_toArray, List.getElem_cons_succ, List.getElem_cons_zero, Act.put, List.setIfInBounds_toArray, List.set_cons_zero, List.set_cons_succ]
          refine wpAnyH_done (by kernel_rfl) ?_ _
          have hn8' : n8 = i + 1 := by
            have h := hn8.out
            rw [List.length_append, List.length_append, htkl.out, List.length_drop, List.length_singleton] at h
            have h2 := hTl.out
            omega
          subst hn8'
          have hn9 := hid hn8.out.symm
          have own9 := hback.out _ _ (o8.sub (List.Sublist.cons_cons _ (List.Sublist.cons _ (List.sublist_cons_self _ _))))
          go_wp2_with fail
          go_roundw
          case rel => exact ⟨i + 1, d8, m8, T.take i ++ [(i : Int)] ++ T.drop i, a8, rfl, by go_num, by omega, hn9, hid (hTs.out.ins _ ⟨by omega, by omega⟩), by omega, by omega, by rw [← lsQ_row hn9.out] at own9; exact own9, b8⟩
          case measure => simp [intOf]; omega
      · obtain ⟨g, rfl⟩ := hform.out (by omega)
        have hrd := hid (show ∀ z, Own z B (intRowOf 3 (.slice (some ⟨g, 0, none⟩) i pT) T :: RR) → IsInts z (.slice (some ⟨g, 0, none⟩) k pT) (T.take k) ∧ IsInts z (.slice (some ⟨g, k, none⟩) (i - k) (pT - k)) (T.drop k) from fun z hz => by
          have h := hz.reads hTsh.out hTi.out
          have h2 := h.tailAt (k := k) (by rw [hTl.out]; omega)
          rw [Nat.zero_add] at h2
          exact ⟨h.cut (by rw [hTl.out]; omega), h2⟩)
        have hk6 : ¬ pT < k := by omega
        go_wp2_with (go_quiet (fail))
        refine region_held_from (w0 := wq) (S := fun _ => True) (by kernel_rfl) (fun _ _ => trivial) (fun wd ed hHeld0 => ?_)
        have ownd := ownq.ext (w' := wd)
        have bd : Below B w wd := bq.trans (ed.below.mono (hBs.out _ bq))
        have hlB : B ≤ wd.heap.size := hBs.out _ bd
        refine wpAnyH_take (i := 1) (v := .slice (some ⟨g, 0, none⟩) i pT) rfl (by kernel_rfl) (by kernel_rfl) (by kernel_rfl) (fun _ _ _ h => h) (Or.inl ⟨by rfl, by intro wx hx; go_simp⟩) (by assumption) ?_
        try simp only [List.getElem_toArray, List.getElem_cons_succ, List.getElem_cons_zero, Act.put, List.setIfInBounds_toArray, List.set_cons_zero, List.set_cons_succ]
        refine wpAnyH_take (i := 2) (v := .int .i64 k) rfl (by kernel_rfl) (by kernel_rfl) (by kernel_rfl) (fun _ _ _ h => h) (Or.inl ⟨by rfl, by intro wx hx; go_simp⟩) (by assumption) ?_
        try simp only [List.getElem_toArray, List.getElem_cons_succ, List.getElem_cons_zero, Act.put, List.setIfInBounds_toArray, List.set_cons_zero, List.set_cons_succ]
        refine wpAnyH_take (i := 3) (v := .slice (some ⟨g, 0, none⟩) k pT) rfl (by kernel_rfl) (by kernel_rfl) (by kernel_rfl) (fun _ _ _ h => h) (Or.inl ⟨by rfl, by intro wx hx; go_simp⟩) (by assumption) ?_
        try simp only [List.getElem_toArray, List.getElem_cons_succ, List.getElem_cons_zero, Act.put, List.setIfInBounds_toArray, List.set_cons_zero, List.set_cons_succ]
        refine wpAnyH_take (i := 5) (v := .int .i64 i) rfl (by kernel_rfl) (by kernel_rfl) (by kernel_rfl) (fun _ _ _ h => h) (Or.inl ⟨by rfl, by intro wx hx; go_simp⟩) (by assumption) ?_
        try simp only [List.getElem_toArray, List.getElem_cons_succ, List.getElem_cons_zero, Act.put, List.setIfInBounds_toArray, List.set_cons_zero, List.set_cons_succ]
        refine wpAnyH_take (i := 8) (v := .slice (some ⟨g, 0, none⟩) i pT) rfl (by kernel_rfl) (by kernel_rfl) (by kernel_rfl) (fun _ _ _ h => h) (Or.inl ⟨by rfl, by intro wx hx; go_simp⟩) (by assumption) ?_
        try simp only [List.getElem_toArray, List.getElem_cons_succ, List.getElem_cons_zero, Act.put, List.setIfInBounds_toArray, List.set_cons_zero, List.set_cons_succ]
        refine wpAnyH_take (i := 9) (v := .int .i64 k) rfl (by kernel_rfl) (by kernel_rfl) (by kernel_rfl) (fun _ _ _ h => h) (Or.inl ⟨by rfl, by intro wx hx; go_simp⟩) (by assumption) ?_
        try simp only [List.getElem_toArray, List.getElem_cons_succ, List.getElem_cons_zero, Act.put, List.setIfInBounds_toArray, List.set_cons_zero, List.set_cons_succ]
        refine wpAnyH_take (i := 10) (v := .slice (some ⟨g, k, none⟩) (i - k) (pT - k)) rfl (by kernel_rfl) (by kernel_rfl) (by kernel_rfl) (fun _ _ _ h => h) (Or.inl ⟨by rfl, by intro wx hx; go_simp⟩) (by assumption) ?_
        try simp only [List.getElem_toArray, List.getElem_cons_succ, List.getElem_cons_zero, Act.put, List.setIfInBounds_toArray, List.set_cons_zero, List.set_cons_succ]
        refine wpAnyH_ready (rs := [0, 6]) (by kernel_rfl) (by simp) ?_
        refine AllReadyH.cons rfl (fun K hK => ?_) (AllReadyH.cons rfl (fun K hK => ?_) AllReadyH.nil)
        · go_simp
          have oE := ownd.lit 3 1 0 #[] hlB (by unfold maxLen; omega) rfl
          have bE : Below B w (wd.alloc (.cells #[] 3)) := bd.alloc hlB _
          refine hK.out _ _ trivial (fun _ => ?_)
          clear hK K
          try simp only [List.getElem_toArray, List.getElem_cons_succ, List.getElem_cons_zero, Act.put, List.setIfInBounds_toArray, List.set_cons_zero, List.set_cons_succ]
          generalize wd.alloc (.cells #[] 3) = wE at *
          generalize wd.heap.size = gE at *
          have hlE : B ≤ wE.heap.size := hBs.out _ bE
          refine wpAnyH_ready (rs := [4, 6]) (by kernel_rfl) (by simp) ?_
          refine AllReadyH.cons rfl (fun K hK => ?_) (AllReadyH.cons rfl (fun K hK => ?_) AllReadyH.nil)
          · refine stp_ints rfl (.tmp 27) (.tmp 30) 24 rfl elemInt rfl oE hlE rfl (hrd.out _ oE.tail).1 (by rw [htkl.out]; omega) ?_
            intro v4 w4 ho4 hb4
            have o4 : Own w4 B (intRowOf 3 v4 (T.take k) :: intRowOf 3 (.slice (some ⟨g, 0, none⟩) i pT) T :: RR) := by
              have h := own_more (xs := []) ho4 rfl
              rwa [List.nil_append] at h
            obtain ⟨d4, n4, m4, hv4, hn4⟩ := own_formN o4
            subst hv4
            have b4 := bE.trans hb4
            have hl4 : B ≤ w4.heap.size := hBs.out _ b4
            refine hK.out _ _ trivial (fun _ => ?_)
            clear hK K
            try simp only [List.getElem_toArray, List.getElem_cons_succ, List.getElem_cons_zero, Act.put, List.setIfInBounds_toArray, List.set_cons_zero, List.set_cons_succ]
            refine wpAnyH_ready (rs := [6]) (by kernel_rfl) (by simp) ?_
            refine AllReadyH.cons rfl (fun K hK => ?_) AllReadyH.nil
            go_simp
            have oL := o4.lit 3 1 1 #[.int .i64 i] hl4 (by unfold maxLen; omega) rfl
            have b6 : Below B w (w4.alloc (.cells #[.int .i64 i] 3)) := b4.alloc hl4 _
            refine hK.out _ _ trivial (fun _ => ?_)
            clear hK K
            try simp only [List.getElem_toArray, List.getElem_cons_succ, List.getElem_cons_zero, Act.put, List.setIfInBounds_toArray, List.set_cons_zero, List.set_cons_succ]
            generalize w4.alloc (.cells #[.int .i64 i] 3) = w6 at *
            generalize w4.heap.size = gl at *
            have o6 := oL.perm (List.Perm.swap _ _ _)
            refine wpAnyH_ready (rs := [7]) (by kernel_rfl) (by simp) ?_
            refine AllReadyH.cons rfl (fun K hK => ?_) AllReadyH.nil
            have c6 : w6.cell? ⟨gl, 0, none⟩ = some (.int .i64 i) := by
              have h := o6.tail.head.cellAt 0 (show 0 < 1 * 1 by omega)
              simpa using h
            refine stp_one rfl (.tmp 31) (.tmp 33) 24 rfl elemInt rfl o6 (hBs.out _ b6) (us := [.int .i64 i]) rfl rfl ?_ (by intro u hu; simp at hu; subst hu; rfl) (by simp; omega) (by simp; omega) ?_
            · intro jj u hj
              match jj, hj with
              | 0, hj => simp at hj; subst hj; exact c6
            intro v7 w7 ho7 hb7
            have o7 := own_grow1 ho7 rfl
            have b7 := b6.trans hb7
            obtain ⟨d7, n7, m7, hv7, hn7⟩ := own_formN o7
            subst hv7
            have r7 := (hrd.out _ o7.tail.tail).2
            refine hK.out _ _ trivial (fun _ => ?_)
            clear hK K
            try simp only [List.getElem_toArray, List.getElem_cons_succ, List.getElem_cons_zero, Act.put, List.setIfInBounds_toArray, List.set_cons_zero, List.set_cons_succ]
            refine wpAnyH_ready (rs := [11]) (by kernel_rfl) (by simp) ?_
            refine AllReadyH.cons rfl (fun K hK => ?_) AllReadyH.nil
            refine stp_ints rfl (.tmp 34) (.tmp 37) 24 rfl elemInt rfl o7 (hBs.out _ b7) rfl r7 (by simp; omega) ?_
            intro v8 w8 ho8 hb8
            have o8 := own_more ho8 rfl
            have b8 := b7.trans hb8
            obtain ⟨d8, n8, m8, hv8, hn8⟩ := own_formN o8
            subst hv8
            refine hK.out _ _ trivial (fun _ => ?_)
            clear hK K
            try simp only [List.getElem_toArray, List.getElem_cons_succ, List.getElem_cons_zero, Act.put, List.setIfInBounds_toArray, List.set_cons_zero, List.set_cons_succ]
            refine wpAnyH_take (i := 12) (v := .slice d8 n8 m8) rfl (by kernel_rfl) (by kernel_rfl) (by kernel_rfl) (fun _ _ _ h => h) (Or.inl ⟨by rfl, by intro wx hx; go_simp⟩) (by assumption) ?_
            try simp only [List.getElem_toArray, List.getElem_cons_succ, List.getElem_cons_zero, Act.put, List.setIfInBounds_toArray, List.set_cons_zero, List.set_cons_succ]
            refine wpAnyH_done (by kernel_rfl) ?_ _
            have hn8' : n8 = i + 1 := by
              have h := hn8.out
              rw [List.length_append, List.length_append, htkl.out, List.length_drop, List.length_singleton] at h
              have h2 := hTl.out
              omega
            subst hn8'
            have hn9 := hid hn8.out.symm
            have own9 := hback.out _ _ (o8.sub (List.Sublist.cons_cons _ (List.Sublist.cons _ (List.sublist_cons_self _ _))))
            go_wp2_with fail
            go_roundw
            case rel => exact ⟨i + 1, d8, m8, T.take k ++ [(i : Int)] ++ T.drop k, a8, rfl, by go_num, by omega, hn9, hid (hTs.out.ins _ ⟨by omega, by omega⟩), by omega, by omega, by rw [← lsQ_row hn9.out] at own9; exact own9, b8⟩
            case measure => simp [intOf]; omega
          · have oL := oE.lit 3 1 1 #[.int .i64 i] hlE (by unfold maxLen; omega) rfl
            have b5 : Below B w (wE.alloc (.cells #[.int .i64 i] 3)) := bE.alloc hlE _
            go_simp
            refine hK.out _ _ trivial (fun _ => ?_)
            clear hK K
            try simp only [List.getElem_toArray, List.getElem_cons_succ, List.getElem_cons_zero, Act.put, List.setIfInBounds_toArray, List.set_cons_zero, List.set_cons_succ]
            generalize wE.alloc (.cells #[.int .i64 i] 3) = w5 at *
            generalize wE.heap.size = gl at *
            have o5 := oL.perm (List.Perm.swap _ _ _)
            refine wpAnyH_ready (rs := [4]) (by kernel_rfl) (by simp) ?_
            refine AllReadyH.cons rfl (fun K hK => ?_) AllReadyH.nil
            refine stp_ints rfl (.tmp 27) (.tmp 30) 24 rfl elemInt rfl o5 (hBs.out _ b5) rfl (hrd.out _ o5.tail.tail).1 (by rw [htkl.out]; omega) ?_
            intro v4 w6 ho4 hb4
            have o6 := own_more (xs := []) ho4 rfl
            rw [List.nil_append] at o6
            obtain ⟨d4, n4, m4, hv4, hn4⟩ := own_formN o6
            subst hv4
            have b6 := b5.trans hb4
            refine hK.out _ _ trivial (fun _ => ?_)
            clear hK K
            try simp only [List.getElem_toArray, List.getElem_cons_succ, List.getElem_cons_zero, Act.put, List.setIfInBounds_toArray, List.set_cons_zero, List.set_cons_succ]
            refine wpAnyH_ready (rs := [7]) (by kernel_rfl) (by simp) ?_
            refine AllReadyH.cons rfl (fun K hK => ?_) AllReadyH.nil
            have c6 : w6.cell? ⟨gl, 0, none⟩ = some (.int .i64 i) := by
              have h := o6.tail.head.cellAt 0 (show 0 < 1 * 1 by omega)
              simpa using h
            refine stp_one rfl (.tmp 31) (.tmp 33) 24 rfl elemInt rfl o6 (hBs.out _ b6) (us := [.int .i64 i]) rfl rfl ?_ (by intro u hu; simp at hu; subst hu; rfl) (by simp; omega) (by simp; omega) ?_
            · intro jj u hj
              match jj, hj with
              | 0, hj => simp at hj; subst hj; exact c6
            intro v7 w7 ho7 hb7
            have o7 := own_grow1 ho7 rfl
            have b7 := b6.trans hb7
            obtain ⟨d7, n7, m7, hv7, hn7⟩ := own_formN o7
            subst hv7
            have r7 := (hrd.out _ o7.tail.tail).2
            refine hK.out _ _ trivial (fun _ => ?_)
            clear hK K
            try simp only [List.getElem_toArray, List.getElem_cons_succ, List.getElem_cons_zero, Act.put, List.setIfInBounds_toArray, List.set_cons_zero, List.set_cons_succ]
            refine wpAnyH_ready (rs := [11]) (by kernel_rfl) (by simp) ?_
            refine AllReadyH.cons rfl (fun K hK => ?_) AllReadyH.nil
            refine stp_ints rfl (.tmp 34) (.tmp 37) 24 rfl elemInt rfl o7 (hBs.out _ b7) rfl r7 (by simp; omega) ?_
            intro v8 w8 ho8 hb8
            have o8 := own_more ho8 rfl
            have b8 := b7.trans hb8
            obtain ⟨d8, n8, m8, hv8, hn8⟩ := own_formN o8
            subst hv8
            refine hK.out _ _ trivial (fun _ => ?_)
            clear hK K
            try simp only [List.getElem_toArray, List.getElem_cons_succ, List.getElem_cons_zero, Act.put, List.setIfInBounds_toArray, List.set_cons_zero, List.set_cons_succ]
            refine wpAnyH_take (i := 12) (v := .slice d8 n8 m8) rfl (by kernel_rfl) (by kernel_rfl) (by kernel_rfl) (fun _ _ _ h => h) (Or.inl ⟨by rfl, by intro wx hx; go_simp⟩) (by assumption) ?_
            try simp only [List.getElem_toArray, List.getElem_cons_succ, List.getElem_cons_zero, Act.put, List.setIfInBounds_toArray, List.set_cons_zero, List.set_cons_succ]
            refine wpAnyH_done (by kernel_rfl) ?_ _
            have hn8' : n8 = i + 1 := by
              have h := hn8.out
              rw [List.length_append, List.length_append, htkl.out, List.length_drop, List.length_singleton] at h
              have h2 := hTl.out
              omega
            subst hn8'
            have hn9 := hid hn8.out.symm
            have own9 := hback.out _ _ (o8.sub (List.Sublist.cons_cons _ (List.Sublist.cons _ (List.sublist_cons_self _ _))))
            go_wp2_with fail
            go_roundw
            case rel => exact ⟨i + 1, d8, m8, T.take k ++ [(i : Int)] ++ T.drop k, a8, rfl, by go_num, by omega, hn9, hid (hTs.out.ins _ ⟨by omega, by omega⟩), by omega, by omega, by rw [← lsQ_row hn9.out] at own9; exact own9, b8⟩
            case measure => simp [intOf]; omega
        · have oL := ownd.lit 3 1 1 #[.int .i64 i] hlB (by unfold maxLen; omega) rfl
          have bL : Below B w (wd.alloc (.cells #[.int .i64 i] 3)) := bd.alloc hlB _
          go_simp
          refine hK.out _ _ trivial (fun _ => ?_)
          clear hK K
          try simp only [List.getElem_toArray, List.getElem_cons_succ, List.getElem_cons_zero, Act.put, List.setIfInBounds_toArray, List.set_cons_zero, List.set_cons_succ]
          generalize wd.alloc (.cells #[.int .i64 i] 3) = wL at *
          generalize wd.heap.size = gl at *
          have hlL : B ≤ wL.heap.size := hBs.out _ bL
          refine wpAnyH_ready (rs := [0]) (by kernel_rfl) (by simp) ?_
          refine AllReadyH.cons rfl (fun K hK => ?_) AllReadyH.nil
          go_simp
          have o5 := oL.lit 3 1 0 #[] hlL (by unfold maxLen; omega) rfl
          have b5 : Below B w (wL.alloc (.cells #[] 3)) := bL.alloc hlL _
          refine hK.out _ _ trivial (fun _ => ?_)
          clear hK K
          try simp only [List.getElem_toArray, List.getElem_cons_succ, List.getElem_cons_zero, Act.put, List.setIfInBounds_toArray, List.set_cons_zero, List.set_cons_succ]
          generalize wL.alloc (.cells #[] 3) = w5 at *
          generalize wL.heap.size = gE at *
          refine wpAnyH_ready (rs := [4]) (by kernel_rfl) (by simp) ?_
          refine AllReadyH.cons rfl (fun K hK => ?_) AllReadyH.nil
          refine stp_ints rfl (.tmp 27) (.tmp 30) 24 rfl elemInt rfl o5 (hBs.out _ b5) rfl (hrd.out _ o5.tail.tail).1 (by rw [htkl.out]; omega) ?_
          intro v4 w6 ho4 hb4
          have o6 := own_more (xs := []) ho4 rfl
          rw [List.nil_append] at o6
          obtain ⟨d4, n4, m4, hv4, hn4⟩ := own_formN o6
          subst hv4
          have b6 := b5.trans hb4
          refine hK.out _ _ trivial (fun _ => ?_)
          clear hK K
          try simp only [List.getElem_toArray, List.getElem_cons_succ, List.getElem_cons_zero, Act.put, List.setIfInBounds_toArray, List.set_cons_zero, List.set_cons_succ]
          refine wpAnyH_ready (rs := [7]) (by kernel_rfl) (by simp) ?_
          refine AllReadyH.cons rfl (fun K hK => ?_) AllReadyH.nil
          have c6 : w6.cell? ⟨gl, 0, none⟩ = some (.int .i64 i) := by
            have h := o6.tail.head.cellAt 0 (show 0 < 1 * 1 by omega)
            simpa using h
          refine stp_one rfl (.tmp 31) (.tmp 33) 24 rfl elemInt rfl o6 (hBs.out _ b6) (us := [.int .i64 i]) rfl rfl ?_ (by intro u hu; simp at hu; subst hu; rfl) (by simp; omega) (by simp; omega) ?_
          · intro jj u hj
            match jj, hj with
            | 0, hj => simp at hj; subst hj; exact c6
          intro v7 w7 ho7 hb7
          have o7 := own_grow1 ho7 rfl
          have b7 := b6.trans hb7
          obtain ⟨d7, n7, m7, hv7, hn7⟩ := own_formN o7
          subst hv7
          have r7 := (hrd.out _ o7.tail.tail).2
          refine hK.out _ _ trivial (fun _ => ?_)
          clear hK K
          try simp only [List.getElem_toArray, List.getElem_cons_succ, List.getElem_cons_zero, Act.put, List.setIfInBounds_toArray, List.set_cons_zero, List.set_cons_succ]
          refine wpAnyH_ready (rs := [11]) (by kernel_rfl) (by simp) ?_
          refine AllReadyH.cons rfl (fun K hK => ?_) AllReadyH.nil
          refine stp_ints rfl (.tmp 34) (.tmp 37) 24 rfl elemInt rfl o7 (hBs.out _ b7) rfl r7 (by simp; omega) ?_
          intro v8 w8 ho8 hb8
          have o8 := own_more ho8 rfl
          have b8 := b7.trans hb8
          obtain ⟨d8, n8, m8, hv8, hn8⟩ := own_formN o8
          subst hv8
          refine hK.out _ _ trivial (fun _ => ?_)
          clear hK K
          try simp only [List.getElem_toArray, List.getElem_cons_succ, List.getElem_cons_zero, Act.put, List.setIfInBounds_toArray, List.set_cons_zero, List.set_cons_succ]
          refine wpAnyH_take (i := 12) (v := .slice d8 n8 m8) rfl (by kernel_rfl) (by kernel_rfl) (by kernel_rfl) (fun _ _ _ h => h) (Or.inl ⟨by rfl, by intro wx hx; go_simp⟩) (by assumption) ?_
          try simp only [List.getElem_toArray, List.getElem_cons_succ, List.getElem_cons_zero, Act.put, List.setIfInBounds_toArray, List.set_cons_zero, List.set_cons_succ]
          refine wpAnyH_done (by kernel_rfl) ?_ _
          have hn8' : n8 = i + 1 := by
            have h := hn8.out
            rw [List.length_append, List.length_append, htkl.out, List.length_drop, List.length_singleton] at h
            have h2 := hTl.out
            omega
          subst hn8'
          have hn9 := hid hn8.out.symm
          have own9 := hback.out _ _ (o8.sub (List.Sublist.cons_cons _ (List.Sublist.cons _ (List.sublist_cons_self _ _))))
          go_wp2_with fail
          go_roundw
          case rel => exact ⟨i + 1, d8, m8, T.take k ++ [(i : Int)] ++ T.drop k, a8, rfl, by go_num, by omega, hn9, hid (hTs.out.ins _ ⟨by omega, by omega⟩), by omega, by omega, by rw [← lsQ_row hn9.out] at own9; exact own9, b8⟩
          case measure => simp [intOf]; omega
    · have hiM : i = M.length := by omega
      replace hiM := hid hiM
      have e0o := hE.out _ hb
      go_wp2_with fail
      with_reducible refine (one_any (w0 := w0) hc own hwB (by omega) (by omega)).mono ?_
      rintro e w7 ⟨b, a7, rfl, h71, h72, own7, b7⟩
      have b7' := hb.trans b7
      clear own hb b7 e0o xq
      cases b with
      | true =>
        have hB7 := hBs.out _ b7'
        have own8 := CurAt.lit (e := 3) (n := 2) (cs := #[.int .i64 0, .int .i64 (-1)]) own7 [0, -1] hB7 rfl rfl (by simp)
        have b8 := b7'.alloc hB7 (.cells #[.int .i64 0, .int .i64 (-1)] 3)
        have e08 := hE.out _ b8
        clear own7 b7'
        go_wp2_with fail
        with_reducible refine (among_any (w0 := w0) hc own8 hwB (by omega) (by omega) (by simp) (by simp)).mono ?_
        rintro e w9 ⟨y, a9, rfl, hy, h91, h92, own9, b9⟩
        have b9' := b8.trans b9
        have hyb : -1 ≤ y ∧ y ≤ 100 := by
          simp only [List.mem_cons, List.not_mem_nil, or_false] at hy
          omega
        have hB9 := hBs.out _ b9'
        obtain ⟨s9, o9⟩ := own9.drop
        have o9' : Own w9 B (lsQ dT i pT T :: curRow c (.slice ac nb cc) a9 s9 :: R0) := o9.perm (List.Perm.swap _ _ _)
        clear own8 b8 e08 own9 b9 o9 hy hB7
        go_upto_region 11 with (at_builtin; refine wpList_append1 rfl _ _ _ rfl elemInt rfl o9' hB9 rfl rfl (by omega) (by omega) ?_; intro v6 w6 ho6 hb6; obtain ⟨d6, m6, hf6⟩ := ho6.form; (obtain rfl : v6 = .slice d6 (i + 1) m6 := hf6))
        have b6' := b9'.trans hb6
        have own10 : CurAt w6 B c (.slice ac nb cc) a9 (lsQ d6 (i + 1) m6 (T ++ [y]) :: R0) := ⟨s9, by
          have h := ho6.perm (List.Perm.swap _ _ _)
          unfold lsQ
          rw [List.map_append]
          exact h⟩
        have hTl2 := hid (show (T ++ [y]).length = i + 1 by rw [List.length_append, hTl.out]; rfl)
        clear ho6 o9' hb6 b9'
        have ow := own10
        rw [hR0.out] at ow
        have xq := (ow.at (.tail _ (.head _)) (j := 0) (by omega)).1
        have r0 := ow.at (e := 29) (z := 1) (b := r) (cs := [.slice none 0 0]) (.tail _ (.tail _ (List.mem_append_right _ (.head _)))) (j := 0) (by omega)
        have r00 : (w6).cell? ⟨r, 0, none⟩ = some (.slice none 0 0) := r0.1
        have r01 := r0.2
        have hset := CurAt.set (A := (lsQ d6 (i + 1) m6 (T ++ [y])) :: boxRow 29 1 q [.slice d M.length m] :: rowsOf 24 3 (.slice d M.length m) vs M) (L := []) ow 0 (.slice d M.length m)
        have y0 : ((w6).setCell ⟨r, 0, none⟩ (.slice d M.length m)).cell? ⟨r, 0, none⟩ = some (.slice d M.length m) := by go_simp
        have b3 := (b6').setCell hset.2 (p := ⟨r, 0, none⟩) (.slice d M.length m)
        have hrT := hid (lsQ_reads hset.1.rows hTl2.out (by omega) (hTs.out.snoc hyb))
        have hrM := hid (met_own hset.1.rows.tail.tail hvh.out hMh.out)
        clear r0 hset ow
        go_wp2_with fail
        refine bodyPost_ret (v := .tuple #[.agg #[.slice d M.length m], (.slice d6 (i + 1) m6)]) (by simp [results, Try.results11, go_sem, y0]) rfl ?_
        exact ⟨d, m, (.slice d6 (i + 1) m6), M, _, rfl, hMh.out, by rw [hTl2.out]; omega, hrM.out, hrT.out, hEw.out _ b3⟩
      | false =>
        have ow := own7
        rw [hR0.out] at ow
        have xq := (ow.at (.tail _ (.head _)) (j := 0) (by omega)).1
        have r0 := ow.at (e := 29) (z := 1) (b := r) (cs := [.slice none 0 0]) (.tail _ (.tail _ (List.mem_append_right _ (.head _)))) (j := 0) (by omega)
        have r00 : (w7).cell? ⟨r, 0, none⟩ = some (.slice none 0 0) := r0.1
        have r01 := r0.2
        have hset := CurAt.set (A := (lsQ dT i pT T) :: boxRow 29 1 q [.slice d M.length m] :: rowsOf 24 3 (.slice d M.length m) vs M) (L := []) ow 0 (.slice d M.length m)
        have y0 : ((w7).setCell ⟨r, 0, none⟩ (.slice d M.length m)).cell? ⟨r, 0, none⟩ = some (.slice d M.length m) := by go_simp
        have b3 := (b7').setCell hset.2 (p := ⟨r, 0, none⟩) (.slice d M.length m)
        have hrT := hid (lsQ_reads hset.1.rows hTl.out (by omega) hTs.out)
        have hrM := hid (met_own hset.1.rows.tail.tail hvh.out hMh.out)
        clear r0 hset ow
        go_wp2_with fail
        refine bodyPost_ret (v := .tuple #[.agg #[.slice d M.length m], (.slice dT i pT)]) (by simp [results, Try.results11, go_sem, y0]) rfl ?_
        exact ⟨d, m, (.slice dT i pT), M, _, rfl, hMh.out, by rw [hTl.out]; omega, hrM.out, hrT.out, hEw.out _ b3⟩
end Go.Proofs.Ytnlbjbnjjkilhaa
