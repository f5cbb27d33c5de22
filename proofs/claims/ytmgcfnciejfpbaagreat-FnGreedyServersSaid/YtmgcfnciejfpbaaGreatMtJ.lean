/- The draw of a schedule. Written by mkmti.py. -/
import Derived.Test.YtmgcfnciejfpbaaGreatGrM
namespace Go.Proofs.YtmgcfnciejfpbaaGreat
open Go.RowKit


/-- the list of a table comes to the front, past a new row and the cursor -/
theorem cur_out {w : World} {B c e1 e2 : Nat} {vc ov av : Value} {a : Int} {us : List Value} {L : List (List Int)} {xs : List Int} {R : List Row} (h : CurAt w B c vc a (intRowOf e2 av xs :: (rowsOf e1 e2 ov us L ++ R))) :
    ∃ s, Own w B (⟨e1, 1, ov, us.length, us⟩ :: (intRowOf e2 av xs :: ([curRow c vc a s] ++ (List.zipWith (intRowOf e2) us L ++ R)))) := by
  obtain ⟨s, h⟩ := h
  refine ⟨s, h.perm ?_⟩
  have p1 : (⟨e1, 1, ov, us.length, us⟩ :: (intRowOf e2 av xs :: ([curRow c vc a s] ++ (List.zipWith (intRowOf e2) us L ++ R))) : List Row).Perm (intRowOf e2 av xs :: (⟨e1, 1, ov, us.length, us⟩ :: (curRow c vc a s :: (List.zipWith (intRowOf e2) us L ++ R)))) := List.Perm.swap _ _ _
  have p2 : (intRowOf e2 av xs :: (⟨e1, 1, ov, us.length, us⟩ :: (curRow c vc a s :: (List.zipWith (intRowOf e2) us L ++ R))) : List Row).Perm (intRowOf e2 av xs :: (curRow c vc a s :: (⟨e1, 1, ov, us.length, us⟩ :: (List.zipWith (intRowOf e2) us L ++ R)))) := List.Perm.cons _ (List.Perm.swap _ _ _)
  exact (p1.trans p2).trans (List.Perm.swap _ _ _)
theorem cur_in {w : World} {B c e1 e2 : Nat} {vc ov av : Value} {a s : Int} {us : List Value} {L : List (List Int)} {xs : List Int} {R : List Row} (h : Own w B (⟨e1, 1, ov, us.length + 1, us ++ [av]⟩ :: (intRowOf e2 av xs :: ([curRow c vc a s] ++ (List.zipWith (intRowOf e2) us L ++ R))))) (hl : us.length = L.length) :
    CurAt w B c vc a (rowsOf e1 e2 ov (us ++ [av]) (L ++ [xs]) ++ R) := ⟨s, rw_in (A := [curRow c vc a s]) h hl⟩

def SMPost (w : World) (e : Ending) (w' : World) : Prop :=
  ∃ d m av rv cv M A X C, e = .returned (.tuple #[.agg #[.slice d (M : List (List Int)).length m], av, rv, cv]) ∧ IsMet w' (.agg #[.slice d M.length m]) M ∧ IsInts w' av A ∧ IsInts w' rv X ∧ IsRows w' cv C ∧ MOk M ∧ (A : List Int).length ≤ 20 ∧ (X : List Int).length ≤ 100 ∧ Ext w w'
/-- rows of small numbers, few in a row -/
def SmR (L : List (List Int)) : Prop := ∀ r ∈ L, r.length ≤ 20 ∧ ∀ x ∈ r, -1 ≤ x ∧ x ≤ 65535
theorem SmR.snoc {L : List (List Int)} (h : SmR L) {xs : List Int} (h1 : xs.length ≤ 20) (h2 : ∀ x ∈ xs, -1 ≤ x ∧ x ≤ 65535) : SmR (L ++ [xs]) := by
  intro r hr
  rcases List.mem_append.1 hr with h3 | h3
  · exact h r h3
  · rw [List.mem_singleton.1 h3]; exact ⟨h1, h2⟩
theorem SmR.short {L : List (List Int)} (h : SmR L) : (∀ r ∈ L, Short r.length) ∧ ∀ r ∈ L, ∀ x ∈ r, I64 x :=
  ⟨fun r hr => by have := (h r hr).1; unfold Short; omega, fun r hr => small_i64 (h r hr).2⟩

theorem each_in {w : World} {B e2 : Nat} {us : List Value} {L : List (List Int)} {R : List Row} (h : Own w B (List.zipWith (intRowOf e2) us L ++ R)) (hl : us.length = L.length) (hs : SmR L) : EachInts w us L := by
  refine ⟨hl, fun j hj => ?_⟩
  have h1 : (List.zipWith (intRowOf e2) us L ++ R)[j]? = some (intRowOf e2 (us.getD j undef) (row L j)) := by
    have hj' : j < us.length := by omega
    rw [List.getElem?_append_left (by simp; omega)]
    simp [List.getElem?_zipWith, hj', row, hj]
  exact (h.pick h1).reads (hs.short.1 _ (row_mem hj)) (hs.short.2 _ (row_mem hj))
set_option maxHeartbeats 3200000 in
set_option maxRecDepth 100000 in
theorem drawSM_any {w0 w : World} [Ext w0 w] {vc : Value} {nb : Nat} (hc : IsBytes w0 vc nb) :
    Calls Tryz.prog 42 #[vc] w (SMPost w) := by
  obtain ⟨ac, cc, rfl⟩ := hc.form
  go_enter Tryz.func42, Tryz.ntmps42
  go_upto_region 2 with fail
  have hsz : w0.heap.size ≤ w.heap.size := (‹Ext w0 w›).size
  have own1 := CurAt.start (vc := .slice ac nb cc) (((Own.nil w w.heap.size).lit 26 1 1 #[.slice none 0 0] (Nat.le_refl _) (by unfold maxLen; omega) rfl)) (by simp)
  have e1 : Ext w ((w.alloc (.cells #[.slice none 0 0] 26)).alloc (.cells #[.slice ac nb cc, .int .i64 0, .int .u64 0] 70)) := inferInstance
  have hcs : (w.alloc (.cells #[.slice none 0 0] 26)).heap.size = w.heap.size + 1 := by simp
  rw [hcs] at own1
  obtain ⟨r, hr⟩ : ∃ r, r = w.heap.size := ⟨_, rfl⟩
  obtain ⟨c, hcd⟩ : ∃ c, c = w.heap.size + 1 := ⟨_, rfl⟩
  obtain ⟨B, hBd⟩ : ∃ B, B = w.heap.size := ⟨_, rfl⟩
  have own1' : CurAt ((w.alloc (.cells #[.slice none 0 0] 26)).alloc (.cells #[.slice ac nb cc, .int .i64 0, .int .u64 0] 70)) B c (.slice ac nb cc) 0 [boxRow 26 1 r [.slice none 0 0]] := by
    rw [hBd, hcd, hr]; exact own1
  have hwB : w0.heap.size ≤ B := by omega
  have b1 : Below B w ((w.alloc (.cells #[.slice none 0 0] 26)).alloc (.cells #[.slice ac nb cc, .int .i64 0, .int .u64 0] 70)) := by rw [hBd]; exact e1.below
  rw [← hcd, ← hr]
  generalize (w.alloc (.cells #[.slice none 0 0] 26)).alloc (.cells #[.slice ac nb cc, .int .i64 0, .int .u64 0] 70) = w1 at *
  replace hr := hid hr
  replace hcd := hid hcd
  replace hBd := hid hBd
  have hE : ∀ u, Below B w u → Ext w0 u := fun u h => ⟨(‹Ext w0 w›).below.trans (h.mono hwB)⟩
  replace hE := hid hE
  clear own1 e1 hcs
  have e1 : Ext w0 w1 := hE.out _ b1
  go_wp2_with fail
  refine (metricD_any (w0 := w0) hc own1' hwB (by omega) (by omega)).mono ?_
  rintro e w2 ⟨dm, mm, vs, M, a2, rfl, hvs, hM, ha1, ha2, own2, b2⟩
  have b2' := b1.trans b2
  have e2 : Ext w0 w2 := hE.out _ b2'
  clear own1' b1 b2 e1
  have hn7 := hM.1
  replace hM := hid hM
  replace hvs := hid hvs
  go_wp2_with fail
  refine (pick_any (w0 := w0) hc own2 hwB (by omega) (by omega)).mono ?_
  rintro e w3 ⟨x3, a3, rfl, h30, h31, h32, h33, h34, own3, b3⟩
  have b3' := b2'.trans b3
  have hx3 := h32 (by omega)
  clear own2 b2' b3 e2 h31 h32
  obtain ⟨k, hk⟩ : ∃ k : Nat, (k : Int) = 1 + x3 := ⟨(1 + x3).toNat, by omega⟩
  have hk10 : k ≤ 10 := by omega
  have own4 := own3.box 26 1 #[.slice dm M.length mm] own3.size rfl
  have b4' : Below B w (w3.alloc (.cells #[.slice dm M.length mm] 26)) := b3'.alloc own3.size _
  obtain ⟨mb, hmb⟩ : ∃ r, r = w3.heap.size := ⟨_, rfl⟩
  go_upto_region 3 with fail
  generalize w3.alloc (.cells #[.slice dm M.length mm] 26) = w4 at *
  rw [← hmb] at own4 ⊢
  rw [← hk]
  replace hk := hid hk
  replace hmb := hid hmb
  have e4 : Ext w0 w4 := hE.out _ b4'
  have p4 : w4.cell? ⟨mb, 0, none⟩ = some (.slice dm M.length mm) := (own4.at (.head _) (j := 0) (by omega)).1
  clear own3 b3'
  go_upto_region 4 with fail
  clear p4
  go_wp2_with fail
  refine (config_any (w0 := w0) hc own4 hwB (by omega) (by omega) (n := M.length) (k := k) (by omega) hk10).mono ?_
  rintro e w5 ⟨sv, A, a5, rfl, hal, hab, h51, h52, own5, b5⟩
  have b5' := b4'.trans b5
  have e5 : Ext w0 w5 := hE.out _ b5'
  clear own4 b4' b5 e4
  go_wp2_with fail
  refine (reqs6_any (w0 := w0) hc own5 hwB (by omega) (by omega) (n := M.length) (by omega)).mono ?_
  rintro e w6 ⟨rv, X, a6, rfl, hXl, hXb, h61, h62, own6, b6⟩
  have b6' := b5'.trans b6
  clear own5 b5' b6 e5
  obtain ⟨dX, mX, rfl⟩ := ow_ints own6.rows
  have own6s := own6.perm (List.Perm.swap _ _ _)
  obtain ⟨dS, mS, hsv⟩ := ow_ints own6s.rows
  subst hsv
  obtain ⟨sv, hsvd⟩ : ∃ z, z = Value.slice dS A.length mS := ⟨_, rfl⟩
  obtain ⟨rv, hrvd⟩ : ∃ z, z = Value.slice dX X.length mX := ⟨_, rfl⟩
  rw [← hsvd, ← hrvd] at own6s
  obtain ⟨ZZ, hZZ⟩ : ∃ Z, Z = (intRowOf 3 sv A :: (intRowOf 3 rv X :: (boxRow 26 1 mb [.slice dm M.length mm] :: (rowsOf 27 3 (.slice dm M.length mm) vs M ++ [boxRow 26 1 r [.slice none 0 0]])))) := ⟨_, rfl⟩
  have own6z : CurAt w6 B c (.slice ac nb cc) a6 ZZ := by rw [hZZ]; exact own6s
  have hZi := hid (show ∀ u av, CurAt u B c (.slice ac nb cc) av ZZ → IsInts u (.slice dS A.length mS) A ∧ IsInts u (.slice dX X.length mX) X ∧ IsMet u (.agg #[.slice dm M.length mm]) M from fun u av h => by
    rw [hZZ, hsvd, hrvd] at h
    exact ⟨h.rows.reads (by unfold Short; omega) (small_i64 hab), h.rows.tail.reads (by unfold Short; omega) (small_i64 hXb), met_own h.rows.tail.tail.tail hvs.out hM.out⟩)
  clear own6 own6s
  replace hsvd := hid hsvd
  replace hrvd := hid hrvd
  replace hZZ := hid hZZ
  generalize hvc : (.slice ac nb cc : Value) = vc at *
  replace hvc := hid hvc
  have hB6 := own6z.size
  obtain ⟨gl, hgl⟩ : ∃ z, z = w6.heap.size := ⟨_, rfl⟩
  have own7 : CurAt (w6.alloc (.cells #[] 27)) B c vc a6 (rowsOf 27 3 (.slice (some ⟨gl, 0, none⟩) 0 0) [] [] ++ ZZ) := by
    obtain ⟨s, h⟩ := own6z
    rw [hgl]
    exact ⟨s, (h.lit 27 1 0 #[] hB6 (by unfold maxLen; omega) rfl).perm (List.Perm.swap _ _ _)⟩
  have b7 : Below B w (w6.alloc (.cells #[] 27)) := b6'.alloc hB6 _
  go_upto_region 5 with fail
  rw [← hgl]
  replace hgl := hid hgl
  generalize w6.alloc (.cells #[] 27) = w7 at *
  clear own6z b6' hB6
  go_wp2_with fail
  go_loopw [12, 13] (fun ov i wr => ∃ q : Nat, q ≤ 60 ∧ i = .int .i64 q ∧ ∃ L us d m aq, ov = .slice d (L : List (List Int)).length m ∧ Hid (L.length = q) ∧ Hid (us.length = L.length) ∧ Hid (SmR L) ∧ a6 ≤ aq ∧ aq ≤ a6 + 40 * q ∧ Below B w wr ∧ CurAt wr B c vc aq (rowsOf 27 3 (.slice d L.length m) us L ++ ZZ)) (fun _ i _ => 60 - (intOf i).toNat)
  case atStart => exact ⟨0, by omega, rfl, [], [], _, _, a6, rfl, hid rfl, hid rfl, hid (by intro r hr; simp at hr), by omega, by omega, b7, own7⟩
  case round =>
    clear own7 b7
    obtain ⟨i, hi, rfl, L, us, d, m, aq, rfl, hLi, hus, hLs, hq1, hq2, bq, own⟩ := hrel
    obtain ⟨wq, rfl⟩ : ∃ y : World, y = wr := ⟨_, rfl⟩
    by_cases hlt : i < X.length ∧ i < 60
    · obtain ⟨hiX, hi60⟩ := hlt
      have e8 : Ext w0 wq := hE.out _ bq
      go_wp2_with fail
      refine (config_any (w0 := w0) hc own hwB (by omega) (by omega) (n := M.length) (k := k) (by omega) hk10).mono ?_
      rintro e w8 ⟨av, xs, a8, rfl, hxl, hxb, h81, h82, own8, b8⟩
      have b8' := bq.trans b8
      have e8' : Ext w0 w8 := hE.out _ b8'
      clear own bq b8 e8
      obtain ⟨da, ma, rfl⟩ := ow_ints own8.rows
      have hZ8 : CurAt w8 B c vc a8 ZZ := own8.drop.sub (List.sublist_append_right _ _)
      obtain ⟨bX, oX, hdX, hcz⟩ := (hZi.out _ _ hZ8).2.1.at (w' := w8) hiX
      clear hcz
      subst hdX
      obtain ⟨rq, hrq⟩ : ∃ y, y = nth X i := ⟨_, rfl⟩
      have hrb : -1 ≤ rq ∧ rq ≤ 65535 := by rw [hrq]; exact hXb _ (nth_mem hiX)
      have hfx := hid (show ∀ u av R', CurAt u B c vc av (R' ++ ZZ) → u.cell? ⟨bX, oX + i, none⟩ = some (.int .i64 rq) from fun u av R' h => by
        obtain ⟨b', o', h1, h2⟩ := (hZi.out _ _ (h.sub (List.sublist_append_right _ _))).2.1.at (w' := u) hiX
        cases h1
        rw [hrq]
        exact h2)
      replace hrq := hid hrq
      have hcX := hfx.out w8 a8 (intRowOf 3 (.slice da xs.length ma) xs :: rowsOf 27 3 (.slice d L.length m) us L) own8
      clear hZ8
      by_cases h0 : 0 < xs.length
      · have hxi : IsInts w8 (.slice da xs.length ma) xs := own8.rows.reads (by unfold Short; omega) (small_i64 hxb)
        cases hh : hasB xs rq with
        | true =>
          replace hh := hid hh
          go_wp2_with fail
          refine (l1Has_any (w0 := w8) (w := w8) hxi).mono ?_
          rw [hh.out]
          rintro e w9 ⟨rfl, rfl⟩
          clear hcX hxi
          obtain ⟨s6, hout⟩ := cur_out own8
          have hBz := CurAt.size own8
          rw [hus.out] at hout
          have hL60 : L.length ≤ 60 := by rw [hLi.out]; omega
          go_wp2_with (at_builtin; refine wpList_append1 rfl _ _ _ rfl elemInts rfl hout hBz rfl rfl (by omega) (by omega) ?_; intro v7 w7 ho hb7)
          rw [← hus.out] at ho
          have own7 := cur_in ho hus.out
          clear ho hout
          obtain ⟨d7, m7, hv7⟩ : ∃ d m, v7 = .slice d (L.length + 1) m := by
            obtain ⟨s, h⟩ := own7
            have h2 := ow_front (A := [curRow c vc a8 s]) (T := rowsOf 27 3 v7 (us ++ [(Value.slice da xs.length ma)]) (L ++ [xs])) (R := ZZ) h
            have h3 : Own w7 B (⟨27, 1, v7, (us ++ [(Value.slice da xs.length ma)]).length, us ++ [(Value.slice da xs.length ma)]⟩ :: (List.zipWith (intRowOf 3) (us ++ [(Value.slice da xs.length ma)]) (L ++ [xs]) ++ ([curRow c vc a8 s] ++ ZZ))) := h2
            obtain ⟨d, m, h4⟩ := h3.form
            rw [List.length_append, hus.out] at h4
            exact ⟨d, m, h4⟩
          subst hv7
          go_roundw
          case rel => exact ⟨i + 1, by omega, by go_num, L ++ [xs], us ++ [(Value.slice da xs.length ma)], d7, m7, a8, by rw [List.length_append]; rfl, hid (by rw [List.length_append, hLi.out]; rfl), hid (by simp [hus.out]), hid (hLs.out.snoc hxl hxb), by omega, by omega, (b8').trans hb7, by rw [List.length_append]; exact own7⟩
          case measure => simp [intOf]; omega
        | false =>
          replace hh := hid hh
          go_wp2_with fail
          refine (l1Has_any (w0 := w8) (w := w8) hxi).mono ?_
          rw [hh.out]
          rintro e w9 ⟨rfl, rfl⟩
          clear hcX hxi
          go_wp2_with fail
          refine (one_any (w0 := w0) hc own8 hwB (by omega) (by omega)).mono ?_
          rintro e w9 ⟨q9, a9, rfl, h91, h92, own9, b9⟩
          have b9' := b8'.trans b9
          clear own8 b8' b9 e8'
          cases q9 with
          | true =>
            obtain ⟨s6, hout⟩ := cur_out own9
            have hBz := CurAt.size own9
            rw [hus.out] at hout
            have hL60 : L.length ≤ 60 := by rw [hLi.out]; omega
            go_wp2_with (at_builtin; refine wpList_append1 rfl _ _ _ rfl elemInts rfl hout hBz rfl rfl (by omega) (by omega) ?_; intro v7 w7 ho hb7)
            rw [← hus.out] at ho
            have own7 := cur_in ho hus.out
            clear ho hout
            obtain ⟨d7, m7, hv7⟩ : ∃ d m, v7 = .slice d (L.length + 1) m := by
              obtain ⟨s, h⟩ := own7
              have h2 := ow_front (A := [curRow c vc a9 s]) (T := rowsOf 27 3 v7 (us ++ [(Value.slice da xs.length ma)]) (L ++ [xs])) (R := ZZ) h
              have h3 : Own w7 B (⟨27, 1, v7, (us ++ [(Value.slice da xs.length ma)]).length, us ++ [(Value.slice da xs.length ma)]⟩ :: (List.zipWith (intRowOf 3) (us ++ [(Value.slice da xs.length ma)]) (L ++ [xs]) ++ ([curRow c vc a9 s] ++ ZZ))) := h2
              obtain ⟨d, m, h4⟩ := h3.form
              rw [List.length_append, hus.out] at h4
              exact ⟨d, m, h4⟩
            subst hv7
            go_roundw
            case rel => exact ⟨i + 1, by omega, by go_num, L ++ [xs], us ++ [(Value.slice da xs.length ma)], d7, m7, a9, by rw [List.length_append]; rfl, hid (by rw [List.length_append, hLi.out]; rfl), hid (by simp [hus.out]), hid (hLs.out.snoc hxl hxb), by omega, by omega, (b9').trans hb7, by rw [List.length_append]; exact own7⟩
            case measure => simp [intOf]; omega
          | false =>
            obtain ⟨ga, rfl⟩ := own9.rows.at (j := 0) h0
            go_upto_region 10 with fail
            have ownd := own9.ext (w' := w9.drew)
            have bd : Below B w w9.drew := b9'.drew
            clear own9 b9'
            have hfd := hfx.out w9.drew a9 (intRowOf 3 (.slice (some ⟨ga, 0, none⟩) xs.length ma) xs :: rowsOf 27 3 (.slice d L.length m) us L) ownd
            refine wp_region_held_drew (S := fun u => u.cell? ⟨bX, oX + i, none⟩ = some (.int .i64 rq) ∧ True) (by kernel_rfl) ⟨hfd, trivial⟩ (fun hHeld0 => ?_)
            generalize w9.drew = wd at *
            have ed : Ext w0 wd := hE.out _ bd
            refine wpAnyH_take (i := 0) (v := .slice (some ⟨ga, 0, none⟩) xs.length ma) rfl (by kernel_rfl) (by kernel_rfl) (by kernel_rfl) (fun _ _ _ h => h) (Or.inl ⟨by rfl, by intro wx hx; go_simp⟩) (by assumption) ?_
            try simp only [List.getElem_toArray, List.getElem_cons_zero, Act.put, List.setIfInBounds_toArray, List.set_cons_zero, List.set_cons_succ]
            refine wpAnyH_take (i := 1) (v := .pointer (some ⟨c, 0, none⟩)) rfl (by kernel_rfl) (by kernel_rfl) (by kernel_rfl) (fun _ _ _ h => h) (Or.inl ⟨by rfl, by intro wx hx; go_simp⟩) (by assumption) ?_
            try simp only [List.getElem_toArray, List.getElem_cons_succ, List.getElem_cons_zero, Act.put, List.setIfInBounds_toArray, List.set_cons_zero, List.set_cons_succ]
            refine wpAnyH_take (i := 2) (v := .slice (some ⟨ga, 0, none⟩) xs.length ma) rfl (by kernel_rfl) (by kernel_rfl) (by kernel_rfl) (fun _ _ _ h => h) (Or.inl ⟨by rfl, by intro wx hx; go_simp⟩) (by assumption) ?_
            try simp only [List.getElem_toArray, List.getElem_cons_succ, List.getElem_cons_zero, Act.put, List.setIfInBounds_toArray, List.set_cons_zero, List.set_cons_succ]
            refine wpAnyH_take (i := 3) (v := .int .i64 xs.length) rfl (by kernel_rfl) (by kernel_rfl) (by kernel_rfl) (fun _ _ _ h => h) (Or.inl ⟨by rfl, by intro wx hx; go_simp⟩) (by assumption) ?_
            try simp only [List.getElem_toArray, List.getElem_cons_succ, List.getElem_cons_zero, Act.put, List.setIfInBounds_toArray, List.set_cons_zero, List.set_cons_succ]
            refine wpAnyH_take (i := 5) (v := .slice (some ⟨bX, oX, none⟩) X.length mX) rfl (by kernel_rfl) (by kernel_rfl) (by kernel_rfl) (fun _ _ _ h => h) (Or.inl ⟨by rfl, by intro wx hx; go_simp⟩) (by assumption) ?_
            try simp only [List.getElem_toArray, List.getElem_cons_succ, List.getElem_cons_zero, Act.put, List.setIfInBounds_toArray, List.set_cons_zero, List.set_cons_succ]
            refine wpAnyH_take (i := 6) (v := .int .i64 i) rfl (by kernel_rfl) (by kernel_rfl) (by kernel_rfl) (fun _ _ _ h => h) (Or.inl ⟨by rfl, by intro wx hx; go_simp⟩) (by assumption) ?_
            try simp only [List.getElem_toArray, List.getElem_cons_succ, List.getElem_cons_zero, Act.put, List.setIfInBounds_toArray, List.set_cons_zero, List.set_cons_succ]
            refine wpAnyH_take (i := 7) (v := .pointer (some ⟨bX, oX + i, none⟩)) rfl (by kernel_rfl) (by kernel_rfl) (by kernel_rfl) (fun _ _ _ h => h) (Or.inl ⟨by rfl, by intro wx hx; go_simp⟩) (by assumption) ?_
            try simp only [List.getElem_toArray, List.getElem_cons_succ, List.getElem_cons_zero, Act.put, List.setIfInBounds_toArray, List.set_cons_zero, List.set_cons_succ]
            refine wpAnyH_take (i := 8) (v := .int .i64 rq) rfl (by kernel_rfl) (by kernel_rfl) (by kernel_rfl) (fun _ _ _ h => h) (Or.inl ⟨by rfl, by intro wx hx; obtain ⟨_, _⟩ := hx; go_simp⟩) (by assumption) ?_
            try simp only [List.getElem_toArray, List.getElem_cons_succ, List.getElem_cons_zero, Act.put, List.setIfInBounds_toArray, List.set_cons_zero, List.set_cons_succ]
            refine wpAnyH_ready (rs := [4]) (by kernel_rfl) (by simp) ?_
            refine AllReadyH.cons rfl (fun K hK => ?_) AllReadyH.nil
            go_simp
            go_at_call 98
            refine (pick_any (w0 := w0) hc ownd hwB (by omega) (by omega)).mono ?_
            rintro e w10 ⟨x10, a10, rfl, h100, h101, h102, h103, h104, own10, b10⟩
            have b10' := bd.trans b10
            have hx10 := h102 (by omega)
            clear ownd bd ed hfd b10 h101 h102
            obtain ⟨x10, rfl⟩ := Int.eq_ofNat_of_zero_le h100
            have hx10' : x10 < xs.length := by omega
            have hf10 := hfx.out w10 a10 (intRowOf 3 (.slice (some ⟨ga, 0, none⟩) xs.length ma) xs :: rowsOf 27 3 (.slice d L.length m) us L) own10
            have tr : w10.cell? ⟨ga, x10, none⟩ = some (.int .i64 (nth xs x10)) := by
              rw [own10.rows.cellAt (w' := w10) hx10']
              simp [nth, hx10']
            have trf := own10.rows.frozenAt x10
            obtain ⟨s10, hs10⟩ := own10
            have hos := (hs10.perm (List.Perm.swap _ _ _)).set x10 (.int .i64 rq)
            have hgB := hs10.tail.lt.1
            rw [← List.map_set] at hos
            have eX : (⟨3, 1, .slice (some ⟨ga, 0, none⟩) xs.length ma, xs.length, (xs.set x10 rq).map (Value.int .i64)⟩ : Row) = intRowOf 3 (.slice (some ⟨ga, 0, none⟩) xs.length ma) (xs.set x10 rq) := by unfold intRowOf; rw [List.length_set]
            rw [eX] at hos
            replace eX := hid eX
            have own11 : CurAt (w10.setCell ⟨ga, x10, none⟩ (.int .i64 rq)) B c vc a10 (intRowOf 3 (.slice (some ⟨ga, 0, none⟩) xs.length ma) (xs.set x10 rq) :: (rowsOf 27 3 (.slice d L.length m) us L ++ ZZ)) := ⟨s10, hos.perm (List.Perm.swap _ _ _)⟩
            have b11 := b10'.setCell hgB (p := ⟨ga, x10, none⟩) (.int .i64 rq)
            have hf11 := hfx.out _ a10 (intRowOf 3 (.slice (some ⟨ga, 0, none⟩) xs.length ma) (xs.set x10 rq) :: rowsOf 27 3 (.slice d L.length m) us L) own11
            clear hos hs10
            go_wp2_with fail
            refine hK.out _ _ ⟨hf10, trivial⟩ (fun _ => ?_)
            clear hK K
            try simp only [List.getElem_toArray, List.getElem_cons_succ, List.getElem_cons_zero, Act.put, List.setIfInBounds_toArray, List.set_cons_zero, List.set_cons_succ]
            refine wpAnyH_take (i := 9) (v := .pointer (some ⟨ga, x10, none⟩)) rfl (by kernel_rfl) (by kernel_rfl) (by kernel_rfl) (fun _ _ _ h => h) (Or.inl ⟨by rfl, by intro wx hx; go_simp⟩) (by assumption) ?_
            try simp only [List.getElem_toArray, List.getElem_cons_succ, List.getElem_cons_zero, Act.put, List.setIfInBounds_toArray, List.set_cons_zero, List.set_cons_succ]
            refine wpAnyH_ready (rs := [10]) (by kernel_rfl) (by simp) ?_
            refine AllReadyH.cons rfl (fun K hK => ?_) AllReadyH.nil
            go_simp
            refine hK.out _ _ ⟨hf11, trivial⟩ (fun _ => ?_)
            clear hK K
            try simp only [List.getElem_toArray, List.getElem_cons_succ, List.getElem_cons_zero, Act.put, List.setIfInBounds_toArray, List.set_cons_zero, List.set_cons_succ]
            refine wpAnyH_done (by kernel_rfl) ?_ _
            have hl2 : (xs.set x10 rq).length = xs.length := List.length_set
            have hxb2 : ∀ x ∈ xs.set x10 rq, -1 ≤ x ∧ x ≤ 65535 := by
              intro x hx
              rcases List.mem_or_eq_of_mem_set hx with h | h
              · exact hxb x h
              · rw [h]; exact hrb
            have hi11 : IsInts (w10.setCell ⟨ga, x10, none⟩ (.int .i64 rq)) (.slice (some ⟨ga, 0, none⟩) xs.length ma) (xs.set x10 rq) := own11.rows.reads (by unfold Short; omega) (small_i64 hxb2)
            have hsl : (sortL (xs.set x10 rq)).length ≤ 20 := by rw [sortL_len, hl2]; exact hxl
            have hsb := sortL_i64 hxb2
            have hs1000 : (xs.set x10 rq).length ≤ 1000 := by omega
            replace hl2 := hid hl2
            generalize xs.set x10 rq = ys at *
            go_upto_region 11 with fail
            clear tr trf hf10 hf11
            generalize w10.setCell ⟨ga, x10, none⟩ (.int .i64 rq) = w11 at *
            go_wp2_with fail
            with_reducible refine (l6Sort_any (w0 := w11) (w := w11) hi11 hs1000).mono ?_
            rintro e w12 ⟨uz, rfl, own12', e12⟩
            have own12 : CurAt w12 B c vc a10 (intRowOf 3 uz (sortL ys) :: (rowsOf 27 3 (.slice d L.length m) us L ++ ZZ)) := (own11.join own12' own11.size).sub ((List.sublist_cons_self _ _).cons_cons _)
            have b12 : Below B w w12 := b11.trans (e12.below.mono own11.size)
            clear own11 own12' hi11 e12 b11 b10'
            generalize sortL ys = zs at *
            obtain ⟨dz, mz, rfl⟩ := ow_ints own12.rows
            obtain ⟨s6, hout⟩ := cur_out own12
            have hBz := CurAt.size own12
            rw [hus.out] at hout
            have hL60 : L.length ≤ 60 := by rw [hLi.out]; omega
            go_wp2_with (at_builtin; refine wpList_append1 rfl _ _ _ rfl elemInts rfl hout hBz rfl rfl (by omega) (by omega) ?_; intro v7 w7 ho hb7)
            rw [← hus.out] at ho
            have own7 := cur_in ho hus.out
            clear ho hout
            obtain ⟨d7, m7, hv7⟩ : ∃ d m, v7 = .slice d (L.length + 1) m := by
              obtain ⟨s, h⟩ := own7
              have h2 := ow_front (A := [curRow c vc a10 s]) (T := rowsOf 27 3 v7 (us ++ [(Value.slice dz zs.length mz)]) (L ++ [zs])) (R := ZZ) h
              have h3 : Own w7 B (⟨27, 1, v7, (us ++ [(Value.slice dz zs.length mz)]).length, us ++ [(Value.slice dz zs.length mz)]⟩ :: (List.zipWith (intRowOf 3) (us ++ [(Value.slice dz zs.length mz)]) (L ++ [zs]) ++ ([curRow c vc a10 s] ++ ZZ))) := h2
              obtain ⟨d, m, h4⟩ := h3.form
              rw [List.length_append, hus.out] at h4
              exact ⟨d, m, h4⟩
            subst hv7
            go_roundw
            case rel => exact ⟨i + 1, by omega, by go_num, L ++ [zs], us ++ [(Value.slice dz zs.length mz)], d7, m7, a10, by rw [List.length_append]; rfl, hid (by rw [List.length_append, hLi.out]; rfl), hid (by simp [hus.out]), hid (hLs.out.snoc hsl hsb), by omega, by omega, (b12).trans hb7, by rw [List.length_append]; exact own7⟩
            case measure => simp [intOf]; omega
      · have hx0 : decide ((0 : Int) < (xs.length : Int)) = false := decide_eq_false (by omega)
        replace h0 := hid h0
        clear hcX
        obtain ⟨s6, hout⟩ := cur_out own8
        have hBz := CurAt.size own8
        rw [hus.out] at hout
        have hL60 : L.length ≤ 60 := by rw [hLi.out]; omega
        go_wp2_with (at_builtin; refine wpList_append1 rfl _ _ _ rfl elemInts rfl hout hBz rfl rfl (by omega) (by omega) ?_; intro v7 w7 ho hb7)
        rw [← hus.out] at ho
        have own7 := cur_in ho hus.out
        clear ho hout
        obtain ⟨d7, m7, hv7⟩ : ∃ d m, v7 = .slice d (L.length + 1) m := by
          obtain ⟨s, h⟩ := own7
          have h2 := ow_front (A := [curRow c vc a8 s]) (T := rowsOf 27 3 v7 (us ++ [(Value.slice da xs.length ma)]) (L ++ [xs])) (R := ZZ) h
          have h3 : Own w7 B (⟨27, 1, v7, (us ++ [(Value.slice da xs.length ma)]).length, us ++ [(Value.slice da xs.length ma)]⟩ :: (List.zipWith (intRowOf 3) (us ++ [(Value.slice da xs.length ma)]) (L ++ [xs]) ++ ([curRow c vc a8 s] ++ ZZ))) := h2
          obtain ⟨d, m, h4⟩ := h3.form
          rw [List.length_append, hus.out] at h4
          exact ⟨d, m, h4⟩
        subst hv7
        go_roundw
        case rel => exact ⟨i + 1, by omega, by go_num, L ++ [xs], us ++ [(Value.slice da xs.length ma)], d7, m7, a8, by rw [List.length_append]; rfl, hid (by rw [List.length_append, hLi.out]; rfl), hid (by simp [hus.out]), hid (hLs.out.snoc hxl hxb), by omega, by omega, (b8').trans hb7, by rw [List.length_append]; exact own7⟩
        case measure => simp [intOf]; omega
    · have eq0 : Ext w0 wq := hE.out _ bq
      have hcond : ((i : Int) < (X.length : Int) ∧ (i : Int) < 60) → False := fun h => hlt ⟨by omega, by omega⟩
      have hL60 : L.length ≤ 60 := by rw [hLi.out]; omega
      by_cases hiX : i < X.length
      · have hi6 : ¬ i < 60 := fun h => hlt ⟨hiX, h⟩
        replace hcond := hid hcond
        replace hlt := hid hlt
        go_wp2_with fail
        refine (one_any (w0 := w0) hc own hwB (by omega) (by omega)).mono ?_
        rintro e w9 ⟨q9, a9, rfl, h91, h92, own9, b9⟩
        have b9' := bq.trans b9
        clear own bq b9 eq0
        cases q9 with
        | false =>
          go_upto_region 15 with fail
          have own10 : CurAt w9 B c vc a9 ((⟨27, 1, .slice d L.length m, us.length, us⟩ : Row) :: (List.zipWith (intRowOf 3) us L ++ ZZ)) := own9
          have hrd : ∀ u R', Own u B ((⟨27, 1, .slice d L.length m, us.length, us⟩ : Row) :: (List.zipWith (intRowOf 3) us L ++ R')) → IsInts u (.slice dS A.length mS) A → IsRows u (.slice d L.length m) L := fun u R' h _ => by
            have hE1 := each_in h.tail hus.out hLs.out
            exact Own.readsRows (B := B) (e := 27) (vs := us) (R := List.zipWith (intRowOf 3) us L ++ R') h (by unfold ShortRows; omega) hE1.1 hE1.2
          replace hrd := hid hrd
          have ownE := own10
          rw [hZZ.out] at ownE
          have hel : ((⟨27, 1, .slice d L.length m, us.length, us⟩ : Row) :: (List.zipWith (intRowOf 3) us L ++ (intRowOf 3 sv A :: (intRowOf 3 rv X :: (boxRow 26 1 mb [.slice dm M.length mm] :: (rowsOf 27 3 (.slice dm M.length mm) vs M ++ [boxRow 26 1 r [.slice none 0 0]])))) : List Row)) = ((⟨27, 1, .slice d L.length m, us.length, us⟩ : Row) :: (List.zipWith (intRowOf 3) us L ++ (intRowOf 3 sv A :: (intRowOf 3 rv X :: (boxRow 26 1 mb [.slice dm M.length mm] :: rowsOf 27 3 (.slice dm M.length mm) vs M))))) ++ (boxRow 26 1 r [.slice none 0 0] :: []) := by simp
          have pmb : w9.cell? ⟨mb, 0, none⟩ = some (.slice dm M.length mm) := (ownE.at (e := 26) (z := 1) (b := mb) (cs := [.slice dm M.length mm]) (by simp) (j := 0) (by omega)).1
          have pr := (ownE.at (e := 26) (z := 1) (b := r) (cs := [.slice none 0 0]) (by simp) (j := 0) (by omega))
          have pr0 : w9.cell? ⟨r, 0, none⟩ = some (.slice none 0 0) := pr.1
          have pr1 := pr.2
          rw [hel] at ownE
          have hset := CurAt.set ownE 0 (.slice dm M.length mm)
          have y0 : (w9.setCell ⟨r, 0, none⟩ (.slice dm M.length mm)).cell? ⟨r, 0, none⟩ = some (.slice dm M.length mm) := by go_simp
          have bE := (b9').setCell hset.2 (p := ⟨r, 0, none⟩) (.slice dm M.length mm)
          have ownF := hset.1
          clear pr hel ownE hset own10 b9'
          go_wp2_with fail
          refine bodyPost_ret (v := .tuple #[.agg #[.slice dm M.length mm], .slice dS A.length mS, .slice dX X.length mX, (.slice d L.length m)]) (by simp [results, Tryz.results42, go_sem, y0]) rfl ?_
          have hF := ownF.rows
          have hFR : Own (w9.setCell ⟨r, 0, none⟩ (.slice dm M.length mm)) B ((⟨27, 1, .slice d L.length m, us.length, us⟩ : Row) :: (List.zipWith (intRowOf 3) us L ++ ((intRowOf 3 sv A :: (intRowOf 3 rv X :: (boxRow 26 1 mb [.slice dm M.length mm] :: rowsOf 27 3 (.slice dm M.length mm) vs M))) ++ [boxRow 26 1 r [.slice dm M.length mm]]))) := by
            have e : ((⟨27, 1, .slice d L.length m, us.length, us⟩ : Row) :: (List.zipWith (intRowOf 3) us L ++ ((intRowOf 3 sv A :: (intRowOf 3 rv X :: (boxRow 26 1 mb [.slice dm M.length mm] :: rowsOf 27 3 (.slice dm M.length mm) vs M))) ++ [boxRow 26 1 r [.slice dm M.length mm]])) : List Row) = ((⟨27, 1, .slice d L.length m, us.length, us⟩ : Row) :: (List.zipWith (intRowOf 3) us L ++ (intRowOf 3 sv A :: (intRowOf 3 rv X :: (boxRow 26 1 mb [.slice dm M.length mm] :: rowsOf 27 3 (.slice dm M.length mm) vs M))))) ++ ((boxRow 26 1 r ([.slice none 0 0].set 0 (.slice dm M.length mm)) : Row) :: []) := by simp
            rw [e]
            exact hF
          have hT := hFR.tail.right
          rw [hsvd.out, hrvd.out] at hT
          have hA := hT.reads (by unfold Short; omega) (small_i64 hab)
          have hX := hT.tail.reads (by unfold Short; omega) (small_i64 hXb)
          refine ⟨_, _, _, _, _, M, A, X, L, rfl, met_own hT.tail.tail.tail hvs.out hM.out, hA, hX, hrd.out _ _ hFR hA, hM.out, hal, by omega, ⟨?_⟩⟩
          rw [← hBd.out]
          exact bE
        | true =>
          have hB9 := own9.size
          obtain ⟨s9, h9⟩ := own9
          have hout := rw_out (A := []) (W := curRow c vc a9 s9) h9
          rw [hus.out] at hout
          go_upto_region 15 with (at_builtin; refine wpList_append1 rfl _ _ _ rfl elemInts rfl hout hB9 rfl rfl (by omega) (by omega) ?_; intro v10 w10 ho hb10)
          have b10 := b9'.trans hb10
          obtain ⟨d10, m10, hv10⟩ := ho.form
          have hv10' : v10 = .slice d10 (L.length + 1) m10 := hv10
          subst hv10'
          clear hv10
          have own10 : CurAt w10 B c vc a9 ((⟨27, 1, .slice d10 (L.length + 1) m10, L.length + 1, us ++ [.slice dS A.length mS]⟩ : Row) :: (List.zipWith (intRowOf 3) us L ++ ZZ)) := ⟨s9, ho.perm (List.Perm.swap _ _ _)⟩
          clear ho hout b9'
          have hrd : ∀ u R', Own u B ((⟨27, 1, .slice d10 (L.length + 1) m10, L.length + 1, us ++ [.slice dS A.length mS]⟩ : Row) :: (List.zipWith (intRowOf 3) us L ++ R')) → IsInts u (.slice dS A.length mS) A → IsRows u (.slice d10 (L.length + 1) m10) (L ++ [A]) := fun u R' h hA => by
            have hE1 := each_in h.tail hus.out hLs.out
            have hE2 : EachInts u [.slice dS A.length mS] [A] := ⟨rfl, fun j hj => by
              have : j = 0 := by simpa using hj
              subst this
              exact hA⟩
            have hE3 := hE1.app hE2
            refine Own.readsRows (B := B) (e := 27) (vs := us ++ [.slice dS A.length mS]) (R := List.zipWith (intRowOf 3) us L ++ R') ?_ (by unfold ShortRows; rw [List.length_append]; simp; omega) hE3.1 hE3.2
            unfold valRowOf
            rw [List.length_append, hus.out]
            exact h
          replace hrd := hid hrd
          have ownE := own10
          rw [hZZ.out] at ownE
          have hel : ((⟨27, 1, .slice d10 (L.length + 1) m10, L.length + 1, us ++ [.slice dS A.length mS]⟩ : Row) :: (List.zipWith (intRowOf 3) us L ++ (intRowOf 3 sv A :: (intRowOf 3 rv X :: (boxRow 26 1 mb [.slice dm M.length mm] :: (rowsOf 27 3 (.slice dm M.length mm) vs M ++ [boxRow 26 1 r [.slice none 0 0]])))) : List Row)) = ((⟨27, 1, .slice d10 (L.length + 1) m10, L.length + 1, us ++ [.slice dS A.length mS]⟩ : Row) :: (List.zipWith (intRowOf 3) us L ++ (intRowOf 3 sv A :: (intRowOf 3 rv X :: (boxRow 26 1 mb [.slice dm M.length mm] :: rowsOf 27 3 (.slice dm M.length mm) vs M))))) ++ (boxRow 26 1 r [.slice none 0 0] :: []) := by simp
          have pmb : w10.cell? ⟨mb, 0, none⟩ = some (.slice dm M.length mm) := (ownE.at (e := 26) (z := 1) (b := mb) (cs := [.slice dm M.length mm]) (by simp) (j := 0) (by omega)).1
          have pr := (ownE.at (e := 26) (z := 1) (b := r) (cs := [.slice none 0 0]) (by simp) (j := 0) (by omega))
          have pr0 : w10.cell? ⟨r, 0, none⟩ = some (.slice none 0 0) := pr.1
          have pr1 := pr.2
          rw [hel] at ownE
          have hset := CurAt.set ownE 0 (.slice dm M.length mm)
          have y0 : (w10.setCell ⟨r, 0, none⟩ (.slice dm M.length mm)).cell? ⟨r, 0, none⟩ = some (.slice dm M.length mm) := by go_simp
          have bE := (b10).setCell hset.2 (p := ⟨r, 0, none⟩) (.slice dm M.length mm)
          have ownF := hset.1
          clear pr hel ownE hset own10 b10
          go_wp2_with fail
          refine bodyPost_ret (v := .tuple #[.agg #[.slice dm M.length mm], .slice dS A.length mS, .slice dX X.length mX, (.slice d10 (L.length + 1) m10)]) (by simp [results, Tryz.results42, go_sem, y0]) rfl ?_
          have hF := ownF.rows
          have hFR : Own (w10.setCell ⟨r, 0, none⟩ (.slice dm M.length mm)) B ((⟨27, 1, .slice d10 (L.length + 1) m10, L.length + 1, us ++ [.slice dS A.length mS]⟩ : Row) :: (List.zipWith (intRowOf 3) us L ++ ((intRowOf 3 sv A :: (intRowOf 3 rv X :: (boxRow 26 1 mb [.slice dm M.length mm] :: rowsOf 27 3 (.slice dm M.length mm) vs M))) ++ [boxRow 26 1 r [.slice dm M.length mm]]))) := by
            have e : ((⟨27, 1, .slice d10 (L.length + 1) m10, L.length + 1, us ++ [.slice dS A.length mS]⟩ : Row) :: (List.zipWith (intRowOf 3) us L ++ ((intRowOf 3 sv A :: (intRowOf 3 rv X :: (boxRow 26 1 mb [.slice dm M.length mm] :: rowsOf 27 3 (.slice dm M.length mm) vs M))) ++ [boxRow 26 1 r [.slice dm M.length mm]])) : List Row) = ((⟨27, 1, .slice d10 (L.length + 1) m10, L.length + 1, us ++ [.slice dS A.length mS]⟩ : Row) :: (List.zipWith (intRowOf 3) us L ++ (intRowOf 3 sv A :: (intRowOf 3 rv X :: (boxRow 26 1 mb [.slice dm M.length mm] :: rowsOf 27 3 (.slice dm M.length mm) vs M))))) ++ ((boxRow 26 1 r ([.slice none 0 0].set 0 (.slice dm M.length mm)) : Row) :: []) := by simp
            rw [e]
            exact hF
          have hT := hFR.tail.right
          rw [hsvd.out, hrvd.out] at hT
          have hA := hT.reads (by unfold Short; omega) (small_i64 hab)
          have hX := hT.tail.reads (by unfold Short; omega) (small_i64 hXb)
          refine ⟨_, _, _, _, _, M, A, X, (L ++ [A]), rfl, met_own hT.tail.tail.tail hvs.out hM.out, hA, hX, hrd.out _ _ hFR hA, hM.out, hal, by omega, ⟨?_⟩⟩
          rw [← hBd.out]
          exact bE
      · replace hcond := hid hcond
        replace hlt := hid hlt
        go_wp2_with fail
        refine (one_any (w0 := w0) hc own hwB (by omega) (by omega)).mono ?_
        rintro e w9 ⟨q9, a9, rfl, h91, h92, own9, b9⟩
        have b9' := bq.trans b9
        clear own bq b9 eq0
        cases q9 with
        | false =>
          go_upto_region 15 with fail
          have own10 : CurAt w9 B c vc a9 ((⟨27, 1, .slice d L.length m, us.length, us⟩ : Row) :: (List.zipWith (intRowOf 3) us L ++ ZZ)) := own9
          have hrd : ∀ u R', Own u B ((⟨27, 1, .slice d L.length m, us.length, us⟩ : Row) :: (List.zipWith (intRowOf 3) us L ++ R')) → IsInts u (.slice dS A.length mS) A → IsRows u (.slice d L.length m) L := fun u R' h _ => by
            have hE1 := each_in h.tail hus.out hLs.out
            exact Own.readsRows (B := B) (e := 27) (vs := us) (R := List.zipWith (intRowOf 3) us L ++ R') h (by unfold ShortRows; omega) hE1.1 hE1.2
          replace hrd := hid hrd
          have ownE := own10
          rw [hZZ.out] at ownE
          have hel : ((⟨27, 1, .slice d L.length m, us.length, us⟩ : Row) :: (List.zipWith (intRowOf 3) us L ++ (intRowOf 3 sv A :: (intRowOf 3 rv X :: (boxRow 26 1 mb [.slice dm M.length mm] :: (rowsOf 27 3 (.slice dm M.length mm) vs M ++ [boxRow 26 1 r [.slice none 0 0]])))) : List Row)) = ((⟨27, 1, .slice d L.length m, us.length, us⟩ : Row) :: (List.zipWith (intRowOf 3) us L ++ (intRowOf 3 sv A :: (intRowOf 3 rv X :: (boxRow 26 1 mb [.slice dm M.length mm] :: rowsOf 27 3 (.slice dm M.length mm) vs M))))) ++ (boxRow 26 1 r [.slice none 0 0] :: []) := by simp
          have pmb : w9.cell? ⟨mb, 0, none⟩ = some (.slice dm M.length mm) := (ownE.at (e := 26) (z := 1) (b := mb) (cs := [.slice dm M.length mm]) (by simp) (j := 0) (by omega)).1
          have pr := (ownE.at (e := 26) (z := 1) (b := r) (cs := [.slice none 0 0]) (by simp) (j := 0) (by omega))
          have pr0 : w9.cell? ⟨r, 0, none⟩ = some (.slice none 0 0) := pr.1
          have pr1 := pr.2
          rw [hel] at ownE
          have hset := CurAt.set ownE 0 (.slice dm M.length mm)
          have y0 : (w9.setCell ⟨r, 0, none⟩ (.slice dm M.length mm)).cell? ⟨r, 0, none⟩ = some (.slice dm M.length mm) := by go_simp
          have bE := (b9').setCell hset.2 (p := ⟨r, 0, none⟩) (.slice dm M.length mm)
          have ownF := hset.1
          clear pr hel ownE hset own10 b9'
          go_wp2_with fail
          refine bodyPost_ret (v := .tuple #[.agg #[.slice dm M.length mm], .slice dS A.length mS, .slice dX X.length mX, (.slice d L.length m)]) (by simp [results, Tryz.results42, go_sem, y0]) rfl ?_
          have hF := ownF.rows
          have hFR : Own (w9.setCell ⟨r, 0, none⟩ (.slice dm M.length mm)) B ((⟨27, 1, .slice d L.length m, us.length, us⟩ : Row) :: (List.zipWith (intRowOf 3) us L ++ ((intRowOf 3 sv A :: (intRowOf 3 rv X :: (boxRow 26 1 mb [.slice dm M.length mm] :: rowsOf 27 3 (.slice dm M.length mm) vs M))) ++ [boxRow 26 1 r [.slice dm M.length mm]]))) := by
            have e : ((⟨27, 1, .slice d L.length m, us.length, us⟩ : Row) :: (List.zipWith (intRowOf 3) us L ++ ((intRowOf 3 sv A :: (intRowOf 3 rv X :: (boxRow 26 1 mb [.slice dm M.length mm] :: rowsOf 27 3 (.slice dm M.length mm) vs M))) ++ [boxRow 26 1 r [.slice dm M.length mm]])) : List Row) = ((⟨27, 1, .slice d L.length m, us.length, us⟩ : Row) :: (List.zipWith (intRowOf 3) us L ++ (intRowOf 3 sv A :: (intRowOf 3 rv X :: (boxRow 26 1 mb [.slice dm M.length mm] :: rowsOf 27 3 (.slice dm M.length mm) vs M))))) ++ ((boxRow 26 1 r ([.slice none 0 0].set 0 (.slice dm M.length mm)) : Row) :: []) := by simp
            rw [e]
            exact hF
          have hT := hFR.tail.right
          rw [hsvd.out, hrvd.out] at hT
          have hA := hT.reads (by unfold Short; omega) (small_i64 hab)
          have hX := hT.tail.reads (by unfold Short; omega) (small_i64 hXb)
          refine ⟨_, _, _, _, _, M, A, X, L, rfl, met_own hT.tail.tail.tail hvs.out hM.out, hA, hX, hrd.out _ _ hFR hA, hM.out, hal, by omega, ⟨?_⟩⟩
          rw [← hBd.out]
          exact bE
        | true =>
          have hB9 := own9.size
          obtain ⟨s9, h9⟩ := own9
          have hout := rw_out (A := []) (W := curRow c vc a9 s9) h9
          rw [hus.out] at hout
          go_upto_region 15 with (at_builtin; refine wpList_append1 rfl _ _ _ rfl elemInts rfl hout hB9 rfl rfl (by omega) (by omega) ?_; intro v10 w10 ho hb10)
          have b10 := b9'.trans hb10
          obtain ⟨d10, m10, hv10⟩ := ho.form
          have hv10' : v10 = .slice d10 (L.length + 1) m10 := hv10
          subst hv10'
          clear hv10
          have own10 : CurAt w10 B c vc a9 ((⟨27, 1, .slice d10 (L.length + 1) m10, L.length + 1, us ++ [.slice dS A.length mS]⟩ : Row) :: (List.zipWith (intRowOf 3) us L ++ ZZ)) := ⟨s9, ho.perm (List.Perm.swap _ _ _)⟩
          clear ho hout b9'
          have hrd : ∀ u R', Own u B ((⟨27, 1, .slice d10 (L.length + 1) m10, L.length + 1, us ++ [.slice dS A.length mS]⟩ : Row) :: (List.zipWith (intRowOf 3) us L ++ R')) → IsInts u (.slice dS A.length mS) A → IsRows u (.slice d10 (L.length + 1) m10) (L ++ [A]) := fun u R' h hA => by
            have hE1 := each_in h.tail hus.out hLs.out
            have hE2 : EachInts u [.slice dS A.length mS] [A] := ⟨rfl, fun j hj => by
              have : j = 0 := by simpa using hj
              subst this
              exact hA⟩
            have hE3 := hE1.app hE2
            refine Own.readsRows (B := B) (e := 27) (vs := us ++ [.slice dS A.length mS]) (R := List.zipWith (intRowOf 3) us L ++ R') ?_ (by unfold ShortRows; rw [List.length_append]; simp; omega) hE3.1 hE3.2
            unfold valRowOf
            rw [List.length_append, hus.out]
            exact h
          replace hrd := hid hrd
          have ownE := own10
          rw [hZZ.out] at ownE
          have hel : ((⟨27, 1, .slice d10 (L.length + 1) m10, L.length + 1, us ++ [.slice dS A.length mS]⟩ : Row) :: (List.zipWith (intRowOf 3) us L ++ (intRowOf 3 sv A :: (intRowOf 3 rv X :: (boxRow 26 1 mb [.slice dm M.length mm] :: (rowsOf 27 3 (.slice dm M.length mm) vs M ++ [boxRow 26 1 r [.slice none 0 0]])))) : List Row)) = ((⟨27, 1, .slice d10 (L.length + 1) m10, L.length + 1, us ++ [.slice dS A.length mS]⟩ : Row) :: (List.zipWith (intRowOf 3) us L ++ (intRowOf 3 sv A :: (intRowOf 3 rv X :: (boxRow 26 1 mb [.slice dm M.length mm] :: rowsOf 27 3 (.slice dm M.length mm) vs M))))) ++ (boxRow 26 1 r [.slice none 0 0] :: []) := by simp
          have pmb : w10.cell? ⟨mb, 0, none⟩ = some (.slice dm M.length mm) := (ownE.at (e := 26) (z := 1) (b := mb) (cs := [.slice dm M.length mm]) (by simp) (j := 0) (by omega)).1
          have pr := (ownE.at (e := 26) (z := 1) (b := r) (cs := [.slice none 0 0]) (by simp) (j := 0) (by omega))
          have pr0 : w10.cell? ⟨r, 0, none⟩ = some (.slice none 0 0) := pr.1
          have pr1 := pr.2
          rw [hel] at ownE
          have hset := CurAt.set ownE 0 (.slice dm M.length mm)
          have y0 : (w10.setCell ⟨r, 0, none⟩ (.slice dm M.length mm)).cell? ⟨r, 0, none⟩ = some (.slice dm M.length mm) := by go_simp
          have bE := (b10).setCell hset.2 (p := ⟨r, 0, none⟩) (.slice dm M.length mm)
          have ownF := hset.1
          clear pr hel ownE hset own10 b10
          go_wp2_with fail
          refine bodyPost_ret (v := .tuple #[.agg #[.slice dm M.length mm], .slice dS A.length mS, .slice dX X.length mX, (.slice d10 (L.length + 1) m10)]) (by simp [results, Tryz.results42, go_sem, y0]) rfl ?_
          have hF := ownF.rows
          have hFR : Own (w10.setCell ⟨r, 0, none⟩ (.slice dm M.length mm)) B ((⟨27, 1, .slice d10 (L.length + 1) m10, L.length + 1, us ++ [.slice dS A.length mS]⟩ : Row) :: (List.zipWith (intRowOf 3) us L ++ ((intRowOf 3 sv A :: (intRowOf 3 rv X :: (boxRow 26 1 mb [.slice dm M.length mm] :: rowsOf 27 3 (.slice dm M.length mm) vs M))) ++ [boxRow 26 1 r [.slice dm M.length mm]]))) := by
            have e : ((⟨27, 1, .slice d10 (L.length + 1) m10, L.length + 1, us ++ [.slice dS A.length mS]⟩ : Row) :: (List.zipWith (intRowOf 3) us L ++ ((intRowOf 3 sv A :: (intRowOf 3 rv X :: (boxRow 26 1 mb [.slice dm M.length mm] :: rowsOf 27 3 (.slice dm M.length mm) vs M))) ++ [boxRow 26 1 r [.slice dm M.length mm]])) : List Row) = ((⟨27, 1, .slice d10 (L.length + 1) m10, L.length + 1, us ++ [.slice dS A.length mS]⟩ : Row) :: (List.zipWith (intRowOf 3) us L ++ (intRowOf 3 sv A :: (intRowOf 3 rv X :: (boxRow 26 1 mb [.slice dm M.length mm] :: rowsOf 27 3 (.slice dm M.length mm) vs M))))) ++ ((boxRow 26 1 r ([.slice none 0 0].set 0 (.slice dm M.length mm)) : Row) :: []) := by simp
            rw [e]
            exact hF
          have hT := hFR.tail.right
          rw [hsvd.out, hrvd.out] at hT
          have hA := hT.reads (by unfold Short; omega) (small_i64 hab)
          have hX := hT.tail.reads (by unfold Short; omega) (small_i64 hXb)
          refine ⟨_, _, _, _, _, M, A, X, (L ++ [A]), rfl, met_own hT.tail.tail.tail hvs.out hM.out, hA, hX, hrd.out _ _ hFR hA, hM.out, hal, by omega, ⟨?_⟩⟩
          rw [← hBd.out]
          exact bE
end Go.Proofs.YtmgcfnciejfpbaaGreat
