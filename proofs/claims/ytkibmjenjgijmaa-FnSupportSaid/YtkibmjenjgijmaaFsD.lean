/- The draws of SupportOf and FromSupport. -/
import Derived.Test.YtkibmjenjgijmaaMtV
namespace Go.Proofs.Ytkibmjenjgijmaa
open Go.RowKit

/-- the list of a table comes to the front, past a new row and the cursor -/
theorem cur_out {w : World} {B c e1 e2 : Nat} {vc ov av : Value} {a : Int} {us : List Value} {L : List (List Int)} {xs : List Int} {R : List Row} (h : CurAt w B c vc a (intRowOf e2 av xs :: (rowsOf e1 e2 ov us L ++ R))) :
    ∃ s, Own w B (⟨e1, 1, ov, us.length, us⟩ :: (intRowOf e2 av xs :: ([curRow c vc a s] ++ (List.zipWith (intRowOf e2) us L ++ R)))) := by
  obtain ⟨s, h⟩ := h
  refine ⟨s, h.perm ?_⟩
  have p1 : (⟨e1, 1, ov, us.length, us⟩ :: (intRowOf e2 av xs :: ([curRow c vc a s] ++ (List.zipWith (intRowOf e2) us L ++ R))) : List Row).Perm (intRowOf e2 av xs :: (⟨e1, 1, ov, us.length, us⟩ :: (curRow c vc a s :: (List.zipWith (intRowOf e2) us L ++ R)))) := List.Perm.swap _ _ _
  have p2 : (intRowOf e2 av xs :: (⟨e1, 1, ov, us.length, us⟩ :: (curRow c vc a s :: (List.zipWith (intRowOf e2) us L ++ R))) : List Row).Perm (intRowOf e2 av xs :: (curRow c vc a s :: (⟨e1, 1, ov, us.length, us⟩ :: (List.zipWith (intRowOf e2) us L ++ R)))) := List.Perm.cons _ (List.Perm.swap _ _ _)
  exact (p1.trans p2).trans (List.Perm.swap _ _ _)
theorem cur_in {w : World} {B c e1 e2 : Nat} {vc ov av : Value} {a s : Int} {us : List Value} {L : List (List Int)} {xs : List Int} {R : List Row} (h : Own w B (⟨e1, 1, ov, us.length + 1, us ++ [av]⟩ :: (intRowOf e2 av xs :: ([curRow c vc a s] ++ (List.zipWith (intRowOf e2) us L ++ R))))) (hl : us.length = L.length) :
    CurAt w B c vc a (rowsOf e1 e2 ov (us ++ [av]) (L ++ [xs]) ++ R) := ⟨s, rw_in (A := [curRow c vc a s]) h hl⟩
set_option maxHeartbeats 800000 in
set_option maxRecDepth 100000 in
theorem drawSup_any {w0 w : World} [Ext w0 w] {vc : Value} {nb : Nat} (hc : IsBytes w0 vc nb) :
    Calls Try.prog 8 #[vc] w (IWPost w) := by
  have hc' := hc
  obtain ⟨ac, cc, rfl⟩ := hc.form
  go_enter Try.func8, Try.ntmps8
  go_upto_region 1 with fail
  have e1 : Ext w (w.alloc (.cells #[.slice none 0 0] 26)) := inferInstance
  have r0 : (w.alloc (.cells #[.slice none 0 0] 26)).cell? ⟨w.heap.size, 0, none⟩ = some (.slice none 0 0) := by go_simp
  have rf : (w.alloc (.cells #[.slice none 0 0] 26)).frozen? ⟨w.heap.size, 0, none⟩ = false := by go_simp
  have hsz : w.heap.size < (w.alloc (.cells #[.slice none 0 0] 26)).heap.size := by simp
  generalize w.alloc (.cells #[.slice none 0 0] 26) = w1 at *
  have e01 : Ext w0 w1 := Ext.trans ‹Ext w0 w› e1
  go_wp2_with fail
  refine (drawIW_any (w0 := w0) (w := w1) hc').mono ?_
  rintro e w2 ⟨d, m, u, M, k, ws, Z, rfl, hM, hk1, hk2, hwl, own2, hZ, e2⟩
  have r2 := e2.cell r0
  have rf2 := e2.frozen r0 rf
  have hs1 : w.heap.size < w1.heap.size := hsz
  have own3 := (own2.setBelow (p := ⟨w.heap.size, 0, none⟩) hs1 (.slice d M.length m)).mono (Nat.le_of_lt hs1)
  have y0 : (w2.setCell ⟨w.heap.size, 0, none⟩ (.slice d M.length m)).cell? ⟨w.heap.size, 0, none⟩ = some (.slice d M.length m) := by go_simp
  have e3 : Ext w (w2.setCell ⟨w.heap.size, 0, none⟩ (.slice d M.length m)) := ⟨(Ext.trans e1 e2).below.setCell (Nat.le_refl _) _⟩
  clear own2
  go_wp2_with fail
  refine bodyPost_ret (v := .tuple #[.agg #[.slice d M.length m], .int .i64 k, u]) (by simp [results, Try.results8, go_sem, y0]) rfl ?_
  exact ⟨d, m, u, M, k, ws, Z, rfl, hM, hk1, hk2, hwl, own3, hZ, e3⟩

/-- what the draw gives: a metric, rows and numbers -/
def FDPost (w : World) (e : Ending) (w' : World) : Prop :=
  ∃ d m cv vv M C V, e = .returned (.tuple #[.agg #[.slice d (M : List (List Int)).length m], cv, vv]) ∧ IsMet w' (.agg #[.slice d M.length m]) M ∧ IsRows w' cv C ∧ IsInts w' vv V ∧ (C : List (List Int)).length ≤ 20 ∧ (V : List Int).length ≤ 20 ∧ Ext w w'
/-- rows of small numbers, few in a row -/
def SmR (L : List (List Int)) : Prop := ∀ r ∈ L, r.length ≤ 20 ∧ ∀ x ∈ r, -1 ≤ x ∧ x ≤ 65535
theorem SmR.snoc {L : List (List Int)} (h : SmR L) {xs : List Int} (h1 : xs.length ≤ 20) (h2 : ∀ x ∈ xs, -1 ≤ x ∧ x ≤ 65535) : SmR (L ++ [xs]) := by
  intro r hr
  rcases List.mem_append.1 hr with h3 | h3
  · exact h r h3
  · rw [List.mem_singleton.1 h3]; exact ⟨h1, h2⟩
theorem SmR.short {L : List (List Int)} (h : SmR L) : (∀ r ∈ L, Short r.length) ∧ ∀ r ∈ L, ∀ x ∈ r, I64 x :=
  ⟨fun r hr => by have := (h r hr).1; unfold Short; omega, fun r hr => small_i64 (h r hr).2⟩
theorem small_i64' {L : List Int} (h : ∀ x ∈ L, -1 ≤ x ∧ x ≤ 100000) : ∀ x ∈ L, I64 x := fun x hx => by have := h x hx; unfold I64; omega
theorem smSnoc {L : List Int} (h : ∀ x ∈ L, -1 ≤ x ∧ x ≤ 100000) {y : Int} (hy : -1 ≤ y ∧ y ≤ 100000) : ∀ x ∈ L ++ [y], -1 ≤ x ∧ x ≤ 100000 := by
  intro x hx
  rcases List.mem_append.1 hx with h3 | h3
  · exact h x h3
  · rw [List.mem_singleton.1 h3]; exact hy
theorem snocLen {us : List Value} {L : List (List Int)} {n : Nat} (h1 : us.length = n) (h2 : L.length = n) {a : Value} {b : List Int} : (us ++ [a]).length = (L ++ [b]).length := by simp [h1, h2]
theorem intsRow {w : World} {B e n : Nat} {v : Value} {xs : List Int} {R : List Row} (h : Own w B (⟨e, 1, v, n, xs.map (Value.int .i64)⟩ :: R)) (hn : xs.length = n) (hs : n ≤ 1000) (hi : ∀ x ∈ xs, -1 ≤ x ∧ x ≤ 100000) : IsInts w v xs := by
  subst hn
  exact Own.reads (e := e) h (by unfold Short; omega) (small_i64' hi)
theorem ow_size {w : World} {B c : Nat} {vc : Value} {a s : Int} {R : List Row} (h : Own w B (curRow c vc a s :: R)) : B ≤ w.heap.size := CurAt.size ⟨s, h⟩
set_option maxHeartbeats 3200000 in
set_option maxRecDepth 100000 in
theorem drawFS_any {w0 w : World} [Ext w0 w] {vc : Value} {nb : Nat} (hc : IsBytes w0 vc nb) :
    Calls Try.prog 11 #[vc] w (FDPost w) := by
  obtain ⟨ac, cc, rfl⟩ := hc.form
  go_enter Try.func11, Try.ntmps11
  go_upto_region 2 with fail
  have hsz : w0.heap.size ≤ w.heap.size := (‹Ext w0 w›).size
  have own1 := CurAt.start (vc := .slice ac nb cc) (((Own.nil w w.heap.size).lit 26 1 1 #[.slice none 0 0] (Nat.le_refl _) (by unfold maxLen; omega) rfl)) (by simp)
  have e1 : Ext w ((w.alloc (.cells #[.slice none 0 0] 26)).alloc (.cells #[.slice ac nb cc, .int .i64 0, .int .u64 0] 68)) := inferInstance
  have hcs : (w.alloc (.cells #[.slice none 0 0] 26)).heap.size = w.heap.size + 1 := by simp
  rw [hcs] at own1
  obtain ⟨r, hr⟩ : ∃ r, r = w.heap.size := ⟨_, rfl⟩
  obtain ⟨c, hcd⟩ : ∃ c, c = w.heap.size + 1 := ⟨_, rfl⟩
  obtain ⟨B, hBd⟩ : ∃ B, B = w.heap.size := ⟨_, rfl⟩
  have own1' : CurAt ((w.alloc (.cells #[.slice none 0 0] 26)).alloc (.cells #[.slice ac nb cc, .int .i64 0, .int .u64 0] 68)) B c (.slice ac nb cc) 0 [boxRow 26 1 r [.slice none 0 0]] := by
    rw [hBd, hcd, hr]; exact own1
  have hwB : w0.heap.size ≤ B := by omega
  have b1 : Below B w ((w.alloc (.cells #[.slice none 0 0] 26)).alloc (.cells #[.slice ac nb cc, .int .i64 0, .int .u64 0] 68)) := by rw [hBd]; exact e1.below
  rw [← hcd, ← hr]
  generalize (w.alloc (.cells #[.slice none 0 0] 26)).alloc (.cells #[.slice ac nb cc, .int .i64 0, .int .u64 0] 68) = w1 at *
  replace hr := hid hr
  replace hcd := hid hcd
  replace hBd := hid hBd
  have hE : ∀ u, Below B w u → Ext w0 u := fun u h => ⟨(‹Ext w0 w›).below.trans (h.mono hwB)⟩
  replace hE := hid hE
  clear own1 e1 hcs
  have e1 : Ext w0 w1 := hE.out _ b1
  go_wp2_with fail
  refine (metricD_any (w0 := w0) hc own1' hwB (by omega) (by omega)).mono ?_
  rintro e w2 ⟨dm, mm, vs, M, a2, rfl, hvs, hM, ha1, ha2, own2, b2⟩
  have b2' := b1.trans b2
  have e2 : Ext w0 w2 := hE.out _ b2'
  clear own1' b1 b2 e1
  have hn7 := hM.1
  replace hM := hid hM
  replace hvs := hid hvs
  have own4 := own2.box 26 1 #[.slice dm M.length mm] own2.size rfl
  have b4' : Below B w (w2.alloc (.cells #[.slice dm M.length mm] 26)) := b2'.alloc own2.size _
  obtain ⟨mb, hmb⟩ : ∃ r, r = w2.heap.size := ⟨_, rfl⟩
  go_upto_region 3 with fail
  generalize w2.alloc (.cells #[.slice dm M.length mm] 26) = w4 at *
  rw [← hmb] at own4 ⊢
  replace hmb := hid hmb
  clear own2 b2' e2
  have e4 : Ext w0 w4 := hE.out _ b4'
  go_wp2_with fail
  refine (pick_any (w0 := w0) hc own4 hwB (by omega) (by omega)).mono ?_
  rintro e w3 ⟨x3, a3, rfl, h30, h31, h32, h33, h34, own3, b3⟩
  have b3' := b4'.trans b3
  have hx3 := h32 (by omega)
  clear own4 b4' b3 e4 h31 h32
  obtain ⟨k, hk⟩ : ∃ k : Nat, (k : Int) = 1 + x3 := ⟨(1 + x3).toNat, by omega⟩
  have hk10 : k ≤ 10 := by omega
  obtain ⟨ZZ, hZZ⟩ : ∃ Z, Z = (boxRow 26 1 mb [.slice dm M.length mm] :: (rowsOf 27 3 (.slice dm M.length mm) vs M ++ [boxRow 26 1 r [.slice none 0 0]])) := ⟨_, rfl⟩
  have own3z : CurAt w3 B c (.slice ac nb cc) a3 ZZ := by rw [hZZ]; exact own3
  have hZm := hid (show ∀ u av S, CurAt u B c (.slice ac nb cc) av S → ZZ.Sublist S → u.cell? ⟨mb, 0, none⟩ = some (.slice dm M.length mm) from fun u av S h hs => by
    have h2 := h.sub hs
    rw [hZZ] at h2
    exact (h2.at (e := 26) (z := 1) (b := mb) (cs := [.slice dm M.length mm]) (by simp) (j := 0) (by omega)).1)
  clear own3
  replace hZZ := hid hZZ
  generalize hvc : (.slice ac nb cc : Value) = vc at *
  replace hvc := hid hvc
  go_upto_region 4 with fail
  rw [← hk]
  replace hk := hid hk
  have hB3 := own3z.size
  have own5 := own3z.lit (e := 3) (n := 0) (cs := #[]) [] hB3 rfl rfl (by simp)
  have b5 : Below B w (w3.alloc (.cells #[] 3)) := b3'.alloc hB3 _
  obtain ⟨gv, hgv⟩ : ∃ z, z = w3.heap.size := ⟨_, rfl⟩
  go_upto_region 5 with fail
  rw [← hgv] at own5 ⊢
  replace hgv := hid hgv
  generalize w3.alloc (.cells #[] 3) = w5 at *
  clear own3z b3' hB3
  have hB5 := own5.size
  obtain ⟨gl, hgl⟩ : ∃ z, z = w5.heap.size := ⟨_, rfl⟩
  have own6 : CurAt (w5.alloc (.cells #[] 27)) B c vc a3 (rowsOf 27 3 (.slice (some ⟨gl, 0, none⟩) 0 0) [] [] ++ (⟨3, 1, .slice (some ⟨gv, 0, none⟩) 0 0, 0, ([] : List Int).map (Value.int .i64)⟩ :: ZZ)) := by
    obtain ⟨s, h⟩ := own5
    rw [hgl]
    exact ⟨s, (h.lit 27 1 0 #[] hB5 (by unfold maxLen; omega) rfl).perm (List.Perm.swap _ _ _)⟩
  have b6 : Below B w (w5.alloc (.cells #[] 27)) := b5.alloc hB5 _
  go_upto_region 6 with fail
  rw [← hgl]
  replace hgl := hid hgl
  generalize w5.alloc (.cells #[] 27) = w6 at *
  clear own5 b5 hB5
  have hB6 := own6.size
  have own7 := own6.lit (e := 3) (n := 7) (cs := #[.int .i64 1, .int .i64 2, .int .i64 3, .int .i64 4, .int .i64 6, .int .i64 0, .int .i64 2]) [1, 2, 3, 4, 6, 0, 2] hB6 rfl rfl (by simp)
  have b7 : Below B w (w6.alloc (.cells #[.int .i64 1, .int .i64 2, .int .i64 3, .int .i64 4, .int .i64 6, .int .i64 0, .int .i64 2] 3)) := b6.alloc hB6 _
  obtain ⟨ga, hga⟩ : ∃ z, z = w6.heap.size := ⟨_, rfl⟩
  go_wp2_with fail
  rw [← hga] at own7 ⊢
  replace hga := hid hga
  generalize w6.alloc (.cells #[.int .i64 1, .int .i64 2, .int .i64 3, .int .i64 4, .int .i64 6, .int .i64 0, .int .i64 2] 3) = w7 at *
  clear own6 b6 hB6
  have e7 : Ext w0 w7 := hE.out _ b7
  refine (among_any (w0 := w0) hc own7 hwB (by omega) (by omega) (by simp) (by simp)).mono ?_
  rintro e w8 ⟨x8, a8, rfl, h8, h81, h82, own8, b8⟩
  have b8' := b7.trans b8
  have own8' := own8.drop
  have hx8 : 0 ≤ x8 ∧ x8 ≤ 6 := by
    simp only [List.mem_cons, List.not_mem_nil, or_false] at h8
    omega
  obtain ⟨q8, rfl⟩ := Int.eq_ofNat_of_zero_le hx8.1
  clear own7 own8 b7 b8 e7 h8
  go_wp2_with fail
  go_loopw [8, 9, 10] (fun vv cv iv wr => ∃ q : Nat, q ≤ 6 ∧ iv = .int .i64 q ∧ ∃ L us V dC nC mC dV nV mV, ∃ aq : Int, cv = .slice dC nC mC ∧ vv = .slice dV nV mV ∧ Hid ((L : List (List Int)).length = nC) ∧ Hid ((us : List Value).length = nC) ∧ Hid ((V : List Int).length = nV) ∧ nC + q ≤ 6 ∧ nV + q ≤ 6 ∧ Hid (SmR L) ∧ Hid (∀ x ∈ V, -1 ≤ x ∧ x ≤ 100000) ∧ 0 ≤ aq ∧ aq + 100 * q ≤ 2000 ∧ Below B w wr ∧ CurAt wr B c vc aq (rowsOf 27 3 (.slice dC nC mC) us L ++ (⟨3, 1, .slice dV nV mV, nV, V.map (Value.int .i64)⟩ :: ZZ))) (fun _ _ iv _ => (intOf iv).toNat)
  case atStart => exact ⟨q8, by omega, rfl, [], [], [], _, _, _, _, _, _, a8, rfl, rfl, hid rfl, hid rfl, hid rfl, by omega, by omega, hid (by intro r hr; simp at hr), hid (by intro r hr; simp at hr), by omega, by omega, b8', own8'⟩
  case round =>
    clear own8' b8'
    obtain ⟨i, hi, rfl, L, us, V, dC, nC, mC, dV, nV, mV, aq, rfl, rfl, hLn, hus, hVn, hn1, hn2, hLs, hVs, hq1, hq2, bq, own⟩ := hrel
    obtain ⟨wq, rfl⟩ : ∃ y : World, y = wr := ⟨_, rfl⟩
    have eq0 : Ext w0 wq := hE.out _ bq
    by_cases hlt : 0 < i
    · go_wp2_with fail
      refine (pick_any (w0 := w0) hc own hwB (by omega) (by omega)).mono ?_
      rintro e w5 ⟨x5, a5, rfl, h50, h51, h52, h53, h54, own5, b5⟩
      have b5' := bq.trans b5
      clear own bq b5 eq0 h52
      obtain ⟨s5, h5⟩ := own5
      have hv5 := ow_pull (A := curRow c vc a5 s5 :: rowsOf 27 3 (.slice dC nC mC) us L) h5
      have hB5 := ow_size h5
      go_upto_region 10 with (at_builtin; refine wpList_append1 rfl _ _ _ rfl elemInt rfl hv5 hB5 rfl rfl (by omega) (by omega) ?_; intro v7 w7 ho hb7)
      obtain ⟨d7, m7, hv7⟩ := ho.form
      have hv7' : v7 = .slice d7 (nV + 1) m7 := hv7
      subst hv7'
      have own7 : CurAt w7 B c vc a5 (rowsOf 27 3 (.slice dC nC mC) us L ++ (⟨3, 1, .slice d7 (nV + 1) m7, nV + 1, (V ++ [x5]).map (Value.int .i64)⟩ :: ZZ)) := ⟨s5, ow_push (A := curRow c vc a5 s5 :: rowsOf 27 3 (.slice dC nC mC) us L) (by rw [List.map_append]; exact ho)⟩
      have b7 := (b5').trans hb7
      clear ho hv5 h5 hv7 b5' hB5
      have e7 : Ext w0 w7 := hE.out _ b7
      have p7 := hZm.out w7 a5 _ own7 ((List.sublist_cons_self _ _).trans (List.sublist_append_right _ _))
      go_wp2_with fail
      refine (l1Most_any 1 M.length w7).mono ?_
      rintro e w8 ⟨rfl, rfl⟩
      clear p7
      go_wp2_with fail
      refine (config_any (w0 := w0) hc own7 hwB (by omega) (by omega) (n := max 1 (M.length : Int)) (k := k) (by omega) hk10).mono ?_
      rintro e w8 ⟨av, X, a8', rfl, hXl, hXb, h81', h82', own8, b8⟩
      have b8' := b7.trans b8
      clear own7 b7 b8 e7
      obtain ⟨dA, mA, rfl⟩ := ow_ints own8.rows
      obtain ⟨s8, hout⟩ := cur_out own8
      rw [hus.out] at hout
      have hB8 := own8.size
      go_wp2_with (at_builtin; refine wpList_append1 rfl _ _ _ rfl elemInts rfl hout hB8 rfl rfl (by omega) (by omega) ?_; intro v9 w9 ho hb9; obtain ⟨d9, m9, hv9⟩ := ho.form; (obtain rfl : v9 = .slice d9 (nC + 1) m9 := hv9))
      have own9 : CurAt w9 B c vc a8' (rowsOf 27 3 (.slice d9 (nC + 1) m9) (us ++ [.slice dA X.length mA]) (L ++ [X]) ++ (⟨3, 1, .slice d7 (nV + 1) m7, nV + 1, (V ++ [x5]).map (Value.int .i64)⟩ :: ZZ)) := cur_in (s := s8) (by rw [hus.out]; exact ho) (by rw [hus.out, hLn.out])
      have b9 := b8'.trans hb9
      clear ho hout own8 hB8
      go_roundw
      case rel => exact ⟨i - 1, by omega, by go_num, L ++ [X], us ++ [.slice dA X.length mA], V ++ [x5], d9, nC + 1, m9, d7, nV + 1, m7, a8', rfl, rfl, hid (by rw [List.length_append, hLn.out]; rfl), hid (by rw [List.length_append, hus.out]; rfl), hid (by rw [List.length_append, hVn.out]; rfl), by omega, by omega, hid (hLs.out.snoc hXl hXb), hid (smSnoc hVs.out (by omega)), by omega, by omega, b9, own9⟩
      case measure => simp [intOf]; omega
    · have hi0 : i = 0 := by omega
      subst hi0
      go_wp2_with fail
      refine (pick_any (w0 := w0) hc own hwB (by omega) (by omega)).mono ?_
      rintro e w5 ⟨x5, a5, rfl, h50, h51, h52, h53, h54, own5, b5⟩
      have b5' := bq.trans b5
      clear own bq b5 eq0 h52
      by_cases hx0 : x5 = 0
      · subst hx0
        obtain ⟨s5, h5⟩ := own5
        have hv5 := ow_pull (A := curRow c vc a5 s5 :: rowsOf 27 3 (.slice dC nC mC) us L) h5
        have hB5 := ow_size h5
        go_upto_region 17 with (at_builtin; refine wpList_append1 rfl _ _ _ rfl elemInt rfl hv5 hB5 rfl rfl (by omega) (by omega) ?_; intro v7 w7 ho hb7)
        obtain ⟨d7, m7, hv7⟩ := ho.form
        have hv7' : v7 = .slice d7 (nV + 1) m7 := hv7
        subst hv7'
        have own7 : CurAt w7 B c vc a5 (rowsOf 27 3 (.slice dC nC mC) us L ++ (⟨3, 1, .slice d7 (nV + 1) m7, nV + 1, (V ++ [1]).map (Value.int .i64)⟩ :: ZZ)) := ⟨s5, ow_push (A := curRow c vc a5 s5 :: rowsOf 27 3 (.slice dC nC mC) us L) (by rw [List.map_append]; exact ho)⟩
        have b7 := (b5').trans hb7
        clear ho hv5 h5 hv7 b5' hB5
        have own9 := own7
        have b9 := b7
        clear own7 b7
        rw [hZZ.out] at own9
        have pmb : w7.cell? ⟨mb, 0, none⟩ = some (.slice dm M.length mm) := (own9.at (e := 26) (z := 1) (b := mb) (cs := [.slice dm M.length mm]) (by simp) (j := 0) (by omega)).1
        have pr := (own9.at (e := 26) (z := 1) (b := r) (cs := [.slice none 0 0]) (by simp) (j := 0) (by omega))
        have pr0 : w7.cell? ⟨r, 0, none⟩ = some (.slice none 0 0) := pr.1
        have pr1 := pr.2
        have hel : (rowsOf 27 3 (.slice dC nC mC) us L ++ (⟨3, 1, (.slice d7 (nV + 1) m7), (nV + 1), ((V ++ [1])).map (Value.int .i64)⟩ :: (boxRow 26 1 mb [.slice dm M.length mm] :: (rowsOf 27 3 (.slice dm M.length mm) vs M ++ [boxRow 26 1 r [.slice none 0 0]]))) : List Row) = (rowsOf 27 3 (.slice dC nC mC) us L ++ (⟨3, 1, (.slice d7 (nV + 1) m7), (nV + 1), ((V ++ [1])).map (Value.int .i64)⟩ :: (boxRow 26 1 mb [.slice dm M.length mm] :: rowsOf 27 3 (.slice dm M.length mm) vs M))) ++ (boxRow 26 1 r [.slice none 0 0] :: []) := by simp
        rw [hel] at own9
        have hset := CurAt.set own9 0 (.slice dm M.length mm)
        have y0 : (w7.setCell ⟨r, 0, none⟩ (.slice dm M.length mm)).cell? ⟨r, 0, none⟩ = some (.slice dm M.length mm) := by go_simp
        have bE := (b9).setCell hset.2 (p := ⟨r, 0, none⟩) (.slice dm M.length mm)
        have ownF := hset.1
        clear pr hel own9 hset b9
        go_wp2_with fail
        refine bodyPost_ret (v := .tuple #[.agg #[.slice dm M.length mm], (.slice dC nC mC), (.slice d7 (nV + 1) m7)]) (by simp [results, Try.results11, go_sem, y0]) rfl ?_
        have hF := ownF.rows
        rw [List.append_assoc] at hF
        have hCr : IsRows (w7.setCell ⟨r, 0, none⟩ (.slice dm M.length mm)) (.slice dC nC mC) L := Own.readsAll hF (by rw [hus.out, hLn.out]) (by unfold ShortRows; first | (rw [hLn.out]; omega) | (rw [List.length_append, List.length_singleton, hLn.out]; omega)) hLs.out.short.1 hLs.out.short.2
        have hT := hF.right
        have hVr : IsInts (w7.setCell ⟨r, 0, none⟩ (.slice dm M.length mm)) (.slice d7 (nV + 1) m7) ((V ++ [1])) := intsRow (e := 3) hT (by first | exact hVn.out | rw [List.length_append, List.length_singleton, hVn.out]) (by omega) (smSnoc hVs.out (by omega))
        refine ⟨_, _, _, _, M, L, (V ++ [1]), rfl, met_own hT.tail.tail hvs.out hM.out, hCr, hVr, by first | (rw [hLn.out]; omega) | (rw [List.length_append, List.length_singleton, hLn.out]; omega), by first | (rw [hVn.out]; omega) | (rw [List.length_append, List.length_singleton, hVn.out]; omega), ⟨?_⟩⟩
        rw [← hBd.out]
        exact bE
      · by_cases hx1 : x5 = 1
        · subst hx1
          have hB5 := own5.size
          have own6 := own5.lit (e := 3) (n := 4) (cs := #[.int .i64 99999, .int .i64 100000, .int .i64 (-1), .int .i64 0]) [99999, 100000, -1, 0] hB5 rfl rfl (by simp)
          have b6 : Below B w (w5.alloc (.cells #[.int .i64 99999, .int .i64 100000, .int .i64 (-1), .int .i64 0] 3)) := b5'.alloc hB5 _
          obtain ⟨gb, hgb⟩ : ∃ z, z = w5.heap.size := ⟨_, rfl⟩
          go_wp2_with fail
          rw [← hgb] at own6 ⊢
          replace hgb := hid hgb
          generalize w5.alloc (.cells #[.int .i64 99999, .int .i64 100000, .int .i64 (-1), .int .i64 0] 3) = w6 at *
          clear own5 b5' hB5
          have e6 : Ext w0 w6 := hE.out _ b6
          refine (among_any (w0 := w0) hc own6 hwB (by omega) (by omega) (by simp) (by simp)).mono ?_
          rintro e w8 ⟨x8, a8', rfl, h8, h81', h82', own8, b8⟩
          have b8' := b6.trans b8
          have own8' := own8.drop
          have hx8' : -1 ≤ x8 ∧ x8 ≤ 100000 := by
            simp only [List.mem_cons, List.not_mem_nil, or_false] at h8
            omega
          clear own6 own8 b6 b8 e6 h8
          obtain ⟨s5, h5⟩ := own8'
          have hv5 := ow_pull (A := curRow c vc a8' s5 :: rowsOf 27 3 (.slice dC nC mC) us L) h5
          have hB5 := ow_size h5
          go_upto_region 16 with (at_builtin; refine wpList_append1 rfl _ _ _ rfl elemInt rfl hv5 hB5 rfl rfl (by omega) (by omega) ?_; intro v7 w7 ho hb7)
          obtain ⟨d7, m7, hv7⟩ := ho.form
          have hv7' : v7 = .slice d7 (nV + 1) m7 := hv7
          subst hv7'
          have own7 : CurAt w7 B c vc a8' (rowsOf 27 3 (.slice dC nC mC) us L ++ (⟨3, 1, .slice d7 (nV + 1) m7, nV + 1, (V ++ [x8]).map (Value.int .i64)⟩ :: ZZ)) := ⟨s5, ow_push (A := curRow c vc a8' s5 :: rowsOf 27 3 (.slice dC nC mC) us L) (by rw [List.map_append]; exact ho)⟩
          have b7 := (b8').trans hb7
          clear ho hv5 h5 hv7 b8' hB5
          have e7 : Ext w0 w7 := hE.out _ b7
          have p7 := hZm.out w7 a8' _ own7 ((List.sublist_cons_self _ _).trans (List.sublist_append_right _ _))
          go_wp2_with fail
          refine (l1Most_any 1 M.length w7).mono ?_
          rintro e w8 ⟨rfl, rfl⟩
          clear p7
          go_wp2_with fail
          refine (pick_any (w0 := w0) hc own7 hwB (by omega) (by omega)).mono ?_
          rintro e w10 ⟨x10, a10, rfl, h100, h101, h102, h103, h104, own10, b10⟩
          have b10' := b7.trans b10
          have hx10 := h102 (by omega)
          have e10 : Ext w0 w10 := hE.out _ b10'
          clear own7 b7 b10 e7 h101 h102
          obtain ⟨k2, hk2⟩ : ∃ k2 : Nat, (k2 : Int) = 1 + x10 := ⟨(1 + x10).toNat, by omega⟩
          have hk210 : k2 ≤ 10 := by omega
          go_wp2_with fail
          rw [← hk2]
          refine (config_any (w0 := w0) hc own10 hwB (by omega) (by omega) (n := max 1 (M.length : Int)) (k := k2) (by omega) hk210).mono ?_
          rintro e w8 ⟨av, X, a8'', rfl, hXl, hXb, h81'', h82'', own8, b8⟩
          have b8' := b10'.trans b8
          clear own10 b10' b8 e10
          obtain ⟨dA, mA, rfl⟩ := ow_ints own8.rows
          obtain ⟨s8, hout⟩ := cur_out own8
          rw [hus.out] at hout
          have hB8 := own8.size
          go_upto_region 17 with (at_builtin; refine wpList_append1 rfl _ _ _ rfl elemInts rfl hout hB8 rfl rfl (by omega) (by omega) ?_; intro v9 w9 ho hb9; obtain ⟨d9, m9, hv9⟩ := ho.form; (obtain rfl : v9 = .slice d9 (nC + 1) m9 := hv9))
          have own9 : CurAt w9 B c vc a8'' (rowsOf 27 3 (.slice d9 (nC + 1) m9) (us ++ [.slice dA X.length mA]) (L ++ [X]) ++ (⟨3, 1, .slice d7 (nV + 1) m7, nV + 1, (V ++ [x8]).map (Value.int .i64)⟩ :: ZZ)) := cur_in (s := s8) (by rw [hus.out]; exact ho) (by rw [hus.out, hLn.out])
          have b9 := b8'.trans hb9
          clear ho hout own8 hB8
          rw [hZZ.out] at own9
          have pmb : w9.cell? ⟨mb, 0, none⟩ = some (.slice dm M.length mm) := (own9.at (e := 26) (z := 1) (b := mb) (cs := [.slice dm M.length mm]) (by simp) (j := 0) (by omega)).1
          have pr := (own9.at (e := 26) (z := 1) (b := r) (cs := [.slice none 0 0]) (by simp) (j := 0) (by omega))
          have pr0 : w9.cell? ⟨r, 0, none⟩ = some (.slice none 0 0) := pr.1
          have pr1 := pr.2
          have hel : (rowsOf 27 3 (.slice d9 (nC + 1) m9) (us ++ [.slice dA X.length mA]) (L ++ [X]) ++ (⟨3, 1, (.slice d7 (nV + 1) m7), (nV + 1), ((V ++ [x8])).map (Value.int .i64)⟩ :: (boxRow 26 1 mb [.slice dm M.length mm] :: (rowsOf 27 3 (.slice dm M.length mm) vs M ++ [boxRow 26 1 r [.slice none 0 0]]))) : List Row) = (rowsOf 27 3 (.slice d9 (nC + 1) m9) (us ++ [.slice dA X.length mA]) (L ++ [X]) ++ (⟨3, 1, (.slice d7 (nV + 1) m7), (nV + 1), ((V ++ [x8])).map (Value.int .i64)⟩ :: (boxRow 26 1 mb [.slice dm M.length mm] :: rowsOf 27 3 (.slice dm M.length mm) vs M))) ++ (boxRow 26 1 r [.slice none 0 0] :: []) := by simp
          rw [hel] at own9
          have hset := CurAt.set own9 0 (.slice dm M.length mm)
          have y0 : (w9.setCell ⟨r, 0, none⟩ (.slice dm M.length mm)).cell? ⟨r, 0, none⟩ = some (.slice dm M.length mm) := by go_simp
          have bE := (b9).setCell hset.2 (p := ⟨r, 0, none⟩) (.slice dm M.length mm)
          have ownF := hset.1
          clear pr hel own9 hset b9
          go_wp2_with fail
          refine bodyPost_ret (v := .tuple #[.agg #[.slice dm M.length mm], (.slice d9 (nC + 1) m9), (.slice d7 (nV + 1) m7)]) (by simp [results, Try.results11, go_sem, y0]) rfl ?_
          have hF := ownF.rows
          rw [List.append_assoc] at hF
          have hCr : IsRows (w9.setCell ⟨r, 0, none⟩ (.slice dm M.length mm)) (.slice d9 (nC + 1) m9) (L ++ [X]) := Own.readsAll hF (snocLen hus.out hLn.out) (by unfold ShortRows; first | (rw [hLn.out]; omega) | (rw [List.length_append, List.length_singleton, hLn.out]; omega)) (hLs.out.snoc hXl hXb).short.1 (hLs.out.snoc hXl hXb).short.2
          have hT := hF.right
          have hVr : IsInts (w9.setCell ⟨r, 0, none⟩ (.slice dm M.length mm)) (.slice d7 (nV + 1) m7) ((V ++ [x8])) := intsRow (e := 3) hT (by first | exact hVn.out | rw [List.length_append, List.length_singleton, hVn.out]) (by omega) (smSnoc hVs.out hx8')
          refine ⟨_, _, _, _, M, (L ++ [X]), (V ++ [x8]), rfl, met_own hT.tail.tail hvs.out hM.out, hCr, hVr, by first | (rw [hLn.out]; omega) | (rw [List.length_append, List.length_singleton, hLn.out]; omega), by first | (rw [hVn.out]; omega) | (rw [List.length_append, List.length_singleton, hVn.out]; omega), ⟨?_⟩⟩
          rw [← hBd.out]
          exact bE
        · have hd0 : (x5 == 0) = false := by simp [hx0]
          have hd1 : (x5 == 1) = false := by simp [hx1]
          replace hx0 := hid hx0
          replace hx1 := hid hx1
          have own9 := own5
          have b9 := b5'
          clear own5 b5'
          go_upto_region 17 with fail
          rw [hZZ.out] at own9
          have pmb : w5.cell? ⟨mb, 0, none⟩ = some (.slice dm M.length mm) := (own9.at (e := 26) (z := 1) (b := mb) (cs := [.slice dm M.length mm]) (by simp) (j := 0) (by omega)).1
          have pr := (own9.at (e := 26) (z := 1) (b := r) (cs := [.slice none 0 0]) (by simp) (j := 0) (by omega))
          have pr0 : w5.cell? ⟨r, 0, none⟩ = some (.slice none 0 0) := pr.1
          have pr1 := pr.2
          have hel : (rowsOf 27 3 (.slice dC nC mC) us L ++ (⟨3, 1, (.slice dV nV mV), nV, (V).map (Value.int .i64)⟩ :: (boxRow 26 1 mb [.slice dm M.length mm] :: (rowsOf 27 3 (.slice dm M.length mm) vs M ++ [boxRow 26 1 r [.slice none 0 0]]))) : List Row) = (rowsOf 27 3 (.slice dC nC mC) us L ++ (⟨3, 1, (.slice dV nV mV), nV, (V).map (Value.int .i64)⟩ :: (boxRow 26 1 mb [.slice dm M.length mm] :: rowsOf 27 3 (.slice dm M.length mm) vs M))) ++ (boxRow 26 1 r [.slice none 0 0] :: []) := by simp
          rw [hel] at own9
          have hset := CurAt.set own9 0 (.slice dm M.length mm)
          have y0 : (w5.setCell ⟨r, 0, none⟩ (.slice dm M.length mm)).cell? ⟨r, 0, none⟩ = some (.slice dm M.length mm) := by go_simp
          have bE := (b9).setCell hset.2 (p := ⟨r, 0, none⟩) (.slice dm M.length mm)
          have ownF := hset.1
          clear pr hel own9 hset b9
          go_wp2_with fail
          refine bodyPost_ret (v := .tuple #[.agg #[.slice dm M.length mm], (.slice dC nC mC), (.slice dV nV mV)]) (by simp [results, Try.results11, go_sem, y0]) rfl ?_
          have hF := ownF.rows
          rw [List.append_assoc] at hF
          have hCr : IsRows (w5.setCell ⟨r, 0, none⟩ (.slice dm M.length mm)) (.slice dC nC mC) L := Own.readsAll hF (by rw [hus.out, hLn.out]) (by unfold ShortRows; first | (rw [hLn.out]; omega) | (rw [List.length_append, List.length_singleton, hLn.out]; omega)) hLs.out.short.1 hLs.out.short.2
          have hT := hF.right
          have hVr : IsInts (w5.setCell ⟨r, 0, none⟩ (.slice dm M.length mm)) (.slice dV nV mV) (V) := intsRow (e := 3) hT (by first | exact hVn.out | rw [List.length_append, List.length_singleton, hVn.out]) (by omega) hVs.out
          refine ⟨_, _, _, _, M, L, V, rfl, met_own hT.tail.tail hvs.out hM.out, hCr, hVr, by first | (rw [hLn.out]; omega) | (rw [List.length_append, List.length_singleton, hLn.out]; omega), by first | (rw [hVn.out]; omega) | (rw [List.length_append, List.length_singleton, hVn.out]; omega), ⟨?_⟩⟩
          rw [← hBd.out]
          exact bE
end Go.Proofs.Ytkibmjenjgijmaa
