/- A metric, a number of servers and a work list that draws make. -/
import Derived.Test.YtkibmjenjgijmaaGrM
import Derived.Test.YtkibmjenjgijmaaFsQ
import Derived.Test.YtkibmjenjgijmaaTbs
namespace Go.Proofs.Ytkibmjenjgijmaa
open Go.RowKit

/-- what a draw of a work list gives -/
def WKPost (w : World) (B c : Nat) (vc : Value) (a : Int) (R : List Row) (e : Ending) (w' : World) : Prop :=
  ∃ d m u M k ws Z a', e = .returned (.tuple #[.agg #[.slice d (M : List (List Int)).length m], .int .i64 k, u]) ∧ MOk M ∧ -1 ≤ k ∧ k ≤ 10 ∧ (ws : List Int).length ≤ 300 ∧ a ≤ a' ∧ a' ≤ a + 1000 ∧ CurAt w' B c vc a' (Z ++ R) ∧ Hid (∀ u' B', Own u' B' Z → IsMet u' (.agg #[.slice d M.length m]) M ∧ IsInts u' u ws) ∧ Below B w w'
theorem big_i64 {X : List Int} (h : ∀ x ∈ X, -1 ≤ x ∧ x ≤ 3000000) : ∀ x ∈ X, I64 x := fun x hx => by have := h x hx; unfold I64; omega
theorem nth_set_self {xs : List Int} {z : Nat} {v : Int} (h : z < xs.length) : nth (xs.set z v) z = v := by simp [nth, h]
theorem nth_set_ne {xs : List Int} {z q : Nat} {v : Int} (h : ¬ z = q) : nth (xs.set z v) q = nth xs q := by simp [nth, List.getElem?_set_ne h]
theorem good_all {M P : List (List Int)} {ws : List Int} {L : Int} (h : GoodW M P ws L) : ∀ y ∈ ws, 0 ≤ y ∧ y ≤ L := fun y hy => by
  obtain ⟨j, hj, rfl⟩ := mem_iff_nth.1 hy
  exact h.2 j (by rw [← h.1.1]; exact hj)

set_option maxHeartbeats 25600000 in
set_option maxRecDepth 100000 in
theorem work_any {w0 w : World} [Ext w0 w] {vc : Value} {nb : Nat} (hc : IsBytes w0 vc nb) {B c : Nat} {a : Int} {R : List Row} (own : CurAt w B c vc a R) (hwB : w0.heap.size ≤ B) (ha : 0 ≤ a) (ha2 : a ≤ 1000000) :
    Calls Try.prog 94 #[.pointer (some ⟨c, 0, none⟩)] w (WKPost w B c vc a R) := by
  have hBw := own.size
  have hE : ∀ u, Below B w u → Ext w0 u := fun u h => ⟨(‹Ext w0 w›).below.trans (h.mono hwB)⟩
  replace hE := hid hE
  go_enter Try.func94, Try.ntmps94
  go_upto_region 1 with fail
  have own1 := own.box 26 1 #[.slice none 0 0] hBw rfl
  have b1 : Below B w (w.alloc (.cells #[.slice none 0 0] 26)) := (Below.refl B w).alloc hBw _
  obtain ⟨r, hr⟩ : ∃ r, r = w.heap.size := ⟨_, rfl⟩
  rw [← hr] at own1 ⊢
  replace hr := hid hr
  generalize w.alloc (.cells #[.slice none 0 0] 26) = w1 at *
  have e1 : Ext w0 w1 := hE.out _ b1
  clear own
  go_wp2_with fail
  refine (metricD_any (w0 := w0) hc own1 hwB (by omega) (by omega)).mono ?_
  rintro e w2 ⟨dm, mm, vs, M, a2, rfl, hvs, hM, ha1, ha2', own2, b2⟩
  have b2' := b1.trans b2
  clear own1 b1 b2 e1
  have hn7 := hM.1
  replace hM := hid hM
  replace hvs := hid hvs
  have own4 := own2.box 26 1 #[.slice dm M.length mm] own2.size rfl
  have b4' : Below B w (w2.alloc (.cells #[.slice dm M.length mm] 26)) := b2'.alloc own2.size _
  obtain ⟨mb, hmb⟩ : ∃ r, r = w2.heap.size := ⟨_, rfl⟩
  go_upto_region 2 with fail
  generalize w2.alloc (.cells #[.slice dm M.length mm] 26) = w4 at *
  rw [← hmb] at own4 ⊢
  replace hmb := hid hmb
  obtain ⟨K1, hK1d⟩ : ∃ z, z = boxRow 26 1 mb [.slice dm M.length mm] :: (rowsOf 27 3 (.slice dm M.length mm) vs M ++ []) := ⟨_, rfl⟩
  have own4' : CurAt w4 B c vc a2 (K1 ++ (boxRow 26 1 r [.slice none 0 0] :: R)) := by
    rw [hK1d, List.append_nil]
    exact own4
  have hK1 := hid (show ∀ u B', Own u B' K1 → IsMet u (.agg #[.slice dm M.length mm]) M ∧ u.cell? ⟨mb, 0, none⟩ = some (.slice dm M.length mm) ∧ True from fun u B' o => by
    rw [hK1d] at o
    exact ⟨met_own o.tail hvs.out hM.out, ow_cell (j := 0) o (.head _) (by omega), trivial⟩)
  clear own2 b2' own4 hK1d
  have e4 : Ext w0 w4 := hE.out _ b4'
  go_wp2_with fail
  refine (pick_any (w0 := w0) hc own4' hwB (by omega) (by omega)).mono ?_
  rintro e w5 ⟨x5, a5, rfl, h50, h51, h52, h53, h54, own5, b5⟩
  have b5' := b4'.trans b5
  have hx5 := h52 (by omega)
  obtain ⟨k, hk⟩ : ∃ k : Nat, (k : Int) = 1 + x5 := ⟨(1 + x5).toNat, by omega⟩
  have hk13 : 1 ≤ k ∧ k ≤ 3 := by omega
  have p5 := (hK1.out _ _ own5.rows.left).2.1
  clear own4' b4' b5 e4 h51 h52
  go_upto_region 3 with fail
  rw [← hk]
  replace hk := hid hk
  go_wp2_with fail
  with_reducible refine (l6Good_any (w0 := w5) (w := w5) (hK1.out _ _ own5.rows.left).1).mono ?_
  rintro e w6 ⟨rfl, e6⟩
  have own6 := own5.ext (w' := w6)
  have b6 : Below B w w6 := b5'.trans (e6.below.mono own5.size)
  have p6 := (hK1.out _ _ own6.rows.left).2.1
  clear own5 b5' e6 p5 hx5 h50
  cases hMet : metB M with
  | false =>
    replace hMet := hid hMet
    have own7 := own6.lit (e := 3) (n := 1) (cs := #[.int .i64 0]) [0] own6.size rfl rfl (by simp)
    have b7 : Below B w (w6.alloc (.cells #[.int .i64 0] 3)) := b6.alloc own6.size _
    have hz9 := hid (show ∀ x ∈ ([0] : List Int), -1 ≤ x ∧ x ≤ 3000000 by simp)
    have hmem : boxRow 26 1 r [.slice none 0 0] ∈ intRowOf 3 (.slice (some ⟨w6.heap.size, 0, none⟩) 1 1) [0] :: (K1 ++ (boxRow 26 1 r [.slice none 0 0] :: R)) := by simp
    have r0 := own7.at hmem (j := 0) (by omega)
    have r00 : (w6.alloc (.cells #[.int .i64 0] 3)).cell? ⟨r, 0, none⟩ = some (.slice none 0 0) := r0.1
    have r01 := r0.2
    have pF := (hK1.out _ _ own7.rows.tail.left).2.1
    have s1 := CurAt.set (A := intRowOf 3 (.slice (some ⟨w6.heap.size, 0, none⟩) 1 1) [0] :: K1) (L := R) own7 0 (.slice dm M.length mm)
    have y0 : ((w6.alloc (.cells #[.int .i64 0] 3)).setCell ⟨r, 0, none⟩ (.slice dm M.length mm)).cell? ⟨r, 0, none⟩ = some (.slice dm M.length mm) := by go_simp
    have ownE : CurAt ((w6.alloc (.cells #[.int .i64 0] 3)).setCell ⟨r, 0, none⟩ (.slice dm M.length mm)) B c vc a5 ((intRowOf 3 (.slice (some ⟨w6.heap.size, 0, none⟩) 1 1) [0] :: K1) ++ R) := s1.1.sub (List.Sublist.append_left (List.sublist_cons_self _ _) _)
    have bE := b7.setCell s1.2 (p := ⟨r, 0, none⟩) (.slice dm M.length mm)
    clear hmem r0 s1
    go_wp2_with fail
    refine bodyPost_ret (v := .tuple #[.agg #[.slice dm M.length mm], .int .i64 k, (.slice (some ⟨w6.heap.size, 0, none⟩) 1 1)]) (by simp [results, Try.results94, go_sem, y0]) rfl ?_
    have hLn : ([0] : List Int).length ≤ 300 := (by simp)
    exact ⟨_, _, _, M, _, [0], intRowOf 3 (.slice (some ⟨w6.heap.size, 0, none⟩) 1 1) [0] :: K1, a5, rfl, hM.out, by omega, by omega, hLn, by omega, by omega, ownE, hid (fun u' B' o => ⟨(hK1.out u' B' o.tail).1, o.reads (by unfold Short; omega) (big_i64 hz9.out)⟩), bE⟩
  | true =>
    have hMl := met_len hMet
    have hdst := hid (dst_of_met hMet)
    have h216 := confs_216 (n := M.length) (k := k) hMl.2 hk13.2
    have hcp := confs_pos (k := k) hMl.1
    have hrow := hid (confs_rows (n := M.length) (k := k) (f := 0) hMl.2 hk13.2)
    replace hMet := hid hMet
    have hM7 := hid hn7
    go_wp2_with fail
    with_reducible refine (l6ConfigsO_any (n := M.length) (k := k) hMl.2 hk13.2 w6).mono ?_
    rintro e w7 ⟨vP, RP, rfl, tabP, e7⟩
    have hPd := hid (rfl : confs M.length k 0 = confs M.length k 0)
    obtain ⟨gP, cP, rfl⟩ := tabP.place (by omega)
    obtain ⟨vsP, hvP, ownP⟩ := tabP
    obtain ⟨P, hP⟩ : ∃ z, z = confs M.length k 0 := ⟨_, rfl⟩
    rw [← hP] at h216 hcp hrow hvP ownP ⊢
    have hPr := hid (show ∀ t, t < P.length → (row P t) ∈ confs M.length k 0 from fun t ht => by rw [← hP]; exact row_mem ht)
    have hgs := hid (fun x (hx : x ∈ confs M.length k 0) => start_good hdst.out hk13.2 hx)
    have hgn := hid (fun (ws : List Int) (L r : Int) (hg : GoodW M (confs M.length k 0) ws L) (hL : L ≤ 1000000) (hr : 0 ≤ r ∧ r < (M.length : Int)) => (wnx_good hdst.out hk13.1 hk13.2 hg hL hr).1)
    have hfd := hid (fun (T : List Nat) (V : List Int) (h1 : 1 ≤ T.length ∧ T.length ≤ 56) (h2 : ∀ t ∈ T, t < (confs M.length k 0).length) (h3 : V.length = T.length) (h4 : ∀ y ∈ V, 0 ≤ y ∧ y ≤ 8) => fs_draw hMet.out hk13 h1 h2 h3 h4)
    rw [← hP] at hPr hgs hgn hfd
    have own7 : CurAt w7 B c vc a5 ((rowsOf 27 3 (.slice (some ⟨gP, 0, none⟩) P.length cP) vsP P ++ RP) ++ (K1 ++ (boxRow 26 1 r [.slice none 0 0] :: R))) := own6.join ownP own6.size
    have b7 : Below B w w7 := b6.trans (e7.below.mono own6.size)
    obtain ⟨K0, hK0d⟩ : ∃ z, z = (rowsOf 27 3 (.slice (some ⟨gP, 0, none⟩) P.length cP) vsP P ++ RP) ++ K1 := ⟨_, rfl⟩
    rw [← List.append_assoc, ← hK0d] at own7
    obtain ⟨pv, hpv⟩ : ∃ f : Nat → Value, f = fun i => vsP.getD i undef := ⟨_, rfl⟩
    have hK0 := hid (show ∀ u B', Own u B' K0 → IsMet u (.agg #[.slice dm M.length mm]) M ∧ u.cell? ⟨mb, 0, none⟩ = some (.slice dm M.length mm) ∧ ∀ i, i < P.length → u.cell? ⟨gP, i, none⟩ = some (pv i) ∧ IsInts u (pv i) (row P i) from fun u B' o => by
      rw [hK0d] at o
      obtain ⟨h1, h2, _⟩ := hK1.out u B' o.right
      exact ⟨h1, h2, by rw [hpv]; exact own_tab o.left hvP rfl hrow.out.2.1 hrow.out.2.2⟩)
    clear own6 b6 p6 e7 ownP hvP hK0d hpv hPd hrow
    have hPi := hid hP
    clear hP
    obtain ⟨p7, hq7⟩ := (hK0.out _ _ own7.rows.left).2
    go_upto_region 6 with fail
    have ownd := own7.ext (w' := w7.drew)
    have bd : Below B w w7.drew := b7.drew
    have ed : Ext w0 w7.drew := hE.out _ bd
    refine wp_region_held_drew (S := fun w' => w'.cell? ⟨mb, 0, none⟩ = some (.slice dm M.length mm) ∧ ∀ i, i < P.length → w'.cell? ⟨gP, i, none⟩ = some (pv i)) (by kernel_rfl) ⟨((hK0.out _ _ ownd.rows.left).2).1, fun i hi => ((hK0.out _ _ ownd.rows.left).2.2 i hi).1⟩ (fun hHeld0 => ?_)
    generalize w7.drew = wd at *
    clear own7 b7 p7 hq7
    refine wpAnyH_take (i := 0) (v := .agg #[.slice dm M.length mm]) rfl (by kernel_rfl) (by kernel_rfl) (by kernel_rfl) (fun _ _ _ h => h) (Or.inl ⟨by rfl, by intro wx hx; obtain ⟨_, _⟩ := hx; go_simp⟩) (by assumption) ?_
    try simp only [List.getElem_toArray, List.getElem_cons_zero, Act.put, List.setIfInBounds_toArray, List.set_cons_zero, List.set_cons_succ]
    refine wpAnyH_take (i := 1) (v := .int .i64 k) rfl (by kernel_rfl) (by kernel_rfl) (by kernel_rfl) (fun _ _ _ h => h) (Or.inl ⟨by rfl, by intro wx hx; go_simp⟩) (by assumption) ?_
    try simp only [List.getElem_toArray, List.getElem_cons_succ, List.getElem_cons_zero, Act.put, List.setIfInBounds_toArray, List.set_cons_zero, List.set_cons_succ]
    refine wpAnyH_take (i := 2) (v := .slice (some ⟨gP, 0, none⟩) P.length cP) rfl (by kernel_rfl) (by kernel_rfl) (by kernel_rfl) (fun _ _ _ h => h) (Or.inl ⟨by rfl, by intro wx hx; go_simp⟩) (by assumption) ?_
    try simp only [List.getElem_toArray, List.getElem_cons_succ, List.getElem_cons_zero, Act.put, List.setIfInBounds_toArray, List.set_cons_zero, List.set_cons_succ]
    refine wpAnyH_take (i := 3) (v := .pointer (some ⟨c, 0, none⟩)) rfl (by kernel_rfl) (by kernel_rfl) (by kernel_rfl) (fun _ _ _ h => h) (Or.inl ⟨by rfl, by intro wx hx; go_simp⟩) (by assumption) ?_
    try simp only [List.getElem_toArray, List.getElem_cons_succ, List.getElem_cons_zero, Act.put, List.setIfInBounds_toArray, List.set_cons_zero, List.set_cons_succ]
    refine wpAnyH_take (i := 4) (v := .slice (some ⟨gP, 0, none⟩) P.length cP) rfl (by kernel_rfl) (by kernel_rfl) (by kernel_rfl) (fun _ _ _ h => h) (Or.inl ⟨by rfl, by intro wx hx; go_simp⟩) (by assumption) ?_
    try simp only [List.getElem_toArray, List.getElem_cons_succ, List.getElem_cons_zero, Act.put, List.setIfInBounds_toArray, List.set_cons_zero, List.set_cons_succ]
    refine wpAnyH_take (i := 5) (v := .int .i64 P.length) rfl (by kernel_rfl) (by kernel_rfl) (by kernel_rfl) (fun _ _ _ h => h) (Or.inl ⟨by rfl, by intro wx hx; go_simp⟩) (by assumption) ?_
    try simp only [List.getElem_toArray, List.getElem_cons_succ, List.getElem_cons_zero, Act.put, List.setIfInBounds_toArray, List.set_cons_zero, List.set_cons_succ]
    refine wpAnyH_ready (rs := [6]) (by kernel_rfl) (by simp) ?_
    refine AllReadyH.cons rfl (fun K hK => ?_) AllReadyH.nil
    go_simp
    go_at_call 46
    refine (pick_any (w0 := w0) hc ownd hwB (by omega) (by omega)).mono ?_
    rintro e w8 ⟨x8, a8, rfl, h80, h81, h82, h83, h84, own8, b8⟩
    have b8' := bd.trans b8
    have hx8 := h82 (by omega)
    obtain ⟨t, rfl⟩ := Int.eq_ofNat_of_zero_le h80
    have htP : t < P.length := by omega
    have hm8 := (hK0.out _ _ own8.rows.left).1
    have hc8 := (hK0.out _ _ own8.rows.left).2
    have hpt := (hc8.2 t htP).2
    have hS8 := hid (show w8.cell? ⟨mb, 0, none⟩ = some (.slice dm M.length mm) ∧ ∀ i, i < P.length → w8.cell? ⟨gP, i, none⟩ = some (pv i) from ⟨hc8.1, fun i hi => (hc8.2 i hi).1⟩)
    clear ownd bd ed b8 h80 h81 h82 hHeld0 hc8
    go_wp2_with fail
    refine hK.out _ _ hS8.out (fun _ => ?_)
    clear hK K
    try simp only [List.getElem_toArray, List.getElem_cons_succ, List.getElem_cons_zero, Act.put, List.setIfInBounds_toArray, List.set_cons_zero, List.set_cons_succ]
    refine wpAnyH_take (i := 7) (v := .pointer (some ⟨gP, t, none⟩)) rfl (by kernel_rfl) (by kernel_rfl) (by kernel_rfl) (fun _ _ _ h => h) (Or.inl ⟨by rfl, by intro wx hx; go_simp⟩) (by assumption) ?_
    try simp only [List.getElem_toArray, List.getElem_cons_succ, List.getElem_cons_zero, Act.put, List.setIfInBounds_toArray, List.set_cons_zero, List.set_cons_succ]
    refine wpAnyH_take (i := 8) (v := pv t) rfl (by kernel_rfl) (by kernel_rfl) (by kernel_rfl) (fun _ _ _ h => h) (Or.inl ⟨by rfl, by intro wx hx; (obtain ⟨_, hq⟩ := hx; have hq2 := hq t htP; go_simp)⟩) (by assumption) ?_
    try simp only [List.getElem_toArray, List.getElem_cons_succ, List.getElem_cons_zero, Act.put, List.setIfInBounds_toArray, List.set_cons_zero, List.set_cons_succ]
    refine wpAnyH_ready (rs := [9]) (by kernel_rfl) (by simp) ?_
    refine AllReadyH.cons rfl (fun K hK => ?_) AllReadyH.nil
    go_simp
    go_at_call 138
    refine (l7Start_any (w0 := w8) (w := w8) hm8 hMet.out hpt hk13.2 (by rw [← hPi.out]; exact hPr.out t htP)).mono ?_
    rw [← hPi.out]
    rintro e w9 ⟨u9, rfl, ow9, e9⟩
    have hgd : GoodW M P (wst M P (row P t)) 297 := hgs.out _ (hPr.out t htP)
    obtain ⟨ws, hwsd⟩ : ∃ z, z = wst M P (row P t) := ⟨_, rfl⟩
    rw [← hwsd] at ow9 hgd
    have own9 : CurAt w9 B c vc a8 (intRowOf 3 u9 ws :: (K0 ++ (boxRow 26 1 r [.slice none 0 0] :: R))) := own8.join ow9 own8.size
    have b9 : Below B w w9 := b8'.trans (e9.below.mono own8.size)
    obtain ⟨ud, um, rfl⟩ := ow_ints own9.rows
    have hS9 := hid (show w9.cell? ⟨mb, 0, none⟩ = some (.slice dm M.length mm) ∧ ∀ i, i < P.length → w9.cell? ⟨gP, i, none⟩ = some (pv i) from ⟨e9.cell hS8.out.1, fun i hi => e9.cell (hS8.out.2 i hi)⟩)
    replace hwsd := hid hwsd
    clear own8 b8' hm8 hpt hS8 ow9 e9 hx8
    go_wp2_with fail
    refine hK.out _ _ hS9.out (fun _ => ?_)
    clear hK K
    try simp only [List.getElem_toArray, List.getElem_cons_succ, List.getElem_cons_zero, Act.put, List.setIfInBounds_toArray, List.set_cons_zero, List.set_cons_succ]
    refine wpAnyH_take (i := 10) (v := .slice ud ws.length um) rfl (by kernel_rfl) (by kernel_rfl) (by kernel_rfl) (fun _ _ _ h => h) (Or.inl ⟨by rfl, by intro wx hx; go_simp⟩) (by assumption) ?_
    try simp only [List.getElem_toArray, List.getElem_cons_succ, List.getElem_cons_zero, Act.put, List.setIfInBounds_toArray, List.set_cons_zero, List.set_cons_succ]
    refine wpAnyH_done (by kernel_rfl) ?_ _
    clear hS9
    have e9 : Ext w0 w9 := hE.out _ b9
    go_wp2_with fail
    refine (pick_any (w0 := w0) hc own9 hwB (by omega) (by omega)).mono ?_
    rintro e w10 ⟨x10, a10, rfl, h100, h101, h102, h103, h104, own10, b10⟩
    have b10' := b9.trans b10
    have hx10 := h102 (by omega)
    obtain ⟨cnt, rfl⟩ := Int.eq_ofNat_of_zero_le h100
    have hcnt : cnt ≤ 5 := by omega
    clear own9 b9 b10 e9 h100 h101 h102 hx10
    go_wp2
    go_loopw [8, 9] (fun uv tv wr => ∃ z : Nat, z ≤ cnt ∧ tv = .int .i64 z ∧ ∃ (ws : List Int) (ax : Int), Hid (GoodW M P ws (297 + 198 * ((cnt : Int) - z))) ∧ a10 ≤ ax ∧ ax ≤ a10 + 2 * ((cnt : Int) - z) ∧ Below B w wr ∧ CurAt wr B c vc ax (intRowOf 3 uv ws :: (K0 ++ (boxRow 26 1 r [.slice none 0 0] :: R)))) (fun _ tv _ => (intOf tv).toNat)
    case atStart => exact ⟨cnt, by omega, rfl, ws, a10, hid (hgd.mono (by omega)), by omega, by omega, b10', own10⟩
    case round =>
      clear own10 b10' hgd hwsd
      obtain ⟨z, hz, rfl, ws, a11, hg, ha11, ha12, b11, own11⟩ := hrel
      obtain ⟨w11, rfl⟩ : ∃ y : World, y = wr := ⟨_, rfl⟩
      obtain ⟨ud, um, rfl⟩ := ow_ints own11.rows
      have hwl := hid hg.out.1.1
      by_cases hz0 : 0 < z
      · obtain ⟨z', hz'⟩ : ∃ y, z = y + 1 := ⟨z - 1, by omega⟩
        have hgt : (0 : Int) < (z : Int) := by omega
        have hzid := hid hz'
        have hz5 : z ≤ 5 := by omega
        clear hz'
        go_upto_region 10 with fail
        have ownd := own11.ext (w' := w11.drew)
        have bd : Below B w w11.drew := b11.drew
        have ed : Ext w0 w11.drew := hE.out _ bd
        have p0 := (hK0.out _ _ ownd.rows.tail.left).2.1
        clear own11 b11
        refine wp_region_held_drew (S := fun w' => w'.cell? ⟨mb, 0, none⟩ = some (.slice dm M.length mm) ∧ True) (by kernel_rfl) ⟨p0, trivial⟩ (fun hHeld0 => ?_)
        generalize w11.drew = wd at *
        refine wpAnyH_take (i := 0) (v := .agg #[.slice dm M.length mm]) rfl (by kernel_rfl) (by kernel_rfl) (by kernel_rfl) (fun _ _ _ h => h) (Or.inl ⟨by rfl, by intro wx hx; obtain ⟨_, _⟩ := hx; go_simp⟩) (by assumption) ?_
        try simp only [List.getElem_toArray, List.getElem_cons_zero, Act.put, List.setIfInBounds_toArray, List.set_cons_zero, List.set_cons_succ]
        refine wpAnyH_take (i := 1) (v := .int .i64 k) rfl (by kernel_rfl) (by kernel_rfl) (by kernel_rfl) (fun _ _ _ h => h) (Or.inl ⟨by rfl, by intro wx hx; go_simp⟩) (by assumption) ?_
        try simp only [List.getElem_toArray, List.getElem_cons_succ, List.getElem_cons_zero, Act.put, List.setIfInBounds_toArray, List.set_cons_zero, List.set_cons_succ]
        refine wpAnyH_take (i := 2) (v := .slice ud ws.length um) rfl (by kernel_rfl) (by kernel_rfl) (by kernel_rfl) (fun _ _ _ h => h) (Or.inl ⟨by rfl, by intro wx hx; go_simp⟩) (by assumption) ?_
        try simp only [List.getElem_toArray, List.getElem_cons_succ, List.getElem_cons_zero, Act.put, List.setIfInBounds_toArray, List.set_cons_zero, List.set_cons_succ]
        refine wpAnyH_take (i := 3) (v := .pointer (some ⟨c, 0, none⟩)) rfl (by kernel_rfl) (by kernel_rfl) (by kernel_rfl) (fun _ _ _ h => h) (Or.inl ⟨by rfl, by intro wx hx; go_simp⟩) (by assumption) ?_
        try simp only [List.getElem_toArray, List.getElem_cons_succ, List.getElem_cons_zero, Act.put, List.setIfInBounds_toArray, List.set_cons_zero, List.set_cons_succ]
        refine wpAnyH_take (i := 4) (v := .pointer (some ⟨mb, 0, none⟩)) rfl (by kernel_rfl) (by kernel_rfl) (by kernel_rfl) (fun _ _ _ h => h) (Or.inl ⟨by rfl, by intro wx hx; go_simp⟩) (by assumption) ?_
        try simp only [List.getElem_toArray, List.getElem_cons_succ, List.getElem_cons_zero, Act.put, List.setIfInBounds_toArray, List.set_cons_zero, List.set_cons_succ]
        refine wpAnyH_take (i := 5) (v := .slice dm M.length mm) rfl (by kernel_rfl) (by kernel_rfl) (by kernel_rfl) (fun _ _ _ h => h) (Or.inl ⟨by rfl, by intro wx hx; obtain ⟨_, _⟩ := hx; go_simp⟩) (by assumption) ?_
        try simp only [List.getElem_toArray, List.getElem_cons_succ, List.getElem_cons_zero, Act.put, List.setIfInBounds_toArray, List.set_cons_zero, List.set_cons_succ]
        refine wpAnyH_take (i := 6) (v := .int .i64 M.length) rfl (by kernel_rfl) (by kernel_rfl) (by kernel_rfl) (fun _ _ _ h => h) (Or.inl ⟨by rfl, by intro wx hx; go_simp⟩) (by assumption) ?_
        try simp only [List.getElem_toArray, List.getElem_cons_succ, List.getElem_cons_zero, Act.put, List.setIfInBounds_toArray, List.set_cons_zero, List.set_cons_succ]
        refine wpAnyH_ready (rs := [7]) (by kernel_rfl) (by simp) ?_
        refine AllReadyH.cons rfl (fun K hK => ?_) AllReadyH.nil
        go_simp
        go_at_call 46
        refine (pick_any (w0 := w0) hc ownd hwB (by omega) (by omega)).mono ?_
        rintro e w12 ⟨x12, a12, rfl, h120, h121, h122, h123, h124, own12, b12⟩
        have b12' := bd.trans b12
        have hx12 := h122 (by omega)
        have hm12 := (hK0.out _ _ own12.rows.tail.left).1
        have p12 := (hK0.out _ _ own12.rows.tail.left).2.1
        have hU : IsInts w12 (.slice ud ws.length um) ws := own12.rows.reads (by have := hwl.out; unfold Short; omega) (big_i64 fun y hy => by have := good_all hg.out y hy; omega)
        have hgk := hid (hgn.out ws _ x12 hg.out (by omega) ⟨h120, hx12⟩)
        clear ownd bd ed b12 h121 h122 hHeld0 p0
        go_wp2_with fail
        refine hK.out _ _ ⟨p12, trivial⟩ (fun _ => ?_)
        clear hK K
        try simp only [List.getElem_toArray, List.getElem_cons_succ, List.getElem_cons_zero, Act.put, List.setIfInBounds_toArray, List.set_cons_zero, List.set_cons_succ]
        refine wpAnyH_ready (rs := [8]) (by kernel_rfl) (by simp) ?_
        refine AllReadyH.cons rfl (fun K hK => ?_) AllReadyH.nil
        go_simp
        go_at_call 139
        have hL12 : (297 + 198 * ((cnt : Int) - z)) ≤ 1000000 := by omega
        with_reducible refine (l7NextO_any (L := 297 + 198 * ((cnt : Int) - z)) (w0 := w12) (w := w12) hm12 hMet.out hU hk13.1 hk13.2 (by rw [← hPi.out]; exact hg.out) hL12 ⟨h120, hx12⟩).mono ?_
        rw [← hPi.out]
        rintro e w13 ⟨u13, rfl, ow13, e13⟩
        have own13 : CurAt w13 B c vc a12 (intRowOf 3 u13 (wnxL M P ws x12) :: (K0 ++ (boxRow 26 1 r [.slice none 0 0] :: R))) := (own12.join ow13 own12.size).sub ((List.sublist_cons_self _ _).cons_cons _)
        have b13 : Below B w w13 := b12'.trans (e13.below.mono own12.size)
        have p13 := e13.cell p12
        obtain ⟨ws2, hws2d⟩ : ∃ y, y = wnxL M P ws x12 := ⟨_, rfl⟩
        rw [← hws2d] at own13 hgk
        replace hws2d := hid hws2d
        obtain ⟨ud2, um2, rfl⟩ := ow_ints own13.rows
        clear own12 b12' hU ow13 e13 hm12 p12
        go_wp2_with fail
        refine hK.out _ _ ⟨p13, trivial⟩ (fun _ => ?_)
        clear hK K
        try simp only [List.getElem_toArray, List.getElem_cons_succ, List.getElem_cons_zero, Act.put, List.setIfInBounds_toArray, List.set_cons_zero, List.set_cons_succ]
        refine wpAnyH_take (i := 9) (v := .slice ud2 ws2.length um2) rfl (by kernel_rfl) (by kernel_rfl) (by kernel_rfl) (fun _ _ _ h => h) (Or.inl ⟨by rfl, by intro wx hx; go_simp⟩) (by assumption) ?_
        try simp only [List.getElem_toArray, List.getElem_cons_succ, List.getElem_cons_zero, Act.put, List.setIfInBounds_toArray, List.set_cons_zero, List.set_cons_succ]
        refine wpAnyH_done (by kernel_rfl) ?_ _
        clear p13
        go_wp2_with fail
        go_roundw
        case rel => exact ⟨z', by have := hzid.out; omega, congrArg (Value.int .i64) (by have := hzid.out; omega), ws2, a12, hid (hgk.out.mono (by have := hzid.out; omega)), by omega, by have := hzid.out; omega, b13, own13⟩
        case measure => have := hzid.out; simp [intOf]; omega
      · have hz00 : z = 0 := by omega
        have hws1 : 1 ≤ ws.length := by have := hwl.out; omega
        have hws2 : ws.length ≤ 216 := by have := hwl.out; omega
        have hwsb := hid (show ∀ y ∈ ws, 0 ≤ y ∧ y ≤ 1000000 from fun y hy => by have := good_all hg.out y hy; omega)
        have hgt : ¬ (0 : Int) < (z : Int) := by omega
        have e11 : Ext w0 w11 := hE.out _ b11
        clear hg hwl
        replace hz00 := hid hz00
        go_wp2_with fail
        refine (one_any (w0 := w0) hc own11 hwB (by omega) (by omega)).mono ?_
        rintro e wA ⟨qA, aA, rfl, hA91, hA92, ownA, bAx⟩
        have bA := b11.trans bAx
        clear own11 b11 bAx e11
        cases qA with
        | false =>
          have eT : Ext w0 wA := hE.out _ bA
          go_wp2_with fail
          refine (pick_any (w0 := w0) hc ownA hwB (by omega) (by omega)).mono ?_
          rintro e w10 ⟨x10, a10, rfl, hx0, hx1, hx2, hA1, hA2, own10, b10⟩
          have b10' := bA.trans b10
          have e10 : Ext w0 w10 := hE.out _ b10'
          clear ownA bA b10 eT hx2
          by_cases q0 : x10 = 0
          · obtain ⟨s10, h10⟩ := own10
            have hB10 := CurAt.size ⟨s10, h10⟩
            have h10' := h10.perm (List.Perm.swap _ _ _)
            have hws9 : ∀ y ∈ ws ++ [0], -1 ≤ y ∧ y ≤ 3000000 := fun y hy => by
              rcases List.mem_append.1 hy with h1 | h1
              · have := hwsb.out y h1; omega
              · rw [List.mem_singleton.1 h1]; omega
            replace hws9 := hid hws9
            go_upto_region 32 with (at_builtin; refine wpList_append1 rfl _ _ _ rfl elemInt rfl h10' hB10 rfl rfl (by omega) (by omega) ?_; intro v1 w11 ho hb11)
            have ownF : CurAt w11 B c vc a10 (intRowOf 3 v1 (ws ++ [0]) :: (K0 ++ (boxRow 26 1 r [.slice none 0 0] :: R))) := ⟨s10, (ow_snoc ho rfl).perm (List.Perm.swap _ _ _)⟩
            have bF := b10'.trans hb11
            clear h10 h10' ho hb11 b10'
            have hmem : boxRow 26 1 r [.slice none 0 0] ∈ intRowOf 3 v1 (ws ++ [0]) :: (K0 ++ (boxRow 26 1 r [.slice none 0 0] :: R)) := by simp
            have r0 := ownF.at hmem (j := 0) (by omega)
            have r00 : w11.cell? ⟨r, 0, none⟩ = some (.slice none 0 0) := r0.1
            have r01 := r0.2
            have pF := (hK0.out _ _ ownF.rows.tail.left).2.1
            have s1 := CurAt.set (A := intRowOf 3 v1 (ws ++ [0]) :: K0) (L := R) ownF 0 (.slice dm M.length mm)
            have y0 : (w11.setCell ⟨r, 0, none⟩ (.slice dm M.length mm)).cell? ⟨r, 0, none⟩ = some (.slice dm M.length mm) := by go_simp
            have ownE : CurAt (w11.setCell ⟨r, 0, none⟩ (.slice dm M.length mm)) B c vc a10 ((intRowOf 3 v1 (ws ++ [0]) :: K0) ++ R) := s1.1.sub (List.Sublist.append_left (List.sublist_cons_self _ _) _)
            have bE := bF.setCell s1.2 (p := ⟨r, 0, none⟩) (.slice dm M.length mm)
            clear hmem r0 s1
            go_wp2_with fail
            have hL9 : (ws ++ [0]).length ≤ 300 := by rw [List.length_append]; simp; omega
            refine bodyPost_ret (v := .tuple #[.agg #[.slice dm M.length mm], .int .i64 k, v1]) (by simp [results, Try.results94, go_sem, y0]) rfl ?_
            have hLn : ((ws ++ [0]) : List Int).length ≤ 300 := hL9
            exact ⟨_, _, _, M, _, (ws ++ [0]), intRowOf 3 v1 (ws ++ [0]) :: K0, a10, rfl, hM.out, by omega, by omega, hLn, by omega, by omega, ownE, hid (fun u' B' o => ⟨(hK0.out u' B' o.tail).1, o.reads (by unfold Short; omega) (big_i64 hws9.out)⟩), bE⟩
          · by_cases q1 : x10 = 1
            · go_wp2_with fail
              refine (pick_any (w0 := w0) hc own10 hwB (by omega) (by omega)).mono ?_
              rintro e w11 ⟨x11, a11, rfl, h110, h111, h112, h113, h114, own11, b11⟩
              have b11' := b10'.trans b11
              have e11 : Ext w0 w11 := hE.out _ b11'
              have hs11 := h112 (by omega)
              obtain ⟨s, rfl⟩ := Int.eq_ofNat_of_zero_le h110
              clear own10 b10' b11 e10 h110 h111 h112
              go_wp2_with fail
              refine (among_any (w0 := w0) hc (own11.lit [-1, 0, 300, 99999, 100000] own11.size rfl rfl (by decide)) hwB (by omega) (by omega) (by decide) (by decide)).mono ?_
              rintro e w12 ⟨y12, a12, rfl, hy12, h121, h122, own12, b12⟩
              have own12' := own12.drop
              have b12' := b11'.trans (((Below.refl B w11).alloc own11.size _).trans b12)
              have hy12' : -1 ≤ y12 ∧ y12 ≤ 100000 := by simp at hy12; omega
              have hU : IsInts w12 (.slice ud ws.length um) ws := own12'.rows.reads (by unfold Short; omega) (big_i64 fun y hy => by have := hwsb.out y hy; omega)
              clear own11 own12 b11' b12 e11 hy12
              go_wp2_with fail
              refine (l4With_any (w0 := w12) (w := w12) hU (by omega)).mono ?_
              rintro e w13 ⟨d13, m13, rfl, ow13, e13⟩
              have ownF : CurAt w13 B c vc a12 (intRowOf 3 (.slice d13 ws.length m13) (ws.set s y12) :: (K0 ++ (boxRow 26 1 r [.slice none 0 0] :: R))) := (own12'.join ow13 own12'.size).sub ((List.sublist_cons_self _ _).cons_cons _)
              have bF := b12'.trans (e13.below.mono own12'.size)
              have hws9 : ∀ y ∈ ws.set s y12, -1 ≤ y ∧ y ≤ 3000000 := fun y hy => by
                rcases List.mem_or_eq_of_mem_set hy with h1 | h1
                · have := hwsb.out y h1; omega
                · rw [h1]; omega
              replace hws9 := hid hws9
              clear own12' ow13 e13 b12' hU
              go_upto_region 32 with fail
              have hmem : boxRow 26 1 r [.slice none 0 0] ∈ intRowOf 3 (.slice d13 ws.length m13) (ws.set s y12) :: (K0 ++ (boxRow 26 1 r [.slice none 0 0] :: R)) := by simp
              have r0 := ownF.at hmem (j := 0) (by omega)
              have r00 : w13.cell? ⟨r, 0, none⟩ = some (.slice none 0 0) := r0.1
              have r01 := r0.2
              have pF := (hK0.out _ _ ownF.rows.tail.left).2.1
              have s1 := CurAt.set (A := intRowOf 3 (.slice d13 ws.length m13) (ws.set s y12) :: K0) (L := R) ownF 0 (.slice dm M.length mm)
              have y0 : (w13.setCell ⟨r, 0, none⟩ (.slice dm M.length mm)).cell? ⟨r, 0, none⟩ = some (.slice dm M.length mm) := by go_simp
              have ownE : CurAt (w13.setCell ⟨r, 0, none⟩ (.slice dm M.length mm)) B c vc a12 ((intRowOf 3 (.slice d13 ws.length m13) (ws.set s y12) :: K0) ++ R) := s1.1.sub (List.Sublist.append_left (List.sublist_cons_self _ _) _)
              have bE := bF.setCell s1.2 (p := ⟨r, 0, none⟩) (.slice dm M.length mm)
              clear hmem r0 s1
              go_wp2_with fail
              have hL9 : (ws.set s y12).length ≤ 300 := by rw [List.length_set]; omega
              refine bodyPost_ret (v := .tuple #[.agg #[.slice dm M.length mm], .int .i64 k, (.slice d13 ws.length m13)]) (by simp [results, Try.results94, go_sem, y0]) rfl ?_
              have hLn : ((ws.set s y12) : List Int).length ≤ 300 := hL9
              exact ⟨_, _, _, M, _, (ws.set s y12), intRowOf 3 (.slice d13 ws.length m13) (ws.set s y12) :: K0, a12, rfl, hM.out, by omega, by omega, hLn, by omega, by omega, ownE, hid (fun u' B' o => ⟨(hK0.out u' B' o.tail).1, o.reads (by unfold Short; omega) (big_i64 hws9.out)⟩), bE⟩
            · by_cases q2 : x10 = 2
              · have hws9 : ∀ y ∈ ws, -1 ≤ y ∧ y ≤ 3000000 := fun y hy => by have := hwsb.out y hy; omega
                replace hws9 := hid hws9
                go_upto_region 26 with fail
                have ownd := own10.ext (w' := w10.drew)
                have bd : Below B w w10.drew := b10'.drew
                have p0 := (hK0.out _ _ ownd.rows.tail.left).2.1
                clear own10 b10' e10
                refine wp_region_held_drew (S := fun w' => w'.cell? ⟨mb, 0, none⟩ = some (.slice dm M.length mm) ∧ True) (by kernel_rfl) ⟨p0, trivial⟩ (fun hHeld0 => ?_)
                generalize w10.drew = wd at *
                have own15 := ownd.lit (e := 3) (n := 4) (cs := #[.int .i64 0, .int .i64 4, .int .i64 (-1), .int .i64 ((k : Int) + 1)]) [0, 4, -1, (k : Int) + 1] ownd.size rfl rfl (by simp)
                have b15 : Below B w (wd.alloc (.cells #[.int .i64 0, .int .i64 4, .int .i64 (-1), .int .i64 ((k : Int) + 1)] 3)) := bd.alloc ownd.size _
                have p15 : (wd.alloc (.cells #[.int .i64 0, .int .i64 4, .int .i64 (-1), .int .i64 ((k : Int) + 1)] 3)).cell? ⟨mb, 0, none⟩ = some (.slice dm M.length mm) := (hK0.out _ _ own15.rows.tail.tail.left).2.1
                refine wpAnyH_take (i := 0) (v := .agg #[.slice dm M.length mm]) rfl (by kernel_rfl) (by kernel_rfl) (by kernel_rfl) (fun _ _ _ h => h) (Or.inl ⟨by rfl, by intro wx hx; obtain ⟨_, _⟩ := hx; go_simp⟩) (by assumption) ?_
                try simp only [List.getElem_toArray, List.getElem_cons_zero, Act.put, List.setIfInBounds_toArray, List.set_cons_zero, List.set_cons_succ]
                refine wpAnyH_take (i := 1) (v := .pointer (some ⟨c, 0, none⟩)) rfl (by kernel_rfl) (by kernel_rfl) (by kernel_rfl) (fun _ _ _ h => h) (Or.inl ⟨by rfl, by intro wx hx; go_simp⟩) (by assumption) ?_
                try simp only [List.getElem_toArray, List.getElem_cons_succ, List.getElem_cons_zero, Act.put, List.setIfInBounds_toArray, List.set_cons_zero, List.set_cons_succ]
                refine wpAnyH_take (i := 2) (v := .int .i64 k) rfl (by kernel_rfl) (by kernel_rfl) (by kernel_rfl) (fun _ _ _ h => h) (Or.inl ⟨by rfl, by intro wx hx; go_simp⟩) (by assumption) ?_
                try simp only [List.getElem_toArray, List.getElem_cons_succ, List.getElem_cons_zero, Act.put, List.setIfInBounds_toArray, List.set_cons_zero, List.set_cons_succ]
                refine wpAnyH_take (i := 3) (v := .int .i64 ((k : Int) + 1)) rfl (by kernel_rfl) (by kernel_rfl) (by kernel_rfl) (fun _ _ _ h => h) (Or.inl ⟨by rfl, by intro wx hx; (go_simp; exact IntWalk.i64_in _ (by omega))⟩) (by assumption) ?_
                try simp only [List.getElem_toArray, List.getElem_cons_succ, List.getElem_cons_zero, Act.put, List.setIfInBounds_toArray, List.set_cons_zero, List.set_cons_succ]
                refine wpAnyH_take (i := 6) (v := .slice ud ws.length um) rfl (by kernel_rfl) (by kernel_rfl) (by kernel_rfl) (fun _ _ _ h => h) (Or.inl ⟨by rfl, by intro wx hx; go_simp⟩) (by assumption) ?_
                try simp only [List.getElem_toArray, List.getElem_cons_succ, List.getElem_cons_zero, Act.put, List.setIfInBounds_toArray, List.set_cons_zero, List.set_cons_succ]
                refine wpAnyH_ready (rs := [4]) (by kernel_rfl) (by simp) ?_
                refine AllReadyH.cons rfl (fun K hK => ?_) AllReadyH.nil
                go_simp
                refine hK.out _ _ ⟨p15, trivial⟩ (fun _ => ?_)
                clear hK K
                try simp only [List.getElem_toArray, List.getElem_cons_succ, List.getElem_cons_zero, Act.put, List.setIfInBounds_toArray, List.set_cons_zero, List.set_cons_succ]
                generalize wd.alloc (.cells #[.int .i64 0, .int .i64 4, .int .i64 (-1), .int .i64 ((k : Int) + 1)] 3) = w15 at *
                have e15 : Ext w0 w15 := hE.out _ b15
                clear ownd bd p0 hHeld0
                refine wpAnyH_ready (rs := [5]) (by kernel_rfl) (by simp) ?_
                refine AllReadyH.cons rfl (fun K hK => ?_) AllReadyH.nil
                go_simp
                go_at_call 47
                refine (among_any (w0 := w0) hc own15 hwB (by omega) (by omega) (by simp) (by simp)).mono ?_
                rintro e w16 ⟨y16, a16, rfl, hy16, h161, h162, own16, b16⟩
                have hy : -1 ≤ y16 ∧ y16 ≤ 4 := by simp at hy16; omega
                have own16' := own16.drop
                have b16' := b15.trans b16
                clear own15 b15 p15 own16 b16 hy16 e15
                have hmem : boxRow 26 1 r [.slice none 0 0] ∈ intRowOf 3 (.slice ud ws.length um) ws :: (K0 ++ (boxRow 26 1 r [.slice none 0 0] :: R)) := by simp
                have r0 := own16'.at hmem (j := 0) (by omega)
                have r00 : w16.cell? ⟨r, 0, none⟩ = some (.slice none 0 0) := r0.1
                have r01 := r0.2
                have pF := (hK0.out _ _ own16'.rows.tail.left).2.1
                have s1 := CurAt.set (A := intRowOf 3 (.slice ud ws.length um) ws :: K0) (L := R) own16' 0 (.slice dm M.length mm)
                have y0 : (w16.setCell ⟨r, 0, none⟩ (.slice dm M.length mm)).cell? ⟨r, 0, none⟩ = some (.slice dm M.length mm) := by go_simp
                have ownE : CurAt (w16.setCell ⟨r, 0, none⟩ (.slice dm M.length mm)) B c vc a16 ((intRowOf 3 (.slice ud ws.length um) ws :: K0) ++ R) := s1.1.sub (List.Sublist.append_left (List.sublist_cons_self _ _) _)
                have bE := b16'.setCell s1.2 (p := ⟨r, 0, none⟩) (.slice dm M.length mm)
                clear hmem r0 s1
                have pE := (hK0.out _ _ ownE.rows.left.tail).2.1
                go_wp2_with fail
                refine hK.out _ _ ⟨pF, trivial⟩ (fun _ => ?_)
                clear hK K
                try simp only [List.getElem_toArray, List.getElem_cons_succ, List.getElem_cons_zero, Act.put, List.setIfInBounds_toArray, List.set_cons_zero, List.set_cons_succ]
                refine wpAnyH_ready (rs := [7]) (by kernel_rfl) (by simp) ?_
                refine AllReadyH.cons rfl (fun K hK => ?_) AllReadyH.nil
                go_simp
                refine hK.out _ _ ⟨pE, trivial⟩ (fun _ => ?_)
                clear hK K
                try simp only [List.getElem_toArray, List.getElem_cons_succ, List.getElem_cons_zero, Act.put, List.setIfInBounds_toArray, List.set_cons_zero, List.set_cons_succ]
                refine wpAnyH_take (i := 8) (v := .int .i64 y16) rfl (by kernel_rfl) (by kernel_rfl) (by kernel_rfl) (fun _ _ _ h => h) (Or.inl ⟨by rfl, by intro wx hx; go_simp⟩) (by assumption) ?_
                try simp only [List.getElem_toArray, List.getElem_cons_succ, List.getElem_cons_zero, Act.put, List.setIfInBounds_toArray, List.set_cons_zero, List.set_cons_succ]
                refine wpAnyH_take (i := 9) (v := .slice ud ws.length um) rfl (by kernel_rfl) (by kernel_rfl) (by kernel_rfl) (fun _ _ _ h => h) (Or.inl ⟨by rfl, by intro wx hx; go_simp⟩) (by assumption) ?_
                try simp only [List.getElem_toArray, List.getElem_cons_succ, List.getElem_cons_zero, Act.put, List.setIfInBounds_toArray, List.set_cons_zero, List.set_cons_succ]
                refine wpAnyH_done (by kernel_rfl) ?_ _
                go_wp2_with fail
                refine bodyPost_ret (v := .tuple #[.agg #[.slice dm M.length mm], .int .i64 y16, (.slice ud ws.length um)]) (by simp [results, Try.results94, go_sem, y0]) rfl ?_
                have hLn : (ws : List Int).length ≤ 300 := (by omega)
                exact ⟨_, _, _, M, _, ws, intRowOf 3 (.slice ud ws.length um) ws :: K0, a16, rfl, hM.out, by omega, by omega, hLn, by omega, by omega, ownE, hid (fun u' B' o => ⟨(hK0.out u' B' o.tail).1, o.reads (by unfold Short; omega) (big_i64 hws9.out)⟩), bE⟩
              · by_cases q3 : x10 = 3
                · obtain ⟨g, rfl⟩ := own10.rows.at (j := 0) (show 0 < ws.length by omega)
                  have hwq := hid (show ∀ q, q < ws.length → 0 ≤ nth ws q ∧ nth ws q ≤ 1000000 from fun q hq => hwsb.out _ (nth_mem hq))
                  go_wp2_with fail
                  go_loopw [13] (fun iv wr => ∃ z : Nat, z ≤ ws.length ∧ iv = .int .i64 z ∧ ∃ ws' : List Int, Hid (ws'.length = ws.length) ∧ Hid (∀ q, q < ws.length → -1 ≤ nth ws' q ∧ nth ws' q ≤ 3000000 ∧ (z ≤ q → nth ws' q ≤ 1000000)) ∧ Below B w wr ∧ CurAt wr B c vc a10 (intRowOf 3 (.slice (some ⟨g, 0, none⟩) ws.length um) ws' :: (K0 ++ (boxRow 26 1 r [.slice none 0 0] :: R)))) (fun iv _ => ws.length - (intOf iv).toNat)
                  case atStart => exact ⟨0, by omega, rfl, ws, hid rfl, hid (fun q hq => by have := hwq.out q hq; omega), b10', own10⟩
                  case round =>
                    clear own10 b10' e10
                    obtain ⟨z, hz, rfl, ws', hwl', hwb', b11, own11⟩ := hrel
                    obtain ⟨w11, rfl⟩ : ∃ y : World, y = wr := ⟨_, rfl⟩
                    by_cases hlz : z < ws.length
                    · obtain ⟨s11, h11⟩ := own11
                      have h11' := h11.perm (List.Perm.swap _ _ _)
                      have hrw : Own w11 B ((⟨3, 1, .slice (some ⟨g, 0, none⟩) ws.length um, ws.length, ws'.map (Value.int .i64)⟩ : Row) :: curRow c vc a10 s11 :: (K0 ++ (boxRow 26 1 r [.slice none 0 0] :: R))) := by
                        have h := h11'
                        unfold intRowOf at h
                        rw [hwl'.out] at h
                        exact h
                      have hcz : w11.cell? ⟨g, z, none⟩ = some (.int .i64 (nth ws' z)) := by
                        rw [hrw.cellAt (w' := w11) hlz]
                        simp [nth, show z < ws'.length by rw [hwl'.out]; exact hlz]
                      have hfz := hrw.frozenAt z
                      have hb1 := hwb'.out z hlz
                      have hb2 := hb1.2.2 (Nat.le_refl _)
                      have own12 := hrw.set z (.int .i64 (nth ws' z + 99990))
                      have hgB := hrw.lt.1
                      have b12 := b11.setCell hgB (p := ⟨g, z, none⟩) (.int .i64 (nth ws' z + 99990))
                      have hnew := hid (show ∀ q, q < ws.length → -1 ≤ nth (ws'.set z (nth ws' z + 99990)) q ∧ nth (ws'.set z (nth ws' z + 99990)) q ≤ 3000000 ∧ (z + 1 ≤ q → nth (ws'.set z (nth ws' z + 99990)) q ≤ 1000000) from fun q hq => by
                        have h1 := hwb'.out q hq
                        by_cases e : z = q
                        · subst e
                          rw [nth_set_self (by rw [hwl'.out]; exact hlz)]
                          omega
                        · rw [nth_set_ne e]
                          omega)
                      rw [← List.map_set] at own12
                      have hl12 := hid (show (ws'.set z (nth ws' z + 99990)).length = ws.length by rw [List.length_set]; exact hwl'.out)
                      have own12' : CurAt (w11.setCell ⟨g, z, none⟩ (.int .i64 (nth ws' z + 99990))) B c vc a10 (intRowOf 3 (.slice (some ⟨g, 0, none⟩) ws.length um) (ws'.set z (nth ws' z + 99990)) :: (K0 ++ (boxRow 26 1 r [.slice none 0 0] :: R))) := ⟨s11, by
                        have h := own12.perm (List.Perm.swap _ _ _)
                        unfold intRowOf
                        rw [hl12.out]
                        exact h⟩
                      clear h11 h11' hrw own12 b11
                      obtain ⟨ws2, hw2⟩ : ∃ y, y = ws'.set z (nth ws' z + 99990) := ⟨_, rfl⟩
                      rw [← hw2] at hnew hl12 own12'
                      replace hw2 := hid hw2
                      generalize nth ws' z = y at *
                      go_wp2_with fail
                      go_roundw
                      case rel => exact ⟨z + 1, by omega, by go_num, ws2, hl12, hnew, b12, own12'⟩
                      case measure => simp [intOf]; omega
                    · have hws9 : ∀ y ∈ ws', -1 ≤ y ∧ y ≤ 3000000 := fun y hy => by
                        obtain ⟨q, hq, rfl⟩ := mem_iff_nth.1 hy
                        have := hwb'.out q (by rw [← hwl'.out]; exact hq)
                        omega
                      replace hws9 := hid hws9
                      go_upto_region 32 with fail
                      have hmem : boxRow 26 1 r [.slice none 0 0] ∈ intRowOf 3 (.slice (some ⟨g, 0, none⟩) ws.length um) ws' :: (K0 ++ (boxRow 26 1 r [.slice none 0 0] :: R)) := by simp
                      have r0 := own11.at hmem (j := 0) (by omega)
                      have r00 : w11.cell? ⟨r, 0, none⟩ = some (.slice none 0 0) := r0.1
                      have r01 := r0.2
                      have pF := (hK0.out _ _ own11.rows.tail.left).2.1
                      have s1 := CurAt.set (A := intRowOf 3 (.slice (some ⟨g, 0, none⟩) ws.length um) ws' :: K0) (L := R) own11 0 (.slice dm M.length mm)
                      have y0 : (w11.setCell ⟨r, 0, none⟩ (.slice dm M.length mm)).cell? ⟨r, 0, none⟩ = some (.slice dm M.length mm) := by go_simp
                      have ownE : CurAt (w11.setCell ⟨r, 0, none⟩ (.slice dm M.length mm)) B c vc a10 ((intRowOf 3 (.slice (some ⟨g, 0, none⟩) ws.length um) ws' :: K0) ++ R) := s1.1.sub (List.Sublist.append_left (List.sublist_cons_self _ _) _)
                      have bE := b11.setCell s1.2 (p := ⟨r, 0, none⟩) (.slice dm M.length mm)
                      clear hmem r0 s1
                      go_wp2_with fail
                      refine bodyPost_ret (v := .tuple #[.agg #[.slice dm M.length mm], .int .i64 k, (.slice (some ⟨g, 0, none⟩) ws.length um)]) (by simp [results, Try.results94, go_sem, y0]) rfl ?_
                      have hLn : (ws' : List Int).length ≤ 300 := (by rw [hwl'.out]; omega)
                      exact ⟨_, _, _, M, _, ws', intRowOf 3 (.slice (some ⟨g, 0, none⟩) ws.length um) ws' :: K0, a10, rfl, hM.out, by omega, by omega, hLn, by omega, by omega, ownE, hid (fun u' B' o => ⟨(hK0.out u' B' o.tail).1, o.reads (by unfold Short; omega) (big_i64 hws9.out)⟩), bE⟩
                · have hws9 : ∀ y ∈ ws, -1 ≤ y ∧ y ≤ 3000000 := fun y hy => by have := hwsb.out y hy; omega
                  replace hws9 := hid hws9
                  go_upto_region 32 with fail
                  have hmem : boxRow 26 1 r [.slice none 0 0] ∈ intRowOf 3 (.slice ud ws.length um) ws :: (K0 ++ (boxRow 26 1 r [.slice none 0 0] :: R)) := by simp
                  have r0 := own10.at hmem (j := 0) (by omega)
                  have r00 : w10.cell? ⟨r, 0, none⟩ = some (.slice none 0 0) := r0.1
                  have r01 := r0.2
                  have pF := (hK0.out _ _ own10.rows.tail.left).2.1
                  have s1 := CurAt.set (A := intRowOf 3 (.slice ud ws.length um) ws :: K0) (L := R) own10 0 (.slice dm M.length mm)
                  have y0 : (w10.setCell ⟨r, 0, none⟩ (.slice dm M.length mm)).cell? ⟨r, 0, none⟩ = some (.slice dm M.length mm) := by go_simp
                  have ownE : CurAt (w10.setCell ⟨r, 0, none⟩ (.slice dm M.length mm)) B c vc a10 ((intRowOf 3 (.slice ud ws.length um) ws :: K0) ++ R) := s1.1.sub (List.Sublist.append_left (List.sublist_cons_self _ _) _)
                  have bE := b10'.setCell s1.2 (p := ⟨r, 0, none⟩) (.slice dm M.length mm)
                  clear hmem r0 s1
                  go_wp2_with fail
                  refine bodyPost_ret (v := .tuple #[.agg #[.slice dm M.length mm], .int .i64 k, (.slice ud ws.length um)]) (by simp [results, Try.results94, go_sem, y0]) rfl ?_
                  have hLn : (ws : List Int).length ≤ 300 := (by omega)
                  exact ⟨_, _, _, M, _, ws, intRowOf 3 (.slice ud ws.length um) ws :: K0, a10, rfl, hM.out, by omega, by omega, hLn, by omega, by omega, ownE, hid (fun u' B' o => ⟨(hK0.out u' B' o.tail).1, o.reads (by unfold Short; omega) (big_i64 hws9.out)⟩), bE⟩
        | true =>
          have hBA := ownA.size
          have own12 := ownA.lit (e := 3) (n := 0) (cs := #[]) [] hBA rfl rfl (by simp)
          have b12 : Below B w (wA.alloc (.cells #[] 3)) := bA.alloc hBA _
          go_upto_region 13 with fail
          obtain ⟨gv, hgv⟩ : ∃ z, z = wA.heap.size := ⟨_, rfl⟩
          rw [← hgv] at own12 ⊢
          replace hgv := hid hgv
          generalize wA.alloc (.cells #[] 3) = w12 at *
          clear ownA bA hBA
          have hB12 := own12.size
          have own13 : CurAt (w12.alloc (.cells #[] 27)) B c vc aA (⟨27, 1, .slice (some ⟨w12.heap.size, 0, none⟩) 0 0, 0, []⟩ :: (intRowOf 3 (.slice (some ⟨gv, 0, none⟩) 0 0) [] :: (intRowOf 3 (.slice ud ws.length um) ws :: (K0 ++ (boxRow 26 1 r [.slice none 0 0] :: R))))) := by
            obtain ⟨s, h⟩ := own12
            exact ⟨s, (h.lit 27 1 0 #[] hB12 (by unfold maxLen; omega) rfl).perm (List.Perm.swap _ _ _)⟩
          have b13 : Below B w (w12.alloc (.cells #[] 27)) := b12.alloc hB12 _
          go_upto_region 14 with fail
          obtain ⟨gc, hgc⟩ : ∃ z, z = w12.heap.size := ⟨_, rfl⟩
          rw [← hgc] at own13 ⊢
          replace hgc := hid hgc
          generalize w12.alloc (.cells #[] 27) = w13 at *
          clear own12 b12 hB12
          have e13 : Ext w0 w13 := hE.out _ b13
          go_wp2_with fail
          refine (pick_any (w0 := w0) hc own13 hwB (by omega) (by omega)).mono ?_
          rintro e w14 ⟨x14, a14, rfl, h140, h141, h142, h143, h144, own14, b14⟩
          have b14' := b13.trans b14
          have hx14 := h142 (by omega)
          obtain ⟨N, hN⟩ : ∃ N : Nat, (N : Int) = 1 + x14 := ⟨(1 + x14).toNat, by omega⟩
          have hN14 : 1 ≤ N ∧ N ≤ 4 := by omega
          clear own13 b13 b14 e13 h141 h142
          go_upto_region 15 with fail
          rw [← hN]
          replace hN := hid hN
          go_loopw [10, 11, 12] (fun vv cv tv wr => ∃ z : Nat, z ≤ N ∧ tv = .int .i64 z ∧ ∃ (V : List Int) (T : List Nat) (ax : Int), Hid (z + T.length = N) ∧ Hid (V.length = T.length) ∧ Hid (∀ t ∈ T, t < P.length) ∧ Hid (∀ y ∈ V, 0 ≤ y ∧ y ≤ 8) ∧ a14 ≤ ax ∧ ax ≤ a14 + 4 * ((N : Int) - z) ∧ Below B w wr ∧ CurAt wr B c vc ax (⟨27, 1, cv, T.length, T.map pv⟩ :: (intRowOf 3 vv V :: (intRowOf 3 (.slice ud ws.length um) ws :: (K0 ++ (boxRow 26 1 r [.slice none 0 0] :: R)))))) (fun _ _ tv _ => (intOf tv).toNat)
          case atStart => exact ⟨N, by omega, rfl, [], [], a14, hid (by simp), hid rfl, hid (by simp), hid (by simp), by omega, by omega, b14', own14⟩
          case round =>
            clear own14 b14'
            obtain ⟨z, hz, rfl, V, T, a15, hzT, hVT, hTb, hVb, ha15, ha152, b15, own15⟩ := hrel
            obtain ⟨w15, rfl⟩ : ∃ y : World, y = wr := ⟨_, rfl⟩
            obtain ⟨vd, vm, hvv⟩ := (own15.rows.tail).form
            obtain ⟨cd, cm, hcv⟩ := (own15.rows).form
            have hvv' : _ = Value.slice vd V.length vm := hvv
            have hcv' : _ = Value.slice cd T.length cm := hcv
            clear hvv hcv
            subst hvv'
            subst hcv'
            have hTl : T.length ≤ 4 := by have := hzT.out; omega
            have hVl : V.length ≤ 4 := by have := hVT.out; omega
            have e15 : Ext w0 w15 := hE.out _ b15
            by_cases hz0 : 0 < z
            · have hgt2 : (0 : Int) < (z : Int) := by omega
              go_wp2_with fail
              refine (pick_any (w0 := w0) hc own15 hwB (by omega) (by omega)).mono ?_
              rintro e w16 ⟨x16, a16, rfl, h160, h161, h162, h163, h164, own16, b16⟩
              have b16' := b15.trans b16
              have hx16 := h162 (by omega)
              have hVb2 := hid (show ∀ y ∈ V ++ [x16], 0 ≤ y ∧ y ≤ 8 from fun y hy => by
                rcases List.mem_append.1 hy with h1 | h1
                · exact hVb.out y h1
                · rw [List.mem_singleton.1 h1]; omega)
              clear own15 b15 b16 e15 h161 h162
              obtain ⟨s16, h16⟩ := own16
              have hB16 := CurAt.size ⟨s16, h16⟩
              have h16' : Own w16 B ((⟨3, 1, .slice vd V.length vm, V.length, V.map (Value.int .i64)⟩ : Row) :: curRow c vc a16 s16 :: (⟨27, 1, .slice cd T.length cm, T.length, T.map pv⟩ : Row) :: (intRowOf 3 (.slice ud ws.length um) ws :: (K0 ++ (boxRow 26 1 r [.slice none 0 0] :: R)))) := h16.perm (List.perm_middle (l₁ := [_, _])).symm
              go_wp2_with (at_builtin; refine wpList_append1 rfl _ _ _ rfl elemInt rfl h16' hB16 rfl rfl (by omega) (by omega) ?_; intro v1 w17 ho hb17)
              have own17 : CurAt w17 B c vc a16 (intRowOf 3 v1 (V ++ [x16]) :: (⟨27, 1, .slice cd T.length cm, T.length, T.map pv⟩ :: (intRowOf 3 (.slice ud ws.length um) ws :: (K0 ++ (boxRow 26 1 r [.slice none 0 0] :: R))))) := ⟨s16, (ow_snoc ho rfl).perm (List.Perm.swap _ _ _)⟩
              have b17 := b16'.trans hb17
              obtain ⟨V2, hV2⟩ : ∃ y, y = V ++ [x16] := ⟨_, rfl⟩
              have hV2l := hid (show V2.length = T.length + 1 by rw [hV2, List.length_append]; have := hVT.out; simp; omega)
              rw [← hV2] at own17 hVb2
              replace hV2 := hid hV2
              clear h16 h16' ho hb17 b16' hB16
              have e17 : Ext w0 w17 := hE.out _ b17
              refine (pick_any (w0 := w0) hc own17 hwB (by omega) (by omega)).mono ?_
              rintro e w18 ⟨x18, a18, rfl, h180, h181, h182, h183, h184, own18, b18⟩
              have b18' := b17.trans b18
              have hx18 := h182 (by omega)
              obtain ⟨t, rfl⟩ := Int.eq_ofNat_of_zero_le h180
              have htP2 : t < P.length := by omega
              have hc18 := (hK0.out _ _ own18.rows.tail.tail.tail.left).2.2 t htP2
              obtain ⟨pd, pm, hpt2, hpl⟩ := hc18.2.form
              obtain ⟨pl, hpld⟩ : ∃ y, y = (row P t).length := ⟨_, rfl⟩
              rw [← hpld] at hpt2
              have hcell := hc18.1
              rw [hpt2] at hcell
              have hTm := hid (show (T ++ [t]).map pv = T.map pv ++ [.slice pd pl pm] by rw [List.map_append, ← hpt2]; rfl)
              clear hpl hpld hpt2
              clear own17 b17 b18 e17 h180 h181 h182 hc18
              obtain ⟨s18, h18⟩ := own18
              have hB18 := CurAt.size ⟨s18, h18⟩
              have h18' : Own w18 B ((⟨27, 1, .slice cd T.length cm, T.length, T.map pv⟩ : Row) :: curRow c vc a18 s18 :: intRowOf 3 v1 V2 :: (intRowOf 3 (.slice ud ws.length um) ws :: (K0 ++ (boxRow 26 1 r [.slice none 0 0] :: R)))) := h18.perm (List.perm_middle (l₁ := [_, _])).symm
              go_wp2_with (at_builtin; refine wpList_append1 rfl _ _ _ rfl elemInts rfl h18' hB18 rfl rfl (by omega) (by omega) ?_; intro v2 w19 ho hb19)
              have own19 : CurAt w19 B c vc a18 (⟨27, 1, v2, (T ++ [t]).length, (T ++ [t]).map pv⟩ :: (intRowOf 3 v1 V2 :: (intRowOf 3 (.slice ud ws.length um) ws :: (K0 ++ (boxRow 26 1 r [.slice none 0 0] :: R))))) := ⟨s18, by
                rw [List.length_append, hTm.out]
                exact ho.perm (List.Perm.swap _ _ _)⟩
              have b19 := b18'.trans hb19
              clear h18 h18' ho hb19 b18' hB18
              go_roundw
              case rel =>
                obtain ⟨z', rfl⟩ : ∃ z', z = z' + 1 := ⟨z - 1, by omega⟩
                exact ⟨z', by omega, congrArg (Value.int .i64) (by omega), V2, T ++ [t], a18, hid (by rw [List.length_append]; have := hzT.out; simp; omega), hid (by rw [List.length_append]; have := hV2l.out; simp; omega), hid (fun q hq => by
                  rcases List.mem_append.1 hq with h1 | h1
                  · exact hTb.out q h1
                  · rw [List.mem_singleton.1 h1]; exact htP2), hVb2, by omega, by omega, b19, own19⟩
              case measure => simp [intOf]; omega
            · have hgt2 : ¬ (0 : Int) < (z : Int) := by omega
              have hT1 : 1 ≤ T.length := by have := hzT.out; omega
              have hm15 := (hK0.out _ _ own15.rows.tail.tail.tail.left).1
              have hp15 := (hK0.out _ _ own15.rows.tail.tail.tail.left).2.1
              have hcc := hid (hK0.out _ _ own15.rows.tail.tail.tail.left).2.2
              have hVi : IsInts w15 (.slice vd V.length vm) V := own15.rows.tail.reads (by unfold Short; omega) (fun y hy => by have := hVb.out y hy; unfold I64; omega)
              have hCi : IsRows w15 (.slice cd T.length cm) (T.map (row P)) := by
                refine Own.readsRows (B := B) (e := 27) (vs := T.map pv) (R := intRowOf 3 (.slice vd V.length vm) V :: (intRowOf 3 (.slice ud ws.length um) ws :: (K0 ++ (boxRow 26 1 r [.slice none 0 0] :: R)))) ?_ (by unfold ShortRows; rw [List.length_map]; omega) (by rw [List.length_map, List.length_map]) fun j hj => ?_
                · have h := own15.rows
                  unfold valRowOf
                  rw [List.length_map]
                  exact h
                · rw [List.length_map] at hj
                  have h1 := (hcc.out T[j] (hTb.out _ (List.getElem_mem hj))).2
                  rw [row_map hj]
                  simpa [hj] using h1
              have hfs := hid (hfd.out T V ⟨hT1, by omega⟩ hTb.out hVT.out hVb.out)
              go_wp2_with fail
              with_reducible refine (specFS_any (w0 := w15) (w := w15) hm15 hCi hVi).mono ?_
              rw [hfs.out.1, hfs.out.2.1]
              rintro e w20 ⟨u20, rfl, ow20, e20⟩
              have hws1 : 1 ≤ (fsV M (T.map (row P)) V).length := by rw [hfs.out.2.2.1]; omega
              have hws2 : (fsV M (T.map (row P)) V).length ≤ 216 := by rw [hfs.out.2.2.1]; omega
              have hwsb := hid hfs.out.2.2.2
              have own20 : CurAt w20 B c vc a15 (intRowOf 3 u20 (fsV M (T.map (row P)) V) :: (K0 ++ (boxRow 26 1 r [.slice none 0 0] :: R))) := (own15.join ow20 own15.size).sub (((List.sublist_cons_self _ _).trans ((List.sublist_cons_self _ _).trans (List.sublist_cons_self _ _))).cons_cons _)
              have b20 : Below B w w20 := b15.trans (e20.below.mono own15.size)
              clear own15 b15 e15 ow20 e20 hm15 hp15 hcc hVi hCi hfs
              generalize fsV M (T.map (row P)) V = ws at *
              obtain ⟨ud, um, rfl⟩ := ow_ints own20.rows
              have eT : Ext w0 w20 := hE.out _ b20
              go_wp2_with fail
              refine (pick_any (w0 := w0) hc own20 hwB (by omega) (by omega)).mono ?_
              rintro e w10 ⟨x10, a10, rfl, hx0, hx1, hx2, hA1, hA2, own10, b10⟩
              have b10' := b20.trans b10
              have e10 : Ext w0 w10 := hE.out _ b10'
              clear own20 b20 b10 eT hx2
              by_cases q0 : x10 = 0
              · obtain ⟨s10, h10⟩ := own10
                have hB10 := CurAt.size ⟨s10, h10⟩
                have h10' := h10.perm (List.Perm.swap _ _ _)
                have hws9 : ∀ y ∈ ws ++ [0], -1 ≤ y ∧ y ≤ 3000000 := fun y hy => by
                  rcases List.mem_append.1 hy with h1 | h1
                  · have := hwsb.out y h1; omega
                  · rw [List.mem_singleton.1 h1]; omega
                replace hws9 := hid hws9
                go_upto_region 32 with (at_builtin; refine wpList_append1 rfl _ _ _ rfl elemInt rfl h10' hB10 rfl rfl (by omega) (by omega) ?_; intro v1 w11 ho hb11)
                have ownF : CurAt w11 B c vc a10 (intRowOf 3 v1 (ws ++ [0]) :: (K0 ++ (boxRow 26 1 r [.slice none 0 0] :: R))) := ⟨s10, (ow_snoc ho rfl).perm (List.Perm.swap _ _ _)⟩
                have bF := b10'.trans hb11
                clear h10 h10' ho hb11 b10'
                have hmem : boxRow 26 1 r [.slice none 0 0] ∈ intRowOf 3 v1 (ws ++ [0]) :: (K0 ++ (boxRow 26 1 r [.slice none 0 0] :: R)) := by simp
                have r0 := ownF.at hmem (j := 0) (by omega)
                have r00 : w11.cell? ⟨r, 0, none⟩ = some (.slice none 0 0) := r0.1
                have r01 := r0.2
                have pF := (hK0.out _ _ ownF.rows.tail.left).2.1
                have s1 := CurAt.set (A := intRowOf 3 v1 (ws ++ [0]) :: K0) (L := R) ownF 0 (.slice dm M.length mm)
                have y0 : (w11.setCell ⟨r, 0, none⟩ (.slice dm M.length mm)).cell? ⟨r, 0, none⟩ = some (.slice dm M.length mm) := by go_simp
                have ownE : CurAt (w11.setCell ⟨r, 0, none⟩ (.slice dm M.length mm)) B c vc a10 ((intRowOf 3 v1 (ws ++ [0]) :: K0) ++ R) := s1.1.sub (List.Sublist.append_left (List.sublist_cons_self _ _) _)
                have bE := bF.setCell s1.2 (p := ⟨r, 0, none⟩) (.slice dm M.length mm)
                clear hmem r0 s1
                go_wp2_with fail
                have hL9 : (ws ++ [0]).length ≤ 300 := by rw [List.length_append]; simp; omega
                refine bodyPost_ret (v := .tuple #[.agg #[.slice dm M.length mm], .int .i64 k, v1]) (by simp [results, Try.results94, go_sem, y0]) rfl ?_
                have hLn : ((ws ++ [0]) : List Int).length ≤ 300 := hL9
                exact ⟨_, _, _, M, _, (ws ++ [0]), intRowOf 3 v1 (ws ++ [0]) :: K0, a10, rfl, hM.out, by omega, by omega, hLn, by omega, by omega, ownE, hid (fun u' B' o => ⟨(hK0.out u' B' o.tail).1, o.reads (by unfold Short; omega) (big_i64 hws9.out)⟩), bE⟩
              · by_cases q1 : x10 = 1
                · go_wp2_with fail
                  refine (pick_any (w0 := w0) hc own10 hwB (by omega) (by omega)).mono ?_
                  rintro e w11 ⟨x11, a11, rfl, h110, h111, h112, h113, h114, own11, b11⟩
                  have b11' := b10'.trans b11
                  have e11 : Ext w0 w11 := hE.out _ b11'
                  have hs11 := h112 (by omega)
                  obtain ⟨s, rfl⟩ := Int.eq_ofNat_of_zero_le h110
                  clear own10 b10' b11 e10 h110 h111 h112
                  go_wp2_with fail
                  refine (among_any (w0 := w0) hc (own11.lit [-1, 0, 300, 99999, 100000] own11.size rfl rfl (by decide)) hwB (by omega) (by omega) (by decide) (by decide)).mono ?_
                  rintro e w12 ⟨y12, a12, rfl, hy12, h121, h122, own12, b12⟩
                  have own12' := own12.drop
                  have b12' := b11'.trans (((Below.refl B w11).alloc own11.size _).trans b12)
                  have hy12' : -1 ≤ y12 ∧ y12 ≤ 100000 := by simp at hy12; omega
                  have hU : IsInts w12 (.slice ud ws.length um) ws := own12'.rows.reads (by unfold Short; omega) (big_i64 fun y hy => by have := hwsb.out y hy; omega)
                  clear own11 own12 b11' b12 e11 hy12
                  go_wp2_with fail
                  refine (l4With_any (w0 := w12) (w := w12) hU (by omega)).mono ?_
                  rintro e w13 ⟨d13, m13, rfl, ow13, e13⟩
                  have ownF : CurAt w13 B c vc a12 (intRowOf 3 (.slice d13 ws.length m13) (ws.set s y12) :: (K0 ++ (boxRow 26 1 r [.slice none 0 0] :: R))) := (own12'.join ow13 own12'.size).sub ((List.sublist_cons_self _ _).cons_cons _)
                  have bF := b12'.trans (e13.below.mono own12'.size)
                  have hws9 : ∀ y ∈ ws.set s y12, -1 ≤ y ∧ y ≤ 3000000 := fun y hy => by
                    rcases List.mem_or_eq_of_mem_set hy with h1 | h1
                    · have := hwsb.out y h1; omega
                    · rw [h1]; omega
                  replace hws9 := hid hws9
                  clear own12' ow13 e13 b12' hU
                  go_upto_region 32 with fail
                  have hmem : boxRow 26 1 r [.slice none 0 0] ∈ intRowOf 3 (.slice d13 ws.length m13) (ws.set s y12) :: (K0 ++ (boxRow 26 1 r [.slice none 0 0] :: R)) := by simp
                  have r0 := ownF.at hmem (j := 0) (by omega)
                  have r00 : w13.cell? ⟨r, 0, none⟩ = some (.slice none 0 0) := r0.1
                  have r01 := r0.2
                  have pF := (hK0.out _ _ ownF.rows.tail.left).2.1
                  have s1 := CurAt.set (A := intRowOf 3 (.slice d13 ws.length m13) (ws.set s y12) :: K0) (L := R) ownF 0 (.slice dm M.length mm)
                  have y0 : (w13.setCell ⟨r, 0, none⟩ (.slice dm M.length mm)).cell? ⟨r, 0, none⟩ = some (.slice dm M.length mm) := by go_simp
                  have ownE : CurAt (w13.setCell ⟨r, 0, none⟩ (.slice dm M.length mm)) B c vc a12 ((intRowOf 3 (.slice d13 ws.length m13) (ws.set s y12) :: K0) ++ R) := s1.1.sub (List.Sublist.append_left (List.sublist_cons_self _ _) _)
                  have bE := bF.setCell s1.2 (p := ⟨r, 0, none⟩) (.slice dm M.length mm)
                  clear hmem r0 s1
                  go_wp2_with fail
                  have hL9 : (ws.set s y12).length ≤ 300 := by rw [List.length_set]; omega
                  refine bodyPost_ret (v := .tuple #[.agg #[.slice dm M.length mm], .int .i64 k, (.slice d13 ws.length m13)]) (by simp [results, Try.results94, go_sem, y0]) rfl ?_
                  have hLn : ((ws.set s y12) : List Int).length ≤ 300 := hL9
                  exact ⟨_, _, _, M, _, (ws.set s y12), intRowOf 3 (.slice d13 ws.length m13) (ws.set s y12) :: K0, a12, rfl, hM.out, by omega, by omega, hLn, by omega, by omega, ownE, hid (fun u' B' o => ⟨(hK0.out u' B' o.tail).1, o.reads (by unfold Short; omega) (big_i64 hws9.out)⟩), bE⟩
                · by_cases q2 : x10 = 2
                  · have hws9 : ∀ y ∈ ws, -1 ≤ y ∧ y ≤ 3000000 := fun y hy => by have := hwsb.out y hy; omega
                    replace hws9 := hid hws9
                    go_upto_region 26 with fail
                    have ownd := own10.ext (w' := w10.drew)
                    have bd : Below B w w10.drew := b10'.drew
                    have p0 := (hK0.out _ _ ownd.rows.tail.left).2.1
                    clear own10 b10' e10
                    refine wp_region_held_drew (S := fun w' => w'.cell? ⟨mb, 0, none⟩ = some (.slice dm M.length mm) ∧ True) (by kernel_rfl) ⟨p0, trivial⟩ (fun hHeld0 => ?_)
                    generalize w10.drew = wd at *
                    have own15 := ownd.lit (e := 3) (n := 4) (cs := #[.int .i64 0, .int .i64 4, .int .i64 (-1), .int .i64 ((k : Int) + 1)]) [0, 4, -1, (k : Int) + 1] ownd.size rfl rfl (by simp)
                    have b15 : Below B w (wd.alloc (.cells #[.int .i64 0, .int .i64 4, .int .i64 (-1), .int .i64 ((k : Int) + 1)] 3)) := bd.alloc ownd.size _
                    have p15 : (wd.alloc (.cells #[.int .i64 0, .int .i64 4, .int .i64 (-1), .int .i64 ((k : Int) + 1)] 3)).cell? ⟨mb, 0, none⟩ = some (.slice dm M.length mm) := (hK0.out _ _ own15.rows.tail.tail.left).2.1
                    refine wpAnyH_take (i := 0) (v := .agg #[.slice dm M.length mm]) rfl (by kernel_rfl) (by kernel_rfl) (by kernel_rfl) (fun _ _ _ h => h) (Or.inl ⟨by rfl, by intro wx hx; obtain ⟨_, _⟩ := hx; go_simp⟩) (by assumption) ?_
                    try simp only [List.getElem_toArray, List.getElem_cons_zero, Act.put, List.setIfInBounds_toArray, List.set_cons_zero, List.set_cons_succ]
                    refine wpAnyH_take (i := 1) (v := .pointer (some ⟨c, 0, none⟩)) rfl (by kernel_rfl) (by kernel_rfl) (by kernel_rfl) (fun _ _ _ h => h) (Or.inl ⟨by rfl, by intro wx hx; go_simp⟩) (by assumption) ?_
                    try simp only [List.getElem_toArray, List.getElem_cons_succ, List.getElem_cons_zero, Act.put, List.setIfInBounds_toArray, List.set_cons_zero, List.set_cons_succ]
                    refine wpAnyH_take (i := 2) (v := .int .i64 k) rfl (by kernel_rfl) (by kernel_rfl) (by kernel_rfl) (fun _ _ _ h => h) (Or.inl ⟨by rfl, by intro wx hx; go_simp⟩) (by assumption) ?_
                    try simp only [List.getElem_toArray, List.getElem_cons_succ, List.getElem_cons_zero, Act.put, List.setIfInBounds_toArray, List.set_cons_zero, List.set_cons_succ]
                    refine wpAnyH_take (i := 3) (v := .int .i64 ((k : Int) + 1)) rfl (by kernel_rfl) (by kernel_rfl) (by kernel_rfl) (fun _ _ _ h => h) (Or.inl ⟨by rfl, by intro wx hx; (go_simp; exact IntWalk.i64_in _ (by omega))⟩) (by assumption) ?_
                    try simp only [List.getElem_toArray, List.getElem_cons_succ, List.getElem_cons_zero, Act.put, List.setIfInBounds_toArray, List.set_cons_zero, List.set_cons_succ]
                    refine wpAnyH_take (i := 6) (v := .slice ud ws.length um) rfl (by kernel_rfl) (by kernel_rfl) (by kernel_rfl) (fun _ _ _ h => h) (Or.inl ⟨by rfl, by intro wx hx; go_simp⟩) (by assumption) ?_
                    try simp only [List.getElem_toArray, List.getElem_cons_succ, List.getElem_cons_zero, Act.put, List.setIfInBounds_toArray, List.set_cons_zero, List.set_cons_succ]
                    refine wpAnyH_ready (rs := [4]) (by kernel_rfl) (by simp) ?_
                    refine AllReadyH.cons rfl (fun K hK => ?_) AllReadyH.nil
                    go_simp
                    refine hK.out _ _ ⟨p15, trivial⟩ (fun _ => ?_)
                    clear hK K
                    try simp only [List.getElem_toArray, List.getElem_cons_succ, List.getElem_cons_zero, Act.put, List.setIfInBounds_toArray, List.set_cons_zero, List.set_cons_succ]
                    generalize wd.alloc (.cells #[.int .i64 0, .int .i64 4, .int .i64 (-1), .int .i64 ((k : Int) + 1)] 3) = w15 at *
                    have e15 : Ext w0 w15 := hE.out _ b15
                    clear ownd bd p0 hHeld0
                    refine wpAnyH_ready (rs := [5]) (by kernel_rfl) (by simp) ?_
                    refine AllReadyH.cons rfl (fun K hK => ?_) AllReadyH.nil
                    go_simp
                    go_at_call 47
                    refine (among_any (w0 := w0) hc own15 hwB (by omega) (by omega) (by simp) (by simp)).mono ?_
                    rintro e w16 ⟨y16, a16, rfl, hy16, h161, h162, own16, b16⟩
                    have hy : -1 ≤ y16 ∧ y16 ≤ 4 := by simp at hy16; omega
                    have own16' := own16.drop
                    have b16' := b15.trans b16
                    clear own15 b15 p15 own16 b16 hy16 e15
                    have hmem : boxRow 26 1 r [.slice none 0 0] ∈ intRowOf 3 (.slice ud ws.length um) ws :: (K0 ++ (boxRow 26 1 r [.slice none 0 0] :: R)) := by simp
                    have r0 := own16'.at hmem (j := 0) (by omega)
                    have r00 : w16.cell? ⟨r, 0, none⟩ = some (.slice none 0 0) := r0.1
                    have r01 := r0.2
                    have pF := (hK0.out _ _ own16'.rows.tail.left).2.1
                    have s1 := CurAt.set (A := intRowOf 3 (.slice ud ws.length um) ws :: K0) (L := R) own16' 0 (.slice dm M.length mm)
                    have y0 : (w16.setCell ⟨r, 0, none⟩ (.slice dm M.length mm)).cell? ⟨r, 0, none⟩ = some (.slice dm M.length mm) := by go_simp
                    have ownE : CurAt (w16.setCell ⟨r, 0, none⟩ (.slice dm M.length mm)) B c vc a16 ((intRowOf 3 (.slice ud ws.length um) ws :: K0) ++ R) := s1.1.sub (List.Sublist.append_left (List.sublist_cons_self _ _) _)
                    have bE := b16'.setCell s1.2 (p := ⟨r, 0, none⟩) (.slice dm M.length mm)
                    clear hmem r0 s1
                    have pE := (hK0.out _ _ ownE.rows.left.tail).2.1
                    go_wp2_with fail
                    refine hK.out _ _ ⟨pF, trivial⟩ (fun _ => ?_)
                    clear hK K
                    try simp only [List.getElem_toArray, List.getElem_cons_succ, List.getElem_cons_zero, Act.put, List.setIfInBounds_toArray, List.set_cons_zero, List.set_cons_succ]
                    refine wpAnyH_ready (rs := [7]) (by kernel_rfl) (by simp) ?_
                    refine AllReadyH.cons rfl (fun K hK => ?_) AllReadyH.nil
                    go_simp
                    refine hK.out _ _ ⟨pE, trivial⟩ (fun _ => ?_)
                    clear hK K
                    try simp only [List.getElem_toArray, List.getElem_cons_succ, List.getElem_cons_zero, Act.put, List.setIfInBounds_toArray, List.set_cons_zero, List.set_cons_succ]
                    refine wpAnyH_take (i := 8) (v := .int .i64 y16) rfl (by kernel_rfl) (by kernel_rfl) (by kernel_rfl) (fun _ _ _ h => h) (Or.inl ⟨by rfl, by intro wx hx; go_simp⟩) (by assumption) ?_
                    try simp only [List.getElem_toArray, List.getElem_cons_succ, List.getElem_cons_zero, Act.put, List.setIfInBounds_toArray, List.set_cons_zero, List.set_cons_succ]
                    refine wpAnyH_take (i := 9) (v := .slice ud ws.length um) rfl (by kernel_rfl) (by kernel_rfl) (by kernel_rfl) (fun _ _ _ h => h) (Or.inl ⟨by rfl, by intro wx hx; go_simp⟩) (by assumption) ?_
                    try simp only [List.getElem_toArray, List.getElem_cons_succ, List.getElem_cons_zero, Act.put, List.setIfInBounds_toArray, List.set_cons_zero, List.set_cons_succ]
                    refine wpAnyH_done (by kernel_rfl) ?_ _
                    go_wp2_with fail
                    refine bodyPost_ret (v := .tuple #[.agg #[.slice dm M.length mm], .int .i64 y16, (.slice ud ws.length um)]) (by simp [results, Try.results94, go_sem, y0]) rfl ?_
                    have hLn : (ws : List Int).length ≤ 300 := (by omega)
                    exact ⟨_, _, _, M, _, ws, intRowOf 3 (.slice ud ws.length um) ws :: K0, a16, rfl, hM.out, by omega, by omega, hLn, by omega, by omega, ownE, hid (fun u' B' o => ⟨(hK0.out u' B' o.tail).1, o.reads (by unfold Short; omega) (big_i64 hws9.out)⟩), bE⟩
                  · by_cases q3 : x10 = 3
                    · obtain ⟨g, rfl⟩ := own10.rows.at (j := 0) (show 0 < ws.length by omega)
                      have hwq := hid (show ∀ q, q < ws.length → 0 ≤ nth ws q ∧ nth ws q ≤ 1000000 from fun q hq => hwsb.out _ (nth_mem hq))
                      go_wp2_with fail
                      go_loopw [13] (fun iv wr => ∃ z : Nat, z ≤ ws.length ∧ iv = .int .i64 z ∧ ∃ ws' : List Int, Hid (ws'.length = ws.length) ∧ Hid (∀ q, q < ws.length → -1 ≤ nth ws' q ∧ nth ws' q ≤ 3000000 ∧ (z ≤ q → nth ws' q ≤ 1000000)) ∧ Below B w wr ∧ CurAt wr B c vc a10 (intRowOf 3 (.slice (some ⟨g, 0, none⟩) ws.length um) ws' :: (K0 ++ (boxRow 26 1 r [.slice none 0 0] :: R)))) (fun iv _ => ws.length - (intOf iv).toNat)
                      case atStart => exact ⟨0, by omega, rfl, ws, hid rfl, hid (fun q hq => by have := hwq.out q hq; omega), b10', own10⟩
                      case round =>
                        clear own10 b10' e10
                        obtain ⟨z, hz, rfl, ws', hwl', hwb', b11, own11⟩ := hrel
                        obtain ⟨w11, rfl⟩ : ∃ y : World, y = wr := ⟨_, rfl⟩
                        by_cases hlz : z < ws.length
                        · obtain ⟨s11, h11⟩ := own11
                          have h11' := h11.perm (List.Perm.swap _ _ _)
                          have hrw : Own w11 B ((⟨3, 1, .slice (some ⟨g, 0, none⟩) ws.length um, ws.length, ws'.map (Value.int .i64)⟩ : Row) :: curRow c vc a10 s11 :: (K0 ++ (boxRow 26 1 r [.slice none 0 0] :: R))) := by
                            have h := h11'
                            unfold intRowOf at h
                            rw [hwl'.out] at h
                            exact h
                          have hcz : w11.cell? ⟨g, z, none⟩ = some (.int .i64 (nth ws' z)) := by
                            rw [hrw.cellAt (w' := w11) hlz]
                            simp [nth, show z < ws'.length by rw [hwl'.out]; exact hlz]
                          have hfz := hrw.frozenAt z
                          have hb1 := hwb'.out z hlz
                          have hb2 := hb1.2.2 (Nat.le_refl _)
                          have own12 := hrw.set z (.int .i64 (nth ws' z + 99990))
                          have hgB := hrw.lt.1
                          have b12 := b11.setCell hgB (p := ⟨g, z, none⟩) (.int .i64 (nth ws' z + 99990))
                          have hnew := hid (show ∀ q, q < ws.length → -1 ≤ nth (ws'.set z (nth ws' z + 99990)) q ∧ nth (ws'.set z (nth ws' z + 99990)) q ≤ 3000000 ∧ (z + 1 ≤ q → nth (ws'.set z (nth ws' z + 99990)) q ≤ 1000000) from fun q hq => by
                            have h1 := hwb'.out q hq
                            by_cases e : z = q
                            · subst e
                              rw [nth_set_self (by rw [hwl'.out]; exact hlz)]
                              omega
                            · rw [nth_set_ne e]
                              omega)
                          rw [← List.map_set] at own12
                          have hl12 := hid (show (ws'.set z (nth ws' z + 99990)).length = ws.length by rw [List.length_set]; exact hwl'.out)
                          have own12' : CurAt (w11.setCell ⟨g, z, none⟩ (.int .i64 (nth ws' z + 99990))) B c vc a10 (intRowOf 3 (.slice (some ⟨g, 0, none⟩) ws.length um) (ws'.set z (nth ws' z + 99990)) :: (K0 ++ (boxRow 26 1 r [.slice none 0 0] :: R))) := ⟨s11, by
                            have h := own12.perm (List.Perm.swap _ _ _)
                            unfold intRowOf
                            rw [hl12.out]
                            exact h⟩
                          clear h11 h11' hrw own12 b11
                          obtain ⟨ws2, hw2⟩ : ∃ y, y = ws'.set z (nth ws' z + 99990) := ⟨_, rfl⟩
                          rw [← hw2] at hnew hl12 own12'
                          replace hw2 := hid hw2
                          generalize nth ws' z = y at *
                          go_wp2_with fail
                          go_roundw
                          case rel => exact ⟨z + 1, by omega, by go_num, ws2, hl12, hnew, b12, own12'⟩
                          case measure => simp [intOf]; omega
                        · have hws9 : ∀ y ∈ ws', -1 ≤ y ∧ y ≤ 3000000 := fun y hy => by
                            obtain ⟨q, hq, rfl⟩ := mem_iff_nth.1 hy
                            have := hwb'.out q (by rw [← hwl'.out]; exact hq)
                            omega
                          replace hws9 := hid hws9
                          go_upto_region 32 with fail
                          have hmem : boxRow 26 1 r [.slice none 0 0] ∈ intRowOf 3 (.slice (some ⟨g, 0, none⟩) ws.length um) ws' :: (K0 ++ (boxRow 26 1 r [.slice none 0 0] :: R)) := by simp
                          have r0 := own11.at hmem (j := 0) (by omega)
                          have r00 : w11.cell? ⟨r, 0, none⟩ = some (.slice none 0 0) := r0.1
                          have r01 := r0.2
                          have pF := (hK0.out _ _ own11.rows.tail.left).2.1
                          have s1 := CurAt.set (A := intRowOf 3 (.slice (some ⟨g, 0, none⟩) ws.length um) ws' :: K0) (L := R) own11 0 (.slice dm M.length mm)
                          have y0 : (w11.setCell ⟨r, 0, none⟩ (.slice dm M.length mm)).cell? ⟨r, 0, none⟩ = some (.slice dm M.length mm) := by go_simp
                          have ownE : CurAt (w11.setCell ⟨r, 0, none⟩ (.slice dm M.length mm)) B c vc a10 ((intRowOf 3 (.slice (some ⟨g, 0, none⟩) ws.length um) ws' :: K0) ++ R) := s1.1.sub (List.Sublist.append_left (List.sublist_cons_self _ _) _)
                          have bE := b11.setCell s1.2 (p := ⟨r, 0, none⟩) (.slice dm M.length mm)
                          clear hmem r0 s1
                          go_wp2_with fail
                          refine bodyPost_ret (v := .tuple #[.agg #[.slice dm M.length mm], .int .i64 k, (.slice (some ⟨g, 0, none⟩) ws.length um)]) (by simp [results, Try.results94, go_sem, y0]) rfl ?_
                          have hLn : (ws' : List Int).length ≤ 300 := (by rw [hwl'.out]; omega)
                          exact ⟨_, _, _, M, _, ws', intRowOf 3 (.slice (some ⟨g, 0, none⟩) ws.length um) ws' :: K0, a10, rfl, hM.out, by omega, by omega, hLn, by omega, by omega, ownE, hid (fun u' B' o => ⟨(hK0.out u' B' o.tail).1, o.reads (by unfold Short; omega) (big_i64 hws9.out)⟩), bE⟩
                    · have hws9 : ∀ y ∈ ws, -1 ≤ y ∧ y ≤ 3000000 := fun y hy => by have := hwsb.out y hy; omega
                      replace hws9 := hid hws9
                      go_upto_region 32 with fail
                      have hmem : boxRow 26 1 r [.slice none 0 0] ∈ intRowOf 3 (.slice ud ws.length um) ws :: (K0 ++ (boxRow 26 1 r [.slice none 0 0] :: R)) := by simp
                      have r0 := own10.at hmem (j := 0) (by omega)
                      have r00 : w10.cell? ⟨r, 0, none⟩ = some (.slice none 0 0) := r0.1
                      have r01 := r0.2
                      have pF := (hK0.out _ _ own10.rows.tail.left).2.1
                      have s1 := CurAt.set (A := intRowOf 3 (.slice ud ws.length um) ws :: K0) (L := R) own10 0 (.slice dm M.length mm)
                      have y0 : (w10.setCell ⟨r, 0, none⟩ (.slice dm M.length mm)).cell? ⟨r, 0, none⟩ = some (.slice dm M.length mm) := by go_simp
                      have ownE : CurAt (w10.setCell ⟨r, 0, none⟩ (.slice dm M.length mm)) B c vc a10 ((intRowOf 3 (.slice ud ws.length um) ws :: K0) ++ R) := s1.1.sub (List.Sublist.append_left (List.sublist_cons_self _ _) _)
                      have bE := b10'.setCell s1.2 (p := ⟨r, 0, none⟩) (.slice dm M.length mm)
                      clear hmem r0 s1
                      go_wp2_with fail
                      refine bodyPost_ret (v := .tuple #[.agg #[.slice dm M.length mm], .int .i64 k, (.slice ud ws.length um)]) (by simp [results, Try.results94, go_sem, y0]) rfl ?_
                      have hLn : (ws : List Int).length ≤ 300 := (by omega)
                      exact ⟨_, _, _, M, _, ws, intRowOf 3 (.slice ud ws.length um) ws :: K0, a10, rfl, hM.out, by omega, by omega, hLn, by omega, by omega, ownE, hid (fun u' B' o => ⟨(hK0.out u' B' o.tail).1, o.reads (by unfold Short; omega) (big_i64 hws9.out)⟩), bE⟩
end Go.Proofs.Ytkibmjenjgijmaa
