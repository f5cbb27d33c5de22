/- The draw of greedy servers. Written by mkmti.py. -/
import Derived.Test.YtkibmjenjgijmaaGreatGrM
namespace Go.Proofs.YtkibmjenjgijmaaGreat
open Go.RowKit


set_option maxHeartbeats 3200000 in
set_option maxRecDepth 100000 in
theorem drawGS_any {w0 w : World} [Ext w0 w] {vc : Value} {nb : Nat} (hc : IsBytes w0 vc nb) :
    Calls Tryz.prog 6 #[vc] w (DPost w) := by
  obtain ⟨ac, cc, rfl⟩ := hc.form
  go_enter Tryz.func6, Tryz.ntmps6
  go_upto_region 2 with fail
  have hsz : w0.heap.size ≤ w.heap.size := (‹Ext w0 w›).size
  have own1 := CurAt.start (vc := .slice ac nb cc) (((Own.nil w w.heap.size).lit 26 1 1 #[.slice none 0 0] (Nat.le_refl _) (by unfold maxLen; omega) rfl)) (by simp)
  have e1 : Ext w ((w.alloc (.cells #[.slice none 0 0] 26)).alloc (.cells #[.slice ac nb cc, .int .i64 0, .int .u64 0] 47)) := inferInstance
  have hcs : (w.alloc (.cells #[.slice none 0 0] 26)).heap.size = w.heap.size + 1 := by simp
  rw [hcs] at own1
  obtain ⟨r, hr⟩ : ∃ r, r = w.heap.size := ⟨_, rfl⟩
  obtain ⟨c, hcd⟩ : ∃ c, c = w.heap.size + 1 := ⟨_, rfl⟩
  obtain ⟨B, hBd⟩ : ∃ B, B = w.heap.size := ⟨_, rfl⟩
  have own1' : CurAt ((w.alloc (.cells #[.slice none 0 0] 26)).alloc (.cells #[.slice ac nb cc, .int .i64 0, .int .u64 0] 47)) B c (.slice ac nb cc) 0 [boxRow 26 1 r [.slice none 0 0]] := by
    rw [hBd, hcd, hr]; exact own1
  have hwB : w0.heap.size ≤ B := by omega
  have b1 : Below B w ((w.alloc (.cells #[.slice none 0 0] 26)).alloc (.cells #[.slice ac nb cc, .int .i64 0, .int .u64 0] 47)) := by rw [hBd]; exact e1.below
  rw [← hcd, ← hr]
  generalize (w.alloc (.cells #[.slice none 0 0] 26)).alloc (.cells #[.slice ac nb cc, .int .i64 0, .int .u64 0] 47) = w1 at *
  replace hr := hid hr
  replace hcd := hid hcd
  replace hBd := hid hBd
  have hE : ∀ u, Below B w u → Ext w0 u := fun u h => ⟨(‹Ext w0 w›).below.trans (h.mono hwB)⟩
  replace hE := hid hE
  clear own1 e1 hcs
  have e1 : Ext w0 w1 := hE.out _ b1
  go_wp2_with fail
  refine (metricD_any (w0 := w0) hc own1' hwB (by omega) (by omega)).mono ?_
  rintro e w2 ⟨dm, mm, vs, M, a2, rfl, hvs, hM, ha1, ha2', own2, b2⟩
  have b2' := b1.trans b2
  clear own1' b1 b2 e1
  have hn7 := hM.1
  replace hM := hid hM
  replace hvs := hid hvs
  have own4 := own2.box 26 1 #[.slice dm M.length mm] own2.size rfl
  have b4' : Below B w (w2.alloc (.cells #[.slice dm M.length mm] 26)) := b2'.alloc own2.size _
  obtain ⟨mb, hmb⟩ : ∃ r, r = w2.heap.size := ⟨_, rfl⟩
  go_upto_region 3 with fail
  generalize w2.alloc (.cells #[.slice dm M.length mm] 26) = w4 at *
  rw [← hmb] at own4 ⊢
  replace hmb := hid hmb
  clear own2 b2'
  have ownd := own4.ext (w' := w4.drew)
  have bd : Below B w w4.drew := b4'.drew
  have p0 : w4.drew.cell? ⟨mb, 0, none⟩ = some (.slice dm M.length mm) := (ownd.at (.head _) (j := 0) (by omega)).1
  clear own4 b4'
  refine wp_region_held_drew (S := fun w' => w'.cell? ⟨mb, 0, none⟩ = some (.slice dm M.length mm) ∧ True) (by kernel_rfl) ⟨p0, trivial⟩ (fun hHeld0 => ?_)
  generalize w4.drew = wd at *
  have ed : Ext w0 wd := hE.out _ bd
  refine wpAnyH_take (i := 0) (v := .pointer (some ⟨c, 0, none⟩)) rfl (by kernel_rfl) (by kernel_rfl) (by kernel_rfl) (fun _ _ _ h => h) (Or.inl ⟨by rfl, by intro wx hx; go_simp⟩) (by assumption) ?_
  try simp only [List.getElem_toArray, List.getElem_cons_zero, Act.put, List.setIfInBounds_toArray, List.set_cons_zero, List.set_cons_succ]
  refine wpAnyH_take (i := 1) (v := .pointer (some ⟨mb, 0, none⟩)) rfl (by kernel_rfl) (by kernel_rfl) (by kernel_rfl) (fun _ _ _ h => h) (Or.inl ⟨by rfl, by intro wx hx; go_simp⟩) (by assumption) ?_
  try simp only [List.getElem_toArray, List.getElem_cons_succ, List.getElem_cons_zero, Act.put, List.setIfInBounds_toArray, List.set_cons_zero, List.set_cons_succ]
  refine wpAnyH_take (i := 2) (v := .slice dm M.length mm) rfl (by kernel_rfl) (by kernel_rfl) (by kernel_rfl) (fun _ _ _ h => h) (Or.inl ⟨by rfl, by intro wx hx; obtain ⟨_, _⟩ := hx; go_simp⟩) (by assumption) ?_
  try simp only [List.getElem_toArray, List.getElem_cons_succ, List.getElem_cons_zero, Act.put, List.setIfInBounds_toArray, List.set_cons_zero, List.set_cons_succ]
  refine wpAnyH_take (i := 3) (v := .int .i64 M.length) rfl (by kernel_rfl) (by kernel_rfl) (by kernel_rfl) (fun _ _ _ h => h) (Or.inl ⟨by rfl, by intro wx hx; go_simp⟩) (by assumption) ?_
  try simp only [List.getElem_toArray, List.getElem_cons_succ, List.getElem_cons_zero, Act.put, List.setIfInBounds_toArray, List.set_cons_zero, List.set_cons_succ]
  refine wpAnyH_take (i := 4) (v := .pointer (some ⟨c, 0, none⟩)) rfl (by kernel_rfl) (by kernel_rfl) (by kernel_rfl) (fun _ _ _ h => h) (Or.inl ⟨by rfl, by intro wx hx; go_simp⟩) (by assumption) ?_
  try simp only [List.getElem_toArray, List.getElem_cons_succ, List.getElem_cons_zero, Act.put, List.setIfInBounds_toArray, List.set_cons_zero, List.set_cons_succ]
  refine wpAnyH_ready (rs := [5]) (by kernel_rfl) (by simp) ?_
  refine AllReadyH.cons rfl (fun K hK => ?_) AllReadyH.nil
  go_simp
  go_at_call 25
  refine (pick_any (w0 := w0) hc ownd hwB (by omega) (by omega)).mono ?_
  rintro e w5 ⟨x5, a5, rfl, h50, h51, h52, h53, h54, own5, b5⟩
  have b5' := bd.trans b5
  have hx5 := h52 (by omega)
  have p5 : w5.cell? ⟨mb, 0, none⟩ = some (.slice dm M.length mm) := (own5.at (.head _) (j := 0) (by omega)).1
  have e5 : Ext w0 w5 := hE.out _ b5'
  obtain ⟨k, hk⟩ : ∃ k : Nat, (k : Int) = 1 + x5 := ⟨(1 + x5).toNat, by omega⟩
  have hk10 : k ≤ 10 := by omega
  clear ownd bd ed p0 b5 h51 h52
  go_wp2_with fail
  refine hK.out _ _ ⟨p5, trivial⟩ (fun _ => ?_)
  clear hK K
  try simp only [List.getElem_toArray, List.getElem_cons_succ, List.getElem_cons_zero, Act.put, List.setIfInBounds_toArray, List.set_cons_zero, List.set_cons_succ]
  refine wpAnyH_take (i := 6) (v := .int .i64 (1 + x5)) rfl (by kernel_rfl) (by kernel_rfl) (by kernel_rfl) (fun _ _ _ h => h) (Or.inl ⟨by rfl, by intro wx hx; go_simp; exact IntWalk.i64_in _ (by omega)⟩) (by assumption) ?_
  try simp only [List.getElem_toArray, List.getElem_cons_succ, List.getElem_cons_zero, Act.put, List.setIfInBounds_toArray, List.set_cons_zero, List.set_cons_succ]
  rw [← hk]
  replace hk := hid hk
  refine wpAnyH_ready (rs := [7]) (by kernel_rfl) (by simp) ?_
  refine AllReadyH.cons rfl (fun K hK => ?_) AllReadyH.nil
  go_simp
  go_at_call 24
  refine (config_any (w0 := w0) hc own5 hwB (by omega) (by omega) (n := M.length) (k := k) (by omega) hk10).mono ?_
  rintro e w6 ⟨av, A, a6, rfl, hAl, hAb, h61, h62, own6, b6⟩
  have b6' := b5'.trans b6
  have p6 : w6.cell? ⟨mb, 0, none⟩ = some (.slice dm M.length mm) := (own6.at (.tail _ (.head _)) (j := 0) (by omega)).1
  clear own5 b5' b6 e5 p5
  go_wp2_with fail
  refine hK.out _ _ ⟨p6, trivial⟩ (fun _ => ?_)
  clear hK K
  try simp only [List.getElem_toArray, List.getElem_cons_succ, List.getElem_cons_zero, Act.put, List.setIfInBounds_toArray, List.set_cons_zero, List.set_cons_succ]
  refine wpAnyH_take (i := 8) (v := av) rfl (by kernel_rfl) (by kernel_rfl) (by kernel_rfl) (fun _ _ _ h => h) (Or.inl ⟨by rfl, by intro wx hx; go_simp⟩) (by assumption) ?_
  try simp only [List.getElem_toArray, List.getElem_cons_succ, List.getElem_cons_zero, Act.put, List.setIfInBounds_toArray, List.set_cons_zero, List.set_cons_succ]
  refine wpAnyH_done (by kernel_rfl) ?_ _
  go_upto_region 4 with fail
  have ownd := own6.ext (w' := w6.drew)
  have bd : Below B w w6.drew := b6'.drew
  have p0 : w6.drew.cell? ⟨mb, 0, none⟩ = some (.slice dm M.length mm) := (ownd.at (.tail _ (.head _)) (j := 0) (by omega)).1
  clear own6 b6' p6
  refine wp_region_held_drew (S := fun w' => w'.cell? ⟨mb, 0, none⟩ = some (.slice dm M.length mm) ∧ True) (by kernel_rfl) ⟨p0, trivial⟩ (fun hHeld0 => ?_)
  generalize w6.drew = wd at *
  have ed : Ext w0 wd := hE.out _ bd
  refine wpAnyH_take (i := 0) (v := .agg #[.slice dm M.length mm]) rfl (by kernel_rfl) (by kernel_rfl) (by kernel_rfl) (fun _ _ _ h => h) (Or.inl ⟨by rfl, by intro wx hx; obtain ⟨_, _⟩ := hx; go_simp⟩) (by assumption) ?_
  try simp only [List.getElem_toArray, List.getElem_cons_zero, Act.put, List.setIfInBounds_toArray, List.set_cons_zero, List.set_cons_succ]
  refine wpAnyH_take (i := 1) (v := av) rfl (by kernel_rfl) (by kernel_rfl) (by kernel_rfl) (fun _ _ _ h => h) (Or.inl ⟨by rfl, by intro wx hx; go_simp⟩) (by assumption) ?_
  try simp only [List.getElem_toArray, List.getElem_cons_succ, List.getElem_cons_zero, Act.put, List.setIfInBounds_toArray, List.set_cons_zero, List.set_cons_succ]
  refine wpAnyH_take (i := 2) (v := .pointer (some ⟨c, 0, none⟩)) rfl (by kernel_rfl) (by kernel_rfl) (by kernel_rfl) (fun _ _ _ h => h) (Or.inl ⟨by rfl, by intro wx hx; go_simp⟩) (by assumption) ?_
  try simp only [List.getElem_toArray, List.getElem_cons_succ, List.getElem_cons_zero, Act.put, List.setIfInBounds_toArray, List.set_cons_zero, List.set_cons_succ]
  refine wpAnyH_take (i := 3) (v := .pointer (some ⟨mb, 0, none⟩)) rfl (by kernel_rfl) (by kernel_rfl) (by kernel_rfl) (fun _ _ _ h => h) (Or.inl ⟨by rfl, by intro wx hx; go_simp⟩) (by assumption) ?_
  try simp only [List.getElem_toArray, List.getElem_cons_succ, List.getElem_cons_zero, Act.put, List.setIfInBounds_toArray, List.set_cons_zero, List.set_cons_succ]
  refine wpAnyH_take (i := 4) (v := .slice dm M.length mm) rfl (by kernel_rfl) (by kernel_rfl) (by kernel_rfl) (fun _ _ _ h => h) (Or.inl ⟨by rfl, by intro wx hx; obtain ⟨_, _⟩ := hx; go_simp⟩) (by assumption) ?_
  try simp only [List.getElem_toArray, List.getElem_cons_succ, List.getElem_cons_zero, Act.put, List.setIfInBounds_toArray, List.set_cons_zero, List.set_cons_succ]
  refine wpAnyH_take (i := 5) (v := .int .i64 M.length) rfl (by kernel_rfl) (by kernel_rfl) (by kernel_rfl) (fun _ _ _ h => h) (Or.inl ⟨by rfl, by intro wx hx; go_simp⟩) (by assumption) ?_
  try simp only [List.getElem_toArray, List.getElem_cons_succ, List.getElem_cons_zero, Act.put, List.setIfInBounds_toArray, List.set_cons_zero, List.set_cons_succ]
  refine wpAnyH_ready (rs := [6]) (by kernel_rfl) (by simp) ?_
  refine AllReadyH.cons rfl (fun K hK => ?_) AllReadyH.nil
  go_simp
  go_at_call 26
  refine (reqs6_any (w0 := w0) hc ownd hwB (by omega) (by omega) (n := M.length) (by omega)).mono ?_
  rintro e w9 ⟨rv, X, a9, rfl, hXl, hXb, h91, h92, own9, b9⟩
  have b9' := bd.trans b9
  have p9 : w9.cell? ⟨mb, 0, none⟩ = some (.slice dm M.length mm) := (own9.at (.tail _ (.tail _ (.head _))) (j := 0) (by omega)).1
  have hrm : boxRow 26 1 r [.slice none 0 0] ∈ intRowOf 3 rv X :: intRowOf 3 av A :: boxRow 26 1 mb (#[.slice dm M.length mm] : Array Value).toList :: (rowsOf 27 3 (.slice dm M.length mm) vs M ++ (boxRow 26 1 r [.slice none 0 0] :: [])) := by simp
  have r00 : w9.cell? ⟨r, 0, none⟩ = some (.slice none 0 0) := (own9.at hrm (j := 0) (by omega)).1
  have r01 := (own9.at hrm (j := 0) (by omega)).2
  clear ownd bd ed p0 b9
  go_wp2_with fail
  refine hK.out _ _ ⟨p9, trivial⟩ (fun _ => ?_)
  clear hK K
  try simp only [List.getElem_toArray, List.getElem_cons_succ, List.getElem_cons_zero, Act.put, List.setIfInBounds_toArray, List.set_cons_zero, List.set_cons_succ]
  have s1 := CurAt.set (A := intRowOf 3 rv X :: intRowOf 3 av A :: boxRow 26 1 mb (#[.slice dm M.length mm] : Array Value).toList :: rowsOf 27 3 (.slice dm M.length mm) vs M) (L := []) own9 0 (.slice dm M.length mm)
  have own10 := s1.1
  have b10 := b9'.setCell s1.2 (p := ⟨r, 0, none⟩) (.slice dm M.length mm)
  have t0 : (w9.setCell ⟨r, 0, none⟩ (.slice dm M.length mm)).cell? ⟨mb, 0, none⟩ = some (.slice dm M.length mm) := (own10.at (.tail _ (.tail _ (.head _))) (j := 0) (by omega)).1
  have y0 : (w9.setCell ⟨r, 0, none⟩ (.slice dm M.length mm)).cell? ⟨r, 0, none⟩ = some (.slice dm M.length mm) := by go_simp
  clear s1
  refine wpAnyH_ready (rs := [7]) (by kernel_rfl) (by simp) ?_
  refine AllReadyH.cons rfl (fun K hK => ?_) AllReadyH.nil
  go_simp
  refine hK.out _ _ ⟨t0, trivial⟩ (fun _ => ?_)
  clear hK K
  try simp only [List.getElem_toArray, List.getElem_cons_succ, List.getElem_cons_zero, Act.put, List.setIfInBounds_toArray, List.set_cons_zero, List.set_cons_succ]
  generalize w9.setCell ⟨r, 0, none⟩ (.slice dm M.length mm) = w10 at *
  refine wpAnyH_take (i := 8) (v := av) rfl (by kernel_rfl) (by kernel_rfl) (by kernel_rfl) (fun _ _ _ h => h) (Or.inl ⟨by rfl, by intro wx hx; go_simp⟩) (by assumption) ?_
  try simp only [List.getElem_toArray, List.getElem_cons_succ, List.getElem_cons_zero, Act.put, List.setIfInBounds_toArray, List.set_cons_zero, List.set_cons_succ]
  refine wpAnyH_take (i := 9) (v := rv) rfl (by kernel_rfl) (by kernel_rfl) (by kernel_rfl) (fun _ _ _ h => h) (Or.inl ⟨by rfl, by intro wx hx; go_simp⟩) (by assumption) ?_
  try simp only [List.getElem_toArray, List.getElem_cons_succ, List.getElem_cons_zero, Act.put, List.setIfInBounds_toArray, List.set_cons_zero, List.set_cons_succ]
  refine wpAnyH_done (by kernel_rfl) ?_ _
  go_wp2_with fail
  refine bodyPost_ret (v := .tuple #[.agg #[.slice dm M.length mm], av, rv]) (by simp [results, Tryz.results6, go_sem, y0]) rfl ?_
  have hrows := own10.rows
  have hZ : Own w10 B (intRowOf 3 rv X :: intRowOf 3 av A :: (rowsOf 27 3 (.slice dm M.length mm) vs M ++ [])) := by
    refine hrows.sub ?_
    rw [List.append_nil]
    exact ((List.sublist_append_left _ _).trans (List.sublist_cons_self _ _)).cons_cons _ |>.cons_cons _
  refine ⟨_, _, av, rv, M, A, X, intRowOf 3 rv X :: intRowOf 3 av A :: (rowsOf 27 3 (.slice dm M.length mm) vs M ++ []), rfl, hM.out, hAl, by omega, by rw [← hBd.out]; exact hZ, hid (fun u _ hu => ⟨met_own hu.tail.tail hvs.out hM.out, hu.tail.reads (by unfold Short; omega) (small_i64 hAb), hu.reads (by unfold Short; omega) (small_i64 hXb)⟩), ⟨?_⟩⟩
  rw [← hBd.out]
  exact b10
end Go.Proofs.YtkibmjenjgijmaaGreat
