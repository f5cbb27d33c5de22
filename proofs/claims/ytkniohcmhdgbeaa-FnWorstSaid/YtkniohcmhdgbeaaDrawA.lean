/- The draw of an algorithm and a sequence. -/
import Derived.Test.YtkniohcmhdgbeaaDraw8
import Derived.Test.YtkniohcmhdgbeaaAlgD
namespace Go.Proofs.Ytkniohcmhdgbeaa
open Go.RowKit

def ACPost (w : World) (e : Ending) (w' : World) : Prop := ∃ pv tv s rv M S T X, e = .returned (.tuple #[pv, tv, .int .i64 s, rv]) ∧ IsProb w' pv M S ∧ IsRows w' tv T ∧ I64 s ∧ IsInts w' rv X ∧ X.length ≤ 100 ∧ Ext w w'

def AOPost (w : World) (e : Ending) (w' : World) : Prop := ∃ pv tv s rv M S T X, e = .returned (.tuple #[pv, tv, .int .i64 s, rv]) ∧ IsProb w' pv M S ∧ IsRows w' tv T ∧ I64 s ∧ IsInts w' rv X ∧ X.length ≤ 100 ∧ Own w' w.heap.size [intRowOf 3 rv X] ∧ Ext w w'

set_option maxHeartbeats 3200000 in
set_option maxRecDepth 100000 in
theorem drawAO_any {w0 w : World} [Ext w0 w] {vc : Value} {nb : Nat} (hc : IsBytes w0 vc nb) :
    Calls Try.prog 13 #[vc] w (AOPost w) := by
  obtain ⟨ac, cc, rfl⟩ := hc.form
  go_enter Try.func13, Try.ntmps13
  go_upto_region 2 with fail
  have hsz : w0.heap.size ≤ w.heap.size := (‹Ext w0 w›).size
  have own1 := CurAt.start (vc := .slice ac nb cc) (((Own.nil w w.heap.size).lit 26 2 1 #[.slice none 0 0, .slice none 0 0] (Nat.le_refl _) (by unfold maxLen; omega) rfl)) (by simp)
  have e1 : Ext w ((w.alloc (.cells #[.slice none 0 0, .slice none 0 0] 26)).alloc (.cells #[.slice ac nb cc, .int .i64 0, .int .u64 0] 56)) := inferInstance
  have hcs : (w.alloc (.cells #[.slice none 0 0, .slice none 0 0] 26)).heap.size = w.heap.size + 1 := by simp
  rw [hcs] at own1
  obtain ⟨r, hr⟩ : ∃ r, r = w.heap.size := ⟨_, rfl⟩
  obtain ⟨c, hcd⟩ : ∃ c, c = w.heap.size + 1 := ⟨_, rfl⟩
  obtain ⟨B, hBd⟩ : ∃ B, B = w.heap.size := ⟨_, rfl⟩
  have own1' : CurAt ((w.alloc (.cells #[.slice none 0 0, .slice none 0 0] 26)).alloc (.cells #[.slice ac nb cc, .int .i64 0, .int .u64 0] 56)) B c (.slice ac nb cc) 0 [boxRow 26 2 r [.slice none 0 0, .slice none 0 0]] := by
    rw [hBd, hcd, hr]; exact own1
  have hwB : w0.heap.size ≤ B := by omega
  have b1 : Below B w ((w.alloc (.cells #[.slice none 0 0, .slice none 0 0] 26)).alloc (.cells #[.slice ac nb cc, .int .i64 0, .int .u64 0] 56)) := by rw [hBd]; exact e1.below
  rw [← hcd, ← hr]
  generalize (w.alloc (.cells #[.slice none 0 0, .slice none 0 0] 26)).alloc (.cells #[.slice ac nb cc, .int .i64 0, .int .u64 0] 56) = w1 at *
  replace hr := hid hr
  replace hcd := hid hcd
  replace hBd := hid hBd
  have hE : ∀ u, Below B w u → Ext w0 u := fun u h => ⟨(‹Ext w0 w›).below.trans (h.mono hwB)⟩
  replace hE := hid hE
  clear own1 e1 hcs
  have e1 : Ext w0 w1 := hE.out _ b1
  go_wp2_with fail
  refine (problem_any (w0 := w0) hc own1' hwB (by omega) (by omega)).mono ?_
  rintro e w2 ⟨mv, sv, M, S, Z, a2, rfl, hM1, hM2, hS1, hS2, ha1, ha2, own2, hZ, b2⟩
  obtain ⟨dm, mm, rfl, lm⟩ := (hZ w2 own2.rows.left).1.form
  obtain ⟨ds, ms, rfl, ls⟩ := (hZ w2 own2.rows.left).2.form
  replace hZ := hid hZ
  have b2' := b1.trans b2
  have own3 := own2.box 26 2 #[.slice dm M.length mm, .slice ds S.length ms] own2.size rfl
  have b3 : Below B w (w2.alloc (.cells #[.slice dm M.length mm, .slice ds S.length ms] 26)) := b2'.alloc own2.size _
  obtain ⟨pb, hpb⟩ : ∃ r, r = w2.heap.size := ⟨_, rfl⟩
  go_upto_region 3 with fail
  generalize w2.alloc (.cells #[.slice dm M.length mm, .slice ds S.length ms] 26) = w3 at *
  rw [← hpb] at own3 ⊢
  replace hpb := hid hpb
  clear own1' own2 b1 b2 b2' e1
  have own4 := own3.ext (w' := w3.drew)
  have b4 : Below B w w3.drew := b3.drew
  generalize hw4 : w3.drew = w4 at *
  have p0 : w4.cell? ⟨pb, 0, none⟩ = some (.slice dm M.length mm) := (own4.at (.head _) (j := 0) (by omega)).1
  have p1 : w4.cell? ⟨pb, 1, none⟩ = some (.slice ds S.length ms) := (own4.at (.head _) (j := 1) (by omega)).1
  subst hw4
  refine wp_region_held_drew (S := fun w' => w'.cell? ⟨pb, 0, none⟩ = some (.slice dm M.length mm) ∧ w'.cell? ⟨pb, 1, none⟩ = some (.slice ds S.length ms)) (by kernel_rfl) ⟨p0, p1⟩ (fun hHeld0 => ?_)
  generalize w3.drew = w4 at *
  clear own3 b3 p0 p1
  refine wpAnyH_take (i := 0) (v := .agg #[.slice dm M.length mm, .slice ds S.length ms]) rfl (by kernel_rfl) (by kernel_rfl) (by kernel_rfl) (fun _ _ _ h => h) (Or.inl ⟨by rfl, by intro wx hx; obtain ⟨_, _⟩ := hx; go_simp⟩) (by assumption) ?_
  try simp only [List.getElem_toArray, List.getElem_cons_zero, Act.put, List.setIfInBounds_toArray, List.set_cons_zero, List.set_cons_succ]
  refine wpAnyH_take (i := 1) (v := .pointer (some ⟨c, 0, none⟩)) rfl (by kernel_rfl) (by kernel_rfl) (by kernel_rfl) (fun _ _ _ h => h) (Or.inl ⟨by rfl, by intro wx hx; go_simp⟩) (by assumption) ?_
  try simp only [List.getElem_toArray, List.getElem_cons_succ, List.getElem_cons_zero, Act.put, List.setIfInBounds_toArray, List.set_cons_zero, List.set_cons_succ]
  refine wpAnyH_take (i := 2) (v := .agg #[.slice dm M.length mm, .slice ds S.length ms]) rfl (by kernel_rfl) (by kernel_rfl) (by kernel_rfl) (fun _ _ _ h => h) (Or.inl ⟨by rfl, by intro wx hx; obtain ⟨_, _⟩ := hx; go_simp⟩) (by assumption) ?_
  try simp only [List.getElem_toArray, List.getElem_cons_succ, List.getElem_cons_zero, Act.put, List.setIfInBounds_toArray, List.set_cons_zero, List.set_cons_succ]
  refine wpAnyH_take (i := 4) (v := .pointer (some ⟨c, 0, none⟩)) rfl (by kernel_rfl) (by kernel_rfl) (by kernel_rfl) (fun _ _ _ h => h) (Or.inl ⟨by rfl, by intro wx hx; go_simp⟩) (by assumption) ?_
  try simp only [List.getElem_toArray, List.getElem_cons_succ, List.getElem_cons_zero, Act.put, List.setIfInBounds_toArray, List.set_cons_zero, List.set_cons_succ]
  refine wpAnyH_take (i := 5) (v := .agg #[.slice dm M.length mm, .slice ds S.length ms]) rfl (by kernel_rfl) (by kernel_rfl) (by kernel_rfl) (fun _ _ _ h => h) (Or.inl ⟨by rfl, by intro wx hx; obtain ⟨_, _⟩ := hx; go_simp⟩) (by assumption) ?_
  try simp only [List.getElem_toArray, List.getElem_cons_succ, List.getElem_cons_zero, Act.put, List.setIfInBounds_toArray, List.set_cons_zero, List.set_cons_succ]
  refine wpAnyH_take (i := 7) (v := .pointer (some ⟨c, 0, none⟩)) rfl (by kernel_rfl) (by kernel_rfl) (by kernel_rfl) (fun _ _ _ h => h) (Or.inl ⟨by rfl, by intro wx hx; go_simp⟩) (by assumption) ?_
  try simp only [List.getElem_toArray, List.getElem_cons_succ, List.getElem_cons_zero, Act.put, List.setIfInBounds_toArray, List.set_cons_zero, List.set_cons_succ]
  refine wpAnyH_take (i := 8) (v := .agg #[.slice dm M.length mm, .slice ds S.length ms]) rfl (by kernel_rfl) (by kernel_rfl) (by kernel_rfl) (fun _ _ _ h => h) (Or.inl ⟨by rfl, by intro wx hx; obtain ⟨_, _⟩ := hx; go_simp⟩) (by assumption) ?_
  try simp only [List.getElem_toArray, List.getElem_cons_succ, List.getElem_cons_zero, Act.put, List.setIfInBounds_toArray, List.set_cons_zero, List.set_cons_succ]
  have e4 : Ext w0 w4 := hE.out _ b4
  refine wpAnyH_ready (rs := [3]) (by kernel_rfl) (by simp) ?_
  refine AllReadyH.cons rfl (fun K hK => ?_) AllReadyH.nil
  go_simp
  go_at_call 32
  refine (algorithm_any (w0 := w0) hc own4 hwB (by omega) (by omega) (fun u h => hZ.out u h.tail.left) ⟨hM1, hM2⟩ ⟨hS1, hS2⟩ rfl rfl).mono ?_
  rintro e w9 ⟨tv, T, Z2, a9, rfl, h91, h92, own9, hZ2, b9⟩
  have b9' := b4.trans b9
  have p0 : w9.cell? ⟨pb, 0, none⟩ = some (.slice dm M.length mm) := (own9.at (List.mem_append_right _ (.head _)) (j := 0) (by omega)).1
  have p1 : w9.cell? ⟨pb, 1, none⟩ = some (.slice ds S.length ms) := (own9.at (List.mem_append_right _ (.head _)) (j := 1) (by omega)).1
  have e9 : Ext w0 w9 := hE.out _ b9'
  replace hZ2 := hid hZ2
  clear own4 b4 b9 e4
  go_wp2_with fail
  refine hK.out _ _ ⟨p0, p1⟩ (fun _ => ?_)
  clear hK K
  try simp only [List.getElem_toArray, List.getElem_cons_succ, List.getElem_cons_zero, Act.put, List.setIfInBounds_toArray, List.set_cons_zero, List.set_cons_succ]
  clear p0 p1
  refine wpAnyH_ready (rs := [6]) (by kernel_rfl) (by simp) ?_
  refine AllReadyH.cons rfl (fun K hK => ?_) AllReadyH.nil
  go_simp
  go_at_call 33
  refine (state8_any (w0 := w0) hc own9 hwB (by omega) (by omega) hM1 (by omega)).mono ?_
  rintro e w5 ⟨x, a5, rfl, hx1, hx2, h51, h52, own5, b5⟩
  have b5' := b9'.trans b5
  have p0 : w5.cell? ⟨pb, 0, none⟩ = some (.slice dm M.length mm) := (own5.at (List.mem_append_right _ (.head _)) (j := 0) (by omega)).1
  have p1 : w5.cell? ⟨pb, 1, none⟩ = some (.slice ds S.length ms) := (own5.at (List.mem_append_right _ (.head _)) (j := 1) (by omega)).1
  have e5 : Ext w0 w5 := hE.out _ b5'
  clear own9 b9' b5 e9
  go_wp2_with fail
  refine hK.out _ _ ⟨p0, p1⟩ (fun _ => ?_)
  clear hK K
  try simp only [List.getElem_toArray, List.getElem_cons_succ, List.getElem_cons_zero, Act.put, List.setIfInBounds_toArray, List.set_cons_zero, List.set_cons_succ]
  refine wpAnyH_ready (rs := [9]) (by kernel_rfl) (by simp) ?_
  refine AllReadyH.cons rfl (fun K hK => ?_) AllReadyH.nil
  go_simp
  go_at_call 49
  refine (reqs8_any (w0 := w0) hc own5 hwB (by omega) (by omega) hS1 (by omega)).mono ?_
  rintro e w6 ⟨v, X, a6, rfl, hX1, hX2, h61, h62, own6a, b6⟩
  have b6' := b5'.trans b6
  have own6 : CurAt w6 B c (.slice ac nb cc) a6 ((intRowOf 3 v X :: (Z2 ++ (boxRow 26 2 pb (#[.slice dm M.length mm, .slice ds S.length ms] : Array Value).toList :: Z))) ++ (boxRow 26 2 r [.slice none 0 0, .slice none 0 0] :: [])) := by
    simpa only [List.cons_append, List.append_assoc] using own6a
  have hpm : boxRow 26 2 pb (#[.slice dm M.length mm, .slice ds S.length ms] : Array Value).toList ∈ (intRowOf 3 v X :: (Z2 ++ (boxRow 26 2 pb (#[.slice dm M.length mm, .slice ds S.length ms] : Array Value).toList :: Z))) :=
    .tail _ (List.mem_append_right _ (.head _))
  have q0 : w6.cell? ⟨pb, 0, none⟩ = some (.slice dm M.length mm) := (own6.at (List.mem_append_left _ hpm) (j := 0) (by omega)).1
  have q1 : w6.cell? ⟨pb, 1, none⟩ = some (.slice ds S.length ms) := (own6.at (List.mem_append_left _ hpm) (j := 1) (by omega)).1
  have hqq : w6.cell? ⟨pb, 0, none⟩ = some (.slice dm M.length mm) ∧ w6.cell? ⟨pb, 1, none⟩ = some (.slice ds S.length ms) := ⟨q0, q1⟩
  have r00 : w6.cell? ⟨r, 0, none⟩ = some (.slice none 0 0) := (own6.at (List.mem_append_right _ (.head _)) (j := 0) (by omega)).1
  have r10 : w6.cell? ⟨r, 1, none⟩ = some (.slice none 0 0) := (own6.at (List.mem_append_right _ (.head _)) (j := 1) (by omega)).1
  have r01 := (own6.at (List.mem_append_right _ (.head _)) (e := 26) (z := 2) (b := r) (cs := [.slice none 0 0, .slice none 0 0]) (j := 0) (by omega)).2
  have r11 := (own6.at (List.mem_append_right _ (.head _)) (e := 26) (z := 2) (b := r) (cs := [.slice none 0 0, .slice none 0 0]) (j := 1) (by omega)).2
  clear own5 b5' b6 e5 p0 p1 own6a
  go_wp2_with fail
  refine hK.out _ _ hqq (fun _ => ?_)
  clear hK K
  try simp only [List.getElem_toArray, List.getElem_cons_succ, List.getElem_cons_zero, Act.put, List.setIfInBounds_toArray, List.set_cons_zero, List.set_cons_succ]
  have s1 := CurAt.set (L := []) own6 0 (.slice dm M.length mm)
  have s2 := CurAt.set (L := []) s1.1 1 (.slice ds S.length ms)
  have own7 := s2.1
  have b7 := (b6'.setCell s1.2 (p := ⟨r, 0, none⟩) (.slice dm M.length mm)).setCell s1.2 (p := ⟨r, 1, none⟩) (.slice ds S.length ms)
  have t0 : ((w6.setCell ⟨r, 0, none⟩ (.slice dm M.length mm)).setCell ⟨r, 1, none⟩ (.slice ds S.length ms)).cell? ⟨pb, 0, none⟩ = some (.slice dm M.length mm) := (own7.at (List.mem_append_left _ hpm) (j := 0) (by omega)).1
  have t1 : ((w6.setCell ⟨r, 0, none⟩ (.slice dm M.length mm)).setCell ⟨r, 1, none⟩ (.slice ds S.length ms)).cell? ⟨pb, 1, none⟩ = some (.slice ds S.length ms) := (own7.at (List.mem_append_left _ hpm) (j := 1) (by omega)).1
  have htt := And.intro t0 t1
  have y0 : ((w6.setCell ⟨r, 0, none⟩ (.slice dm M.length mm)).setCell ⟨r, 1, none⟩ (.slice ds S.length ms)).cell? ⟨r, 0, none⟩ = some (.slice dm M.length mm) := by go_simp
  have y1 : ((w6.setCell ⟨r, 0, none⟩ (.slice dm M.length mm)).setCell ⟨r, 1, none⟩ (.slice ds S.length ms)).cell? ⟨r, 1, none⟩ = some (.slice ds S.length ms) := by go_simp
  clear t0 t1 s1 s2
  refine wpAnyH_ready (rs := [10]) (by kernel_rfl) (by simp) ?_
  refine AllReadyH.cons rfl (fun K hK => ?_) AllReadyH.nil
  go_simp
  refine hK.out _ _ htt (fun _ => ?_)
  clear hK K
  try simp only [List.getElem_toArray, List.getElem_cons_succ, List.getElem_cons_zero, Act.put, List.setIfInBounds_toArray, List.set_cons_zero, List.set_cons_succ]
  generalize (w6.setCell ⟨r, 0, none⟩ (.slice dm M.length mm)).setCell ⟨r, 1, none⟩ (.slice ds S.length ms) = w7 at *
  refine wpAnyH_take (i := 11) (v := tv) rfl (by kernel_rfl) (by kernel_rfl) (by kernel_rfl) (fun _ _ _ h => h) (Or.inl ⟨by rfl, by intro wx hx; go_simp⟩) (by assumption) ?_
  try simp only [List.getElem_toArray, List.getElem_cons_succ, List.getElem_cons_zero, Act.put, List.setIfInBounds_toArray, List.set_cons_zero, List.set_cons_succ]
  refine wpAnyH_take (i := 12) (v := .int .i64 x) rfl (by kernel_rfl) (by kernel_rfl) (by kernel_rfl) (fun _ _ _ h => h) (Or.inl ⟨by rfl, by intro wx hx; go_simp⟩) (by assumption) ?_
  try simp only [List.getElem_toArray, List.getElem_cons_succ, List.getElem_cons_zero, Act.put, List.setIfInBounds_toArray, List.set_cons_zero, List.set_cons_succ]
  refine wpAnyH_take (i := 13) (v := v) rfl (by kernel_rfl) (by kernel_rfl) (by kernel_rfl) (fun _ _ _ h => h) (Or.inl ⟨by rfl, by intro wx hx; go_simp⟩) (by assumption) ?_
  try simp only [List.getElem_toArray, List.getElem_cons_succ, List.getElem_cons_zero, Act.put, List.setIfInBounds_toArray, List.set_cons_zero, List.set_cons_succ]
  refine wpAnyH_done (by kernel_rfl) ?_ _
  go_wp2_with fail
  refine bodyPost_ret (v := .tuple #[.agg #[.slice dm M.length mm, .slice ds S.length ms], tv, .int .i64 x, v]) (by simp [results, Try.results13, go_sem, y0, y1]) rfl ?_
  have hrows := own7.rows.left
  have hZu : Own w7 B Z := hrows.tail.right.tail
  refine ⟨_, _, x, v, M, S, T, X, rfl, ⟨_, _, rfl, (hZ.out _ hZu).1, (hZ.out _ hZu).2⟩, hZ2.out _ hrows.tail.left, by unfold I64; omega, hrows.reads (by unfold Short; omega) (fun y hy => by have := hX2 y hy; unfold I64; omega), hX1, ?_, ?_⟩
  · rw [← hBd.out]
    exact hrows.sub (List.Sublist.cons_cons _ (List.nil_sublist _))
  refine ⟨?_⟩
  rw [← hBd.out]
  exact b7

theorem drawAC_any {w0 w : World} [Ext w0 w] {vc : Value} {nb : Nat} (hc : IsBytes w0 vc nb) :
    Calls Try.prog 13 #[vc] w (ACPost w) :=
  (drawAO_any hc).mono fun _ _ ⟨pv, tv, s, rv, M, S, T, X, h1, h2, h3, h4, h5, h6, _, h8⟩ => ⟨pv, tv, s, rv, M, S, T, X, h1, h2, h3, h4, h5, h6, h8⟩
end Go.Proofs.Ytkniohcmhdgbeaa
