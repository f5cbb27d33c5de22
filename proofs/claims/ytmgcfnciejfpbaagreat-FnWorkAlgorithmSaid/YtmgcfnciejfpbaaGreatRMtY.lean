/- The draw of a work list, a configuration and a point. -/
import Derived.Test.YtmgcfnciejfpbaaGreatRMtU
namespace Go.Proofs.YtmgcfnciejfpbaaGreat
open Go.RowKit

/-- a work list, a configuration and a point -/
def WVPost (w : World) (e : Ending) (w' : World) : Prop :=
  ∃ d m u M k ws xv X x Z, e = .returned (.tuple #[.agg #[.slice d (M : List (List Int)).length m], .int .i64 k, u, xv, .int .i64 x]) ∧ MOk M ∧ -1 ≤ k ∧ k ≤ 10 ∧ (ws : List Int).length ≤ 300 ∧ (X : List Int).length ≤ 20 ∧ -1 ≤ x ∧ x ≤ 65535 ∧ Own w' w.heap.size Z ∧ Hid (∀ u' B', Own u' B' Z → IsMet u' (.agg #[.slice d M.length m]) M ∧ IsInts u' u ws ∧ IsInts u' xv X) ∧ Ext w w'
set_option maxHeartbeats 3200000 in
set_option maxRecDepth 100000 in
theorem drawWV_any {w0 w : World} [Ext w0 w] {vc : Value} {nb : Nat} (hc : IsBytes w0 vc nb) :
    Calls Tryz.prog 47 #[vc] w (WVPost w) := by
  have hc' := hc
  obtain ⟨ac, cc, rfl⟩ := hc.form
  go_enter Tryz.func47, Tryz.ntmps47
  go_upto_region 1 with fail
  have hsz : w0.heap.size ≤ w.heap.size := (‹Ext w0 w›).size
  obtain ⟨B, hBd⟩ : ∃ B, B = w.heap.size := ⟨_, rfl⟩
  obtain ⟨r, hr⟩ : ∃ r, r = w.heap.size := ⟨_, rfl⟩
  have own1 : Own (w.alloc (.cells #[.slice none 0 0] 26)) B [boxRow 26 1 r [.slice none 0 0]] := by
    rw [hBd, hr]
    exact (Own.nil w w.heap.size).lit 26 1 1 #[.slice none 0 0] (Nat.le_refl _) (by unfold maxLen; omega) rfl
  have b1 : Below B w (w.alloc (.cells #[.slice none 0 0] 26)) := by rw [hBd]; exact (Below.refl _ w).alloc (Nat.le_refl _) _
  have hB1 : B ≤ (w.alloc (.cells #[.slice none 0 0] 26)).heap.size := by rw [hBd]; simp
  have hwB : w0.heap.size ≤ B := by omega
  have hE : ∀ u, Below B w u → Ext w0 u := fun u h => ⟨(‹Ext w0 w›).below.trans (h.mono hwB)⟩
  replace hE := hid hE
  rw [← hr]
  generalize w.alloc (.cells #[.slice none 0 0] 26) = w1 at *
  replace hr := hid hr
  replace hBd := hid hBd
  have e1 : Ext w0 w1 := hE.out _ b1
  go_wp2_with fail
  refine (drawWO_any (w0 := w0) (w := w1) hc').mono ?_
  rintro e w2 ⟨dm, mm, u, M, k, ws, xv, X, Z, rfl, hM, hk1, hk2, hwl, hXl, ownZ, hZ, e2⟩
  have hn7 := hM.1
  have own2 : Own w2 B (Z ++ [boxRow 26 1 r [.slice none 0 0]]) := Own.join own1 ownZ (hB := hB1)
  have b2 : Below B w w2 := b1.trans (e2.below.mono hB1)
  have hB2 : B ≤ w2.heap.size := Nat.le_trans hB1 e2.size
  have own3 := own2.lit 26 1 1 #[.slice dm M.length mm] hB2 (by unfold maxLen; omega) rfl
  have b3 : Below B w (w2.alloc (.cells #[.slice dm M.length mm] 26)) := b2.alloc hB2 _
  have hB3 : B ≤ (w2.alloc (.cells #[.slice dm M.length mm] 26)).heap.size := by simp; omega
  obtain ⟨mb, hmb⟩ : ∃ r, r = w2.heap.size := ⟨_, rfl⟩
  clear own1 b1 hB1 ownZ e1
  go_upto_region 2 with fail
  rw [← hmb] at own3 ⊢
  replace hmb := hid hmb
  generalize w2.alloc (.cells #[.slice dm M.length mm] 26) = w3 at *
  clear own2 b2 hB2
  have own4 := CurAt.start (vc := .slice ac nb cc) own3 hB3
  have b4 : Below B w (w3.alloc (.cells #[.slice ac nb cc, .int .i64 0, .int .u64 0] 70)) := b3.alloc hB3 _
  obtain ⟨c, hcd⟩ : ∃ c, c = w3.heap.size := ⟨_, rfl⟩
  go_upto_region 3 with fail
  rw [← hcd] at own4 ⊢
  replace hcd := hid hcd
  generalize w3.alloc (.cells #[.slice ac nb cc, .int .i64 0, .int .u64 0] 70) = w4 at *
  clear own3 b3 hB3
  have e4 : Ext w0 w4 := hE.out _ b4
  go_wp2_with fail
  refine (pick_any (w0 := w0) hc own4 hwB (by omega) (by omega)).mono ?_
  rintro e w5 ⟨x5, a5, rfl, h50, h51, h52, h53, h54, own5, b5⟩
  have b5' := b4.trans b5
  clear own4 b4 b5 e4 h52
  go_upto_region 4 with fail
  have ownd := own5.ext (w' := w5.drew)
  have bd : Below B w w5.drew := b5'.drew
  have p0 : w5.drew.cell? ⟨mb, 0, none⟩ = some (.slice dm M.length mm) := (ownd.at (.head _) (j := 0) (by omega)).1
  clear own5 b5'
  refine wp_region_held_drew (S := fun w' => w'.cell? ⟨mb, 0, none⟩ = some (.slice dm M.length mm) ∧ True) (by kernel_rfl) ⟨p0, trivial⟩ (fun hHeld0 => ?_)
  generalize w5.drew = wd at *
  have ed : Ext w0 wd := hE.out _ bd
  refine wpAnyH_take (i := 0) (v := .agg #[.slice dm M.length mm]) rfl (by kernel_rfl) (by kernel_rfl) (by kernel_rfl) (fun _ _ _ h => h) (Or.inl ⟨by rfl, by intro wx hx; obtain ⟨_, _⟩ := hx; go_simp⟩) (by assumption) ?_
  try simp only [List.getElem_toArray, List.getElem_cons_zero, Act.put, List.setIfInBounds_toArray, List.set_cons_zero, List.set_cons_succ]
  refine wpAnyH_take (i := 1) (v := .int .i64 k) rfl (by kernel_rfl) (by kernel_rfl) (by kernel_rfl) (fun _ _ _ h => h) (Or.inl ⟨by rfl, by intro wx hx; go_simp⟩) (by assumption) ?_
  try simp only [List.getElem_toArray, List.getElem_cons_succ, List.getElem_cons_zero, Act.put, List.setIfInBounds_toArray, List.set_cons_zero, List.set_cons_succ]
  refine wpAnyH_take (i := 2) (v := u) rfl (by kernel_rfl) (by kernel_rfl) (by kernel_rfl) (fun _ _ _ h => h) (Or.inl ⟨by rfl, by intro wx hx; go_simp⟩) (by assumption) ?_
  try simp only [List.getElem_toArray, List.getElem_cons_succ, List.getElem_cons_zero, Act.put, List.setIfInBounds_toArray, List.set_cons_zero, List.set_cons_succ]
  refine wpAnyH_take (i := 3) (v := xv) rfl (by kernel_rfl) (by kernel_rfl) (by kernel_rfl) (fun _ _ _ h => h) (Or.inl ⟨by rfl, by intro wx hx; go_simp⟩) (by assumption) ?_
  try simp only [List.getElem_toArray, List.getElem_cons_succ, List.getElem_cons_zero, Act.put, List.setIfInBounds_toArray, List.set_cons_zero, List.set_cons_succ]
  refine wpAnyH_take (i := 4) (v := .pointer (some ⟨c, 0, none⟩)) rfl (by kernel_rfl) (by kernel_rfl) (by kernel_rfl) (fun _ _ _ h => h) (Or.inl ⟨by rfl, by intro wx hx; go_simp⟩) (by assumption) ?_
  try simp only [List.getElem_toArray, List.getElem_cons_succ, List.getElem_cons_zero, Act.put, List.setIfInBounds_toArray, List.set_cons_zero, List.set_cons_succ]
  refine wpAnyH_take (i := 5) (v := .agg #[.slice dm M.length mm]) rfl (by kernel_rfl) (by kernel_rfl) (by kernel_rfl) (fun _ _ _ h => h) (Or.inl ⟨by rfl, by intro wx hx; obtain ⟨_, _⟩ := hx; go_simp⟩) (by assumption) ?_
  try simp only [List.getElem_toArray, List.getElem_cons_succ, List.getElem_cons_zero, Act.put, List.setIfInBounds_toArray, List.set_cons_zero, List.set_cons_succ]
  refine wpAnyH_ready (rs := [6]) (by kernel_rfl) (by simp) ?_
  refine AllReadyH.cons rfl (fun K hK => ?_) AllReadyH.nil
  go_simp
  go_at_call 67
  refine (point7_any (w0 := w0) hc ownd hwB (by omega) (by omega) (d := dm) (n := M.length) (m := mm) (by omega)).mono ?_
  rintro e w9 ⟨x, a9, rfl, hx1, hx2, h91, h92, own9, b9⟩
  have b9' := bd.trans b9
  have p9 : w9.cell? ⟨mb, 0, none⟩ = some (.slice dm M.length mm) := (own9.at (.head _) (j := 0) (by omega)).1
  have hrm : boxRow 26 1 r [.slice none 0 0] ∈ boxRow 26 1 mb (#[.slice dm M.length mm] : Array Value).toList :: (Z ++ (boxRow 26 1 r [.slice none 0 0] :: [])) := by simp
  have r00 : w9.cell? ⟨r, 0, none⟩ = some (.slice none 0 0) := (own9.at hrm (j := 0) (by omega)).1
  have r01 := (own9.at hrm (j := 0) (by omega)).2
  clear ownd bd ed p0 b9
  go_wp2_with fail
  refine hK.out _ _ ⟨p9, trivial⟩ (fun _ => ?_)
  clear hK K
  try simp only [List.getElem_toArray, List.getElem_cons_succ, List.getElem_cons_zero, Act.put, List.setIfInBounds_toArray, List.set_cons_zero, List.set_cons_succ]
  have s1 := CurAt.set (A := boxRow 26 1 mb (#[.slice dm M.length mm] : Array Value).toList :: Z) (L := []) own9 0 (.slice dm M.length mm)
  have own10 := s1.1
  have b10 := b9'.setCell s1.2 (p := ⟨r, 0, none⟩) (.slice dm M.length mm)
  have t0 : (w9.setCell ⟨r, 0, none⟩ (.slice dm M.length mm)).cell? ⟨mb, 0, none⟩ = some (.slice dm M.length mm) := (own10.at (.head _) (j := 0) (by omega)).1
  have y0 : (w9.setCell ⟨r, 0, none⟩ (.slice dm M.length mm)).cell? ⟨r, 0, none⟩ = some (.slice dm M.length mm) := by go_simp
  clear s1
  refine wpAnyH_ready (rs := [7]) (by kernel_rfl) (by simp) ?_
  refine AllReadyH.cons rfl (fun K hK => ?_) AllReadyH.nil
  go_simp
  refine hK.out _ _ ⟨t0, trivial⟩ (fun _ => ?_)
  clear hK K
  try simp only [List.getElem_toArray, List.getElem_cons_succ, List.getElem_cons_zero, Act.put, List.setIfInBounds_toArray, List.set_cons_zero, List.set_cons_succ]
  generalize w9.setCell ⟨r, 0, none⟩ (.slice dm M.length mm) = w10 at *
  refine wpAnyH_take (i := 8) (v := .int .i64 k) rfl (by kernel_rfl) (by kernel_rfl) (by kernel_rfl) (fun _ _ _ h => h) (Or.inl ⟨by rfl, by intro wx hx; go_simp⟩) (by assumption) ?_
  try simp only [List.getElem_toArray, List.getElem_cons_succ, List.getElem_cons_zero, Act.put, List.setIfInBounds_toArray, List.set_cons_zero, List.set_cons_succ]
  refine wpAnyH_take (i := 9) (v := u) rfl (by kernel_rfl) (by kernel_rfl) (by kernel_rfl) (fun _ _ _ h => h) (Or.inl ⟨by rfl, by intro wx hx; go_simp⟩) (by assumption) ?_
  try simp only [List.getElem_toArray, List.getElem_cons_succ, List.getElem_cons_zero, Act.put, List.setIfInBounds_toArray, List.set_cons_zero, List.set_cons_succ]
  refine wpAnyH_take (i := 10) (v := xv) rfl (by kernel_rfl) (by kernel_rfl) (by kernel_rfl) (fun _ _ _ h => h) (Or.inl ⟨by rfl, by intro wx hx; go_simp⟩) (by assumption) ?_
  try simp only [List.getElem_toArray, List.getElem_cons_succ, List.getElem_cons_zero, Act.put, List.setIfInBounds_toArray, List.set_cons_zero, List.set_cons_succ]
  refine wpAnyH_take (i := 11) (v := .int .i64 x) rfl (by kernel_rfl) (by kernel_rfl) (by kernel_rfl) (fun _ _ _ h => h) (Or.inl ⟨by rfl, by intro wx hx; go_simp⟩) (by assumption) ?_
  try simp only [List.getElem_toArray, List.getElem_cons_succ, List.getElem_cons_zero, Act.put, List.setIfInBounds_toArray, List.set_cons_zero, List.set_cons_succ]
  refine wpAnyH_done (by kernel_rfl) ?_ _
  go_wp2_with fail
  refine bodyPost_ret (v := .tuple #[.agg #[.slice dm M.length mm], .int .i64 k, u, xv, .int .i64 x]) (by simp [results, Tryz.results47, go_sem, y0]) rfl ?_
  have hz := own10.rows.tail.left
  refine ⟨dm, mm, u, M, k, ws, xv, X, x, Z, rfl, hM, hk1, hk2, hwl, hXl, hx1, hx2, by rw [← hBd.out]; exact hz, hZ, ⟨?_⟩⟩
  rw [← hBd.out]
  exact b10
end Go.Proofs.YtmgcfnciejfpbaaGreat
