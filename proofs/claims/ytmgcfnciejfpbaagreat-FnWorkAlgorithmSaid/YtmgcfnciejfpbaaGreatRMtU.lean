/- Draws of work lists with a point or a configuration. -/
import Derived.Test.YtmgcfnciejfpbaaGreatRMtV
namespace Go.Proofs.YtmgcfnciejfpbaaGreat
open Go.RowKit

set_option maxHeartbeats 1600000 in
set_option maxRecDepth 100000 in
theorem point7_any {w0 w : World} [Ext w0 w] {vc : Value} {nb : Nat} (hc : IsBytes w0 vc nb) {B c : Nat} {a : Int} {R : List Row} (own : CurAt w B c vc a R) (hwB : w0.heap.size ≤ B) (ha : 0 ≤ a) (ha2 : a ≤ 2000000) {d : Option Addr} {n m : Nat} (hn : n ≤ 1000) :
    Calls Tryz.prog 67 #[.pointer (some ⟨c, 0, none⟩), .agg #[.slice d n m]] w fun e w' => ∃ x a' : Int, e = .returned (.int .i64 x) ∧ -1 ≤ x ∧ x ≤ 65535 ∧ a ≤ a' ∧ a' ≤ a + 10 ∧ CurAt w' B c vc a' R ∧ Below B w w' := by
  have hBw := own.size
  have hE : ∀ u, Below B w u → Ext w0 u := fun u h => ⟨(‹Ext w0 w›).below.trans (h.mono hwB)⟩
  replace hE := hid hE
  have own1 := own.box 26 1 #[.slice d n m] hBw rfl
  have b1 : Below B w (w.alloc (.cells #[.slice d n m] 26)) := (Below.refl B w).alloc hBw _
  go_enter Tryz.func67, Tryz.ntmps67
  go_upto_region 1 with fail
  obtain ⟨p, hp⟩ : ∃ r, r = w.heap.size := ⟨_, rfl⟩
  rw [← hp] at own1 ⊢
  replace hp := hid hp
  generalize w.alloc (.cells #[.slice d n m] 26) = w1 at *
  have e1 : Ext w0 w1 := hE.out _ b1
  clear own
  go_wp2_with fail
  refine (one_any (w0 := w0) hc own1 hwB (by omega) (by omega)).mono ?_
  rintro e w2 ⟨q, a2, rfl, h21, h22, own2, b2⟩
  have b2' := b1.trans b2
  have p2 := (own2.at (.head _) (j := 0) (by omega)).1
  have p2' : w2.cell? ⟨p, 0, none⟩ = some (.slice d n m) := p2
  clear own1 b1 b2 e1 p2
  have e2 : Ext w0 w2 := hE.out _ b2'
  cases q with
  | true =>
    have own3 := own2.lit (e := 3) (n := 3) (cs := #[.int .i64 (-1), .int .i64 n, .int .i64 6]) [-1, (n : Int), 6] own2.size rfl rfl (by simp)
    have b3 : Below B w (w2.alloc (.cells #[.int .i64 (-1), .int .i64 n, .int .i64 6] 3)) := b2'.alloc own2.size _
    have e3 : Ext w0 (w2.alloc (.cells #[.int .i64 (-1), .int .i64 n, .int .i64 6] 3)) := hE.out _ b3
    go_wp2_with fail
    refine (among_any (w0 := w0) hc own3 hwB (by omega) (by omega) (by simp) (by simp)).mono ?_
    rintro e w4 ⟨x, a4, rfl, hx, h41, h42, own4, b4⟩
    have hx' : -1 ≤ x ∧ x ≤ 1000 := by simp at hx; omega
    have b4' := b3.trans b4
    clear own2 own3 b3 b2' b4 e2 e3 p2'
    go_wp2_with fail
    go_ret
    exact ⟨x, a4, rfl, by omega, by omega, by omega, by omega, own4.drop.drop, b4'⟩
  | false =>
    go_wp2_with fail
    with_reducible refine (l1Most_any _ _ _).mono ?_
    rintro e w3 ⟨rfl, rfl⟩
    go_wp2_with fail
    refine (pick_any (w0 := w0) hc own2 hwB (by omega) (by omega)).mono ?_
    rintro e w4 ⟨x, a4, rfl, h40, h41, h42, h43, h44, own4, b4⟩
    have b4' := b2'.trans b4
    clear own2 b2' b4 e2 p2' h42
    go_wp2_with fail
    go_ret
    exact ⟨x, a4, rfl, by omega, by omega, by omega, by omega, own4.drop, b4'⟩
/-- a work list and a configuration -/
def WOPost (w : World) (e : Ending) (w' : World) : Prop :=
  ∃ d m u M k ws xv X Z, e = .returned (.tuple #[.agg #[.slice d (M : List (List Int)).length m], .int .i64 k, u, xv]) ∧ MOk M ∧ -1 ≤ k ∧ k ≤ 10 ∧ (ws : List Int).length ≤ 300 ∧ (X : List Int).length ≤ 20 ∧ Own w' w.heap.size Z ∧ Hid (∀ u' B', Own u' B' Z → IsMet u' (.agg #[.slice d M.length m]) M ∧ IsInts u' u ws ∧ IsInts u' xv X) ∧ Ext w w'
set_option maxHeartbeats 3200000 in
set_option maxRecDepth 100000 in
theorem drawWO_any {w0 w : World} [Ext w0 w] {vc : Value} {nb : Nat} (hc : IsBytes w0 vc nb) :
    Calls Tryz.prog 18 #[vc] w (WOPost w) := by
  obtain ⟨ac, cc, rfl⟩ := hc.form
  go_enter Tryz.func18, Tryz.ntmps18
  go_upto_region 2 with fail
  have hsz : w0.heap.size ≤ w.heap.size := (‹Ext w0 w›).size
  have own1 := CurAt.start (vc := .slice ac nb cc) (((Own.nil w w.heap.size).lit 26 1 1 #[.slice none 0 0] (Nat.le_refl _) (by unfold maxLen; omega) rfl)) (by simp)
  have e1 : Ext w ((w.alloc (.cells #[.slice none 0 0] 26)).alloc (.cells #[.slice ac nb cc, .int .i64 0, .int .u64 0] 70)) := inferInstance
  have hcs : (w.alloc (.cells #[.slice none 0 0] 26)).heap.size = w.heap.size + 1 := by simp
  rw [hcs] at own1
  obtain ⟨r, hr⟩ : ∃ r, r = w.heap.size := ⟨_, rfl⟩
  obtain ⟨c, hcd⟩ : ∃ c, c = w.heap.size + 1 := ⟨_, rfl⟩
  obtain ⟨B, hBd⟩ : ∃ B, B = w.heap.size := ⟨_, rfl⟩
  have own1' : CurAt ((w.alloc (.cells #[.slice none 0 0] 26)).alloc (.cells #[.slice ac nb cc, .int .i64 0, .int .u64 0] 70)) B c (.slice ac nb cc) 0 [boxRow 26 1 r [.slice none 0 0]] := by
    rw [hBd, hcd, hr]; exact own1
  have hwB : w0.heap.size ≤ B := by omega
  have b1 : Below B w ((w.alloc (.cells #[.slice none 0 0] 26)).alloc (.cells #[.slice ac nb cc, .int .i64 0, .int .u64 0] 70)) := by rw [hBd]; exact e1.below
  rw [← hcd, ← hr]
  generalize (w.alloc (.cells #[.slice none 0 0] 26)).alloc (.cells #[.slice ac nb cc, .int .i64 0, .int .u64 0] 70) = w1 at *
  replace hr := hid hr
  replace hcd := hid hcd
  replace hBd := hid hBd
  have hE : ∀ u, Below B w u → Ext w0 u := fun u h => ⟨(‹Ext w0 w›).below.trans (h.mono hwB)⟩
  replace hE := hid hE
  clear own1 e1 hcs
  have e1 : Ext w0 w1 := hE.out _ b1
  go_wp2_with fail
  refine (work_any (w0 := w0) hc own1' hwB (by omega) (by omega)).mono ?_
  rintro e w2 ⟨dm, mm, u, M, k, ws, Z, a2, rfl, hM, hk1, hk2, hwl, h1, h2, own2, hZ, b2⟩
  have b2' := b1.trans b2
  clear own1' b1 b2 e1
  have hn7 := hM.1
  replace hM := hid hM
  have own4 := own2.box 26 1 #[.slice dm M.length mm] own2.size rfl
  have b4' : Below B w (w2.alloc (.cells #[.slice dm M.length mm] 26)) := b2'.alloc own2.size _
  obtain ⟨mb, hmb⟩ : ∃ r, r = w2.heap.size := ⟨_, rfl⟩
  go_upto_region 3 with fail
  generalize w2.alloc (.cells #[.slice dm M.length mm] 26) = w4 at *
  rw [← hmb] at own4 ⊢
  replace hmb := hid hmb
  clear own2 b2'
  have ownd := own4.ext (w' := w4.drew)
  have bd : Below B w w4.drew := b4'.drew
  have p0 : w4.drew.cell? ⟨mb, 0, none⟩ = some (.slice dm M.length mm) := (ownd.at (.head _) (j := 0) (by omega)).1
  clear own4 b4'
  refine wp_region_held_drew (S := fun w' => w'.cell? ⟨mb, 0, none⟩ = some (.slice dm M.length mm) ∧ True) (by kernel_rfl) ⟨p0, trivial⟩ (fun hHeld0 => ?_)
  generalize w4.drew = wd at *
  have ed : Ext w0 wd := hE.out _ bd
  obtain ⟨l, hl⟩ : ∃ l, l = minB id k 3 := ⟨_, rfl⟩
  obtain ⟨q, hq⟩ : ∃ q : Nat, (q : Int) = max 0 l := ⟨(max 0 l).toNat, by omega⟩
  have hq3 : q ≤ 3 := by
    have : l ≤ 3 := by rw [hl, minB]; simp only [id]; split <;> omega
    omega
  have hlk := hid hl.symm
  have hlk2 := hid hq.symm
  clear hl hq
  refine wpAnyH_take (i := 0) (v := .agg #[.slice dm M.length mm]) rfl (by kernel_rfl) (by kernel_rfl) (by kernel_rfl) (fun _ _ _ h => h) (Or.inl ⟨by rfl, by intro wx hx; obtain ⟨_, _⟩ := hx; go_simp⟩) (by assumption) ?_
  try simp only [List.getElem_toArray, List.getElem_cons_zero, Act.put, List.setIfInBounds_toArray, List.set_cons_zero, List.set_cons_succ]
  refine wpAnyH_take (i := 1) (v := .int .i64 k) rfl (by kernel_rfl) (by kernel_rfl) (by kernel_rfl) (fun _ _ _ h => h) (Or.inl ⟨by rfl, by intro wx hx; go_simp⟩) (by assumption) ?_
  try simp only [List.getElem_toArray, List.getElem_cons_succ, List.getElem_cons_zero, Act.put, List.setIfInBounds_toArray, List.set_cons_zero, List.set_cons_succ]
  refine wpAnyH_take (i := 2) (v := u) rfl (by kernel_rfl) (by kernel_rfl) (by kernel_rfl) (fun _ _ _ h => h) (Or.inl ⟨by rfl, by intro wx hx; go_simp⟩) (by assumption) ?_
  try simp only [List.getElem_toArray, List.getElem_cons_succ, List.getElem_cons_zero, Act.put, List.setIfInBounds_toArray, List.set_cons_zero, List.set_cons_succ]
  refine wpAnyH_take (i := 3) (v := .pointer (some ⟨c, 0, none⟩)) rfl (by kernel_rfl) (by kernel_rfl) (by kernel_rfl) (fun _ _ _ h => h) (Or.inl ⟨by rfl, by intro wx hx; go_simp⟩) (by assumption) ?_
  try simp only [List.getElem_toArray, List.getElem_cons_succ, List.getElem_cons_zero, Act.put, List.setIfInBounds_toArray, List.set_cons_zero, List.set_cons_succ]
  refine wpAnyH_take (i := 4) (v := .pointer (some ⟨mb, 0, none⟩)) rfl (by kernel_rfl) (by kernel_rfl) (by kernel_rfl) (fun _ _ _ h => h) (Or.inl ⟨by rfl, by intro wx hx; go_simp⟩) (by assumption) ?_
  try simp only [List.getElem_toArray, List.getElem_cons_succ, List.getElem_cons_zero, Act.put, List.setIfInBounds_toArray, List.set_cons_zero, List.set_cons_succ]
  refine wpAnyH_take (i := 5) (v := .slice dm M.length mm) rfl (by kernel_rfl) (by kernel_rfl) (by kernel_rfl) (fun _ _ _ h => h) (Or.inl ⟨by rfl, by intro wx hx; obtain ⟨_, _⟩ := hx; go_simp⟩) (by assumption) ?_
  try simp only [List.getElem_toArray, List.getElem_cons_succ, List.getElem_cons_zero, Act.put, List.setIfInBounds_toArray, List.set_cons_zero, List.set_cons_succ]
  refine wpAnyH_take (i := 6) (v := .int .i64 M.length) rfl (by kernel_rfl) (by kernel_rfl) (by kernel_rfl) (fun _ _ _ h => h) (Or.inl ⟨by rfl, by intro wx hx; go_simp⟩) (by assumption) ?_
  try simp only [List.getElem_toArray, List.getElem_cons_succ, List.getElem_cons_zero, Act.put, List.setIfInBounds_toArray, List.set_cons_zero, List.set_cons_succ]
  refine wpAnyH_take (i := 8) (v := .int .i64 k) rfl (by kernel_rfl) (by kernel_rfl) (by kernel_rfl) (fun _ _ _ h => h) (Or.inl ⟨by rfl, by intro wx hx; go_simp⟩) (by assumption) ?_
  try simp only [List.getElem_toArray, List.getElem_cons_succ, List.getElem_cons_zero, Act.put, List.setIfInBounds_toArray, List.set_cons_zero, List.set_cons_succ]
  refine wpAnyH_ready (rs := [7]) (by kernel_rfl) (by simp) ?_
  refine AllReadyH.cons rfl (fun K hK => ?_) AllReadyH.nil
  go_simp
  go_at_call 76
  with_reducible refine (l1Most_any 1 M.length _).mono ?_
  rintro e w5 ⟨rfl, rfl⟩
  go_wp2_with fail
  refine hK.out _ _ ⟨p0, trivial⟩ (fun _ => ?_)
  clear hK K
  try simp only [List.getElem_toArray, List.getElem_cons_succ, List.getElem_cons_zero, Act.put, List.setIfInBounds_toArray, List.set_cons_zero, List.set_cons_succ]
  refine wpAnyH_ready (rs := [9]) (by kernel_rfl) (by simp) ?_
  refine AllReadyH.cons rfl (fun K hK => ?_) AllReadyH.nil
  go_simp
  go_at_call 77
  with_reducible refine (l1Least_any k 3 _).mono ?_
  rw [hlk.out]
  rintro e w5 ⟨rfl, rfl⟩
  go_wp2_with fail
  refine hK.out _ _ ⟨p0, trivial⟩ (fun _ => ?_)
  clear hK K
  try simp only [List.getElem_toArray, List.getElem_cons_succ, List.getElem_cons_zero, Act.put, List.setIfInBounds_toArray, List.set_cons_zero, List.set_cons_succ]
  refine wpAnyH_ready (rs := [10]) (by kernel_rfl) (by simp) ?_
  refine AllReadyH.cons rfl (fun K hK => ?_) AllReadyH.nil
  go_simp
  go_at_call 76
  with_reducible refine (l1Most_any 0 l _).mono ?_
  rw [hlk2.out]
  rintro e w5 ⟨rfl, rfl⟩
  go_wp2_with fail
  refine hK.out _ _ ⟨p0, trivial⟩ (fun _ => ?_)
  clear hK K
  try simp only [List.getElem_toArray, List.getElem_cons_succ, List.getElem_cons_zero, Act.put, List.setIfInBounds_toArray, List.set_cons_zero, List.set_cons_succ]
  refine wpAnyH_ready (rs := [11]) (by kernel_rfl) (by simp) ?_
  refine AllReadyH.cons rfl (fun K hK => ?_) AllReadyH.nil
  go_simp
  go_at_call 75
  refine (config_any (w0 := w0) hc ownd hwB (by omega) (by omega) (n := max 1 M.length) (k := q) (by omega) (by omega)).mono ?_
  rintro e w9 ⟨xv, X, a9, rfl, hXl, hXb, h91, h92, own9, b9⟩
  have b9' := bd.trans b9
  have p9 : w9.cell? ⟨mb, 0, none⟩ = some (.slice dm M.length mm) := (own9.at (.tail _ (.head _)) (j := 0) (by omega)).1
  have hrm : boxRow 26 1 r [.slice none 0 0] ∈ intRowOf 3 xv X :: boxRow 26 1 mb (#[.slice dm M.length mm] : Array Value).toList :: (Z ++ (boxRow 26 1 r [.slice none 0 0] :: [])) := by simp
  have r00 : w9.cell? ⟨r, 0, none⟩ = some (.slice none 0 0) := (own9.at hrm (j := 0) (by omega)).1
  have r01 := (own9.at hrm (j := 0) (by omega)).2
  clear ownd bd ed p0 b9
  go_wp2_with fail
  refine hK.out _ _ ⟨p9, trivial⟩ (fun _ => ?_)
  clear hK K
  try simp only [List.getElem_toArray, List.getElem_cons_succ, List.getElem_cons_zero, Act.put, List.setIfInBounds_toArray, List.set_cons_zero, List.set_cons_succ]
  have s1 := CurAt.set (A := intRowOf 3 xv X :: boxRow 26 1 mb (#[.slice dm M.length mm] : Array Value).toList :: Z) (L := []) own9 0 (.slice dm M.length mm)
  have own10 := s1.1
  have b10 := b9'.setCell s1.2 (p := ⟨r, 0, none⟩) (.slice dm M.length mm)
  have t0 : (w9.setCell ⟨r, 0, none⟩ (.slice dm M.length mm)).cell? ⟨mb, 0, none⟩ = some (.slice dm M.length mm) := (own10.at (.tail _ (.head _)) (j := 0) (by omega)).1
  have y0 : (w9.setCell ⟨r, 0, none⟩ (.slice dm M.length mm)).cell? ⟨r, 0, none⟩ = some (.slice dm M.length mm) := by go_simp
  clear s1
  refine wpAnyH_ready (rs := [12]) (by kernel_rfl) (by simp) ?_
  refine AllReadyH.cons rfl (fun K hK => ?_) AllReadyH.nil
  go_simp
  refine hK.out _ _ ⟨t0, trivial⟩ (fun _ => ?_)
  clear hK K
  try simp only [List.getElem_toArray, List.getElem_cons_succ, List.getElem_cons_zero, Act.put, List.setIfInBounds_toArray, List.set_cons_zero, List.set_cons_succ]
  generalize w9.setCell ⟨r, 0, none⟩ (.slice dm M.length mm) = w10 at *
  refine wpAnyH_take (i := 13) (v := .int .i64 k) rfl (by kernel_rfl) (by kernel_rfl) (by kernel_rfl) (fun _ _ _ h => h) (Or.inl ⟨by rfl, by intro wx hx; go_simp⟩) (by assumption) ?_
  try simp only [List.getElem_toArray, List.getElem_cons_succ, List.getElem_cons_zero, Act.put, List.setIfInBounds_toArray, List.set_cons_zero, List.set_cons_succ]
  refine wpAnyH_take (i := 14) (v := u) rfl (by kernel_rfl) (by kernel_rfl) (by kernel_rfl) (fun _ _ _ h => h) (Or.inl ⟨by rfl, by intro wx hx; go_simp⟩) (by assumption) ?_
  try simp only [List.getElem_toArray, List.getElem_cons_succ, List.getElem_cons_zero, Act.put, List.setIfInBounds_toArray, List.set_cons_zero, List.set_cons_succ]
  refine wpAnyH_take (i := 15) (v := xv) rfl (by kernel_rfl) (by kernel_rfl) (by kernel_rfl) (fun _ _ _ h => h) (Or.inl ⟨by rfl, by intro wx hx; go_simp⟩) (by assumption) ?_
  try simp only [List.getElem_toArray, List.getElem_cons_succ, List.getElem_cons_zero, Act.put, List.setIfInBounds_toArray, List.set_cons_zero, List.set_cons_succ]
  refine wpAnyH_done (by kernel_rfl) ?_ _
  go_wp2_with fail
  refine bodyPost_ret (v := .tuple #[.agg #[.slice dm M.length mm], .int .i64 k, u, xv]) (by simp [results, Tryz.results18, go_sem, y0]) rfl ?_
  have hz : Own w10 B (intRowOf 3 xv X :: Z) := own10.rows.sub ((List.Sublist.trans (List.sublist_append_left _ _) (List.sublist_cons_self _ _)).cons_cons _)
  refine ⟨dm, mm, u, M, k, ws, xv, X, intRowOf 3 xv X :: Z, rfl, hM.out, hk1, hk2, hwl, hXl, by rw [← hBd.out]; exact hz, hid (fun u' B' o => ⟨(hZ.out u' B' o.tail).1, (hZ.out u' B' o.tail).2, o.reads (by unfold Short; omega) (small_i64 hXb)⟩), ⟨?_⟩⟩
  rw [← hBd.out]
  exact b10
end Go.Proofs.YtmgcfnciejfpbaaGreat
