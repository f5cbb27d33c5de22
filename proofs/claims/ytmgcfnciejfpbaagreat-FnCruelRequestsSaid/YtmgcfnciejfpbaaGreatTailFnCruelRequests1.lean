/- Several texts in one: the last ones and the statement. -/
import Derived.Test.YtmgcfnciejfpbaaGreatTailFnCruelRequests0
import Derived.Test.YtmgcfnciejfpbaaGreatWks
import Derived.Test.YtmgcfnciejfpbaaGreatTakes
import Derived.Test.YtmgcfnciejfpbaaGreatSrt
import Derived.Test.YtmgcfnciejfpbaaGreatRep
import Derived.Test.YtmgcfnciejfpbaaGreatShelf
import Derived.StillTailTactics
import Derived.Test.YtmgcfnciejfpbaaGreatSrvB
import Derived.Test.YtmgcfnciejfpbaaGreatSrs
import Derived.Test.YtmgcfnciejfpbaaGreatOrd
import Derived.Test.YtmgcfnciejfpbaaGreatStep
/- Draws of a metric, a configuration and a sequence or a number. -/
namespace Go.Proofs.YtmgcfnciejfpbaaGreat
open Go.RowKit

/-- what such a draw gives: lists of its own that read as a metric and two lists -/
def DPost (w : World) (e : Ending) (w' : World) : Prop :=
  ∃ d m av rv M A X Z, e = .returned (.tuple #[.agg #[.slice d (M : List (List Int)).length m], av, rv]) ∧ MOk M ∧ (A : List Int).length ≤ 20 ∧ (X : List Int).length ≤ 100 ∧ Own w' w.heap.size Z ∧ Hid (∀ u B', Own u B' Z → IsMet u (.agg #[.slice d M.length m]) M ∧ IsInts u av A ∧ IsInts u rv X) ∧ Ext w w'

set_option maxHeartbeats 1600000 in
set_option maxRecDepth 100000 in
theorem drawWL_any {w0 w : World} [Ext w0 w] {vc : Value} {nb : Nat} (hc : IsBytes w0 vc nb) :
    Calls Tryz.prog 25 #[vc] w (DPost w) := by
  obtain ⟨ac, cc, rfl⟩ := hc.form
  go_enter Tryz.func25, Tryz.ntmps25
  go_upto_region 2 with fail
  have hsz : w0.heap.size ≤ w.heap.size := (‹Ext w0 w›).size
  have own1 := CurAt.start (vc := .slice ac nb cc) (((Own.nil w w.heap.size).lit 26 1 1 #[.slice none 0 0] (Nat.le_refl _) (by unfold maxLen; omega) rfl)) (by simp)
  have e1 : Ext w ((w.alloc (.cells #[.slice none 0 0] 26)).alloc (.cells #[.slice ac nb cc, .int .i64 0, .int .u64 0] 70)) := inferInstance
  have hcs : (w.alloc (.cells #[.slice none 0 0] 26)).heap.size = w.heap.size + 1 := by simp
  rw [hcs] at own1
  obtain ⟨r, hr⟩ : ∃ r, r = w.heap.size := ⟨_, rfl⟩
  obtain ⟨c, hcd⟩ : ∃ c, c = w.heap.size + 1 := ⟨_, rfl⟩
  obtain ⟨B, hBd⟩ : ∃ B, B = w.heap.size := ⟨_, rfl⟩
  have own1' : CurAt ((w.alloc (.cells #[.slice none 0 0] 26)).alloc (.cells #[.slice ac nb cc, .int .i64 0, .int .u64 0] 70)) B c (.slice ac nb cc) 0 [boxRow 26 1 r [.slice none 0 0]] := by
    rw [hBd, hcd, hr]; exact own1
  have hwB : w0.heap.size ≤ B := by omega
  have b1 : Below B w ((w.alloc (.cells #[.slice none 0 0] 26)).alloc (.cells #[.slice ac nb cc, .int .i64 0, .int .u64 0] 70)) := by rw [hBd]; exact e1.below
  rw [← hcd, ← hr]
  generalize (w.alloc (.cells #[.slice none 0 0] 26)).alloc (.cells #[.slice ac nb cc, .int .i64 0, .int .u64 0] 70) = w1 at *
  replace hr := hid hr
  replace hcd := hid hcd
  replace hBd := hid hBd
  have hE : ∀ u, Below B w u → Ext w0 u := fun u h => ⟨(‹Ext w0 w›).below.trans (h.mono hwB)⟩
  replace hE := hid hE
  clear own1 e1 hcs
  have e1 : Ext w0 w1 := hE.out _ b1
  go_wp2_with fail
  refine (server7_any (w0 := w0) hc own1' hwB (by omega) (by omega)).mono ?_
  rintro e w2 ⟨d, m, av, rv, M, A, X, Z, a2, rfl, hM, hAl, hXl, h1, h2, own2, hZ, b2⟩
  have b2' := b1.trans b2
  have r0 := own2.at (e := 26) (z := 1) (b := r) (cs := [.slice none 0 0]) (List.mem_append_right _ (.head _)) (j := 0) (by omega)
  have r00 : w2.cell? ⟨r, 0, none⟩ = some (.slice none 0 0) := r0.1
  have r01 := r0.2
  have hset := CurAt.set (A := Z) (L := []) own2 0 (.slice d M.length m)
  have y0 : (w2.setCell ⟨r, 0, none⟩ (.slice d M.length m)).cell? ⟨r, 0, none⟩ = some (.slice d M.length m) := by go_simp
  have hz := hset.1.rows.left
  have b3 := b2'.setCell hset.2 (p := ⟨r, 0, none⟩) (.slice d M.length m)
  clear r0 own1' own2 b1 b2 e1 hset
  go_wp2_with fail
  refine bodyPost_ret (v := .tuple #[.agg #[.slice d M.length m], av, rv]) (by simp [results, Tryz.results25, go_sem, y0]) rfl ?_
  refine ⟨d, m, av, rv, M, A, X, Z, rfl, hM, hAl, hXl, by rw [← hBd.out]; exact hz, hZ, ⟨?_⟩⟩
  rw [← hBd.out]
  exact b3

set_option maxHeartbeats 800000 in
set_option maxRecDepth 100000 in
theorem drawLW_any {w0 w : World} [Ext w0 w] {vc : Value} {nb : Nat} (hc : IsBytes w0 vc nb) :
    Calls Tryz.prog 44 #[vc] w (DPost w) := by
  have hc' := hc
  obtain ⟨ac, cc, rfl⟩ := hc.form
  go_enter Tryz.func44, Tryz.ntmps44
  go_upto_region 1 with fail
  have e1 : Ext w (w.alloc (.cells #[.slice none 0 0] 26)) := inferInstance
  have r0 : (w.alloc (.cells #[.slice none 0 0] 26)).cell? ⟨w.heap.size, 0, none⟩ = some (.slice none 0 0) := by go_simp
  have rf : (w.alloc (.cells #[.slice none 0 0] 26)).frozen? ⟨w.heap.size, 0, none⟩ = false := by go_simp
  have hsz : w.heap.size < (w.alloc (.cells #[.slice none 0 0] 26)).heap.size := by simp
  generalize w.alloc (.cells #[.slice none 0 0] 26) = w1 at *
  have e01 : Ext w0 w1 := Ext.trans ‹Ext w0 w› e1
  go_wp2_with fail
  refine (drawWL_any (w0 := w0) (w := w1) hc').mono ?_
  rintro e w2 ⟨d, m, av, rv, M, A, X, Z, rfl, hM, hAl, hXl, own2, hZ, e2⟩
  have r2 := e2.cell r0
  have rf2 := e2.frozen r0 rf
  have hs1 : w.heap.size < w1.heap.size := hsz
  have own3 := (own2.setBelow (p := ⟨w.heap.size, 0, none⟩) hs1 (.slice d M.length m)).mono (Nat.le_of_lt hs1)
  have y0 : (w2.setCell ⟨w.heap.size, 0, none⟩ (.slice d M.length m)).cell? ⟨w.heap.size, 0, none⟩ = some (.slice d M.length m) := by go_simp
  have e3 : Ext w (w2.setCell ⟨w.heap.size, 0, none⟩ (.slice d M.length m)) := ⟨(Ext.trans e1 e2).below.setCell (Nat.le_refl _) _⟩
  clear own2
  go_wp2_with fail
  refine bodyPost_ret (v := .tuple #[.agg #[.slice d M.length m], av, rv]) (by simp [results, Tryz.results44, go_sem, y0]) rfl ?_
  exact ⟨d, m, av, rv, M, A, X, Z, rfl, hM, hAl, hXl, own3, hZ, e3⟩

set_option maxHeartbeats 800000 in
set_option maxRecDepth 100000 in
theorem drawWR_any {w0 w : World} [Ext w0 w] {vc : Value} {nb : Nat} (hc : IsBytes w0 vc nb) :
    Calls Tryz.prog 50 #[vc] w (DPost w) := by
  have hc' := hc
  obtain ⟨ac, cc, rfl⟩ := hc.form
  go_enter Tryz.func50, Tryz.ntmps50
  go_upto_region 1 with fail
  have e1 : Ext w (w.alloc (.cells #[.slice none 0 0] 26)) := inferInstance
  have r0 : (w.alloc (.cells #[.slice none 0 0] 26)).cell? ⟨w.heap.size, 0, none⟩ = some (.slice none 0 0) := by go_simp
  have rf : (w.alloc (.cells #[.slice none 0 0] 26)).frozen? ⟨w.heap.size, 0, none⟩ = false := by go_simp
  have hsz : w.heap.size < (w.alloc (.cells #[.slice none 0 0] 26)).heap.size := by simp
  generalize w.alloc (.cells #[.slice none 0 0] 26) = w1 at *
  have e01 : Ext w0 w1 := Ext.trans ‹Ext w0 w› e1
  go_wp2_with fail
  refine (drawWL_any (w0 := w0) (w := w1) hc').mono ?_
  rintro e w2 ⟨d, m, av, rv, M, A, X, Z, rfl, hM, hAl, hXl, own2, hZ, e2⟩
  have r2 := e2.cell r0
  have rf2 := e2.frozen r0 rf
  have hs1 : w.heap.size < w1.heap.size := hsz
  have own3 := (own2.setBelow (p := ⟨w.heap.size, 0, none⟩) hs1 (.slice d M.length m)).mono (Nat.le_of_lt hs1)
  have y0 : (w2.setCell ⟨w.heap.size, 0, none⟩ (.slice d M.length m)).cell? ⟨w.heap.size, 0, none⟩ = some (.slice d M.length m) := by go_simp
  have e3 : Ext w (w2.setCell ⟨w.heap.size, 0, none⟩ (.slice d M.length m)) := ⟨(Ext.trans e1 e2).below.setCell (Nat.le_refl _) _⟩
  clear own2
  go_wp2_with fail
  refine bodyPost_ret (v := .tuple #[.agg #[.slice d M.length m], av, rv]) (by simp [results, Tryz.results50, go_sem, y0]) rfl ?_
  exact ⟨d, m, av, rv, M, A, X, Z, rfl, hM, hAl, hXl, own3, hZ, e3⟩


set_option maxHeartbeats 1600000 in
set_option maxRecDepth 100000 in
theorem length3_any {w0 w : World} [Ext w0 w] {vc : Value} {nb : Nat} (hc : IsBytes w0 vc nb) {B c : Nat} {a : Int} {R : List Row} (own : CurAt w B c vc a R) (hwB : w0.heap.size ≤ B) (ha : 0 ≤ a) (ha2 : a ≤ 2000000) :
    Calls Tryz.prog 90 #[.pointer (some ⟨c, 0, none⟩)] w fun e w' => ∃ x a' : Int, e = .returned (.int .i64 x) ∧ -1 ≤ x ∧ x ≤ 100 ∧ a ≤ a' ∧ a' ≤ a + 10 ∧ CurAt w' B c vc a' R ∧ Below B w w' := by
  have hBw := own.size
  have hE : ∀ u, Below B w u → Ext w0 u := fun u h => ⟨(‹Ext w0 w›).below.trans (h.mono hwB)⟩
  replace hE := hid hE
  have own2 := own.lit (e := 3) (n := 8) (cs := #[.int .i64 6, .int .i64 10, .int .i64 1, .int .i64 0, .int .i64 20, .int .i64 60, .int .i64 61, .int .i64 (-1)]) [6, 10, 1, 0, 20, 60, 61, -1] own.size rfl rfl (by decide)
  have b2 : Below B w (w.alloc (.cells #[.int .i64 6, .int .i64 10, .int .i64 1, .int .i64 0, .int .i64 20, .int .i64 60, .int .i64 61, .int .i64 (-1)] 3)) := (Below.refl B w).alloc hBw _
  have e2 := hE.out _ b2
  go_enter Tryz.func90, Tryz.ntmps90
  go_wp2_with fail
  refine (pick_any (w0 := w0) hc own2 hwB (by omega) (by omega)).mono ?_
  rintro e w3 ⟨x, a3, rfl, h30, h31, h32, h33, h34, own3, b3⟩
  have hx := h32 (by omega)
  have b3' := b2.trans b3
  have e3 := hE.out _ b3'
  obtain ⟨x, rfl⟩ := Int.eq_ofNat_of_zero_le h30
  obtain ⟨q, hq⟩ : ∃ q : Nat, ((x : Int) / 11) = q := ⟨x / 11, by omega⟩
  have hq2 : q ≤ 2 := by omega
  clear own own2 b2 e2 b3 h31 h32
  have hqt : (x : Int).tdiv 11 = (q : Int) := by rw [← hq]; exact Int.tdiv_eq_ediv_of_nonneg (by omega)
  have hlt : ((6 : Int) + q).toNat = 6 + q := by omega
  have hb1 : (0 : Int) ≤ 6 + (q : Int) := by omega
  have hb2 : (6 : Int) + (q : Int) ≤ 8 := by omega
  have hb3 : 6 + q ≤ 8 := by omega
  replace hq := hid hq
  go_wp2_with fail
  have own4 := own3.cutRow (k := 6 + q) (by simp; omega)
  have hlen : ((([6, 10, 1, 0, 20, 60, 61, -1] : List Int)).take (6 + q)).length = 6 + q := by rw [List.length_take]; simp; omega
  refine (among_any (w0 := w0) hc own4 hwB (by omega) (by omega) (by rw [hlen]; omega) (by rw [hlen]; omega)).mono ?_
  rintro e w8 ⟨z, a8, rfl, hz, h81, h82, own8, b8⟩
  have hzi : -1 ≤ z ∧ z ≤ 100 := by
    have := List.mem_of_mem_take hz
    simp at this
    omega
  have own9 := own8.drop
  go_wp2_with fail
  go_ret
  exact ⟨z, a8, rfl, hzi.1, hzi.2, by omega, by omega, own9, b3'.trans b8⟩

def CRPost (w : World) (e : Ending) (w' : World) : Prop :=
  ∃ d m av n M A Z, e = .returned (.tuple #[.agg #[.slice d (M : List (List Int)).length m], av, .int .i64 n]) ∧ MOk M ∧ (A : List Int).length ≤ 20 ∧ (-1 ≤ n ∧ n ≤ 100) ∧ Own w' w.heap.size Z ∧ Hid (∀ u B', Own u B' Z → IsMet u (.agg #[.slice d M.length m]) M ∧ IsInts u av A) ∧ Ext w w'
set_option maxHeartbeats 1600000 in
set_option maxRecDepth 100000 in
theorem drawCR_any {w0 w : World} [Ext w0 w] {vc : Value} {nb : Nat} (hc : IsBytes w0 vc nb) :
    Calls Tryz.prog 29 #[vc] w (CRPost w) := by
  obtain ⟨ac, cc, rfl⟩ := hc.form
  go_enter Tryz.func29, Tryz.ntmps29
  go_upto_region 2 with fail
  have hsz : w0.heap.size ≤ w.heap.size := (‹Ext w0 w›).size
  have own1 := CurAt.start (vc := .slice ac nb cc) (((Own.nil w w.heap.size).lit 26 1 1 #[.slice none 0 0] (Nat.le_refl _) (by unfold maxLen; omega) rfl)) (by simp)
  have e1 : Ext w ((w.alloc (.cells #[.slice none 0 0] 26)).alloc (.cells #[.slice ac nb cc, .int .i64 0, .int .u64 0] 70)) := inferInstance
  have hcs : (w.alloc (.cells #[.slice none 0 0] 26)).heap.size = w.heap.size + 1 := by simp
  rw [hcs] at own1
  obtain ⟨r, hr⟩ : ∃ r, r = w.heap.size := ⟨_, rfl⟩
  obtain ⟨c, hcd⟩ : ∃ c, c = w.heap.size + 1 := ⟨_, rfl⟩
  obtain ⟨B, hBd⟩ : ∃ B, B = w.heap.size := ⟨_, rfl⟩
  have own1' : CurAt ((w.alloc (.cells #[.slice none 0 0] 26)).alloc (.cells #[.slice ac nb cc, .int .i64 0, .int .u64 0] 70)) B c (.slice ac nb cc) 0 [boxRow 26 1 r [.slice none 0 0]] := by
    rw [hBd, hcd, hr]; exact own1
  have hwB : w0.heap.size ≤ B := by omega
  have b1 : Below B w ((w.alloc (.cells #[.slice none 0 0] 26)).alloc (.cells #[.slice ac nb cc, .int .i64 0, .int .u64 0] 70)) := by rw [hBd]; exact e1.below
  rw [← hcd, ← hr]
  generalize (w.alloc (.cells #[.slice none 0 0] 26)).alloc (.cells #[.slice ac nb cc, .int .i64 0, .int .u64 0] 70) = w1 at *
  replace hr := hid hr
  replace hcd := hid hcd
  replace hBd := hid hBd
  have hE : ∀ u, Below B w u → Ext w0 u := fun u h => ⟨(‹Ext w0 w›).below.trans (h.mono hwB)⟩
  replace hE := hid hE
  clear own1 e1 hcs
  have e1 : Ext w0 w1 := hE.out _ b1
  go_wp2_with fail
  refine (server7_any (w0 := w0) hc own1' hwB (by omega) (by omega)).mono ?_
  rintro e w2 ⟨d, m, av, rv, M, A, X, Z, a2, rfl, hM, hAl, hXl, h1, h2, own2, hZ, b2⟩
  have b2' := b1.trans b2
  have own4 := own2.box 26 1 #[.slice d M.length m] own2.size rfl
  have b4' : Below B w (w2.alloc (.cells #[.slice d M.length m] 26)) := b2'.alloc own2.size _
  obtain ⟨mb, hmb⟩ : ∃ r, r = w2.heap.size := ⟨_, rfl⟩
  go_upto_region 3 with fail
  generalize w2.alloc (.cells #[.slice d M.length m] 26) = w4 at *
  rw [← hmb] at own4 ⊢
  replace hmb := hid hmb
  clear own2 b2' own1' b1 b2 e1
  have ownd := own4.ext (w' := w4.drew)
  have bd : Below B w w4.drew := b4'.drew
  have p0 : w4.drew.cell? ⟨mb, 0, none⟩ = some (.slice d M.length m) := (ownd.at (.head _) (j := 0) (by omega)).1
  clear own4 b4'
  refine wp_region_held_drew (S := fun w' => w'.cell? ⟨mb, 0, none⟩ = some (.slice d M.length m) ∧ True) (by kernel_rfl) ⟨p0, trivial⟩ (fun hHeld0 => ?_)
  generalize w4.drew = wd at *
  have ed : Ext w0 wd := hE.out _ bd
  refine wpAnyH_take (i := 0) (v := .agg #[.slice d M.length m]) rfl (by kernel_rfl) (by kernel_rfl) (by kernel_rfl) (fun _ _ _ h => h) (Or.inl ⟨by rfl, by intro wx hx; obtain ⟨_, _⟩ := hx; go_simp⟩) (by assumption) ?_
  try simp only [List.getElem_toArray, List.getElem_cons_zero, Act.put, List.setIfInBounds_toArray, List.set_cons_zero, List.set_cons_succ]
  refine wpAnyH_take (i := 1) (v := av) rfl (by kernel_rfl) (by kernel_rfl) (by kernel_rfl) (fun _ _ _ h => h) (Or.inl ⟨by rfl, by intro wx hx; go_simp⟩) (by assumption) ?_
  try simp only [List.getElem_toArray, List.getElem_cons_succ, List.getElem_cons_zero, Act.put, List.setIfInBounds_toArray, List.set_cons_zero, List.set_cons_succ]
  refine wpAnyH_take (i := 2) (v := .pointer (some ⟨c, 0, none⟩)) rfl (by kernel_rfl) (by kernel_rfl) (by kernel_rfl) (fun _ _ _ h => h) (Or.inl ⟨by rfl, by intro wx hx; go_simp⟩) (by assumption) ?_
  try simp only [List.getElem_toArray, List.getElem_cons_succ, List.getElem_cons_zero, Act.put, List.setIfInBounds_toArray, List.set_cons_zero, List.set_cons_succ]
  refine wpAnyH_ready (rs := [3]) (by kernel_rfl) (by simp) ?_
  refine AllReadyH.cons rfl (fun K hK => ?_) AllReadyH.nil
  go_simp
  go_at_call 90
  refine (length3_any (w0 := w0) hc ownd hwB (by omega) (by omega)).mono ?_
  rintro e w9 ⟨n, a9, rfl, hn1, hn2, h91, h92, own9, b9⟩
  have b9' := bd.trans b9
  have p9 : w9.cell? ⟨mb, 0, none⟩ = some (.slice d M.length m) := (own9.at (.head _) (j := 0) (by omega)).1
  have hrm : boxRow 26 1 r [.slice none 0 0] ∈ boxRow 26 1 mb (#[.slice d M.length m] : Array Value).toList :: (Z ++ [boxRow 26 1 r [.slice none 0 0]]) := by simp
  have r00 : w9.cell? ⟨r, 0, none⟩ = some (.slice none 0 0) := (own9.at hrm (j := 0) (by omega)).1
  have r01 := (own9.at hrm (j := 0) (by omega)).2
  clear ownd bd ed p0 b9
  go_wp2_with fail
  refine hK.out _ _ ⟨p9, trivial⟩ (fun _ => ?_)
  clear hK K
  try simp only [List.getElem_toArray, List.getElem_cons_succ, List.getElem_cons_zero, Act.put, List.setIfInBounds_toArray, List.set_cons_zero, List.set_cons_succ]
  have s1 := CurAt.set (A := boxRow 26 1 mb (#[.slice d M.length m] : Array Value).toList :: Z) (L := []) own9 0 (.slice d M.length m)
  have own10 := s1.1
  have b10 := b9'.setCell s1.2 (p := ⟨r, 0, none⟩) (.slice d M.length m)
  have t0 : (w9.setCell ⟨r, 0, none⟩ (.slice d M.length m)).cell? ⟨mb, 0, none⟩ = some (.slice d M.length m) := (own10.at (.head _) (j := 0) (by omega)).1
  have y0 : (w9.setCell ⟨r, 0, none⟩ (.slice d M.length m)).cell? ⟨r, 0, none⟩ = some (.slice d M.length m) := by go_simp
  clear s1
  refine wpAnyH_ready (rs := [4]) (by kernel_rfl) (by simp) ?_
  refine AllReadyH.cons rfl (fun K hK => ?_) AllReadyH.nil
  go_simp
  refine hK.out _ _ ⟨t0, trivial⟩ (fun _ => ?_)
  clear hK K
  try simp only [List.getElem_toArray, List.getElem_cons_succ, List.getElem_cons_zero, Act.put, List.setIfInBounds_toArray, List.set_cons_zero, List.set_cons_succ]
  generalize w9.setCell ⟨r, 0, none⟩ (.slice d M.length m) = w10 at *
  refine wpAnyH_take (i := 5) (v := av) rfl (by kernel_rfl) (by kernel_rfl) (by kernel_rfl) (fun _ _ _ h => h) (Or.inl ⟨by rfl, by intro wx hx; go_simp⟩) (by assumption) ?_
  try simp only [List.getElem_toArray, List.getElem_cons_succ, List.getElem_cons_zero, Act.put, List.setIfInBounds_toArray, List.set_cons_zero, List.set_cons_succ]
  refine wpAnyH_take (i := 6) (v := .int .i64 n) rfl (by kernel_rfl) (by kernel_rfl) (by kernel_rfl) (fun _ _ _ h => h) (Or.inl ⟨by rfl, by intro wx hx; go_simp⟩) (by assumption) ?_
  try simp only [List.getElem_toArray, List.getElem_cons_succ, List.getElem_cons_zero, Act.put, List.setIfInBounds_toArray, List.set_cons_zero, List.set_cons_succ]
  refine wpAnyH_done (by kernel_rfl) ?_ _
  go_wp2_with fail
  refine bodyPost_ret (v := .tuple #[.agg #[.slice d M.length m], av, .int .i64 n]) (by simp [results, Tryz.results29, go_sem, y0]) rfl ?_
  refine ⟨d, m, av, n, M, A, Z, rfl, hM, hAl, ⟨hn1, hn2⟩, ?_, hid (fun u B' h => ⟨(hZ.out u B' h).1, (hZ.out u B' h).2.1⟩), ⟨?_⟩⟩
  · rw [← hBd.out]; exact own10.rows.tail.left
  · rw [← hBd.out]; exact b10
end Go.Proofs.YtmgcfnciejfpbaaGreat

/- Whether a list is a work list: the program's test. -/
namespace Go.Proofs.YtmgcfnciejfpbaaGreat
open Go.RowKit

def lipB (M P : List (List Int)) (ws : List Int) : Bool := decide (∀ i, i < ws.length → ∀ j, j < ws.length → nth ws i - nth ws j ≤ mvC M (row P i) (row P j))
def workB (M P : List (List Int)) (ws : List Int) : Bool := decide (ws.length = P.length) && (belowB 100000 ws && lipB M P ws)
theorem lipB_not {M P : List (List Int)} {ws : List Int} {i j : Nat} (hi : i < ws.length) (hj : j < ws.length) (h : mvC M (row P i) (row P j) < nth ws i - nth ws j) : lipB M P ws = false := by
  rw [lipB, decide_eq_false_iff_not]
  intro h'
  have := h' i hi j hj
  omega
theorem lipB_of {M P : List (List Int)} {ws : List Int} (h : ∀ i, i < ws.length → ∀ j, j < ws.length → nth ws i - nth ws j ≤ mvC M (row P i) (row P j)) : lipB M P ws = true := decide_eq_true h
theorem cosL_at {M P : List (List Int)} {i j : Nat} (hi : i < P.length) (hj : j < P.length) : (row (cosL M P) i).length = P.length ∧ nth (row (cosL M P) i) j = mvC M (row P i) (row P j) := by
  have e : row (cosL M P) i = P.map fun b => mvC M (row P i) b := by simp [row, cosL, hi]
  rw [e]
  refine ⟨by simp, ?_⟩
  simp [nth, row, hj]

set_option maxHeartbeats 1600000 in
set_option maxRecDepth 100000 in
theorem isWork_any {v vw : Value} {M P : List (List Int)} {ws : List Int} {w0 w : World} [Ext w0 w] (hW : IsWorks w0 v M P) (hw : IsInts w0 vw ws) (hl : P.length ≤ 1000) (hmv : ∀ i j, i < P.length → j < P.length → 0 ≤ mvC M (row P i) (row P j) ∧ mvC M (row P i) (row P j) ≤ 1000) :
    Calls Tryz.prog 63 #[v, vw] w fun e w' => e = .returned (.bool (workB M P ws)) ∧ Ext w w' := by
  obtain ⟨b, mv, pv, cv, rfl, h0, h1, h2, hM, hP, hC⟩ := hW
  have x1 := (‹Ext w0 w›).cell h1
  have hw' := hw
  obtain ⟨dw, mw, rfl, lw⟩ := hw.form
  obtain ⟨aP, cP, rfl, lP⟩ := hP.form
  have hCf := hC
  obtain ⟨aC, cC, rfl, lC⟩ := hC.form
  replace hmv := hid hmv
  have hcl := hid (show (cosL M P).length = P.length by simp [cosL])
  by_cases hlen : ws.length = P.length
  · have hn1 : ((ws.length : Int) != (P.length : Int)) = false := by rw [hlen]; simp
    cases hbl : belowB 100000 ws with
    | false =>
      have hr := hid (show workB M P ws = false by simp [workB, hbl])
      replace hbl := hid hbl
      replace hlen := hid hlen
      go_enter Tryz.func63, Tryz.ntmps63
      go_wp2_with fail
      with_reducible refine (areBelow_any (w0 := w0) hw' (by omega) (by omega)).mono ?_
      rw [hbl.out]
      rintro e w1 ⟨rfl, e1⟩
      go_wp2_with fail
      go_ret
      exact ⟨ret_bool hr.out.symm, e1⟩
    | true =>
      have hbel := hid (fun k hk => belowB_at hbl (k := k) hk)
      replace hbl := hid hbl
      replace hlen := hid hlen
      go_enter Tryz.func63, Tryz.ntmps63
      go_wp2_with fail
      with_reducible refine (areBelow_any (w0 := w0) hw' (by omega) (by omega)).mono ?_
      rw [hbl.out]
      rintro e w1 ⟨rfl, e1⟩
      have e01 : Ext w0 w1 := Ext.trans ‹Ext w0 w› e1
      have y2 := e01.cell h2
      go_wp2_with fail
      go_loop [24] (fun i => ∃ p : Nat, p ≤ ws.length ∧ i = .int .i64 p ∧ Hid (∀ i, i < p → ∀ j, j < ws.length → nth ws i - nth ws j ≤ mvC M (row P i) (row P j))) (fun i => ws.length - (intOf i).toNat)
      case atStart => exact ⟨0, by omega, rfl, fun i hi => by omega⟩
      case round =>
        obtain ⟨p, hp, rfl, hno⟩ := hrel
        by_cases hlt : p < ws.length
        · obtain ⟨bw, ow, hdw, hcw⟩ := hw'.at (w' := w1) hlt
          cases hdw
          have hpP : p < P.length := by rw [← hlen.out]; exact hlt
          obtain ⟨bc, oc, dr, mr, hdC, hcr, hir, hlr⟩ := hCf.at (w' := w1) (k := p) (by rw [hcl.out]; exact hpP)
          cases hdC
          have hcl2 : p < (cosL M P).length := by rw [hcl.out]; exact hpP
          go_wp2_with fail
          go_loop [31] (fun i => ∃ q : Nat, q ≤ ws.length ∧ i = .int .i64 q ∧ Hid (∀ j, j < q → nth ws p - nth ws j ≤ mvC M (row P p) (row P j))) (fun i => ws.length - (intOf i).toNat)
          case atStart => exact ⟨0, by omega, rfl, fun i hi => by omega⟩
          case round =>
            obtain ⟨q, hq, rfl, hno2⟩ := hrel
            by_cases hltq : q < ws.length
            · obtain ⟨bw2, ow2, hdw2, hcw2⟩ := hw'.at (w' := w1) hltq
              cases hdw2
              have hqP : q < P.length := by rw [← hlen.out]; exact hltq
              obtain ⟨hrl, hrn⟩ := cosL_at (M := M) hpP hqP
              obtain ⟨br, orr, hdr, hcc⟩ := hir.at (w' := w1) (k := q) (by rw [hrl]; exact hqP)
              cases hdr
              have hqr : q < (row (cosL M P) p).length := by rw [hrl]; exact hqP
              have hb1 := hbel.out p hlt
              have hb2 := hbel.out q hltq
              have hb3 := hmv.out p q hpP hqP
              rw [hrn] at hcc
              replace hrn := hid hrn
              replace hrl := hid hrl
              by_cases hg : mvC M (row P p) (row P q) < nth ws p - nth ws q
              · have hr := hid (show workB M P ws = false by simp [workB, lipB_not hlt hltq hg])
                go_wp2_with fail
                go_ret
                exact ⟨ret_bool hr.out.symm, e1⟩
              · have hno3 := hid (show ∀ j, j < q + 1 → nth ws p - nth ws j ≤ mvC M (row P p) (row P j) from fun j hj => by
                  by_cases e : j = q
                  · rw [e]; omega
                  · exact hno2.out j (by omega))
                go_wp2_with fail
                go_round
                case rel => exact ⟨q + 1, by omega, by go_num, hno3.out⟩
                case measure => simp [intOf]; omega
            · have hno3 := hid (show ∀ i, i < p + 1 → ∀ j, j < ws.length → nth ws i - nth ws j ≤ mvC M (row P i) (row P j) from fun i hi j hj => by
                by_cases e : i = p
                · rw [e]; exact hno2.out j (by omega)
                · exact hno.out i (by omega) j hj)
              go_wp2_with fail
              go_round
              case rel => exact ⟨p + 1, by omega, by go_num, hno3.out⟩
              case measure => simp [intOf]; omega
        · have hr := hid (show workB M P ws = true by
            rw [workB, decide_eq_true hlen.out, hbl.out, lipB_of fun i hi j hj => hno.out i (by omega) j hj]; rfl)
          go_wp2_with fail
          go_ret
          exact ⟨ret_bool hr.out.symm, e1⟩
  · have hn1 : ((ws.length : Int) != (P.length : Int)) = true := by simp; omega
    have hr := hid (show workB M P ws = false by simp [workB, hlen])
    replace hlen := hid hlen
    go_enter Tryz.func63, Tryz.ntmps63
    go_wp2_with fail
    go_ret
    exact ⟨ret_bool hr.out.symm, Ext.refl _⟩
end Go.Proofs.YtmgcfnciejfpbaaGreat

/- The plain law of the next work list: the program's least sum over the configurations with a point is the reference's over one point moved. -/
namespace Go.Proofs.YtmgcfnciejfpbaaGreat
open Go.RowKit

--PURE
/-- a configuration with the s-th point moved to r, and its sum -/
def swC (P : List (List Int)) (r : Int) (i s : Nat) : List Int := sortL ((row P i).set s r)
def swS (M P : List (List Int)) (ws : List Int) (r : Int) (i s : Nat) : Int := nth ws (atR P (swC P r i s)) + cell M (nth (row P i) s).toNat r.toNat
def viS (M P : List (List Int)) (ws : List Int) (i j : Nat) : Int := nth ws j + mvC M (row P j) (row P i)
def LipW (M P : List (List Int)) (ws : List Int) : Prop := ws.length = P.length ∧ ∀ i j, i < P.length → j < P.length → nth ws i - nth ws j ≤ mvC M (row P i) (row P j)
theorem row_conf {n k i : Nat} (hi : i < (confs n k 0).length) : (row (confs n k 0) i).length = k ∧ Pts n (row (confs n k 0) i) ∧ Asc (row (confs n k 0) i) := by
  obtain ⟨h1, h2, h3⟩ := confs_iff.1 (row_mem hi)
  exact ⟨h1, fun x hx => by have := h3 x hx; omega, h2⟩
theorem sw_conf {n k i s : Nat} {r : Int} (hi : i < (confs n k 0).length) (hs : s < k) (hr : 0 ≤ r ∧ r < (n : Int)) : swC (confs n k 0) r i s ∈ confs n k 0 ∧ r ∈ swC (confs n k 0) r i s := by
  obtain ⟨h1, h2, h3⟩ := row_conf hi
  refine ⟨confs_iff.2 ⟨by rw [swC, sortL_len, List.length_set, h1], sortL_asc _, fun x hx => ?_⟩, ?_⟩
  · have h4 := (sortL_perm _).mem_iff.1 hx
    have := h2.set (s := s) hr x h4
    omega
  · refine (sortL_perm _).mem_iff.2 ?_
    rw [List.mem_iff_getElem]
    exact ⟨s, by rw [List.length_set, h1]; exact hs, by simp⟩
/-- each moved point is a way over a configuration with it -/
theorem sw_via {M : List (List Int)} {n k i s : Nat} {r : Int} {ws : List Int} (hd : Dst M n) (hk : k ≤ 3) (hi : i < (confs n k 0).length) (hs : s < k) (hr : 0 ≤ r ∧ r < (n : Int)) :
    ∃ j, j < (confs n k 0).length ∧ r ∈ row (confs n k 0) j ∧ viS M (confs n k 0) ws i j ≤ swS M (confs n k 0) ws r i s := by
  obtain ⟨h1, h2, h3⟩ := row_conf hi
  obtain ⟨hm, hrm⟩ := sw_conf hi hs hr
  obtain ⟨hlt, hrow⟩ := atR_lt hm
  refine ⟨_, hlt, by rw [hrow]; exact hrm, ?_⟩
  have hset := mvC_set hd (s := s) (r := r) h2 hr (by omega) (by omega)
  have hp := mvC_permR hd (sortL_perm ((row (confs n k 0) i).set s r)).symm h2 (h2.set hr) (by simp) (by omega)
  have hpts : Pts n (swC (confs n k 0) r i s) := (h2.set hr).perm (sortL_perm _)
  have hsy := mvC_symm hd h2 hpts (by rw [swC, sortL_len, List.length_set]) (by omega)
  unfold viS swS
  rw [hrow]
  unfold swC at *
  omega
/-- and each way is no less than a moved point -/
theorem via_sw {M : List (List Int)} {n k i j : Nat} {r : Int} {ws : List Int} (hd : Dst M n) (hk : k ≤ 3) (hw : LipW M (confs n k 0) ws) (hi : i < (confs n k 0).length) (hj : j < (confs n k 0).length) (hr : r ∈ row (confs n k 0) j) :
    ∃ s, s < k ∧ swS M (confs n k 0) ws r i s ≤ viS M (confs n k 0) ws i j := by
  obtain ⟨h1, h2, h3⟩ := row_conf hi
  obtain ⟨g1, g2, g3⟩ := row_conf hj
  have hrr := g2 r hr
  obtain ⟨s, hs, hle⟩ := mvC_via hd h2 g2 (by rw [h1, g1]) (by omega) hr
  rw [h1] at hs
  obtain ⟨hm, hrm⟩ := sw_conf hi hs hrr
  obtain ⟨hlt, hrow⟩ := atR_lt hm
  have hlip := hw.2 _ j hlt hj
  rw [hrow] at hlip
  have hp := mvC_permL hd (sortL_perm ((row (confs n k 0) i).set s r)).symm (h2.set hrr) g2 (by simp; omega) (by simp; omega)
  have hsy := mvC_symm hd h2 g2 (by rw [h1, g1]) (by omega)
  refine ⟨s, hs, ?_⟩
  unfold viS swS
  unfold swC at *
  omega
/-- a value that is the least of the ways is at least the old one, and not much more -/
theorem via_ge {M : List (List Int)} {n k i j : Nat} {ws : List Int} (hd : Dst M n) (hk : k ≤ 3) (hw : LipW M (confs n k 0) ws) (hi : i < (confs n k 0).length) (hj : j < (confs n k 0).length) : nth ws i ≤ viS M (confs n k 0) ws i j := by
  obtain ⟨h1, h2, h3⟩ := row_conf hi
  obtain ⟨g1, g2, g3⟩ := row_conf hj
  have := hw.2 i j hi hj
  have hsy := mvC_symm hd h2 g2 (by rw [h1, g1]) (by omega)
  unfold viS
  omega
theorem via_lip {M : List (List Int)} {n k i q j : Nat} {ws : List Int} (hd : Dst M n) (hk : k ≤ 3) (hi : i < (confs n k 0).length) (hq : q < (confs n k 0).length) (hj : j < (confs n k 0).length) : viS M (confs n k 0) ws i j ≤ viS M (confs n k 0) ws q j + mvC M (row (confs n k 0) q) (row (confs n k 0) i) := by
  obtain ⟨h1, h2, h3⟩ := row_conf hi
  obtain ⟨g1, g2, g3⟩ := row_conf hj
  obtain ⟨f1, f2, f3⟩ := row_conf hq
  have := mvC_tri hd g2 f2 h2 (by rw [g1, f1]) (by rw [f1, h1]) (by omega)
  unfold viS
  omega
end Go.Proofs.YtmgcfnciejfpbaaGreat

/- slices.Repeat of one int, up to a thousand times. -/
namespace Go.Proofs.YtmgcfnciejfpbaaGreat
open Go.RowKit

theorem mulN_any {n : Nat} (h : n ≤ 1000) (w : World) :
    Calls Tryz.prog 158 #[.int .u64 1, .int .u64 n] w fun e w' => e = .returned (.tuple #[.int .u64 0, .int .u64 n]) ∧ w = w' := by
  refine (Tryz.bits_Mul 1 n (by decide) (by omega) w).mono ?_
  rintro e w' ⟨h1, h2⟩
  refine ⟨?_, h2.symm⟩
  rw [h1, Nat.one_mul, Nat.div_eq_of_lt (by omega), Nat.mod_eq_of_lt (by omega)]
  rfl
theorem repN_own {w : World} {B g n : Nat} {c : Int} {t : TypeId} (h : w.heap[g]? = some (.cells (repL c n n).toArray t (0, 0))) (hB : B ≤ g) (hn : n ≤ 1000) : Own w B [intRowOf t (.slice (some ⟨g, 0, none⟩) (List.replicate n c).length n) (List.replicate n c)] := by
  refine ⟨fun r hr => ?_, List.pairwise_singleton _ _⟩
  rw [List.mem_singleton.1 hr]
  have e : repL c n n = (List.replicate n c).map (Value.int .i64) := by simp [repL]
  refine ⟨by simp, .inr ⟨g, n, (repL c n n).toArray, rfl, hB, h, by simp, by unfold maxLen; omega, by simp [repL_length], by simp [e]⟩⟩

set_option maxHeartbeats 800000 in
set_option maxRecDepth 100000 in
theorem sRepeatN_any {v : Value} {c : Int} {n : Nat} {w0 w : World} [Ext w0 w] (hx : IsInts w0 v [c]) (h1 : 1 ≤ n) (h4 : n ≤ 1000) :
    Calls Tryz.prog 127 #[v, .int .i64 n] w fun e w' => ∃ d m, e = .returned (.slice d (List.replicate n c).length m) ∧ Own w' w.heap.size [intRowOf 3 (.slice d (List.replicate n c).length m) (List.replicate n c)] ∧ Ext w w' := by
  obtain ⟨a, cc, rfl, _⟩ := hx.form
  obtain ⟨b, o, rfl, hc⟩ := hx.at (w' := w) (k := 0) (by simp)
  rw [Nat.add_zero] at hc
  have hl1 : ([c] : List Int).length = 1 := rfl
  rw [hl1]
  have hmk := hid (rep_make w c n 3)
  have hsz := hid (show (Tryz.prog.info? 3).map (·.size) = some 1 by kernel_rfl)
  have hc' : w.cell? ⟨b, o, none⟩ = some (.int .i64 c) := hc
  clear hc
  go_enter Tryz.func127, Tryz.ntmps127
  go_wp2_with fail
  refine (mulN_any h4 _).mono ?_
  rintro e w1 ⟨rfl, rfl⟩
  go_upto_region 7 with (at_make; refine wpList_makeOwn rfl _ _ _ rfl elemInt n rfl rfl (by omega) (by omega) rfl ?_; intro hown)
  have eM : Ext w (w.alloc (.cells (Array.replicate n (.int .i64 0)) 3)) := inferInstance
  have hcM := eM.cell hc'
  have hblt : b < w.heap.size := World.block_lt_of_cell? w _ hc'
  have hgs : (w.alloc (.cells (Array.replicate n (.int .i64 0)) 3)).heap.size = w.heap.size + 1 := by simp
  generalize w.alloc (.cells (Array.replicate n (.int .i64 0)) 3) = wM at *
  clear hown
  have hs1 := hid (show ∀ j v, ([.int .i64 c] : List Value)[j]? = some v → wM.cell? ((⟨b, o, none⟩ : Addr).add j) = some v by
    intro j v hj
    match j, hj with
    | 0, hj => simp at hj; subst hj; simpa [Addr.add] using hcM)
  have hbM : Below w.heap.size w wM := eM.below
  have hn1 := hid (show ([.int .i64 c] : List Value).length = Nat.min 1 n from (Nat.min_eq_left h1).symm)
  have hpos := hid (show 0 < ([.int .i64 c] : List Value).length → (some ⟨w.heap.size, 0, none⟩ : Option Addr) = some ⟨w.heap.size, 0, none⟩ ∧ ∃ ad, (some ⟨b, o, none⟩ : Option Addr) = some ad ∧ ∀ j v, ([.int .i64 c] : List Value)[j]? = some v → wM.cell? (ad.add j) = some v from fun _ => ⟨rfl, _, rfl, hs1.out⟩)
  have hfit := hid (show 0 + ([.int .i64 c] : List Value).length ≤ (repL c n 0).length by rw [repL_length (Nat.zero_le _)]; exact h1)
  have hone := hid (show ∀ v ∈ ([.int .i64 c] : List Value), v.oneCell' = true by intro v hv; simp at hv; subst hv; rfl)
  go_upto_region 8 with (with_reducible refine wpList_copy_splice rfl (.tmp 31) (.tmp 32) 27 27 rfl 3 Tryz.underlying27 hsz.out _ _ _ _ _ _ rfl rfl w.heap.size 0 (repL c n 0) 3 hmk.out [.int .i64 c] hn1.out hpos.out hfit.out hone.out w.heap.size w hbM (Nat.le_refl _) ?_; intro w2 hg2 hb2)
  rw [show (splice (repL c n 0) 0 [Value.int .i64 c]) = repL c n 1 from rep_splice (m := 1) (by omega)] at hg2
  go_loopw [8] (fun q wr => ∃ k : Nat, 1 ≤ k ∧ k ≤ n ∧ q = .int .i64 k ∧ Hid (wr.heap[w.heap.size]? = some (.cells (repL c n k).toArray 3 (0, 0))) ∧ Below w.heap.size w wr) (fun q _ => n - (intOf q).toNat)
  case atStart => exact ⟨1, by omega, by omega, rfl, hg2, hb2⟩
  case round =>
    obtain ⟨k, hk1, hkn, rfl, hg, hb⟩ := hrel
    by_cases hlt : k < n
    · obtain ⟨m, hm⟩ : ∃ m, m = Nat.min k (n - k) := ⟨_, rfl⟩
      have hm2 : m ≤ k ∧ m ≤ n - k ∧ 1 ≤ m := by
        have h5 : m ≤ k := hm ▸ Nat.min_le_left k (n - k)
        have h6 : m ≤ n - k := hm ▸ Nat.min_le_right k (n - k)
        have h7 : 1 ≤ m := hm ▸ Nat.le_min.2 ⟨hk1, by omega⟩
        exact ⟨h5, h6, h7⟩
      have hgd : Hid (wr.drew.heap[w.heap.size]? = some (.cells (repL c n k).toArray 3 (0, 0))) := hg
      have hbd : Below w.heap.size w wr.drew := hb.drew
      have hs2 := hid (show ∀ j v, (List.replicate m (Value.int .i64 c))[j]? = some v → wr.drew.cell? ((⟨w.heap.size, 0, none⟩ : Addr).add j) = some v by
        intro j v hj
        obtain ⟨h8, h9⟩ := List.getElem?_eq_some_iff.1 hj
        rw [List.length_replicate] at h8
        rw [List.getElem_replicate] at h9
        subst h9
        have := rep_cell hgd.out (j := j) (by omega) hkn
        rw [← this]
        congr 1
        unfold Addr.add
        split <;> simp_all)
      have hn2 := hid (show (List.replicate m (Value.int .i64 c)).length = Nat.min k (n - k) by rw [List.length_replicate]; exact hm)
      have hpos2 := hid (show 0 < (List.replicate m (Value.int .i64 c)).length → (some ⟨w.heap.size, k, none⟩ : Option Addr) = some ⟨w.heap.size, k, none⟩ ∧ ∃ ad, (some ⟨w.heap.size, 0, none⟩ : Option Addr) = some ad ∧ ∀ j v, (List.replicate m (Value.int .i64 c))[j]? = some v → wr.drew.cell? (ad.add j) = some v from fun _ => ⟨rfl, _, rfl, hs2.out⟩)
      have hfit2 := hid (show k + (List.replicate m (Value.int .i64 c)).length ≤ (repL c n k).length by rw [repL_length hkn, List.length_replicate]; omega)
      have hone2 := hid (show ∀ v ∈ (List.replicate m (Value.int .i64 c)), v.oneCell' = true by intro v hv; rw [List.eq_of_mem_replicate hv]; rfl)
      have hlen2 := hid (show (List.replicate m (Value.int .i64 c)).length = m from List.length_replicate)
      have hsp := hid (rep_splice (c := c) (n := n) (k := k) (m := m) (by omega))
      generalize List.replicate m (Value.int .i64 c) = cs at *
      replace hm := hid hm
      go_upto_region 9 with fail
      refine wp_region_held_drew (S := fun w' => Below w.heap.size w w') (by kernel_rfl) hbd (fun hHeld => ?_)
      refine wpAnyH_take (i := 0) (v := .int .i64 k) rfl (by kernel_rfl) (by kernel_rfl) (by kernel_rfl) (fun _ _ _ h => h) (Or.inl ⟨by rfl, by intro wx hx; go_simp⟩) (by assumption) ?_
      try simp only [List.getElem_toArray, List.getElem_cons_zero, Act.put, List.setIfInBounds_toArray, List.set_cons_zero, List.set_cons_succ]
      refine wpAnyH_take (i := 1) (v := .slice (some ⟨w.heap.size, 0, none⟩) n n) rfl (by kernel_rfl) (by kernel_rfl) (by kernel_rfl) (fun _ _ _ h => h) (Or.inl ⟨by rfl, by intro wx hx; go_simp⟩) (by assumption) ?_
      try simp only [List.getElem_toArray, List.getElem_cons_succ, List.getElem_cons_zero, Act.put, List.setIfInBounds_toArray, List.set_cons_zero, List.set_cons_succ]
      refine wpAnyH_take (i := 2) (v := .int .i64 k) rfl (by kernel_rfl) (by kernel_rfl) (by kernel_rfl) (fun _ _ _ h => h) (Or.inl ⟨by rfl, by intro wx hx; go_simp⟩) (by assumption) ?_
      try simp only [List.getElem_toArray, List.getElem_cons_succ, List.getElem_cons_zero, Act.put, List.setIfInBounds_toArray, List.set_cons_zero, List.set_cons_succ]
      refine wpAnyH_take (i := 3) (v := .slice (some ⟨w.heap.size, k, none⟩) (n - k) (n - k)) rfl (by kernel_rfl) (by kernel_rfl) (by kernel_rfl) (fun _ _ _ h => h) (Or.inl ⟨by rfl, by intro wx hx; go_simp; omega⟩) (by assumption) ?_
      try simp only [List.getElem_toArray, List.getElem_cons_succ, List.getElem_cons_zero, Act.put, List.setIfInBounds_toArray, List.set_cons_zero, List.set_cons_succ]
      refine wpAnyH_take (i := 4) (v := .slice (some ⟨w.heap.size, 0, none⟩) n n) rfl (by kernel_rfl) (by kernel_rfl) (by kernel_rfl) (fun _ _ _ h => h) (Or.inl ⟨by rfl, by intro wx hx; go_simp⟩) (by assumption) ?_
      try simp only [List.getElem_toArray, List.getElem_cons_succ, List.getElem_cons_zero, Act.put, List.setIfInBounds_toArray, List.set_cons_zero, List.set_cons_succ]
      refine wpAnyH_take (i := 5) (v := .int .i64 k) rfl (by kernel_rfl) (by kernel_rfl) (by kernel_rfl) (fun _ _ _ h => h) (Or.inl ⟨by rfl, by intro wx hx; go_simp⟩) (by assumption) ?_
      try simp only [List.getElem_toArray, List.getElem_cons_succ, List.getElem_cons_zero, Act.put, List.setIfInBounds_toArray, List.set_cons_zero, List.set_cons_succ]
      refine wpAnyH_take (i := 6) (v := .slice (some ⟨w.heap.size, 0, none⟩) k n) rfl (by kernel_rfl) (by kernel_rfl) (by kernel_rfl) (fun _ _ _ h => h) (Or.inl ⟨by rfl, by intro wx hx; go_simp⟩) (by assumption) ?_
      try simp only [List.getElem_toArray, List.getElem_cons_succ, List.getElem_cons_zero, Act.put, List.setIfInBounds_toArray, List.set_cons_zero, List.set_cons_succ]
      refine wpAnyH_ready (rs := [7]) (by kernel_rfl) (by simp) ?_
      refine AllReadyH.cons rfl (fun K hK => ?_) AllReadyH.nil
      refine step_copy_splice rfl (.tmp 41) (.tmp 44) 27 27 rfl 3 Tryz.underlying27 hsz.out _ _ _ _ _ _ rfl rfl w.heap.size k (repL c n k) 3 hgd.out cs hn2.out hpos2.out hfit2.out hone2.out w.heap.size w hbd (Nat.le_refl _) ?_
      intro w4 hg4 hb4
      rw [hsp.out] at hg4
      rw [hlen2.out]
      refine hK.out _ _ hb4 (fun hHeld2 => ?_)
      clear hK K hHeld
      try simp only [List.getElem_toArray, List.getElem_cons_succ, List.getElem_cons_zero, Act.put, List.setIfInBounds_toArray, List.set_cons_zero, List.set_cons_succ]
      refine wpAnyH_take (i := 8) (v := .int .i64 ((k : Int) + (m : Int))) rfl (by kernel_rfl) (by kernel_rfl) (by kernel_rfl) (fun _ _ _ h => h) (Or.inl ⟨by rfl, by intro wx hx; go_simp; exact IntWalk.i64_in _ (by omega)⟩) (by assumption) ?_
      try simp only [List.getElem_toArray, List.getElem_cons_succ, List.getElem_cons_zero, Act.put, List.setIfInBounds_toArray, List.set_cons_zero, List.set_cons_succ]
      refine wpAnyH_take (i := 9) (v := .int .i64 ((k : Int) + (m : Int))) rfl (by kernel_rfl) (by kernel_rfl) (by kernel_rfl) (fun _ _ _ h => h) (Or.inl ⟨by rfl, by intro wx hx; go_simp⟩) (by assumption) ?_
      try simp only [List.getElem_toArray, List.getElem_cons_succ, List.getElem_cons_zero, Act.put, List.setIfInBounds_toArray, List.set_cons_zero, List.set_cons_succ]
      refine wpAnyH_done (by kernel_rfl) ?_ _
      go_wp2_with fail
      go_roundw
      case rel => exact ⟨k + m, by omega, by omega, by go_num, hg4, hb4⟩
      case measure => simp [intOf]; omega
    · have : k = n := by omega
      subst this
      go_wp2
      go_ret
      exact ⟨some ⟨w.heap.size, 0, none⟩, k, by rw [List.length_replicate]; rfl, repN_own hg.out (Nat.le_refl _) h4, ⟨hb⟩⟩

end Go.Proofs.YtmgcfnciejfpbaaGreat

/- The next work list, as the program makes it. -/
namespace Go.Proofs.YtmgcfnciejfpbaaGreat
open Go.RowKit

/-- the value at i when j configurations are seen -/
def wxAt (M P : List (List Int)) (ws : List Int) (r : Int) : Nat → Nat → Int
  | 0, _ => 1073741824
  | j + 1, i => if hasB (row P j) r then (if viS M P ws i j < wxAt M P ws r j i then viS M P ws i j else wxAt M P ws r j i) else wxAt M P ws r j i
def wxL (M P : List (List Int)) (ws : List Int) (r : Int) (j x : Nat) : List Int := (List.range ws.length).map fun y => wxAt M P ws r (if y < x then j + 1 else j) y
def wnxL (M P : List (List Int)) (ws : List Int) (r : Int) : List Int := wxL M P ws r P.length 0
theorem wxL_length (M P : List (List Int)) (ws : List Int) (r : Int) (j x : Nat) : (wxL M P ws r j x).length = ws.length := by simp [wxL]
theorem nth_wxL {M P : List (List Int)} {ws : List Int} {r : Int} {j x y : Nat} (h : y < ws.length) : nth (wxL M P ws r j x) y = wxAt M P ws r (if y < x then j + 1 else j) y := by simp [wxL, nth, h]
theorem wxL_zero (M P : List (List Int)) (ws : List Int) (r : Int) : wxL M P ws r 0 0 = List.replicate ws.length 1073741824 := by
  refine eq_of_nth (by rw [wxL_length, List.length_replicate]) fun y hy => ?_
  rw [wxL_length] at hy
  rw [nth_wxL hy]
  simp [wxAt, nth, hy]
theorem wxL_full (M P : List (List Int)) (ws : List Int) (r : Int) (j : Nat) : wxL M P ws r j ws.length = wxL M P ws r (j + 1) 0 := by
  refine eq_of_nth (by rw [wxL_length, wxL_length]) fun y hy => ?_
  rw [wxL_length] at hy
  rw [nth_wxL hy, nth_wxL hy, if_pos hy, if_neg (by omega)]
theorem wxL_skip {M P : List (List Int)} {ws : List Int} {r : Int} {j : Nat} (h : hasB (row P j) r = false) : wxL M P ws r (j + 1) 0 = wxL M P ws r j 0 := by
  refine eq_of_nth (by rw [wxL_length, wxL_length]) fun y hy => ?_
  rw [wxL_length] at hy
  rw [nth_wxL hy, nth_wxL hy, if_neg (by omega), if_neg (by omega), wxAt, h]
  rfl
theorem wxL_set {M P : List (List Int)} {ws : List Int} {r : Int} {j x : Nat} (hx : x < ws.length) : ((wxL M P ws r j x).map (Value.int .i64)).set x (.int .i64 (wxAt M P ws r (j + 1) x)) = (wxL M P ws r j (x + 1)).map (Value.int .i64) := by
  rw [← List.map_set]
  congr 1
  refine eq_of_nth (by rw [List.length_set, wxL_length, wxL_length]) fun y hy => ?_
  rw [List.length_set, wxL_length] at hy
  rw [nth_wxL hy]
  by_cases h : y = x
  · subst h
    simp [nth, wxL_length, hy]
  · have e : nth ((wxL M P ws r j x).set x (wxAt M P ws r (j + 1) x)) y = nth (wxL M P ws r j x) y := by
      simp [nth, Ne.symm h]
    rw [e, nth_wxL hy]
    by_cases h2 : y < x
    · rw [if_pos h2, if_pos (by omega)]
    · rw [if_neg h2, if_neg (by omega)]
theorem wxAt_succ {M P : List (List Int)} {ws : List Int} {r : Int} {j i : Nat} (h : hasB (row P j) r = true) : wxAt M P ws r (j + 1) i = if viS M P ws i j < wxAt M P ws r j i then viS M P ws i j else wxAt M P ws r j i := by rw [wxAt, if_pos h]
/-- what is made so is the least of the ways, and far where there is none -/
theorem wxAt_le {M P : List (List Int)} {ws : List Int} {r : Int} {i : Nat} : ∀ j, wxAt M P ws r j i ≤ 1073741824 ∧ (∀ t, t < j → r ∈ row P t → wxAt M P ws r j i ≤ viS M P ws i t) ∧ (wxAt M P ws r j i = 1073741824 ∨ ∃ t, t < j ∧ r ∈ row P t ∧ wxAt M P ws r j i = viS M P ws i t) := by
  intro j
  induction j with
  | zero => exact ⟨by simp [wxAt], fun t ht => by omega, .inl rfl⟩
  | succ j ih =>
    obtain ⟨h1, h2, h3⟩ := ih
    have h3' : wxAt M P ws r j i = 1073741824 ∨ ∃ t, t < j + 1 ∧ r ∈ row P t ∧ wxAt M P ws r j i = viS M P ws i t := h3.imp_right fun ⟨t, a, b, c⟩ => ⟨t, by omega, b, c⟩
    cases hb : hasB (row P j) r with
    | false =>
      rw [show wxAt M P ws r (j + 1) i = wxAt M P ws r j i by rw [wxAt, hb]; rfl]
      refine ⟨h1, fun t ht hr => ?_, h3'⟩
      by_cases h4 : t = j
      · subst h4; exact absurd hr (hasB_false.1 hb)
      · exact h2 t (by omega) hr
    | true =>
      rw [wxAt_succ hb]
      by_cases h5 : viS M P ws i j < wxAt M P ws r j i
      · rw [if_pos h5]
        refine ⟨by omega, fun t ht hr => ?_, .inr ⟨j, by omega, hasB_true.1 hb, rfl⟩⟩
        by_cases h4 : t = j
        · subst h4; exact Int.le_refl _
        · have := h2 t (by omega) hr; omega
      · rw [if_neg h5]
        refine ⟨h1, fun t ht hr => ?_, h3'⟩
        by_cases h4 : t = j
        · subst h4; omega
        · exact h2 t (by omega) hr

set_option maxHeartbeats 1600000 in
set_option maxRecDepth 100000 in
theorem wnx_any {v vw : Value} {M P : List (List Int)} {ws : List Int} {r : Int} {w0 w : World} [Ext w0 w] (hW : IsWorks w0 v M P) (hw : IsInts w0 vw ws) (h1P : 1 ≤ P.length) (hl : P.length ≤ 1000) (hlw : ws.length = P.length) (hb : ∀ j, j < P.length → 0 ≤ nth ws j ∧ nth ws j ≤ 1000000) (hmv : ∀ i j, i < P.length → j < P.length → 0 ≤ mvC M (row P i) (row P j) ∧ mvC M (row P i) (row P j) ≤ 1000) :
    Calls Tryz.prog 70 #[v, vw, .int .i64 r] w fun e w' => ∃ d m, e = .returned (.slice d (wnxL M P ws r).length m) ∧ Own w' w.heap.size [intRowOf 3 (.slice d (wnxL M P ws r).length m) (wnxL M P ws r)] ∧ Ext w w' := by
  obtain ⟨b, mv, pv, cv, rfl, h0, h1, h2, hM, hP, hC⟩ := hW
  have x1 := (‹Ext w0 w›).cell h1
  obtain ⟨a3, c3, rfl, l3⟩ := hw.form
  obtain ⟨aP, cP, rfl, lP⟩ := hP.form
  obtain ⟨aC, cC, rfl, lC⟩ := hC.form
  replace hb := hid hb
  replace hmv := hid hmv
  replace hlw := hid hlw
  have hcl := hid (show (cosL M P).length = P.length by simp [cosL])
  go_enter Tryz.func70, Tryz.ntmps70
  go_wp2_with fail
  generalize hWW : w.alloc (.cells #[.int .i64 1073741824] 3) = W
  have eW : Ext w W := hWW ▸ inferInstance
  have hfar : IsInts W (.slice (some ⟨w.heap.size, 0, none⟩) ([1073741824] : List Int).length 1) [1073741824] := by
    subst hWW
    exact (Own.litInts (W := w) (B := 0) (e := 3) (xs := [1073741824]) (Nat.zero_le _) (by simp) rfl (by simp) rfl).reads (by unfold Short; simp) (by intro x hx; simp at hx; subst hx; unfold I64; omega)
  have eW0 : Ext w0 W := Ext.trans ‹Ext w0 w› eW
  clear hWW
  refine (sRepeatN_any (w0 := W) (n := ws.length) hfar (by have := hlw.out; omega) (by have := hlw.out; omega)).mono ?_
  rintro e W1 ⟨od, om, rfl, own1, hb1⟩
  rw [List.length_replicate] at own1 ⊢
  have own : Own W1 W.heap.size [⟨3, 1, .slice od ws.length om, ws.length, (wxL M P ws r 0 0).map (Value.int .i64)⟩] := by
    rw [wxL_zero]
    unfold intRowOf at own1
    rw [List.length_replicate] at own1
    exact own1
  clear own1
  have y1 := (Ext.trans eW0 hb1).cell h1
  have hbW : Below W.heap.size W W1 := hb1.below
  go_wp2_with fail
  go_loopw [20] (fun i wr => ∃ j : Nat, j ≤ P.length ∧ i = .int .i64 j ∧ Own wr W.heap.size [⟨3, 1, .slice od ws.length om, ws.length, (wxL M P ws r j 0).map (Value.int .i64)⟩] ∧ Below W.heap.size W wr) (fun i _ => P.length - (intOf i).toNat)
  case atStart => exact ⟨0, by omega, rfl, own, hbW⟩
  case round =>
    obtain ⟨j, hj, rfl, hown, hb0⟩ := hrel
    obtain ⟨wo, rfl⟩ : ∃ x : World, x = wr := ⟨_, rfl⟩
    by_cases hlt : j < P.length
    · have eWo : Ext W wo := ⟨hb0⟩
      have e0o : Ext w0 wo := Ext.trans eW0 eWo
      obtain ⟨b5, o5, d5, m5, rfl, hc5, hr5, _⟩ := hP.at (w' := wo) hlt
      have hr5' : IsInts w0 _ (row P j) := hr5
      cases hh : hasB (row P j) r with
      | false =>
        have hsk := hid (wxL_skip (M := M) (ws := ws) hh)
        go_wp2_with fail
        refine (sContains_any (w0 := w0) hr5').mono ?_
        rintro e w9 ⟨rfl, rfl⟩
        rw [hh]
        replace hh := hid hh
        go_wp2
        go_roundw
        case rel => exact ⟨j + 1, by omega, by go_num, by rw [hsk.out]; exact hown, hb0⟩
        case measure => simp [intOf]; omega
      | true =>
        go_wp2_with fail
        refine (sContains_any (w0 := w0) hr5').mono ?_
        rintro e w9 ⟨rfl, rfl⟩
        rw [hh]
        replace hh := hid hh
        have hfull := hid (wxL_full M P ws r j)
        have hlC : j < (cosL M P).length := by rw [hcl.out]; exact hlt
        have hlW : j < ws.length := by rw [hlw.out]; exact hlt
        go_wp2
        go_loopw [31] (fun i wi => ∃ x : Nat, x ≤ ws.length ∧ i = .int .i64 x ∧ Own wi W.heap.size [⟨3, 1, .slice od ws.length om, ws.length, (wxL M P ws r j x).map (Value.int .i64)⟩] ∧ Below W.heap.size W wi) (fun i _ => ws.length - (intOf i).toNat)
        case atStart => exact ⟨0, by omega, rfl, hown, hb0⟩
        case round =>
          obtain ⟨x, hxl, rfl, hown2, hb3⟩ := hrel
          by_cases hltx : x < ws.length
          · have hxP : x < P.length := by rw [← hlw.out]; exact hltx
            have eWr : Ext W wr := ⟨hb3⟩
            have e0 : Ext w0 wr := Ext.trans eW0 eWr
            have y2 := e0.cell h2
            obtain ⟨g, rfl⟩ := hown2.at hltx
            have hf := hown2.frozenAt x
            have hc := hown2.cellAt (w' := wr) hltx
            have hcx : ((wxL M P ws r j x).map (Value.int .i64)).getD x undef = .int .i64 (wxAt M P ws r j x) := by
              have e := nth_wxL (M := M) (P := P) (r := r) (j := j) (x := x) hltx
              rw [if_neg (by omega)] at e
              rw [← e]
              simp [nth, wxL_length, hltx]
            rw [hcx] at hc
            clear hcx
            have hset := hid (wxL_set (M := M) (P := P) (r := r) (j := j) hltx)
            have hcur := (wxAt_le (M := M) (P := P) (ws := ws) (r := r) (i := x) j).1
            obtain ⟨b4, o4, rfl, hc4⟩ := hw.at (w' := wr) hlW
            obtain ⟨b7, o7, d7, m7, rfl, hc7, hr7, _⟩ := hC.at (w' := wr) hlC
            obtain ⟨hrl, hrn⟩ := cosL_at (M := M) hlt hxP
            rw [hrl] at hr7 hc7
            replace hrl := hid hrl
            obtain ⟨b8, o8, rfl, hc8⟩ := hr7.at (w' := wr) (k := x) (by rw [hrl.out]; exact hxP)
            rw [hrn] at hc8
            clear hrn
            have q1 := hb.out j hlt
            have q2 := hmv.out j x hlt hxP
            have hmin := hid (show wxAt M P ws r (j + 1) x = if nth ws j + mvC M (row P j) (row P x) < wxAt M P ws r j x then nth ws j + mvC M (row P j) (row P x) else wxAt M P ws r j x by rw [wxAt_succ hh.out]; rfl)
            have hlow : -1 ≤ wxAt M P ws r j x := by
              rcases (wxAt_le (M := M) (P := P) (ws := ws) (r := r) (i := x) j).2.2 with h3 | ⟨t, ht, _, h3⟩
              · omega
              · have := hb.out t (by omega)
                have := hmv.out t x (by omega) hxP
                rw [h3, viS]; omega
            generalize wxAt M P ws r j x = cu at *
            generalize mvC M (row P j) (row P x) = mv1 at *
            have hgB := hown2.lt.1
            by_cases hlc : nth ws j + mv1 < cu
            · have hm2 := hid (show wxAt M P ws r (j + 1) x = min cu (nth ws j + mv1) by rw [hmin.out, if_pos hlc]; omega)
              clear hmin
              go_upto_region 9 with fail
              go_still_tail 23, (by kernel_rfl)
              change wpList _ _ _ _ _ wr.drew
              have hfd : wr.drew.frozen? ⟨g, x, none⟩ = false := hf
              have hcd : wr.drew.cell? ⟨g, x, none⟩ = some (.int .i64 cu) := hc
              go_wp2
              go_roundw
              case rel =>
                refine ⟨x + 1, by omega, by go_num, ?_, hb3.drew.setCell hgB _⟩
                have h := (hown2.ext (w' := wr.drew)).set x (.int .i64 (wxAt M P ws r (j + 1) x))
                rw [hset.out] at h
                rw [hm2.out] at h
                exact h
              case measure => simp [intOf]; omega
            · have hm2 := hid (show wxAt M P ws r (j + 1) x = min cu (nth ws j + mv1) by rw [hmin.out, if_neg hlc]; omega)
              clear hmin
              go_upto_region 9 with fail
              go_still_tail 23, (by kernel_rfl)
              change wpList _ _ _ _ _ wr.drew
              have hfd : wr.drew.frozen? ⟨g, x, none⟩ = false := hf
              have hcd : wr.drew.cell? ⟨g, x, none⟩ = some (.int .i64 cu) := hc
              go_wp2
              go_roundw
              case rel =>
                refine ⟨x + 1, by omega, by go_num, ?_, hb3.drew.setCell hgB _⟩
                have h := (hown2.ext (w' := wr.drew)).set x (.int .i64 (wxAt M P ws r (j + 1) x))
                rw [hset.out] at h
                rw [hm2.out] at h
                exact h
              case measure => simp [intOf]; omega
          · have : x = ws.length := by omega
            subst this
            rw [hfull.out] at hown2
            go_wp2
            go_roundw
            case rel => exact ⟨j + 1, by omega, by go_num, hown2, hb3⟩
            case measure => simp [intOf]; omega
    · have : j = P.length := by omega
      subst this
      go_wp2
      go_ret
      refine ⟨od, om, by rw [wnxL, wxL_length]; rfl, ?_, ⟨eW.below.trans (hb0.mono eW.size)⟩⟩
      unfold intRowOf
      rw [wnxL, wxL_length]
      exact hown.mono eW.size
end Go.Proofs.YtmgcfnciejfpbaaGreat

/- The reference's next work list and the program's are one. -/
namespace Go.Proofs.YtmgcfnciejfpbaaGreat
open Go.RowKit

--PURE
/-- the reference's least over the first servers; -1 ahead of the first -/
def snAt (M P : List (List Int)) (ws : List Int) (r : Int) (i : Nat) : Nat → Int
  | 0 => -1
  | s + 1 => if snAt M P ws r i s < 0 ∨ swS M P ws r i s < snAt M P ws r i s then swS M P ws r i s else snAt M P ws r i s
theorem snAt_le {M P : List (List Int)} {ws : List Int} {r : Int} {i : Nat} : ∀ k, 1 ≤ k → (∀ s, s < k → 0 ≤ swS M P ws r i s) → (∀ s, s < k → snAt M P ws r i k ≤ swS M P ws r i s) ∧ ∃ s, s < k ∧ snAt M P ws r i k = swS M P ws r i s := by
  intro k
  induction k with
  | zero => intro h; omega
  | succ k ih =>
    intro _ h0
    by_cases hk : k = 0
    · subst hk
      have e : snAt M P ws r i (0 + 1) = swS M P ws r i 0 := by rw [snAt, if_pos (.inl (by simp [snAt]))]
      exact ⟨fun s hs => by rw [e, show s = 0 by omega]; exact Int.le_refl _, 0, by omega, e⟩
    · obtain ⟨h1, s1, h2, h3⟩ := ih (by omega) (fun s hs => h0 s (by omega))
      have h4 := h0 s1 (by omega)
      by_cases h5 : swS M P ws r i k < snAt M P ws r i k
      · have e : snAt M P ws r i (k + 1) = swS M P ws r i k := by rw [snAt, if_pos (.inr h5)]
        refine ⟨fun s hs => ?_, k, by omega, e⟩
        by_cases h6 : s = k
        · rw [e, h6]; exact Int.le_refl _
        · have := h1 s (by omega)
          omega
      · have e : snAt M P ws r i (k + 1) = snAt M P ws r i k := by rw [snAt, if_neg (by omega)]
        refine ⟨fun s hs => ?_, s1, by omega, by rw [e, h3]⟩
        by_cases h6 : s = k
        · rw [e, h6]; omega
        · have := h1 s (by omega)
          omega
theorem next_eq {M : List (List Int)} {n k i : Nat} {r : Int} {ws : List Int} (hd : Dst M n) (h1 : 1 ≤ k) (hk : k ≤ 3) (hw : LipW M (confs n k 0) ws) (hb : ∀ j, j < (confs n k 0).length → 0 ≤ nth ws j ∧ nth ws j ≤ 1000000) (hc : ∀ x y : Nat, x < n → y < n → 0 ≤ cell M x y ∧ cell M x y ≤ 99) (hi : i < (confs n k 0).length) (hr : 0 ≤ r ∧ r < (n : Int)) :
    snAt M (confs n k 0) ws r i k = wxAt M (confs n k 0) ws r (confs n k 0).length i := by
  have hin : ∀ s, s < k → 0 ≤ swS M (confs n k 0) ws r i s ∧ swS M (confs n k 0) ws r i s ≤ 1000099 := by
    intro s hs
    obtain ⟨g1, g2, g3⟩ := row_conf hi
    obtain ⟨hm, _⟩ := sw_conf hi hs hr
    have h2 := hb _ (atR_lt hm).1
    have h3 := g2 _ (nth_mem (show s < (row (confs n k 0) i).length by omega))
    have h4 := hc (nth (row (confs n k 0) i) s).toNat r.toNat (by omega) (by omega)
    unfold swS
    omega
  obtain ⟨h2, s, hs, h3⟩ := snAt_le k h1 (fun s hs => (hin s hs).1)
  obtain ⟨h4, h5, h6⟩ := wxAt_le (M := M) (P := confs n k 0) (ws := ws) (r := r) (i := i) (confs n k 0).length
  obtain ⟨j, hj, hrj, hle⟩ := sw_via (ws := ws) hd hk hi hs hr
  have h7 := h5 j hj hrj
  have h8 := hin s hs
  rcases h6 with h6 | ⟨t, ht, hrt, h6⟩
  · omega
  · obtain ⟨s', hs', h9⟩ := via_sw hd hk hw hi ht hrt
    have := h2 s' hs'
    omega
end Go.Proofs.YtmgcfnciejfpbaaGreat

/- Plain law: work lists stay good; the choice of the work function algorithm. -/
namespace Go.Proofs.YtmgcfnciejfpbaaGreat
open Go.RowKit

--PURE
/-- a work list with values up to a limit -/
def GoodW (M P : List (List Int)) (ws : List Int) (L : Int) : Prop := LipW M P ws ∧ ∀ j, j < P.length → 0 ≤ nth ws j ∧ nth ws j ≤ L
theorem GoodW.mono {M P : List (List Int)} {ws : List Int} {L L' : Int} (h : GoodW M P ws L) (hl : L ≤ L') : GoodW M P ws L' := ⟨h.1, fun j hj => ⟨(h.2 j hj).1, Int.le_trans (h.2 j hj).2 hl⟩⟩
theorem wnx_at {M P : List (List Int)} {ws : List Int} {r : Int} {i : Nat} (h : i < ws.length) : nth (wnxL M P ws r) i = wxAt M P ws r P.length i := by rw [wnxL, nth_wxL h, if_neg (by omega)]
theorem wnxL_len {M P : List (List Int)} {ws : List Int} {r : Int} : (wnxL M P ws r).length = ws.length := wxL_length _ _ _ _ _ _
theorem wnx_way {M : List (List Int)} {n k i : Nat} {r L : Int} {ws : List Int} (hd : Dst M n) (h1 : 1 ≤ k) (hk : k ≤ 3) (hg : GoodW M (confs n k 0) ws L) (hL : L ≤ 1000000) (hi : i < (confs n k 0).length) (hr : 0 ≤ r ∧ r < (n : Int)) :
    (∀ t, t < (confs n k 0).length → r ∈ row (confs n k 0) t → wxAt M (confs n k 0) ws r (confs n k 0).length i ≤ viS M (confs n k 0) ws i t) ∧
    ∃ t, t < (confs n k 0).length ∧ r ∈ row (confs n k 0) t ∧ wxAt M (confs n k 0) ws r (confs n k 0).length i = viS M (confs n k 0) ws i t := by
  obtain ⟨h4, h5, h6⟩ := wxAt_le (M := M) (P := confs n k 0) (ws := ws) (r := r) (i := i) (confs n k 0).length
  refine ⟨h5, ?_⟩
  rcases h6 with h6 | h6
  · obtain ⟨j, hj, hrj, hle⟩ := sw_via (ws := ws) (s := 0) hd hk hi (by omega) hr
    have h7 := h5 j hj hrj
    obtain ⟨g1, g2, g3⟩ := row_conf hi
    obtain ⟨hm, _⟩ := sw_conf (s := 0) hi (by omega) hr
    have h8 := hg.2 _ (atR_lt hm).1
    have h9 := g2 _ (nth_mem (show 0 < (row (confs n k 0) i).length by omega))
    have h10 := hd.pos (nth (row (confs n k 0) i) 0).toNat r.toNat (by omega) (by omega)
    unfold swS at hle
    omega
  · exact h6
/-- one more request: the work list is good, and its values are not much greater -/
theorem wnx_good {M : List (List Int)} {n k : Nat} {r L : Int} {ws : List Int} (hd : Dst M n) (h1 : 1 ≤ k) (hk : k ≤ 3) (hg : GoodW M (confs n k 0) ws L) (hL : L ≤ 1000000) (hr : 0 ≤ r ∧ r < (n : Int)) :
    GoodW M (confs n k 0) (wnxL M (confs n k 0) ws r) (L + 198) ∧ ∀ i, i < (confs n k 0).length → nth ws i ≤ nth (wnxL M (confs n k 0) ws r) i := by
  have hlen := hg.1.1
  have hge : ∀ i, i < (confs n k 0).length → nth ws i ≤ nth (wnxL M (confs n k 0) ws r) i := fun i hi => by
    obtain ⟨_, t, ht, _, h6⟩ := wnx_way hd h1 hk hg hL hi hr
    rw [wnx_at (by omega), h6]
    exact via_ge hd hk hg.1 hi ht
  refine ⟨⟨⟨by rw [wnxL_len, hlen], fun i q hi hq => ?_⟩, fun i hi => ⟨?_, ?_⟩⟩, hge⟩
  · obtain ⟨h5, _⟩ := wnx_way hd h1 hk hg hL hi hr
    obtain ⟨_, t, ht, hrt, h6⟩ := wnx_way hd h1 hk hg hL hq hr
    rw [wnx_at (by omega), wnx_at (by omega), h6]
    have h7 := h5 t ht hrt
    have h8 := via_lip (ws := ws) hd hk hi hq ht
    obtain ⟨g1, g2, g3⟩ := row_conf hi
    obtain ⟨f1, f2, f3⟩ := row_conf hq
    have := mvC_symm hd g2 f2 (by rw [g1, f1]) (by omega)
    omega
  · have := hge i hi
    have := (hg.2 i hi).1
    omega
  · obtain ⟨h5, _⟩ := wnx_way hd h1 hk hg hL hi hr
    obtain ⟨j, hj, hrj, hle⟩ := sw_via (ws := ws) (s := 0) hd hk hi (by omega) hr
    obtain ⟨g1, g2, g3⟩ := row_conf hi
    obtain ⟨hm, _⟩ := sw_conf (s := 0) hi (by omega) hr
    obtain ⟨hlt, hrow⟩ := atR_lt hm
    have hlip := hg.1.2 _ i hlt hi
    rw [hrow] at hlip
    have hpts : Pts n (swC (confs n k 0) r i 0) := (g2.set hr).perm (sortL_perm _)
    have h9 := g2 _ (nth_mem (show 0 < (row (confs n k 0) i).length by omega))
    have h10 := hd.pos (nth (row (confs n k 0) i) 0).toNat r.toNat (by omega) (by omega)
    have hset := mvC_set hd (s := 0) (r := r) g2 hr (by omega) (by omega)
    have hp := mvC_permR hd (sortL_perm ((row (confs n k 0) i).set 0 r)).symm g2 (g2.set hr) (by simp) (by omega)
    have hsy := mvC_symm hd g2 hpts (by rw [swC, sortL_len, List.length_set]) (by omega)
    have h7 := h5 j hj hrj
    have h8 := (hg.2 i hi).2
    rw [wnx_at (by omega)]
    unfold swS at hle
    unfold swC at *
    omega
/-- the work list of the empty sequence -/
theorem start_good {M : List (List Int)} {n k : Nat} {a : List Int} (hd : Dst M n) (hk : k ≤ 3) (ha : a ∈ confs n k 0) : GoodW M (confs n k 0) ((confs n k 0).map fun b => mvC M a b) 297 := by
  obtain ⟨h1, h2, h3⟩ := confs_iff.1 ha
  have hpa : Pts n a := fun x hx => by have := h3 x hx; omega
  have hnth : ∀ i, i < (confs n k 0).length → nth ((confs n k 0).map fun b => mvC M a b) i = mvC M a (row (confs n k 0) i) := fun i hi => by simp [nth, row, hi]
  refine ⟨⟨by simp, fun i j hi hj => ?_⟩, fun j hj => ?_⟩
  · obtain ⟨g1, g2, g3⟩ := row_conf hi
    obtain ⟨f1, f2, f3⟩ := row_conf hj
    rw [hnth i hi, hnth j hj]
    have := mvC_tri hd hpa f2 g2 (by rw [h1, f1]) (by rw [f1, g1]) (by omega)
    have := mvC_symm hd g2 f2 (by rw [g1, f1]) (by omega)
    omega
  · obtain ⟨f1, f2, f3⟩ := row_conf hj
    rw [hnth j hj]
    have := mvC_in hd hpa f2 (by rw [h1, f1]) (by omega)
    omega
theorem work_good {M : List (List Int)} {P : List (List Int)} {ws : List Int} (h : workB M P ws = true) : GoodW M P ws 99999 := by
  simp only [workB, Bool.and_eq_true, decide_eq_true_eq] at h
  obtain ⟨h1, h2, h3⟩ := h
  simp only [lipB, decide_eq_true_eq] at h3
  refine ⟨⟨h1, fun i j hi hj => h3 i (by omega) j (by omega)⟩, fun j hj => ?_⟩
  have := belowB_at h2 (k := j) (by omega)
  omega

/-- the s-th server moved to r; the sum -/
def svX (a : List Int) (r : Int) (s : Nat) : List Int := sortL (a.set s r)
def svN (M P : List (List Int)) (nx a : List Int) (r : Int) (s : Nat) : Int := nth nx (atR P (svX a r s)) + cell M (nth a s).toNat r.toNat
/-- the best one of the first servers, its cost, its sum -/
def svT (M P : List (List Int)) (nx a : List Int) (r : Int) : Nat → List Int × Int × Int
  | 0 => ([], 0, 1073741824)
  | s + 1 => if svN M P nx a r s < (svT M P nx a r s).2.2 ∨ (svN M P nx a r s = (svT M P nx a r s).2.2 ∧ lexC (svX a r s) (svT M P nx a r s).1 < 0) then (svX a r s, cell M (nth a s).toNat r.toNat, svN M P nx a r s) else svT M P nx a r s
def svC (M P : List (List Int)) (nx a : List Int) (r : Int) : List Int := if hasB a r then a else (svT M P nx a r a.length).1
def svK (M P : List (List Int)) (nx a : List Int) (r : Int) : Int := if hasB a r then 0 else (svT M P nx a r a.length).2.1
theorem svT_at {M P : List (List Int)} {nx a : List Int} {r : Int} : ∀ {s : Nat}, (∀ t, t < s → svN M P nx a r t < 1073741824) → 1 ≤ s → ∃ t, t < s ∧ svT M P nx a r s = (svX a r t, cell M (nth a t).toNat r.toNat, svN M P nx a r t) := by
  intro s
  induction s with
  | zero => intro _ h; omega
  | succ s ih =>
    intro h _
    rw [svT]
    split
    · exact ⟨s, by omega, rfl⟩
    · rename_i hn
      by_cases hs : s = 0
      · subst hs
        exact absurd (.inl (h 0 (by omega))) hn
      · obtain ⟨t, ht, h2⟩ := ih (fun t ht => h t (by omega)) (by omega)
        exact ⟨t, by omega, h2⟩
theorem set_conf {n k s : Nat} {r : Int} {a : List Int} (ha : a ∈ confs n k 0) (hs : s < k) (hr : 0 ≤ r ∧ r < (n : Int)) : svX a r s ∈ confs n k 0 ∧ r ∈ svX a r s := by
  obtain ⟨h1, h2, h3⟩ := confs_iff.1 ha
  have hpa : Pts n a := fun x hx => by have := h3 x hx; omega
  refine ⟨confs_iff.2 ⟨by rw [svX, sortL_len, List.length_set, h1], sortL_asc _, fun x hx => ?_⟩, ?_⟩
  · have h4 := (sortL_perm _).mem_iff.1 hx
    have := hpa.set (s := s) hr x h4
    omega
  · refine (sortL_perm _).mem_iff.2 ?_
    rw [List.mem_iff_getElem]
    exact ⟨s, by rw [List.length_set, h1]; exact hs, by simp⟩
theorem svN_in {M : List (List Int)} {n k s : Nat} {r L : Int} {nx a : List Int} (hd : Dst M n) (hg : GoodW M (confs n k 0) nx L) (ha : a ∈ confs n k 0) (hs : s < k) (hr : 0 ≤ r ∧ r < (n : Int)) : 0 ≤ svN M (confs n k 0) nx a r s ∧ svN M (confs n k 0) nx a r s ≤ L + 99 := by
  obtain ⟨hm, _⟩ := set_conf ha hs hr
  obtain ⟨h1, h2, h3⟩ := confs_iff.1 ha
  have h4 := hg.2 _ (atR_lt hm).1
  have h5 := h3 _ (nth_mem (show s < a.length by omega))
  have h6 := hd.pos (nth a s).toNat r.toNat (by omega) (by omega)
  unfold svN
  omega
/-- the choice is a configuration with the point, and the cost is a distance -/
theorem sv_conf {M : List (List Int)} {n k : Nat} {r L : Int} {nx a : List Int} (hd : Dst M n) (h1k : 1 ≤ k) (hg : GoodW M (confs n k 0) nx L) (hL : L ≤ 2000000) (ha : a ∈ confs n k 0) (hr : 0 ≤ r ∧ r < (n : Int)) :
    svC M (confs n k 0) nx a r ∈ confs n k 0 ∧ r ∈ svC M (confs n k 0) nx a r ∧ 0 ≤ svK M (confs n k 0) nx a r ∧ svK M (confs n k 0) nx a r ≤ 99 := by
  obtain ⟨h1, h2, h3⟩ := confs_iff.1 ha
  cases hh : hasB a r with
  | true =>
    rw [svC, svK, hh]
    exact ⟨ha, hasB_true.1 hh, by simp, by simp⟩
  | false =>
    rw [svC, svK, hh]
    obtain ⟨t, ht, h4⟩ := svT_at (M := M) (P := confs n k 0) (nx := nx) (a := a) (r := r) (s := a.length) (fun t ht => by have := (svN_in hd hg ha (s := t) (by omega) hr).2; omega) (by omega)
    obtain ⟨h5, h6⟩ := set_conf ha (s := t) (by omega) hr
    have h7 := h3 _ (nth_mem ht)
    have h8 := hd.pos (nth a t).toNat r.toNat (by omega) (by omega)
    simp only [h4]
    exact ⟨h5, h6, h8.1, h8.2⟩
/-- the program's moved configuration is the reference's -/
theorem mov_sv {a : List Int} {r : Int} {s : Nat} (hs : s < a.length) : movL a (nth a s) r = svX a r s := by
  have hm := nth_mem hs
  obtain ⟨h1, h2, h3⟩ := ixOf_in hm
  unfold movL svX
  refine asc_uniq (sortL_asc _) (sortL_asc _) ((sortL_perm _).trans (List.Perm.trans ?_ (sortL_perm _).symm))
  have hi : (ixOf a (nth a s)).toNat < a.length := by omega
  generalize (ixOf a (nth a s)).toNat = i at *
  have e1 := perm_set a i r hi
  have e2 := perm_set a s r hs
  refine e1.trans (List.Perm.trans (List.Perm.cons r ?_) e2.symm)
  have f1 := perm_set a i a[i] hi
  have f2 := perm_set a s a[s] hs
  rw [List.set_getElem_self] at f1 f2
  have e : a[i] = a[s] := by simpa [nth, hi, hs] using h3
  have g := f1.symm.trans f2
  rw [e] at g
  exact (List.perm_cons _).1 g
/-- the reference's least: -1 ahead of the first -/
def svL (M P : List (List Int)) (nx a : List Int) (r : Int) (s : Nat) : Int := if s = 0 then -1 else (svT M P nx a r s).2.2
def svQ (M P : List (List Int)) (nx a : List Int) (r : Int) (s : Nat) : Prop := svN M P nx a r s < (svT M P nx a r s).2.2 ∨ (svN M P nx a r s = (svT M P nx a r s).2.2 ∧ lexC (svX a r s) (svT M P nx a r s).1 < 0)
theorem svT_yes {M P : List (List Int)} {nx a : List Int} {r : Int} {s : Nat} (h : svN M P nx a r s < (svT M P nx a r s).2.2 ∨ (svN M P nx a r s = (svT M P nx a r s).2.2 ∧ lexC (svX a r s) (svT M P nx a r s).1 < 0)) : svT M P nx a r (s + 1) = (svX a r s, cell M (nth a s).toNat r.toNat, svN M P nx a r s) := by rw [svT, if_pos h]
theorem svT_no {M P : List (List Int)} {nx a : List Int} {r : Int} {s : Nat} (h : ¬ (svN M P nx a r s < (svT M P nx a r s).2.2 ∨ (svN M P nx a r s = (svT M P nx a r s).2.2 ∧ lexC (svX a r s) (svT M P nx a r s).1 < 0))) : svT M P nx a r (s + 1) = svT M P nx a r s := by rw [svT, if_neg h]

/-- the greatest number of a list -/
def grtL (xs : List Int) : Int := xs.foldl max 0
theorem grtL_snoc (xs : List Int) (x : Int) : grtL (xs ++ [x]) = max (grtL xs) x := by simp [grtL]
theorem grtL_ge : ∀ (xs : List Int) (b : Int), b ≤ xs.foldl max b ∧ ∀ x ∈ xs, x ≤ xs.foldl max b
  | [], b => ⟨Int.le_refl _, by simp⟩
  | y :: xs, b => by
    obtain ⟨h1, h2⟩ := grtL_ge xs (max b y)
    refine ⟨by simp only [List.foldl_cons]; omega, fun x hx => ?_⟩
    simp only [List.foldl_cons]
    rcases List.mem_cons.1 hx with rfl | hx
    · omega
    · exact h2 x hx
theorem grtL_or : ∀ (xs : List Int) (b : Int), xs.foldl max b = b ∨ xs.foldl max b ∈ xs
  | [], b => .inl rfl
  | y :: xs, b => by
    simp only [List.foldl_cons]
    rcases grtL_or xs (max b y) with h | h
    · rw [h]
      by_cases hb : b ≤ y
      · exact .inr (by rw [show max b y = y by omega]; simp)
      · exact .inl (by omega)
    · exact .inr (List.mem_cons_of_mem _ h)
theorem grtL_below {xs : List Int} (h : ∀ x ∈ xs, 0 ≤ x) : decide (99999 < grtL xs) = !belowB 100000 xs := by
  cases hb : belowB 100000 xs with
  | true =>
    have : ¬ 99999 < grtL xs := by
      intro h'
      rcases grtL_or xs 0 with h1 | h1
      · rw [grtL, h1] at h'; omega
      · obtain ⟨k, hk, h2⟩ := mem_iff_nth.1 h1
        have := belowB_at hb hk
        rw [grtL] at h'
        omega
    simp [this]
  | false =>
    have : 99999 < grtL xs := by
      by_cases h' : 99999 < grtL xs
      · exact h'
      · exfalso
        have : belowB 100000 xs = true := belowB_of fun k hk => inB_true.2 ⟨h _ (nth_mem hk), by have := (grtL_ge xs 0).2 _ (nth_mem hk); rw [grtL] at h'; omega⟩
        rw [this] at hb
        cases hb
    simp [this]
theorem grtL_in {xs : List Int} {b : Int} (h0 : 0 ≤ b) (h : ∀ x ∈ xs, x ≤ b) : 0 ≤ grtL xs ∧ grtL xs ≤ b := by
  refine ⟨(grtL_ge xs 0).1, ?_⟩
  rcases grtL_or xs 0 with h1 | h1
  · rw [grtL, h1]; exact h0
  · exact h _ h1
theorem confs_mv {M : List (List Int)} {k : Nat} (hd : Dst M M.length) (hk : k ≤ 3) : ∀ i j, i < (confs M.length k 0).length → j < (confs M.length k 0).length → 0 ≤ mvC M (row (confs M.length k 0) i) (row (confs M.length k 0) j) ∧ mvC M (row (confs M.length k 0) i) (row (confs M.length k 0) j) ≤ 1000 := fun i j hi hj => by
  obtain ⟨g1, g2, g3⟩ := row_conf hi
  obtain ⟨f1, f2, f3⟩ := row_conf hj
  have := mvC_in hd g2 f2 (by rw [g1, f1]) (by omega)
  omega
theorem confs_pos {n k : Nat} (hn : 1 ≤ n) : 1 ≤ (confs n k 0).length := by
  have : List.replicate k (0 : Int) ∈ confs n k 0 := confs_iff.2 ⟨by simp, by unfold Asc; exact List.pairwise_replicate.2 (.inr (Int.le_refl _)), fun x hx => by rw [List.eq_of_mem_replicate hx]; omega⟩
  exact List.length_pos_of_mem this
theorem cfg_conf {n k : Nat} {a : List Int} (h : cfgB n a = true) (hk : a.length = k) : a ∈ confs n k 0 := by
  obtain ⟨_, h2, h3⟩ := cfgB_iff.1 h
  exact confs_iff.2 ⟨hk, h3, fun x hx => by have := h2 x hx; omega⟩
end Go.Proofs.YtmgcfnciejfpbaaGreat

/- One point of a configuration in the place of another one, in order: the reference's. -/
namespace Go.Proofs.YtmgcfnciejfpbaaGreat
open Go.RowKit

set_option maxHeartbeats 400000 in
set_option maxRecDepth 100000 in
theorem l7Swap_any {v : Value} {a : List Int} {s : Nat} {r : Int} {w0 w : World} [Ext w0 w] (ha : IsInts w0 v a) (hs : s < a.length) (hr : I64 r) (hl : a.length ≤ 1000) :
    Calls Tryz.prog 128 #[v, .int .i64 s, .int .i64 r] w fun e w' => ∃ u, e = .returned u ∧ Own w' w.heap.size [intRowOf 3 u (sortL (a.set s r))] ∧ Ext w w' := by
  have ha' := ha
  have hai : ∀ x ∈ a.set s r, I64 x := fun x hx => by
    rcases List.mem_or_eq_of_mem_set hx with h | h
    · obtain ⟨k, hk, rfl⟩ := mem_iff_nth.1 h
      exact ha'.i64 hk
    · rw [h]; exact hr
  replace hai := hid hai
  obtain ⟨da, ma, rfl, la⟩ := ha.form
  go_enter Tryz.func128, Tryz.ntmps128
  go_wp2_with fail
  with_reducible refine (l4With_any (w0 := w0) ha' hs).mono ?_
  rintro e w1 ⟨d, m, rfl, own1, e1⟩
  have hsl := hid (show (a.set s r).length = a.length from List.length_set)
  have hi1 : IsInts w1 (.slice d a.length m) (a.set s r) := own1.reads (by unfold Short; rw [hsl.out]; omega) hai.out
  have hl2 : (a.set s r).length ≤ 1000 := by rw [hsl.out]; exact hl
  go_wp2_with fail
  with_reducible refine (l6Sort_any (w0 := w1) (w := w1) hi1 hl2).mono ?_
  rintro e w2 ⟨u, rfl, own2, e2⟩
  go_wp2_with fail
  go_ret
  exact ⟨_, rfl, own2.mono e1.size, Ext.trans e1 e2⟩
end Go.Proofs.YtmgcfnciejfpbaaGreat

/- The configurations, of the reference. -/
namespace Go.Proofs.YtmgcfnciejfpbaaGreat
open Go.RowKit

theorem itTo_len {n i : Nat} (hn : n ≤ 6) (hi : i ≤ 3) : (itTo n i).length ≤ 216 := by
  have h2 := confs_len hn i 0
  rw [← itTo_confs] at h2
  have h3 : 6 ^ i ≤ 6 ^ 3 := Nat.pow_le_pow_right (by omega) hi
  omega
theorem itTo_rows {n i : Nat} (hn : n ≤ 6) (hi : i ≤ 3) : ShortRows (itTo n i).length ∧ (∀ r ∈ itTo n i, Short r.length) ∧ ∀ r ∈ itTo n i, ∀ x ∈ r, I64 x := by
  rw [itTo_confs]; exact confs_rows hn hi
theorem nth_none {xs : List Int} {k : Nat} (h : xs.length ≤ k) : nth xs k = 0 := by simp [nth, h]
theorem frm_last {n : Nat} {r : List Int} (h : ∀ x ∈ r, 0 ≤ x ∧ x < (n : Int)) : (frm r : Int) = nth r (r.length - 1) := by
  unfold frm
  by_cases h0 : r.length - 1 < r.length
  · have := h _ (nth_mem h0); omega
  · rw [nth_none (by omega)]; rfl
theorem frm_in {n : Nat} {r : List Int} (h : ∀ x ∈ r, 0 ≤ x ∧ x < (n : Int)) : frm r ≤ n := by
  have e := frm_last h
  by_cases h0 : r.length - 1 < r.length
  · have := h _ (nth_mem h0); omega
  · rw [nth_none (by omega)] at e; omega

set_option maxHeartbeats 1600000 in
set_option maxRecDepth 100000 in
theorem l6Configs_any {n k : Nat} (hn : n ≤ 6) (hk : k ≤ 3) (w : World) :
    Calls Tryz.prog 66 #[.int .i64 n, .int .i64 k] w fun e w' => ∃ v, e = .returned v ∧ IsRows w' v (confs n k 0) ∧ Ext w w' := by
  go_enter Tryz.func66, Tryz.ntmps66
  go_upto_region 2 with fail
  have hS := Tab.one w
  have e0 : Ext w ((w.alloc (.cells #[] 3)).alloc (.cells #[.slice (some ⟨w.heap.size, 0, none⟩) 0 0] 27)) := inferInstance
  obtain ⟨B, hB⟩ : ∃ b, b = w.heap.size := ⟨_, rfl⟩
  have b0 : Below B w ((w.alloc (.cells #[] 3)).alloc (.cells #[.slice (some ⟨w.heap.size, 0, none⟩) 0 0] 27)) := by rw [hB]; exact e0.below
  rw [← hB] at hS b0 ⊢
  have hl0 : B ≤ w.heap.size := Nat.le_of_eq hB
  generalize (w.alloc (.cells #[] 3)).alloc (.cells #[.slice (some ⟨B, 0, none⟩) 0 0] 27) = w1 at *
  replace hB := hid hB
  clear e0
  have hS0 : Tab w1 B (.slice (some ⟨B + 1, 0, none⟩) 1 1) (itTo n 0) [] := hS
  clear hS
  go_wp2
  go_loopw [5, 6] (fun v i wr => ∃ j : Nat, j ≤ k ∧ i = .int .i64 j ∧ (∃ R, Tab wr B v (itTo n j) R) ∧ Below B w wr) (fun _ i _ => k - (intOf i).toNat)
  case atStart => exact ⟨0, by omega, rfl, ⟨_, hS0⟩, b0⟩
  case round =>
    obtain ⟨j, hj, rfl, ⟨R0, htab⟩, hb⟩ := hrel
    obtain ⟨d, m, rfl⟩ := htab.form
    obtain ⟨wo, rfl⟩ : ∃ y : World, y = wr := ⟨_, rfl⟩
    have hBo : B ≤ wo.heap.size := Nat.le_trans hl0 hb.size
    by_cases hlt : j < k
    · obtain ⟨R, fr, hown, hR⟩ := htab.sealed (itTo_rows hn (show j ≤ 3 by omega)).1 (itTo_rows hn (show j ≤ 3 by omega)).2.1 (itTo_rows hn (show j ≤ 3 by omega)).2.2
      have h27 := itTo_len hn (show j ≤ 3 by omega)
      have h81 := hid (fun a => itN_len (n := n) (i := j) (a := a) hn (by omega))
      have hns := hid (fun a h => itN_succ (n := n) (i := j) (a := a) h)
      have hna := hid (itN_all n j)
      have hLm := hid (show ∀ r ∈ itTo n j, r.length = j ∧ (∀ x ∈ r, 0 ≤ x ∧ x < (n : Int)) from fun r hr => by
        rw [itTo_confs] at hr
        exact ⟨(confs_mem hr).1, fun x hx => by have := (confs_mem hr).2 x hx; omega⟩)
      have hN0 := itN_zero n j
      obtain ⟨L, hL⟩ : ∃ l, l = itTo n j := ⟨_, rfl⟩
      obtain ⟨N, hN⟩ : ∃ f, f = itN n j := ⟨_, rfl⟩
      rw [← hL] at hR h27 hns hna hLm ⊢
      rw [← hN] at h81 hns hna hN0
      replace hR := hid hR
      replace hL := hid hL
      replace hN := hid hN
      have tab0 : Tab (wo.alloc (.cells #[] 27)) B (.slice (some ⟨wo.heap.size, 0, none⟩) 0 0) (N 0) R := by rw [hN0]; exact Tab.start hown hBo
      have b1 : Below B w (wo.alloc (.cells #[] 27)) := hb.alloc hBo _
      replace hN0 := hid hN0
      clear htab hown
      go_upto_region 6 with fail
      generalize wo.alloc (.cells #[] 27) = w2 at *
      generalize wo.heap.size = g2 at *
      go_wp2
      go_loopw [7, 8] (fun v i wr => ∃ a : Nat, a ≤ L.length ∧ i = .int .i64 a ∧ Tab wr B v (N a) R ∧ Below B w wr) (fun _ i _ => L.length - (intOf i).toNat)
      case atStart => exact ⟨0, by omega, rfl, tab0, b1⟩
      case round =>
        obtain ⟨a, ha, rfl, htab, hb⟩ := hrel
        obtain ⟨d3, n3, m3, rfl, hn3⟩ := htab.formN
        obtain ⟨wq, rfl⟩ : ∃ y : World, y = wr := ⟨_, rfl⟩
        by_cases hlta : a < L.length
        · obtain ⟨b, o, n7, c7, dr, mr, hd2, hfa, hcr, hir⟩ := (hR.out wq htab.rest).2 a hlta
          rw [hfa] at hcr hir
          cases hd2
          have hrl := hid (hLm.out _ (row_mem hlta)).1
          have hrp := hid (hLm.out _ (row_mem hlta)).2
          have hnsa := hid (hns.out a hlta)
          have h81a := h81.out (a + 1)
          rw [hnsa.out, List.length_append] at h81a
          obtain ⟨r, hr⟩ : ∃ r, r = row L a := ⟨_, rfl⟩
          rw [← hr] at hcr hir hrl hrp hnsa h81a
          have hok := hid (show ∀ z, Own z B R → IsInts z (.slice dr r.length mr) r ∧ z.cell? ⟨b, o + a, none⟩ = some (.slice dr r.length mr) from fun z hz => by
            obtain ⟨_, _, _, _, _, _, hq, _, hc, h⟩ := (hR.out z hz).2 a hlta
            cases hq
            rw [hfa, ← hr] at h hc
            exact ⟨h, hc⟩)
          replace hfa := hid hfa
          have hlr : r.length ≤ 17592186044415 := by have := hrl.out; omega
          replace hr := hid hr
          have hfr := hid (frm_in hrp.out)
          have hfr2 := hid (frm_last hrp.out)
          have hS3 : Tab wq B (.slice d3 n3 m3) (N a ++ extT r (frm r)) R := by rw [extT_start, List.append_nil]; exact htab
          clear htab
          by_cases hj0 : j = 0
          · have hjb : ¬ 0 < j := by omega
            have hf0 := hid (show (frm r : Int) = 0 by rw [hfr2.out, nth_none (by have := hrl.out; omega)])
            replace hj0 := hid hj0
            go_wp2_with fail
            go_loopw [7, 10] (fun v i wr => ∃ q : Nat, frm r ≤ q ∧ q ≤ n ∧ i = .int .i64 q ∧ Tab wr B v (N a ++ extT r q) R ∧ Below B w wr) (fun _ i _ => n - (intOf i).toNat)
            case atStart => exact ⟨frm r, Nat.le_refl _, hfr.out, (by rw [hf0.out]), hS3, hb⟩
            case round =>
              obtain ⟨q, hfq, hq, rfl, htab, hb⟩ := hrel
              obtain ⟨d4, n4, m4, rfl, hn4⟩ := htab.formN
              obtain ⟨wp, rfl⟩ : ∃ y : World, y = wr := ⟨_, rfl⟩
              have hBp : B ≤ wp.heap.size := Nat.le_trans hl0 hb.size
              by_cases hltq : q < n
              · obtain ⟨hirp, hcrp⟩ := hok.out wp htab.rest
                have hn := hid (extT_succ hfq)
                have hql := hid (extT_len r q)
                have tab5 := htab.lit #[] [] hBp rfl rfl (by simp) (n := 0)
                have b5 : Below B w (wp.alloc (.cells #[] 3)) := hb.alloc hBp _
                have hB5 : B ≤ (wp.alloc (.cells #[] 3)).heap.size := Nat.le_trans hl0 b5.size
                have hirq : IsInts (wp.alloc (.cells #[] 3)) (.slice dr r.length mr) r := hirp.ext
                have hcrq : (wp.alloc (.cells #[] 3)).cell? ⟨b, o + a, none⟩ = some (.slice dr r.length mr) := (inferInstance : Ext wp _).cell hcrp
                have hzz : ([] : List Int).length = 0 := rfl
                have hlN : (N a ++ extT r q).length ≤ 2000 := by rw [List.length_append]; have := hql.out; have := h81.out a; omega
                obtain ⟨Tq, hTq⟩ : ∃ l, l = N a ++ extT r q := ⟨_, rfl⟩
                rw [← hTq] at tab5 hlN
                have hfin := hid (show N a ++ extT r (q + 1) = Tq ++ [r ++ [(q : Int)]] by rw [hn.out, hTq, List.append_assoc])
                replace hTq := hid hTq
                clear htab
                go_wp2_with (first
                  | (at_builtin; refine wpList_more rfl (.tmp 42) (.tmp 46) rfl rfl tab5 hB5 rfl hirq (by have := hrl.out; simp; omega) ?_; intro v6 w6 tab6 b6; rw [List.nil_append] at tab6; obtain ⟨d6, n6, m6, hv6, hn6⟩ := tab6.rformN; subst hv6)
                  | (at_builtin; refine wpList_grow rfl (.tmp 47) (.tmp 49) rfl rfl tab6 (Nat.le_trans hl0 (b5.trans b6).size) rfl (by have := hrl.out; omega) ?_; intro v7 w7 tab7 b7; obtain ⟨d7, n7, m7, hv7, hn7⟩ := tab7.rformN; subst hv7)
                  | (at_builtin; refine wpList_push rfl (.tmp 41) (.tmp 51) rfl rfl tab7 (Nat.le_trans hl0 ((b5.trans b6).trans b7).size) rfl (by omega) ?_; intro v8 w8 tab8 b8))
                go_roundw
                case rel => exact ⟨q + 1, by omega, by omega, by go_num, tab8.eq hfin.out.symm, ((b5.trans b6).trans b7).trans b8⟩
                case measure => simp [intOf]; omega
              · have hqk : q = n := by omega
                go_wp2_with fail
                go_roundw
                case rel => exact ⟨a + 1, by omega, by go_num, htab.eq (by rw [hnsa.out, hqk]), hb⟩
                case measure => simp [intOf]; omega
          · have hjb : 0 < j := by omega
            replace hj0 := hid hj0
            obtain ⟨b2, o2, hd2, hc2⟩ := hir.at (w' := wq) (k := j - 1) (by have := hrl.out; omega)
            have hjl : j - 1 < r.length := by have := hrl.out; omega
            have hj1 : ((j : Int) - 1) = ((j - 1 : Nat) : Int) := by omega
            have hff := hid (show (frm r : Int) = nth r (j - 1) by rw [hfr2.out, hrl.out])
            subst hd2
            go_wp2_with fail
            go_loopw [7, 10] (fun v i wr => ∃ q : Nat, frm r ≤ q ∧ q ≤ n ∧ i = .int .i64 q ∧ Tab wr B v (N a ++ extT r q) R ∧ Below B w wr) (fun _ i _ => n - (intOf i).toNat)
            case atStart => exact ⟨frm r, Nat.le_refl _, hfr.out, (by rw [hff.out]), hS3, hb⟩
            case round =>
              obtain ⟨q, hfq, hq, rfl, htab, hb⟩ := hrel
              obtain ⟨d4, n4, m4, rfl, hn4⟩ := htab.formN
              obtain ⟨wp, rfl⟩ : ∃ y : World, y = wr := ⟨_, rfl⟩
              have hBp : B ≤ wp.heap.size := Nat.le_trans hl0 hb.size
              by_cases hltq : q < n
              · obtain ⟨hirp, hcrp⟩ := hok.out wp htab.rest
                have hn := hid (extT_succ hfq)
                have hql := hid (extT_len r q)
                have tab5 := htab.lit #[] [] hBp rfl rfl (by simp) (n := 0)
                have b5 : Below B w (wp.alloc (.cells #[] 3)) := hb.alloc hBp _
                have hB5 : B ≤ (wp.alloc (.cells #[] 3)).heap.size := Nat.le_trans hl0 b5.size
                have hirq : IsInts (wp.alloc (.cells #[] 3)) (.slice (some ⟨b2, o2, none⟩) r.length mr) r := hirp.ext
                have hcrq : (wp.alloc (.cells #[] 3)).cell? ⟨b, o + a, none⟩ = some (.slice (some ⟨b2, o2, none⟩) r.length mr) := (inferInstance : Ext wp _).cell hcrp
                have hzz : ([] : List Int).length = 0 := rfl
                have hlN : (N a ++ extT r q).length ≤ 2000 := by rw [List.length_append]; have := hql.out; have := h81.out a; omega
                obtain ⟨Tq, hTq⟩ : ∃ l, l = N a ++ extT r q := ⟨_, rfl⟩
                rw [← hTq] at tab5 hlN
                have hfin := hid (show N a ++ extT r (q + 1) = Tq ++ [r ++ [(q : Int)]] by rw [hn.out, hTq, List.append_assoc])
                replace hTq := hid hTq
                clear htab
                go_wp2_with (first
                  | (at_builtin; refine wpList_more rfl (.tmp 42) (.tmp 46) rfl rfl tab5 hB5 rfl hirq (by have := hrl.out; simp; omega) ?_; intro v6 w6 tab6 b6; rw [List.nil_append] at tab6; obtain ⟨d6, n6, m6, hv6, hn6⟩ := tab6.rformN; subst hv6)
                  | (at_builtin; refine wpList_grow rfl (.tmp 47) (.tmp 49) rfl rfl tab6 (Nat.le_trans hl0 (b5.trans b6).size) rfl (by have := hrl.out; omega) ?_; intro v7 w7 tab7 b7; obtain ⟨d7, n7, m7, hv7, hn7⟩ := tab7.rformN; subst hv7)
                  | (at_builtin; refine wpList_push rfl (.tmp 41) (.tmp 51) rfl rfl tab7 (Nat.le_trans hl0 ((b5.trans b6).trans b7).size) rfl (by omega) ?_; intro v8 w8 tab8 b8))
                go_roundw
                case rel => exact ⟨q + 1, by omega, by omega, by go_num, tab8.eq hfin.out.symm, ((b5.trans b6).trans b7).trans b8⟩
                case measure => simp [intOf]; omega
              · have hqk : q = n := by omega
                go_wp2_with fail
                go_roundw
                case rel => exact ⟨a + 1, by omega, by go_num, htab.eq (by rw [hnsa.out, hqk]), hb⟩
                case measure => simp [intOf]; omega
        · have hal : a = L.length := by omega
          go_wp2_with fail
          go_roundw
          case rel => exact ⟨j + 1, by omega, by go_num, ⟨R, htab.eq (by rw [hal]; exact hna.out)⟩, hb⟩
          case measure => simp [intOf]; omega
    · have hjk : j = k := by omega
      have hrd := htab.reads (itTo_rows hn (show j ≤ 3 by omega)).1 (itTo_rows hn (show j ≤ 3 by omega)).2.1 (itTo_rows hn (show j ≤ 3 by omega)).2.2
      have hfin := hid (show IsRows wo (.slice d (itTo n j).length m) (confs n k 0) by rw [← itTo_confs, ← hjk]; exact hrd)
      replace hjk := hid hjk
      go_wp2_with fail
      go_ret
      exact ⟨_, rfl, hfin.out, ⟨by rw [← hB.out]; exact hb⟩⟩
end Go.Proofs.YtmgcfnciejfpbaaGreat

/- The next work list, as the reference makes it. -/
namespace Go.Proofs.YtmgcfnciejfpbaaGreat
open Go.RowKit

theorem confs_216 {n k : Nat} (hn : n ≤ 6) (hk : k ≤ 3) : (confs n k 0).length ≤ 216 := by
  have h1 := confs_len hn k 0
  have h2 : 6 ^ k ≤ 6 ^ 3 := Nat.pow_le_pow_right (by omega) hk
  omega
theorem pts_i64 {n : Nat} {a : List Int} (h : Pts n a) (hn : n ≤ 1000000) : ∀ x ∈ a, I64 x := fun x hx => by
  have := h x hx
  unfold I64
  omega
theorem met_row {M : List (List Int)} (h : metB M = true) {x : Nat} (hx : x < M.length) : (row M x).length = M.length := by
  have := met_sq h
  simp only [square, decide_eq_true_eq] at this
  exact this _ (row_mem hx)
theorem good_i64 {M P : List (List Int)} {ws : List Int} {L : Int} (h : GoodW M P ws L) (hL : L ≤ 2000000) : ∀ x ∈ ws, I64 x := fun x hx => by
  obtain ⟨j, hj, rfl⟩ := mem_iff_nth.1 hx
  have := h.2 j (by rw [← h.1.1]; exact hj)
  unfold I64
  omega

set_option maxHeartbeats 3200000 in
set_option maxRecDepth 100000 in
theorem l7NextO_any {v vw : Value} {M : List (List Int)} {ws : List Int} {k : Nat} {r L : Int} {w0 w : World} [Ext w0 w] (hm : IsMet w0 v M) (hM : metB M = true) (hw : IsInts w0 vw ws) (h1k : 1 ≤ k) (hk : k ≤ 3) (hg : GoodW M (confs M.length k 0) ws L) (hL : L ≤ 1000000) (hr : 0 ≤ r ∧ r < (M.length : Int)) :
    Calls Tryz.prog 73 #[v, .int .i64 k, vw, .int .i64 r] w fun e w' => ∃ u, e = .returned u ∧ Own w' w.heap.size [intRowOf 3 u (wnxL M (confs M.length k 0) ws r)] ∧ Ext w w' := by
  obtain ⟨rn, rfl⟩ : ∃ rn : Nat, r = (rn : Int) := ⟨r.toNat, by omega⟩
  obtain ⟨v1, rfl, hR⟩ := hm
  obtain ⟨a1, c1, rfl, l1⟩ := hR.form
  obtain ⟨dw, mw, rfl, lw⟩ := hw.form
  have hMl := met_len hM
  have hMr := hid (fun (x : Nat) (hx : x < M.length) => met_row hM hx)
  have hdst := hid (dst_of_met hM)
  replace hM := hid hM
  have hrn : rn < M.length := by omega
  have hri := hid (show I64 (rn : Int) by unfold I64; omega)
  have hrp := hid hr
  clear hr
  have hPm := hid (show ∀ i, i < (confs M.length k 0).length → (row (confs M.length k 0) i).length = k ∧ Pts M.length (row (confs M.length k 0) i) from fun i hi => by
    obtain ⟨h1, h2, _⟩ := row_conf hi
    exact ⟨h1, h2⟩)
  have hSw := hid (show ∀ i s, i < (confs M.length k 0).length → s < k → sortL ((row (confs M.length k 0) i).set s rn) ∈ confs M.length k 0 from fun i s hi hs => (sw_conf hi hs hrp.out).1)
  have hNx := hid (show ∀ i, i < (confs M.length k 0).length → snAt M (confs M.length k 0) ws rn i k = nth (wnxL M (confs M.length k 0) ws rn) i from fun i hi => by
    rw [wnx_at (by rw [hg.1.1]; exact hi)]
    exact next_eq hdst.out h1k hk hg.1 (fun j hj => ⟨(hg.2 j hj).1, by have := (hg.2 j hj).2; omega⟩) hdst.out.pos hi hrp.out)
  have hgood := hid (wnx_good hdst.out h1k hk hg hL hrp.out).1
  have hwb := hid (show ∀ j, j < (confs M.length k 0).length → 0 ≤ nth ws j ∧ nth ws j ≤ 1000000 from fun j hj => by have := hg.2 j hj; omega)
  have hlw := hid hg.1.1
  replace hg := hid hg
  have h216 := confs_216 hMl.2 hk
  go_enter Tryz.func73, Tryz.ntmps73
  go_wp2_with fail
  refine (l6Configs_any (n := M.length) hMl.2 hk _).mono ?_
  rintro e wP ⟨vP, rfl, hP, eP⟩
  have x0 : wP.cell? ⟨w.heap.size, 0, none⟩ = some (.slice a1 M.length c1) := eP.cell (by go_simp)
  have ePw : Ext w wP := Ext.trans inferInstance eP
  have e0P : Ext w0 wP := Ext.trans ‹Ext w0 w› ePw
  clear eP
  obtain ⟨bx, hbx⟩ : ∃ q, q = w.heap.size := ⟨_, rfl⟩
  rw [← hbx] at x0 ⊢
  have hBw := hid (show w.heap.size ≤ wP.heap.size from ePw.size)
  replace hbx := hid hbx
  obtain ⟨P, hPd⟩ : ∃ p, p = confs M.length k 0 := ⟨_, rfl⟩
  rw [← hPd] at hP hPm hSw hNx hgood hwb hlw h216
  replace hPd := hid hPd
  obtain ⟨aP, cP, rfl, lP⟩ := hP.form
  obtain ⟨Xs, hXs⟩ : ∃ x, x = wnxL M P ws rn := ⟨_, rfl⟩
  have hXl := hid (show Xs.length = P.length by rw [hXs, wnxL_len, hlw.out])
  rw [← hXs] at hNx hgood
  replace hXs := hid hXs
  obtain ⟨B, hB⟩ : ∃ b, b = wP.heap.size := ⟨_, rfl⟩
  have own0 : Own (wP.alloc (.cells #[] 3)) B [intRowOf 3 (.slice (some ⟨wP.heap.size, 0, none⟩) ([] : List Int).length 0) []] := by
    rw [hB]
    exact Own.litInts (Nat.le_refl _) rfl rfl (by simp) rfl
  have b0 : Below B wP (wP.alloc (.cells #[] 3)) := by rw [hB]; exact (Below.refl _ _).alloc (Nat.le_refl _) _
  have hEx := hid (show ∀ u, Below B wP u → Ext wP u from fun u h => ⟨by rw [← hB]; exact h⟩)
  rw [← hB] at hBw
  replace hB := hid hB
  go_wp2_with fail
  go_loopw [10, 11] (fun ov i wr => ∃ j : Nat, j ≤ P.length ∧ i = .int .i64 j ∧ Own wr B [intRowOf 3 ov (Xs.take j)] ∧ Below B wP wr) (fun _ i _ => P.length - (intOf i).toNat)
  case atStart => exact ⟨0, by omega, rfl, own0, b0⟩
  case round =>
    obtain ⟨j, hj, rfl, hown, hb⟩ := hrel
    obtain ⟨wo, rfl⟩ : ∃ y : World, y = wr := ⟨_, rfl⟩
    obtain ⟨d0, n0, m0, rfl, hn0⟩ := own_formN hown
    clear own0 b0
    by_cases hlt : j < P.length
    · go_wp2_with fail
      go_loopw [12, 13] (fun lv i wr => ∃ s : Nat, s ≤ k ∧ i = .int .i64 s ∧ lv = .int .i64 (snAt M P ws rn j s) ∧ Own wr B [intRowOf 3 (.slice d0 n0 m0) (Xs.take j)] ∧ Below B wP wr) (fun _ i _ => k - (intOf i).toNat)
      case atStart => exact ⟨0, by omega, rfl, rfl, hown, hb⟩
      case round =>
        clear hown hb
        obtain ⟨s, hs, rfl, rfl, hown, hb⟩ := hrel
        obtain ⟨wq, rfl⟩ : ∃ y : World, y = wr := ⟨_, rfl⟩
        by_cases hlts : s < k
        · have eq : Ext wP wq := hEx.out _ hb
          have e0q : Ext w0 wq := Ext.trans e0P eq
          have hBq : B ≤ wq.heap.size := by rw [hB.out]; exact eq.size
          obtain ⟨bP, oP, d1, m1, hdP, hc1, hi1, _⟩ := hP.at (w' := wq) hlt
          cases hdP
          obtain ⟨hcl, hcp⟩ := hPm.out j hlt
          have hmem := hid (hSw.out j s hlt hlts)
          have htl := (atR_lt hmem.out).1
          have hsc : s < (row P j).length := by rw [hcl]; exact hlts
          obtain ⟨bc, oc, x, hd1, hx, hxM, hcc⟩ := hi1.pt (w' := wq) hcp (k := s) hsc
          cases hd1
          obtain ⟨bM, oM, dR, mR, hdM, hcM, hiR, _⟩ := hR.at (w' := wq) (k := x) hxM
          cases hdM
          have hRl : rn < (row M x).length := by rw [hMr.out x hxM]; exact hrn
          obtain ⟨bR, oR, hdR, hcR⟩ := hiR.at (w' := wq) (k := rn) hRl
          cases hdR
          have hswl := hid (show (sortL ((row P j).set s rn)).length = k by rw [sortL_len, List.length_set, hcl])
          have hswi := hid (show ∀ y ∈ sortL ((row P j).set s rn), I64 y from pts_i64 (n := M.length) ((hcp.set hrp.out).perm (sortL_perm _)) (by omega))
          obtain ⟨t, ht⟩ : ∃ t, t = atR P (sortL ((row P j).set s rn)) := ⟨_, rfl⟩
          rw [← ht] at htl
          have htw : t < ws.length := by rw [hlw.out]; exact htl
          obtain ⟨bw, ow, hdw, hcw⟩ := hw.at (w' := wq) htw
          cases hdw
          have x0q := eq.cell x0
          have hsum := hid (show swS M P ws rn j s = nth ws t + nth (row M x) rn by
            unfold swS swC
            rw [← ht, hx]
            rfl)
          have hq1 := hwb.out t htl
          have hq2 : 0 ≤ nth (row M x) rn ∧ nth (row M x) rn ≤ 99 := hdst.out.pos x rn hxM hrn
          have hnx := hid (show snAt M P ws rn j (s + 1) = if snAt M P ws rn j s < 0 ∨ swS M P ws rn j s < snAt M P ws rn j s then swS M P ws rn j s else snAt M P ws rn j s from rfl)
          rw [hsum.out] at hnx
          generalize hlg : snAt M P ws rn j s = l at *
          replace hlg := hid hlg
          have hat := hid ht.symm
          replace ht := hid ht
          replace hx := hid hx
          obtain ⟨wt, hwt⟩ : ∃ y, y = nth ws t := ⟨_, rfl⟩
          rw [← hwt] at hcw hnx hq1
          replace hwt := hid hwt
          obtain ⟨dc, hdc⟩ : ∃ y, y = nth (row M x) rn := ⟨_, rfl⟩
          rw [← hdc] at hcR hnx hq2
          replace hdc := hid hdc
          obtain ⟨Rx, hRx⟩ : ∃ y, y = row M x := ⟨_, rfl⟩
          rw [← hRx] at hcM hiR hRl
          replace hRx := hid hRx
          obtain ⟨c, hc⟩ : ∃ y, y = row P j := ⟨_, rfl⟩
          rw [← hc] at hc1 hi1 hcl hcp hmem hsc hswl hswi hat
          replace hc := hid hc
          replace hcl := hid hcl
          have hck : c.length ≤ 3 := by rw [hcl.out]; exact hk
          have hSx := hid (show ∀ u, Ext wq u → u.cell? ⟨bP, oP + j, none⟩ = some (.slice (some ⟨bc, oc, none⟩) c.length m1) ∧ u.cell? ⟨bw, ow + t, none⟩ = some (.int .i64 wt) ∧ u.cell? ⟨bx, 0, none⟩ = some (.slice (some ⟨bM, oM, none⟩) M.length c1) ∧ u.cell? ⟨bc, oc + s, none⟩ = some (.int .i64 (x : Int)) ∧ u.cell? ⟨bM, oM + x, none⟩ = some (.slice (some ⟨bR, oR, none⟩) Rx.length mR) ∧ u.cell? ⟨bR, oR + rn, none⟩ = some (.int .i64 dc) from fun u e => ⟨e.cell hc1, e.cell hcw, e.cell x0q, e.cell hcc, e.cell hcM, e.cell hcR⟩)
          clear hc1 hcw hcc hcM hcR x0q
          have hs1 : IntKind.i64.wrap (wt + dc) = wt + dc := IntWalk.i64_in _ (by omega)
          by_cases hl0 : l < 0
          · have hl0' : decide (l < 0) = true := decide_eq_true hl0
            have hy := hid (show snAt M P ws rn j (s + 1) = wt + dc by rw [hnx.out, if_pos (.inl hl0)])
            clear hnx
            go_wp2_with fail
            refine region_held_from (w0 := wq) (S := fun u => u.cell? ⟨bP, oP + j, none⟩ = some (.slice (some ⟨bc, oc, none⟩) c.length m1) ∧ u.cell? ⟨bw, ow + t, none⟩ = some (.int .i64 wt) ∧ u.cell? ⟨bx, 0, none⟩ = some (.slice (some ⟨bM, oM, none⟩) M.length c1) ∧ u.cell? ⟨bc, oc + s, none⟩ = some (.int .i64 (x : Int)) ∧ u.cell? ⟨bM, oM + x, none⟩ = some (.slice (some ⟨bR, oR, none⟩) Rx.length mR) ∧ u.cell? ⟨bR, oR + rn, none⟩ = some (.int .i64 dc)) (by kernel_rfl) hSx.out (fun wd ed hHeld0 => ?_)
            have ePd : Ext wP wd := Ext.trans eq ed
            refine wpAnyH_take (i := 0) (v := .slice (some ⟨bw, ow, none⟩) ws.length mw) rfl (by kernel_rfl) (by kernel_rfl) (by kernel_rfl) (fun _ _ _ h => h) (Or.inl ⟨by rfl, by intro wx hx; go_simp⟩) (by assumption) ?_
            try simp only [List.getElem_toArray, List.getElem_cons_zero, Act.put, List.setIfInBounds_toArray, List.set_cons_zero, List.set_cons_succ]
            refine wpAnyH_take (i := 1) (v := .slice (some ⟨bP, oP, none⟩) P.length cP) rfl (by kernel_rfl) (by kernel_rfl) (by kernel_rfl) (fun _ _ _ h => h) (Or.inl ⟨by rfl, by intro wx hx; go_simp⟩) (by assumption) ?_
            try simp only [List.getElem_toArray, List.getElem_cons_succ, List.getElem_cons_zero, Act.put, List.setIfInBounds_toArray, List.set_cons_zero, List.set_cons_succ]
            refine wpAnyH_take (i := 2) (v := .slice (some ⟨bP, oP, none⟩) P.length cP) rfl (by kernel_rfl) (by kernel_rfl) (by kernel_rfl) (fun _ _ _ h => h) (Or.inl ⟨by rfl, by intro wx hx; go_simp⟩) (by assumption) ?_
            try simp only [List.getElem_toArray, List.getElem_cons_succ, List.getElem_cons_zero, Act.put, List.setIfInBounds_toArray, List.set_cons_zero, List.set_cons_succ]
            refine wpAnyH_take (i := 3) (v := .int .i64 j) rfl (by kernel_rfl) (by kernel_rfl) (by kernel_rfl) (fun _ _ _ h => h) (Or.inl ⟨by rfl, by intro wx hx; go_simp⟩) (by assumption) ?_
            try simp only [List.getElem_toArray, List.getElem_cons_succ, List.getElem_cons_zero, Act.put, List.setIfInBounds_toArray, List.set_cons_zero, List.set_cons_succ]
            refine wpAnyH_take (i := 4) (v := .pointer (some ⟨bP, oP + j, none⟩)) rfl (by kernel_rfl) (by kernel_rfl) (by kernel_rfl) (fun _ _ _ h => h) (Or.inl ⟨by rfl, by intro wx hx; go_simp⟩) (by assumption) ?_
            try simp only [List.getElem_toArray, List.getElem_cons_succ, List.getElem_cons_zero, Act.put, List.setIfInBounds_toArray, List.set_cons_zero, List.set_cons_succ]
            refine wpAnyH_take (i := 5) (v := .slice (some ⟨bc, oc, none⟩) c.length m1) rfl (by kernel_rfl) (by kernel_rfl) (by kernel_rfl) (fun _ _ _ h => h) (Or.inl ⟨by rfl, by intro wx hx; obtain ⟨_, _, _, _, _, _⟩ := hx; go_simp⟩) (by assumption) ?_
            try simp only [List.getElem_toArray, List.getElem_cons_succ, List.getElem_cons_zero, Act.put, List.setIfInBounds_toArray, List.set_cons_zero, List.set_cons_succ]
            refine wpAnyH_take (i := 6) (v := .int .i64 s) rfl (by kernel_rfl) (by kernel_rfl) (by kernel_rfl) (fun _ _ _ h => h) (Or.inl ⟨by rfl, by intro wx hx; go_simp⟩) (by assumption) ?_
            try simp only [List.getElem_toArray, List.getElem_cons_succ, List.getElem_cons_zero, Act.put, List.setIfInBounds_toArray, List.set_cons_zero, List.set_cons_succ]
            refine wpAnyH_take (i := 7) (v := .int .i64 rn) rfl (by kernel_rfl) (by kernel_rfl) (by kernel_rfl) (fun _ _ _ h => h) (Or.inl ⟨by rfl, by intro wx hx; go_simp⟩) (by assumption) ?_
            try simp only [List.getElem_toArray, List.getElem_cons_succ, List.getElem_cons_zero, Act.put, List.setIfInBounds_toArray, List.set_cons_zero, List.set_cons_succ]
            refine wpAnyH_take (i := 12) (v := .pointer (some ⟨bx, 0, none⟩)) rfl (by kernel_rfl) (by kernel_rfl) (by kernel_rfl) (fun _ _ _ h => h) (Or.inl ⟨by rfl, by intro wx hx; go_simp⟩) (by assumption) ?_
            try simp only [List.getElem_toArray, List.getElem_cons_succ, List.getElem_cons_zero, Act.put, List.setIfInBounds_toArray, List.set_cons_zero, List.set_cons_succ]
            refine wpAnyH_take (i := 13) (v := .slice (some ⟨bM, oM, none⟩) M.length c1) rfl (by kernel_rfl) (by kernel_rfl) (by kernel_rfl) (fun _ _ _ h => h) (Or.inl ⟨by rfl, by intro wx hx; obtain ⟨_, _, _, _, _, _⟩ := hx; go_simp⟩) (by assumption) ?_
            try simp only [List.getElem_toArray, List.getElem_cons_succ, List.getElem_cons_zero, Act.put, List.setIfInBounds_toArray, List.set_cons_zero, List.set_cons_succ]
            refine wpAnyH_take (i := 14) (v := .slice (some ⟨bP, oP, none⟩) P.length cP) rfl (by kernel_rfl) (by kernel_rfl) (by kernel_rfl) (fun _ _ _ h => h) (Or.inl ⟨by rfl, by intro wx hx; go_simp⟩) (by assumption) ?_
            try simp only [List.getElem_toArray, List.getElem_cons_succ, List.getElem_cons_zero, Act.put, List.setIfInBounds_toArray, List.set_cons_zero, List.set_cons_succ]
            refine wpAnyH_take (i := 15) (v := .int .i64 j) rfl (by kernel_rfl) (by kernel_rfl) (by kernel_rfl) (fun _ _ _ h => h) (Or.inl ⟨by rfl, by intro wx hx; go_simp⟩) (by assumption) ?_
            try simp only [List.getElem_toArray, List.getElem_cons_succ, List.getElem_cons_zero, Act.put, List.setIfInBounds_toArray, List.set_cons_zero, List.set_cons_succ]
            refine wpAnyH_take (i := 16) (v := .pointer (some ⟨bP, oP + j, none⟩)) rfl (by kernel_rfl) (by kernel_rfl) (by kernel_rfl) (fun _ _ _ h => h) (Or.inl ⟨by rfl, by intro wx hx; go_simp⟩) (by assumption) ?_
            try simp only [List.getElem_toArray, List.getElem_cons_succ, List.getElem_cons_zero, Act.put, List.setIfInBounds_toArray, List.set_cons_zero, List.set_cons_succ]
            refine wpAnyH_take (i := 17) (v := .slice (some ⟨bc, oc, none⟩) c.length m1) rfl (by kernel_rfl) (by kernel_rfl) (by kernel_rfl) (fun _ _ _ h => h) (Or.inl ⟨by rfl, by intro wx hx; obtain ⟨_, _, _, _, _, _⟩ := hx; go_simp⟩) (by assumption) ?_
            try simp only [List.getElem_toArray, List.getElem_cons_succ, List.getElem_cons_zero, Act.put, List.setIfInBounds_toArray, List.set_cons_zero, List.set_cons_succ]
            refine wpAnyH_take (i := 18) (v := .int .i64 s) rfl (by kernel_rfl) (by kernel_rfl) (by kernel_rfl) (fun _ _ _ h => h) (Or.inl ⟨by rfl, by intro wx hx; go_simp⟩) (by assumption) ?_
            try simp only [List.getElem_toArray, List.getElem_cons_succ, List.getElem_cons_zero, Act.put, List.setIfInBounds_toArray, List.set_cons_zero, List.set_cons_succ]
            refine wpAnyH_take (i := 19) (v := .pointer (some ⟨bc, oc + s, none⟩)) rfl (by kernel_rfl) (by kernel_rfl) (by kernel_rfl) (fun _ _ _ h => h) (Or.inl ⟨by rfl, by intro wx hx; go_simp⟩) (by assumption) ?_
            try simp only [List.getElem_toArray, List.getElem_cons_succ, List.getElem_cons_zero, Act.put, List.setIfInBounds_toArray, List.set_cons_zero, List.set_cons_succ]
            refine wpAnyH_take (i := 20) (v := .int .i64 x) rfl (by kernel_rfl) (by kernel_rfl) (by kernel_rfl) (fun _ _ _ h => h) (Or.inl ⟨by rfl, by intro wx hx; obtain ⟨_, _, _, _, _, _⟩ := hx; go_simp⟩) (by assumption) ?_
            try simp only [List.getElem_toArray, List.getElem_cons_succ, List.getElem_cons_zero, Act.put, List.setIfInBounds_toArray, List.set_cons_zero, List.set_cons_succ]
            refine wpAnyH_take (i := 21) (v := .pointer (some ⟨bM, oM + x, none⟩)) rfl (by kernel_rfl) (by kernel_rfl) (by kernel_rfl) (fun _ _ _ h => h) (Or.inl ⟨by rfl, by intro wx hx; go_simp⟩) (by assumption) ?_
            try simp only [List.getElem_toArray, List.getElem_cons_succ, List.getElem_cons_zero, Act.put, List.setIfInBounds_toArray, List.set_cons_zero, List.set_cons_succ]
            refine wpAnyH_take (i := 22) (v := .slice (some ⟨bR, oR, none⟩) Rx.length mR) rfl (by kernel_rfl) (by kernel_rfl) (by kernel_rfl) (fun _ _ _ h => h) (Or.inl ⟨by rfl, by intro wx hx; obtain ⟨_, _, _, _, _, _⟩ := hx; go_simp⟩) (by assumption) ?_
            try simp only [List.getElem_toArray, List.getElem_cons_succ, List.getElem_cons_zero, Act.put, List.setIfInBounds_toArray, List.set_cons_zero, List.set_cons_succ]
            refine wpAnyH_take (i := 23) (v := .int .i64 rn) rfl (by kernel_rfl) (by kernel_rfl) (by kernel_rfl) (fun _ _ _ h => h) (Or.inl ⟨by rfl, by intro wx hx; go_simp⟩) (by assumption) ?_
            try simp only [List.getElem_toArray, List.getElem_cons_succ, List.getElem_cons_zero, Act.put, List.setIfInBounds_toArray, List.set_cons_zero, List.set_cons_succ]
            refine wpAnyH_take (i := 24) (v := .pointer (some ⟨bR, oR + rn, none⟩)) rfl (by kernel_rfl) (by kernel_rfl) (by kernel_rfl) (fun _ _ _ h => h) (Or.inl ⟨by rfl, by intro wx hx; go_simp⟩) (by assumption) ?_
            try simp only [List.getElem_toArray, List.getElem_cons_succ, List.getElem_cons_zero, Act.put, List.setIfInBounds_toArray, List.set_cons_zero, List.set_cons_succ]
            refine wpAnyH_take (i := 25) (v := .int .i64 dc) rfl (by kernel_rfl) (by kernel_rfl) (by kernel_rfl) (fun _ _ _ h => h) (Or.inl ⟨by rfl, by intro wx hx; obtain ⟨_, _, _, _, _, _⟩ := hx; go_simp⟩) (by assumption) ?_
            try simp only [List.getElem_toArray, List.getElem_cons_succ, List.getElem_cons_zero, Act.put, List.setIfInBounds_toArray, List.set_cons_zero, List.set_cons_succ]
            refine wpAnyH_ready (rs := [8]) (by kernel_rfl) (by simp) ?_
            refine AllReadyH.cons rfl (fun K hK => ?_) AllReadyH.nil
            go_simp
            go_at_call 128
            refine (l7Swap_any (w0 := wP) hi1 hsc hri.out (by omega)).mono ?_
            rintro e w5 ⟨u5, rfl, own5, e5⟩
            have e5q : Ext wq w5 := Ext.trans ed e5
            have hU : IsInts w5 u5 (sortL (c.set s rn)) := own5.reads (by unfold Short; rw [hswl.out]; omega) hswi.out
            clear own5
            have hS5 := hSx.out w5 e5q
            go_wp2_with fail
            refine hK.out _ _ hS5 (fun _ => ?_)
            clear hK K
            try simp only [List.getElem_toArray, List.getElem_cons_succ, List.getElem_cons_zero, Act.put, List.setIfInBounds_toArray, List.set_cons_zero, List.set_cons_succ]
            refine wpAnyH_ready (rs := [9]) (by kernel_rfl) (by simp) ?_
            refine AllReadyH.cons rfl (fun K hK => ?_) AllReadyH.nil
            go_simp
            go_at_call 81
            refine (l7Index_any (w0 := w5) (w := w5) (hP.ext (e := Ext.trans eq e5q)) hU hmem.out).mono ?_
            rw [hat.out]
            rintro e w6 ⟨rfl, e6⟩
            have e6q : Ext wq w6 := Ext.trans e5q e6
            have hS6 := hSx.out w6 e6q
            go_wp2_with fail
            refine hK.out _ _ hS6 (fun _ => ?_)
            clear hK K
            try simp only [List.getElem_toArray, List.getElem_cons_succ, List.getElem_cons_zero, Act.put, List.setIfInBounds_toArray, List.set_cons_zero, List.set_cons_succ]
            refine wpAnyH_take (i := 10) (v := .pointer (some ⟨bw, ow + t, none⟩)) rfl (by kernel_rfl) (by kernel_rfl) (by kernel_rfl) (fun _ _ _ h => h) (Or.inl ⟨by rfl, by intro wx hx; go_simp⟩) (by assumption) ?_
            try simp only [List.getElem_toArray, List.getElem_cons_succ, List.getElem_cons_zero, Act.put, List.setIfInBounds_toArray, List.set_cons_zero, List.set_cons_succ]
            refine wpAnyH_take (i := 11) (v := .int .i64 wt) rfl (by kernel_rfl) (by kernel_rfl) (by kernel_rfl) (fun _ _ _ h => h) (Or.inl ⟨by rfl, by intro wx hx; obtain ⟨_, _, _, _, _, _⟩ := hx; go_simp⟩) (by assumption) ?_
            try simp only [List.getElem_toArray, List.getElem_cons_succ, List.getElem_cons_zero, Act.put, List.setIfInBounds_toArray, List.set_cons_zero, List.set_cons_succ]
            refine wpAnyH_take (i := 26) (v := .int .i64 (wt + dc)) rfl (by kernel_rfl) (by kernel_rfl) (by kernel_rfl) (fun _ _ _ h => h) (Or.inl ⟨by rfl, by intro wx hx; go_simp⟩) (by assumption) ?_
            try simp only [List.getElem_toArray, List.getElem_cons_succ, List.getElem_cons_zero, Act.put, List.setIfInBounds_toArray, List.set_cons_zero, List.set_cons_succ]
            refine wpAnyH_take (i := 27) (v := .int .i64 (wt + dc)) rfl (by kernel_rfl) (by kernel_rfl) (by kernel_rfl) (fun _ _ _ h => h) (Or.inl ⟨by rfl, by intro wx hx; go_simp⟩) (by assumption) ?_
            try simp only [List.getElem_toArray, List.getElem_cons_succ, List.getElem_cons_zero, Act.put, List.setIfInBounds_toArray, List.set_cons_zero, List.set_cons_succ]
            refine wpAnyH_done (by kernel_rfl) ?_ _
            go_wp2_with fail
            go_roundw
            case rel => exact ⟨s + 1, by omega, by go_num, by rw [hy.out], hown.ext (e := e6q), hb.trans (e6q.below.mono hBq)⟩
            case measure => simp [intOf]; omega
          · have hl0' : decide (l < 0) = false := decide_eq_false hl0
            by_cases hl1 : wt + dc < l
            · have hl1' : decide (wt + dc < l) = true := decide_eq_true hl1
              have hy := hid (show snAt M P ws rn j (s + 1) = wt + dc by rw [hnx.out, if_pos (.inr hl1)])
              clear hnx
              go_wp2_with fail
              refine region_held_from (w0 := wq) (S := fun u => u.cell? ⟨bP, oP + j, none⟩ = some (.slice (some ⟨bc, oc, none⟩) c.length m1) ∧ u.cell? ⟨bw, ow + t, none⟩ = some (.int .i64 wt) ∧ u.cell? ⟨bx, 0, none⟩ = some (.slice (some ⟨bM, oM, none⟩) M.length c1) ∧ u.cell? ⟨bc, oc + s, none⟩ = some (.int .i64 (x : Int)) ∧ u.cell? ⟨bM, oM + x, none⟩ = some (.slice (some ⟨bR, oR, none⟩) Rx.length mR) ∧ u.cell? ⟨bR, oR + rn, none⟩ = some (.int .i64 dc)) (by kernel_rfl) hSx.out (fun wd ed hHeld0 => ?_)
              have ePd : Ext wP wd := Ext.trans eq ed
              refine wpAnyH_take (i := 0) (v := .slice (some ⟨bw, ow, none⟩) ws.length mw) rfl (by kernel_rfl) (by kernel_rfl) (by kernel_rfl) (fun _ _ _ h => h) (Or.inl ⟨by rfl, by intro wx hx; go_simp⟩) (by assumption) ?_
              try simp only [List.getElem_toArray, List.getElem_cons_zero, Act.put, List.setIfInBounds_toArray, List.set_cons_zero, List.set_cons_succ]
              refine wpAnyH_take (i := 1) (v := .slice (some ⟨bP, oP, none⟩) P.length cP) rfl (by kernel_rfl) (by kernel_rfl) (by kernel_rfl) (fun _ _ _ h => h) (Or.inl ⟨by rfl, by intro wx hx; go_simp⟩) (by assumption) ?_
              try simp only [List.getElem_toArray, List.getElem_cons_succ, List.getElem_cons_zero, Act.put, List.setIfInBounds_toArray, List.set_cons_zero, List.set_cons_succ]
              refine wpAnyH_take (i := 2) (v := .slice (some ⟨bP, oP, none⟩) P.length cP) rfl (by kernel_rfl) (by kernel_rfl) (by kernel_rfl) (fun _ _ _ h => h) (Or.inl ⟨by rfl, by intro wx hx; go_simp⟩) (by assumption) ?_
              try simp only [List.getElem_toArray, List.getElem_cons_succ, List.getElem_cons_zero, Act.put, List.setIfInBounds_toArray, List.set_cons_zero, List.set_cons_succ]
              refine wpAnyH_take (i := 3) (v := .int .i64 j) rfl (by kernel_rfl) (by kernel_rfl) (by kernel_rfl) (fun _ _ _ h => h) (Or.inl ⟨by rfl, by intro wx hx; go_simp⟩) (by assumption) ?_
              try simp only [List.getElem_toArray, List.getElem_cons_succ, List.getElem_cons_zero, Act.put, List.setIfInBounds_toArray, List.set_cons_zero, List.set_cons_succ]
              refine wpAnyH_take (i := 4) (v := .pointer (some ⟨bP, oP + j, none⟩)) rfl (by kernel_rfl) (by kernel_rfl) (by kernel_rfl) (fun _ _ _ h => h) (Or.inl ⟨by rfl, by intro wx hx; go_simp⟩) (by assumption) ?_
              try simp only [List.getElem_toArray, List.getElem_cons_succ, List.getElem_cons_zero, Act.put, List.setIfInBounds_toArray, List.set_cons_zero, List.set_cons_succ]
              refine wpAnyH_take (i := 5) (v := .slice (some ⟨bc, oc, none⟩) c.length m1) rfl (by kernel_rfl) (by kernel_rfl) (by kernel_rfl) (fun _ _ _ h => h) (Or.inl ⟨by rfl, by intro wx hx; obtain ⟨_, _, _, _, _, _⟩ := hx; go_simp⟩) (by assumption) ?_
              try simp only [List.getElem_toArray, List.getElem_cons_succ, List.getElem_cons_zero, Act.put, List.setIfInBounds_toArray, List.set_cons_zero, List.set_cons_succ]
              refine wpAnyH_take (i := 6) (v := .int .i64 s) rfl (by kernel_rfl) (by kernel_rfl) (by kernel_rfl) (fun _ _ _ h => h) (Or.inl ⟨by rfl, by intro wx hx; go_simp⟩) (by assumption) ?_
              try simp only [List.getElem_toArray, List.getElem_cons_succ, List.getElem_cons_zero, Act.put, List.setIfInBounds_toArray, List.set_cons_zero, List.set_cons_succ]
              refine wpAnyH_take (i := 7) (v := .int .i64 rn) rfl (by kernel_rfl) (by kernel_rfl) (by kernel_rfl) (fun _ _ _ h => h) (Or.inl ⟨by rfl, by intro wx hx; go_simp⟩) (by assumption) ?_
              try simp only [List.getElem_toArray, List.getElem_cons_succ, List.getElem_cons_zero, Act.put, List.setIfInBounds_toArray, List.set_cons_zero, List.set_cons_succ]
              refine wpAnyH_take (i := 12) (v := .pointer (some ⟨bx, 0, none⟩)) rfl (by kernel_rfl) (by kernel_rfl) (by kernel_rfl) (fun _ _ _ h => h) (Or.inl ⟨by rfl, by intro wx hx; go_simp⟩) (by assumption) ?_
              try simp only [List.getElem_toArray, List.getElem_cons_succ, List.getElem_cons_zero, Act.put, List.setIfInBounds_toArray, List.set_cons_zero, List.set_cons_succ]
              refine wpAnyH_take (i := 13) (v := .slice (some ⟨bM, oM, none⟩) M.length c1) rfl (by kernel_rfl) (by kernel_rfl) (by kernel_rfl) (fun _ _ _ h => h) (Or.inl ⟨by rfl, by intro wx hx; obtain ⟨_, _, _, _, _, _⟩ := hx; go_simp⟩) (by assumption) ?_
              try simp only [List.getElem_toArray, List.getElem_cons_succ, List.getElem_cons_zero, Act.put, List.setIfInBounds_toArray, List.set_cons_zero, List.set_cons_succ]
              refine wpAnyH_take (i := 14) (v := .slice (some ⟨bP, oP, none⟩) P.length cP) rfl (by kernel_rfl) (by kernel_rfl) (by kernel_rfl) (fun _ _ _ h => h) (Or.inl ⟨by rfl, by intro wx hx; go_simp⟩) (by assumption) ?_
              try simp only [List.getElem_toArray, List.getElem_cons_succ, List.getElem_cons_zero, Act.put, List.setIfInBounds_toArray, List.set_cons_zero, List.set_cons_succ]
              refine wpAnyH_take (i := 15) (v := .int .i64 j) rfl (by kernel_rfl) (by kernel_rfl) (by kernel_rfl) (fun _ _ _ h => h) (Or.inl ⟨by rfl, by intro wx hx; go_simp⟩) (by assumption) ?_
              try simp only [List.getElem_toArray, List.getElem_cons_succ, List.getElem_cons_zero, Act.put, List.setIfInBounds_toArray, List.set_cons_zero, List.set_cons_succ]
              refine wpAnyH_take (i := 16) (v := .pointer (some ⟨bP, oP + j, none⟩)) rfl (by kernel_rfl) (by kernel_rfl) (by kernel_rfl) (fun _ _ _ h => h) (Or.inl ⟨by rfl, by intro wx hx; go_simp⟩) (by assumption) ?_
              try simp only [List.getElem_toArray, List.getElem_cons_succ, List.getElem_cons_zero, Act.put, List.setIfInBounds_toArray, List.set_cons_zero, List.set_cons_succ]
              refine wpAnyH_take (i := 17) (v := .slice (some ⟨bc, oc, none⟩) c.length m1) rfl (by kernel_rfl) (by kernel_rfl) (by kernel_rfl) (fun _ _ _ h => h) (Or.inl ⟨by rfl, by intro wx hx; obtain ⟨_, _, _, _, _, _⟩ := hx; go_simp⟩) (by assumption) ?_
              try simp only [List.getElem_toArray, List.getElem_cons_succ, List.getElem_cons_zero, Act.put, List.setIfInBounds_toArray, List.set_cons_zero, List.set_cons_succ]
              refine wpAnyH_take (i := 18) (v := .int .i64 s) rfl (by kernel_rfl) (by kernel_rfl) (by kernel_rfl) (fun _ _ _ h => h) (Or.inl ⟨by rfl, by intro wx hx; go_simp⟩) (by assumption) ?_
              try simp only [List.getElem_toArray, List.getElem_cons_succ, List.getElem_cons_zero, Act.put, List.setIfInBounds_toArray, List.set_cons_zero, List.set_cons_succ]
              refine wpAnyH_take (i := 19) (v := .pointer (some ⟨bc, oc + s, none⟩)) rfl (by kernel_rfl) (by kernel_rfl) (by kernel_rfl) (fun _ _ _ h => h) (Or.inl ⟨by rfl, by intro wx hx; go_simp⟩) (by assumption) ?_
              try simp only [List.getElem_toArray, List.getElem_cons_succ, List.getElem_cons_zero, Act.put, List.setIfInBounds_toArray, List.set_cons_zero, List.set_cons_succ]
              refine wpAnyH_take (i := 20) (v := .int .i64 x) rfl (by kernel_rfl) (by kernel_rfl) (by kernel_rfl) (fun _ _ _ h => h) (Or.inl ⟨by rfl, by intro wx hx; obtain ⟨_, _, _, _, _, _⟩ := hx; go_simp⟩) (by assumption) ?_
              try simp only [List.getElem_toArray, List.getElem_cons_succ, List.getElem_cons_zero, Act.put, List.setIfInBounds_toArray, List.set_cons_zero, List.set_cons_succ]
              refine wpAnyH_take (i := 21) (v := .pointer (some ⟨bM, oM + x, none⟩)) rfl (by kernel_rfl) (by kernel_rfl) (by kernel_rfl) (fun _ _ _ h => h) (Or.inl ⟨by rfl, by intro wx hx; go_simp⟩) (by assumption) ?_
              try simp only [List.getElem_toArray, List.getElem_cons_succ, List.getElem_cons_zero, Act.put, List.setIfInBounds_toArray, List.set_cons_zero, List.set_cons_succ]
              refine wpAnyH_take (i := 22) (v := .slice (some ⟨bR, oR, none⟩) Rx.length mR) rfl (by kernel_rfl) (by kernel_rfl) (by kernel_rfl) (fun _ _ _ h => h) (Or.inl ⟨by rfl, by intro wx hx; obtain ⟨_, _, _, _, _, _⟩ := hx; go_simp⟩) (by assumption) ?_
              try simp only [List.getElem_toArray, List.getElem_cons_succ, List.getElem_cons_zero, Act.put, List.setIfInBounds_toArray, List.set_cons_zero, List.set_cons_succ]
              refine wpAnyH_take (i := 23) (v := .int .i64 rn) rfl (by kernel_rfl) (by kernel_rfl) (by kernel_rfl) (fun _ _ _ h => h) (Or.inl ⟨by rfl, by intro wx hx; go_simp⟩) (by assumption) ?_
              try simp only [List.getElem_toArray, List.getElem_cons_succ, List.getElem_cons_zero, Act.put, List.setIfInBounds_toArray, List.set_cons_zero, List.set_cons_succ]
              refine wpAnyH_take (i := 24) (v := .pointer (some ⟨bR, oR + rn, none⟩)) rfl (by kernel_rfl) (by kernel_rfl) (by kernel_rfl) (fun _ _ _ h => h) (Or.inl ⟨by rfl, by intro wx hx; go_simp⟩) (by assumption) ?_
              try simp only [List.getElem_toArray, List.getElem_cons_succ, List.getElem_cons_zero, Act.put, List.setIfInBounds_toArray, List.set_cons_zero, List.set_cons_succ]
              refine wpAnyH_take (i := 25) (v := .int .i64 dc) rfl (by kernel_rfl) (by kernel_rfl) (by kernel_rfl) (fun _ _ _ h => h) (Or.inl ⟨by rfl, by intro wx hx; obtain ⟨_, _, _, _, _, _⟩ := hx; go_simp⟩) (by assumption) ?_
              try simp only [List.getElem_toArray, List.getElem_cons_succ, List.getElem_cons_zero, Act.put, List.setIfInBounds_toArray, List.set_cons_zero, List.set_cons_succ]
              refine wpAnyH_ready (rs := [8]) (by kernel_rfl) (by simp) ?_
              refine AllReadyH.cons rfl (fun K hK => ?_) AllReadyH.nil
              go_simp
              go_at_call 128
              refine (l7Swap_any (w0 := wP) hi1 hsc hri.out (by omega)).mono ?_
              rintro e w5 ⟨u5, rfl, own5, e5⟩
              have e5q : Ext wq w5 := Ext.trans ed e5
              have hU : IsInts w5 u5 (sortL (c.set s rn)) := own5.reads (by unfold Short; rw [hswl.out]; omega) hswi.out
              clear own5
              have hS5 := hSx.out w5 e5q
              go_wp2_with fail
              refine hK.out _ _ hS5 (fun _ => ?_)
              clear hK K
              try simp only [List.getElem_toArray, List.getElem_cons_succ, List.getElem_cons_zero, Act.put, List.setIfInBounds_toArray, List.set_cons_zero, List.set_cons_succ]
              refine wpAnyH_ready (rs := [9]) (by kernel_rfl) (by simp) ?_
              refine AllReadyH.cons rfl (fun K hK => ?_) AllReadyH.nil
              go_simp
              go_at_call 81
              refine (l7Index_any (w0 := w5) (w := w5) (hP.ext (e := Ext.trans eq e5q)) hU hmem.out).mono ?_
              rw [hat.out]
              rintro e w6 ⟨rfl, e6⟩
              have e6q : Ext wq w6 := Ext.trans e5q e6
              have hS6 := hSx.out w6 e6q
              go_wp2_with fail
              refine hK.out _ _ hS6 (fun _ => ?_)
              clear hK K
              try simp only [List.getElem_toArray, List.getElem_cons_succ, List.getElem_cons_zero, Act.put, List.setIfInBounds_toArray, List.set_cons_zero, List.set_cons_succ]
              refine wpAnyH_take (i := 10) (v := .pointer (some ⟨bw, ow + t, none⟩)) rfl (by kernel_rfl) (by kernel_rfl) (by kernel_rfl) (fun _ _ _ h => h) (Or.inl ⟨by rfl, by intro wx hx; go_simp⟩) (by assumption) ?_
              try simp only [List.getElem_toArray, List.getElem_cons_succ, List.getElem_cons_zero, Act.put, List.setIfInBounds_toArray, List.set_cons_zero, List.set_cons_succ]
              refine wpAnyH_take (i := 11) (v := .int .i64 wt) rfl (by kernel_rfl) (by kernel_rfl) (by kernel_rfl) (fun _ _ _ h => h) (Or.inl ⟨by rfl, by intro wx hx; obtain ⟨_, _, _, _, _, _⟩ := hx; go_simp⟩) (by assumption) ?_
              try simp only [List.getElem_toArray, List.getElem_cons_succ, List.getElem_cons_zero, Act.put, List.setIfInBounds_toArray, List.set_cons_zero, List.set_cons_succ]
              refine wpAnyH_take (i := 26) (v := .int .i64 (wt + dc)) rfl (by kernel_rfl) (by kernel_rfl) (by kernel_rfl) (fun _ _ _ h => h) (Or.inl ⟨by rfl, by intro wx hx; go_simp⟩) (by assumption) ?_
              try simp only [List.getElem_toArray, List.getElem_cons_succ, List.getElem_cons_zero, Act.put, List.setIfInBounds_toArray, List.set_cons_zero, List.set_cons_succ]
              refine wpAnyH_take (i := 27) (v := .int .i64 (wt + dc)) rfl (by kernel_rfl) (by kernel_rfl) (by kernel_rfl) (fun _ _ _ h => h) (Or.inl ⟨by rfl, by intro wx hx; go_simp⟩) (by assumption) ?_
              try simp only [List.getElem_toArray, List.getElem_cons_succ, List.getElem_cons_zero, Act.put, List.setIfInBounds_toArray, List.set_cons_zero, List.set_cons_succ]
              refine wpAnyH_done (by kernel_rfl) ?_ _
              go_wp2_with fail
              go_roundw
              case rel => exact ⟨s + 1, by omega, by go_num, by rw [hy.out], hown.ext (e := e6q), hb.trans (e6q.below.mono hBq)⟩
              case measure => simp [intOf]; omega
            · have hl1' : decide (wt + dc < l) = false := decide_eq_false hl1
              have hy := hid (show snAt M P ws rn j (s + 1) = l by rw [hnx.out, if_neg (by omega)])
              clear hnx
              go_wp2_with fail
              refine region_held_from (w0 := wq) (S := fun u => u.cell? ⟨bP, oP + j, none⟩ = some (.slice (some ⟨bc, oc, none⟩) c.length m1) ∧ u.cell? ⟨bw, ow + t, none⟩ = some (.int .i64 wt) ∧ u.cell? ⟨bx, 0, none⟩ = some (.slice (some ⟨bM, oM, none⟩) M.length c1) ∧ u.cell? ⟨bc, oc + s, none⟩ = some (.int .i64 (x : Int)) ∧ u.cell? ⟨bM, oM + x, none⟩ = some (.slice (some ⟨bR, oR, none⟩) Rx.length mR) ∧ u.cell? ⟨bR, oR + rn, none⟩ = some (.int .i64 dc)) (by kernel_rfl) hSx.out (fun wd ed hHeld0 => ?_)
              have ePd : Ext wP wd := Ext.trans eq ed
              refine wpAnyH_take (i := 0) (v := .slice (some ⟨bw, ow, none⟩) ws.length mw) rfl (by kernel_rfl) (by kernel_rfl) (by kernel_rfl) (fun _ _ _ h => h) (Or.inl ⟨by rfl, by intro wx hx; go_simp⟩) (by assumption) ?_
              try simp only [List.getElem_toArray, List.getElem_cons_zero, Act.put, List.setIfInBounds_toArray, List.set_cons_zero, List.set_cons_succ]
              refine wpAnyH_take (i := 1) (v := .slice (some ⟨bP, oP, none⟩) P.length cP) rfl (by kernel_rfl) (by kernel_rfl) (by kernel_rfl) (fun _ _ _ h => h) (Or.inl ⟨by rfl, by intro wx hx; go_simp⟩) (by assumption) ?_
              try simp only [List.getElem_toArray, List.getElem_cons_succ, List.getElem_cons_zero, Act.put, List.setIfInBounds_toArray, List.set_cons_zero, List.set_cons_succ]
              refine wpAnyH_take (i := 2) (v := .slice (some ⟨bP, oP, none⟩) P.length cP) rfl (by kernel_rfl) (by kernel_rfl) (by kernel_rfl) (fun _ _ _ h => h) (Or.inl ⟨by rfl, by intro wx hx; go_simp⟩) (by assumption) ?_
              try simp only [List.getElem_toArray, List.getElem_cons_succ, List.getElem_cons_zero, Act.put, List.setIfInBounds_toArray, List.set_cons_zero, List.set_cons_succ]
              refine wpAnyH_take (i := 3) (v := .int .i64 j) rfl (by kernel_rfl) (by kernel_rfl) (by kernel_rfl) (fun _ _ _ h => h) (Or.inl ⟨by rfl, by intro wx hx; go_simp⟩) (by assumption) ?_
              try simp only [List.getElem_toArray, List.getElem_cons_succ, List.getElem_cons_zero, Act.put, List.setIfInBounds_toArray, List.set_cons_zero, List.set_cons_succ]
              refine wpAnyH_take (i := 4) (v := .pointer (some ⟨bP, oP + j, none⟩)) rfl (by kernel_rfl) (by kernel_rfl) (by kernel_rfl) (fun _ _ _ h => h) (Or.inl ⟨by rfl, by intro wx hx; go_simp⟩) (by assumption) ?_
              try simp only [List.getElem_toArray, List.getElem_cons_succ, List.getElem_cons_zero, Act.put, List.setIfInBounds_toArray, List.set_cons_zero, List.set_cons_succ]
              refine wpAnyH_take (i := 5) (v := .slice (some ⟨bc, oc, none⟩) c.length m1) rfl (by kernel_rfl) (by kernel_rfl) (by kernel_rfl) (fun _ _ _ h => h) (Or.inl ⟨by rfl, by intro wx hx; obtain ⟨_, _, _, _, _, _⟩ := hx; go_simp⟩) (by assumption) ?_
              try simp only [List.getElem_toArray, List.getElem_cons_succ, List.getElem_cons_zero, Act.put, List.setIfInBounds_toArray, List.set_cons_zero, List.set_cons_succ]
              refine wpAnyH_take (i := 6) (v := .int .i64 s) rfl (by kernel_rfl) (by kernel_rfl) (by kernel_rfl) (fun _ _ _ h => h) (Or.inl ⟨by rfl, by intro wx hx; go_simp⟩) (by assumption) ?_
              try simp only [List.getElem_toArray, List.getElem_cons_succ, List.getElem_cons_zero, Act.put, List.setIfInBounds_toArray, List.set_cons_zero, List.set_cons_succ]
              refine wpAnyH_take (i := 7) (v := .int .i64 rn) rfl (by kernel_rfl) (by kernel_rfl) (by kernel_rfl) (fun _ _ _ h => h) (Or.inl ⟨by rfl, by intro wx hx; go_simp⟩) (by assumption) ?_
              try simp only [List.getElem_toArray, List.getElem_cons_succ, List.getElem_cons_zero, Act.put, List.setIfInBounds_toArray, List.set_cons_zero, List.set_cons_succ]
              refine wpAnyH_take (i := 12) (v := .pointer (some ⟨bx, 0, none⟩)) rfl (by kernel_rfl) (by kernel_rfl) (by kernel_rfl) (fun _ _ _ h => h) (Or.inl ⟨by rfl, by intro wx hx; go_simp⟩) (by assumption) ?_
              try simp only [List.getElem_toArray, List.getElem_cons_succ, List.getElem_cons_zero, Act.put, List.setIfInBounds_toArray, List.set_cons_zero, List.set_cons_succ]
              refine wpAnyH_take (i := 13) (v := .slice (some ⟨bM, oM, none⟩) M.length c1) rfl (by kernel_rfl) (by kernel_rfl) (by kernel_rfl) (fun _ _ _ h => h) (Or.inl ⟨by rfl, by intro wx hx; obtain ⟨_, _, _, _, _, _⟩ := hx; go_simp⟩) (by assumption) ?_
              try simp only [List.getElem_toArray, List.getElem_cons_succ, List.getElem_cons_zero, Act.put, List.setIfInBounds_toArray, List.set_cons_zero, List.set_cons_succ]
              refine wpAnyH_take (i := 14) (v := .slice (some ⟨bP, oP, none⟩) P.length cP) rfl (by kernel_rfl) (by kernel_rfl) (by kernel_rfl) (fun _ _ _ h => h) (Or.inl ⟨by rfl, by intro wx hx; go_simp⟩) (by assumption) ?_
              try simp only [List.getElem_toArray, List.getElem_cons_succ, List.getElem_cons_zero, Act.put, List.setIfInBounds_toArray, List.set_cons_zero, List.set_cons_succ]
              refine wpAnyH_take (i := 15) (v := .int .i64 j) rfl (by kernel_rfl) (by kernel_rfl) (by kernel_rfl) (fun _ _ _ h => h) (Or.inl ⟨by rfl, by intro wx hx; go_simp⟩) (by assumption) ?_
              try simp only [List.getElem_toArray, List.getElem_cons_succ, List.getElem_cons_zero, Act.put, List.setIfInBounds_toArray, List.set_cons_zero, List.set_cons_succ]
              refine wpAnyH_take (i := 16) (v := .pointer (some ⟨bP, oP + j, none⟩)) rfl (by kernel_rfl) (by kernel_rfl) (by kernel_rfl) (fun _ _ _ h => h) (Or.inl ⟨by rfl, by intro wx hx; go_simp⟩) (by assumption) ?_
              try simp only [List.getElem_toArray, List.getElem_cons_succ, List.getElem_cons_zero, Act.put, List.setIfInBounds_toArray, List.set_cons_zero, List.set_cons_succ]
              refine wpAnyH_take (i := 17) (v := .slice (some ⟨bc, oc, none⟩) c.length m1) rfl (by kernel_rfl) (by kernel_rfl) (by kernel_rfl) (fun _ _ _ h => h) (Or.inl ⟨by rfl, by intro wx hx; obtain ⟨_, _, _, _, _, _⟩ := hx; go_simp⟩) (by assumption) ?_
              try simp only [List.getElem_toArray, List.getElem_cons_succ, List.getElem_cons_zero, Act.put, List.setIfInBounds_toArray, List.set_cons_zero, List.set_cons_succ]
              refine wpAnyH_take (i := 18) (v := .int .i64 s) rfl (by kernel_rfl) (by kernel_rfl) (by kernel_rfl) (fun _ _ _ h => h) (Or.inl ⟨by rfl, by intro wx hx; go_simp⟩) (by assumption) ?_
              try simp only [List.getElem_toArray, List.getElem_cons_succ, List.getElem_cons_zero, Act.put, List.setIfInBounds_toArray, List.set_cons_zero, List.set_cons_succ]
              refine wpAnyH_take (i := 19) (v := .pointer (some ⟨bc, oc + s, none⟩)) rfl (by kernel_rfl) (by kernel_rfl) (by kernel_rfl) (fun _ _ _ h => h) (Or.inl ⟨by rfl, by intro wx hx; go_simp⟩) (by assumption) ?_
              try simp only [List.getElem_toArray, List.getElem_cons_succ, List.getElem_cons_zero, Act.put, List.setIfInBounds_toArray, List.set_cons_zero, List.set_cons_succ]
              refine wpAnyH_take (i := 20) (v := .int .i64 x) rfl (by kernel_rfl) (by kernel_rfl) (by kernel_rfl) (fun _ _ _ h => h) (Or.inl ⟨by rfl, by intro wx hx; obtain ⟨_, _, _, _, _, _⟩ := hx; go_simp⟩) (by assumption) ?_
              try simp only [List.getElem_toArray, List.getElem_cons_succ, List.getElem_cons_zero, Act.put, List.setIfInBounds_toArray, List.set_cons_zero, List.set_cons_succ]
              refine wpAnyH_take (i := 21) (v := .pointer (some ⟨bM, oM + x, none⟩)) rfl (by kernel_rfl) (by kernel_rfl) (by kernel_rfl) (fun _ _ _ h => h) (Or.inl ⟨by rfl, by intro wx hx; go_simp⟩) (by assumption) ?_
              try simp only [List.getElem_toArray, List.getElem_cons_succ, List.getElem_cons_zero, Act.put, List.setIfInBounds_toArray, List.set_cons_zero, List.set_cons_succ]
              refine wpAnyH_take (i := 22) (v := .slice (some ⟨bR, oR, none⟩) Rx.length mR) rfl (by kernel_rfl) (by kernel_rfl) (by kernel_rfl) (fun _ _ _ h => h) (Or.inl ⟨by rfl, by intro wx hx; obtain ⟨_, _, _, _, _, _⟩ := hx; go_simp⟩) (by assumption) ?_
              try simp only [List.getElem_toArray, List.getElem_cons_succ, List.getElem_cons_zero, Act.put, List.setIfInBounds_toArray, List.set_cons_zero, List.set_cons_succ]
              refine wpAnyH_take (i := 23) (v := .int .i64 rn) rfl (by kernel_rfl) (by kernel_rfl) (by kernel_rfl) (fun _ _ _ h => h) (Or.inl ⟨by rfl, by intro wx hx; go_simp⟩) (by assumption) ?_
              try simp only [List.getElem_toArray, List.getElem_cons_succ, List.getElem_cons_zero, Act.put, List.setIfInBounds_toArray, List.set_cons_zero, List.set_cons_succ]
              refine wpAnyH_take (i := 24) (v := .pointer (some ⟨bR, oR + rn, none⟩)) rfl (by kernel_rfl) (by kernel_rfl) (by kernel_rfl) (fun _ _ _ h => h) (Or.inl ⟨by rfl, by intro wx hx; go_simp⟩) (by assumption) ?_
              try simp only [List.getElem_toArray, List.getElem_cons_succ, List.getElem_cons_zero, Act.put, List.setIfInBounds_toArray, List.set_cons_zero, List.set_cons_succ]
              refine wpAnyH_take (i := 25) (v := .int .i64 dc) rfl (by kernel_rfl) (by kernel_rfl) (by kernel_rfl) (fun _ _ _ h => h) (Or.inl ⟨by rfl, by intro wx hx; obtain ⟨_, _, _, _, _, _⟩ := hx; go_simp⟩) (by assumption) ?_
              try simp only [List.getElem_toArray, List.getElem_cons_succ, List.getElem_cons_zero, Act.put, List.setIfInBounds_toArray, List.set_cons_zero, List.set_cons_succ]
              refine wpAnyH_ready (rs := [8]) (by kernel_rfl) (by simp) ?_
              refine AllReadyH.cons rfl (fun K hK => ?_) AllReadyH.nil
              go_simp
              go_at_call 128
              refine (l7Swap_any (w0 := wP) hi1 hsc hri.out (by omega)).mono ?_
              rintro e w5 ⟨u5, rfl, own5, e5⟩
              have e5q : Ext wq w5 := Ext.trans ed e5
              have hU : IsInts w5 u5 (sortL (c.set s rn)) := own5.reads (by unfold Short; rw [hswl.out]; omega) hswi.out
              clear own5
              have hS5 := hSx.out w5 e5q
              go_wp2_with fail
              refine hK.out _ _ hS5 (fun _ => ?_)
              clear hK K
              try simp only [List.getElem_toArray, List.getElem_cons_succ, List.getElem_cons_zero, Act.put, List.setIfInBounds_toArray, List.set_cons_zero, List.set_cons_succ]
              refine wpAnyH_ready (rs := [9]) (by kernel_rfl) (by simp) ?_
              refine AllReadyH.cons rfl (fun K hK => ?_) AllReadyH.nil
              go_simp
              go_at_call 81
              refine (l7Index_any (w0 := w5) (w := w5) (hP.ext (e := Ext.trans eq e5q)) hU hmem.out).mono ?_
              rw [hat.out]
              rintro e w6 ⟨rfl, e6⟩
              have e6q : Ext wq w6 := Ext.trans e5q e6
              have hS6 := hSx.out w6 e6q
              go_wp2_with fail
              refine hK.out _ _ hS6 (fun _ => ?_)
              clear hK K
              try simp only [List.getElem_toArray, List.getElem_cons_succ, List.getElem_cons_zero, Act.put, List.setIfInBounds_toArray, List.set_cons_zero, List.set_cons_succ]
              refine wpAnyH_take (i := 10) (v := .pointer (some ⟨bw, ow + t, none⟩)) rfl (by kernel_rfl) (by kernel_rfl) (by kernel_rfl) (fun _ _ _ h => h) (Or.inl ⟨by rfl, by intro wx hx; go_simp⟩) (by assumption) ?_
              try simp only [List.getElem_toArray, List.getElem_cons_succ, List.getElem_cons_zero, Act.put, List.setIfInBounds_toArray, List.set_cons_zero, List.set_cons_succ]
              refine wpAnyH_take (i := 11) (v := .int .i64 wt) rfl (by kernel_rfl) (by kernel_rfl) (by kernel_rfl) (fun _ _ _ h => h) (Or.inl ⟨by rfl, by intro wx hx; obtain ⟨_, _, _, _, _, _⟩ := hx; go_simp⟩) (by assumption) ?_
              try simp only [List.getElem_toArray, List.getElem_cons_succ, List.getElem_cons_zero, Act.put, List.setIfInBounds_toArray, List.set_cons_zero, List.set_cons_succ]
              refine wpAnyH_take (i := 26) (v := .int .i64 (wt + dc)) rfl (by kernel_rfl) (by kernel_rfl) (by kernel_rfl) (fun _ _ _ h => h) (Or.inl ⟨by rfl, by intro wx hx; go_simp⟩) (by assumption) ?_
              try simp only [List.getElem_toArray, List.getElem_cons_succ, List.getElem_cons_zero, Act.put, List.setIfInBounds_toArray, List.set_cons_zero, List.set_cons_succ]
              refine wpAnyH_take (i := 27) (v := .int .i64 (wt + dc)) rfl (by kernel_rfl) (by kernel_rfl) (by kernel_rfl) (fun _ _ _ h => h) (Or.inl ⟨by rfl, by intro wx hx; go_simp⟩) (by assumption) ?_
              try simp only [List.getElem_toArray, List.getElem_cons_succ, List.getElem_cons_zero, Act.put, List.setIfInBounds_toArray, List.set_cons_zero, List.set_cons_succ]
              refine wpAnyH_done (by kernel_rfl) ?_ _
              go_wp2_with fail
              go_roundw
              case rel => exact ⟨s + 1, by omega, by go_num, by rw [hy.out], hown.ext (e := e6q), hb.trans (e6q.below.mono hBq)⟩
              case measure => simp [intOf]; omega
        · have hsk : s = k := by omega
          have hval := hid (show snAt M P ws rn j s = nth Xs j by rw [hsk]; exact hNx.out j hlt)
          have hXj := hid (show Xs.take (j + 1) = Xs.take j ++ [nth Xs j] from take_succ_nth (by rw [hXl.out]; exact hlt))
          rw [hval.out]
          replace hsk := hid hsk
          have hT : (Xs.take j).length ≤ 1000 := by rw [List.length_take]; omega
          have hn1000 : n0 ≤ 1000 := by rw [hn0.out]; exact hT
          have eq : Ext wP wq := hEx.out _ hb
          have hBq : B ≤ wq.heap.size := by rw [hB.out]; exact eq.size
          generalize nth Xs j = y at *
          obtain ⟨T, hTd⟩ : ∃ l, l = Xs.take j := ⟨_, rfl⟩
          rw [← hTd] at hown hn0 hXj hT
          replace hTd := hid hTd
          have hown' : Own wq B [⟨3, 1, .slice d0 n0 m0, n0, T.map (Value.int .i64)⟩] := by rw [hn0.out]; rw [hn0.out] at hown; exact hown
          clear hown
          go_wp2_with (at_builtin; refine wpList_append1 rfl _ _ _ rfl elemInt rfl hown' hBq rfl rfl (by omega) (by omega) ?_; intro v7 w7 ho hb7)
          have own7 := own_grow1 ho hn0.out
          go_roundw
          case rel => exact ⟨j + 1, by omega, by go_num, by rw [hXj.out]; exact own7, hb.trans hb7⟩
          case measure => simp [intOf]; omega
    · have hjP : j = P.length := by omega
      have eo : Ext wP wo := hEx.out _ hb
      have hfin := hid (show Own wo B [intRowOf 3 (.slice d0 n0 m0) Xs] by
        have e : Xs.take j = Xs := by rw [hjP, ← hXl.out, List.take_length]
        rw [e] at hown
        exact hown)
      replace hjP := hid hjP
      go_wp2_with fail
      go_ret
      exact ⟨_, rfl, by rw [← hPd.out, ← hXs.out]; exact hfin.out.mono hBw.out, Ext.trans ePw eo⟩
theorem l7Next_any {v vw : Value} {M : List (List Int)} {ws : List Int} {k : Nat} {r L : Int} {w0 w : World} [Ext w0 w] (hm : IsMet w0 v M) (hM : metB M = true) (hw : IsInts w0 vw ws) (h1k : 1 ≤ k) (hk : k ≤ 3) (hg : GoodW M (confs M.length k 0) ws L) (hL : L ≤ 1000000) (hr : 0 ≤ r ∧ r < (M.length : Int)) :
    Calls Tryz.prog 73 #[v, .int .i64 k, vw, .int .i64 r] w fun e w' => ∃ u, e = .returned u ∧ IsInts w' u (wnxL M (confs M.length k 0) ws r) ∧ Ext w w' :=
  (l7NextO_any hm hM hw h1k hk hg hL hr).mono fun e w' ⟨u, h1, h2, h3⟩ => ⟨u, h1, h2.reads (by
    unfold Short
    rw [wnxL_len, hg.1.1]
    have := confs_216 (n := M.length) (k := k) (met_len hM).2 hk
    omega) (good_i64 (wnx_good (dst_of_met hM) h1k hk hg hL hr).1 (by omega)), h3⟩
end Go.Proofs.YtmgcfnciejfpbaaGreat

/- The choice of the work function algorithm, the reference's; its first work list. -/
namespace Go.Proofs.YtmgcfnciejfpbaaGreat
open Go.RowKit

theorem ext_below {B : Nat} {a b c : World} (h : Below B a b) (hB : B ≤ b.heap.size) [e : Ext b c] : Below B a c := h.trans (e.below.mono hB)
theorem lexC_pre {a b : List Int} : ∀ {i : Nat}, i ≤ a.length → i ≤ b.length → (∀ j, j < i → nth a j = nth b j) → lexC a b = lexC (a.drop i) (b.drop i) := by
  intro i
  induction i with
  | zero => intro _ _ _; rfl
  | succ i ih =>
    intro ha hb h
    rw [ih (by omega) (by omega) (fun j hj => h j (by omega)), lexC_step (by omega) (by omega), h i (by omega)]
    simp [cmpI]
theorem lexC_at {a b : List Int} {i : Nat} (ha : i < a.length) (hb : i < b.length) (h : ∀ j, j < i → nth a j = nth b j) (hne : nth a i ≠ nth b i) : decide (lexC a b < 0) = decide (nth a i < nth b i) := by
  have e : lexC a b = cmpI (nth a i) (nth b i) := by
    rw [lexC_pre (by omega) (by omega) h, lexC_step ha hb, if_pos]
    unfold cmpI
    split
    · decide
    · rw [if_pos (by omega)]; decide
  rw [e, cmpI]
  by_cases h1 : nth a i < nth b i
  · simp [h1]
  · rw [if_neg h1, if_pos (by omega)]; simp; omega

set_option maxHeartbeats 800000 in
set_option maxRecDepth 100000 in
theorem l7Before_any {va vb : Value} {a b : List Int} {w0 w : World} [Ext w0 w] (ha : IsInts w0 va a) (hb : IsInts w0 vb b) (hl : a.length = b.length) :
    Calls Tryz.prog 139 #[va, vb] w fun e w' => e = .returned (.bool (decide (lexC a b < 0))) ∧ Ext w w' := by
  obtain ⟨da, ma, rfl, la⟩ := ha.form
  obtain ⟨db, mb, rfl, lb⟩ := hb.form
  replace hl := hid hl
  go_enter Tryz.func139, Tryz.ntmps139
  go_wp2
  go_loopw [5] (fun i wr => ∃ k : Nat, k ≤ a.length ∧ i = .int .i64 k ∧ Hid (∀ j, j < k → nth a j = nth b j) ∧ Ext w wr) (fun i _ => a.length - (intOf i).toNat)
  case atStart => exact ⟨0, by omega, rfl, fun j hj => by omega, Ext.refl _⟩
  case round =>
    obtain ⟨k, hk, rfl, hno, hx⟩ := hrel
    by_cases hlt : k < a.length
    · have hltb : k < b.length := by rw [← hl.out]; exact hlt
      have e0 : Ext w0 wr := Ext.trans ‹Ext w0 w› hx
      obtain ⟨b1, o1, rfl, hc1⟩ := ha.at (w' := wr) hlt
      obtain ⟨b2, o2, rfl, hc2⟩ := hb.at (w' := wr) hltb
      by_cases he : nth a k = nth b k
      · have hn : (nth a k != nth b k) = false := by simp [he]
        have hno2 := hid (show ∀ j, j < k + 1 → nth a j = nth b j from fun j hj => by
          by_cases e : j = k
          · rw [e]; exact he
          · exact hno.out j (by omega))
        replace he := hid he
        go_wp2_with (go_quiet (fail))
        go_roundw
        case rel => exact ⟨k + 1, by omega, by go_num, hno2.out, Ext.trans hx inferInstance⟩
        case measure => simp [intOf]; omega
      · have hn : (nth a k != nth b k) = true := by simpa using he
        have hr := hid (lexC_at hlt hltb hno.out he)
        replace he := hid he
        go_wp2_with (go_quiet (fail))
        go_ret
        exact ⟨ret_bool hr.out.symm, Ext.trans hx inferInstance⟩
    · have hr := hid (show decide (lexC a b < 0) = false by
        have e : a = b := eq_of_nth hl.out fun j hj => hno.out j (by omega)
        rw [e, lexC_self]
        rfl)
      go_wp2
      go_ret
      exact ⟨ret_bool hr.out.symm, hx⟩

theorem sv_yes {M P : List (List Int)} {nx a : List Int} {r : Int} {s : Nat} (h : svN M P nx a r s < (svT M P nx a r s).2.2 ∨ (svN M P nx a r s = (svT M P nx a r s).2.2 ∧ lexC (svX a r s) (svT M P nx a r s).1 < 0)) : (svT M P nx a r (s + 1)).1 = svX a r s ∧ (svT M P nx a r (s + 1)).2.1 = cell M (nth a s).toNat r.toNat ∧ svL M P nx a r (s + 1) = svN M P nx a r s := by
  rw [svL, svT_yes h]
  exact ⟨rfl, rfl, if_neg (by omega)⟩
theorem sv_no {M P : List (List Int)} {nx a : List Int} {r : Int} {s : Nat} (h : ¬ (svN M P nx a r s < (svT M P nx a r s).2.2 ∨ (svN M P nx a r s = (svT M P nx a r s).2.2 ∧ lexC (svX a r s) (svT M P nx a r s).1 < 0))) : (svT M P nx a r (s + 1)).1 = (svT M P nx a r s).1 ∧ (svT M P nx a r (s + 1)).2.1 = (svT M P nx a r s).2.1 ∧ svL M P nx a r (s + 1) = (svT M P nx a r s).2.2 := by
  rw [svL, svT_no h]
  exact ⟨rfl, rfl, if_neg (by omega)⟩
theorem svL_pos {M P : List (List Int)} {nx a : List Int} {r : Int} {s : Nat} (h : s ≠ 0) : svL M P nx a r s = (svT M P nx a r s).2.2 := if_neg h
theorem svT_len {M : List (List Int)} {n k : Nat} {r L : Int} {nx a : List Int} (hd : Dst M n) (hg : GoodW M (confs n k 0) nx L) (hL : L ≤ 2000000) (ha : a ∈ confs n k 0) (hr : 0 ≤ r ∧ r < (n : Int)) {s : Nat} (hs : s ≤ k) (h1 : 1 ≤ s) : (svT M (confs n k 0) nx a r s).1.length = a.length ∧ 0 ≤ (svT M (confs n k 0) nx a r s).2.2 := by
  obtain ⟨t, ht, h2⟩ := svT_at (M := M) (P := confs n k 0) (nx := nx) (a := a) (r := r) (s := s) (fun t ht => by have := (svN_in hd hg ha (s := t) (by omega) hr).2; omega) h1
  rw [h2]
  exact ⟨by rw [svX, sortL_len, List.length_set], (svN_in hd hg ha (s := t) (by omega) hr).1⟩

set_option maxHeartbeats 3200000 in
set_option maxRecDepth 100000 in
theorem l7ServeO_any {v vx va : Value} {M : List (List Int)} {nx a : List Int} {k : Nat} {r L : Int} {w0 w : World} [Ext w0 w] (hm : IsMet w0 v M) (hM : metB M = true) (hn : IsInts w0 vx nx) (ha : IsInts w0 va a) (h1k : 1 ≤ k) (hk : k ≤ 3) (hac : a ∈ confs M.length k 0) (hg : GoodW M (confs M.length k 0) nx L) (hL : L ≤ 2000000) (hr : 0 ≤ r ∧ r < (M.length : Int)) :
    Calls Tryz.prog 96 #[v, vx, va, .int .i64 r] w fun e w' => ∃ u, e = .returned (.tuple #[u, .int .i64 (svK M (confs M.length k 0) nx a r)]) ∧ Own w' w.heap.size [intRowOf 3 u (svC M (confs M.length k 0) nx a r)] ∧ Ext w w' := by
  obtain ⟨rn, rfl⟩ : ∃ rn : Nat, r = (rn : Int) := ⟨r.toNat, by omega⟩
  obtain ⟨v1, rfl, hR⟩ := hm
  obtain ⟨a1, c1, rfl, l1⟩ := hR.form
  obtain ⟨dw, mw, rfl, lw⟩ := hn.form
  have ha' := ha
  obtain ⟨da, ma, rfl, la⟩ := ha.form
  have hMl := met_len hM
  have hMr := hid (fun (x : Nat) (hx : x < M.length) => met_row hM hx)
  have hdst := hid (dst_of_met hM)
  replace hM := hid hM
  have hrn : rn < M.length := by omega
  have hri := hid (show I64 (rn : Int) by unfold I64; omega)
  have hrp := hid hr
  clear hr
  obtain ⟨hak, _, hap0⟩ := confs_iff.1 hac
  have hap : Pts M.length a := fun x hx => by have := hap0 x hx; omega
  clear hap0
  have hSw := hid (show ∀ s, s < k → sortL (a.set s rn) ∈ confs M.length k 0 from fun s hs => (set_conf hac hs hrp.out).1)
  have hTl := hid (fun (s : Nat) (hs : s ≤ k) (h1 : 1 ≤ s) => svT_len hdst.out hg hL hac hrp.out hs h1)
  have hNi := hid (fun (s : Nat) (hs : s < k) => svN_in hdst.out hg hac hs hrp.out)
  have hwb := hid (show ∀ j, j < (confs M.length k 0).length → 0 ≤ nth nx j ∧ nth nx j ≤ 2000000 from fun j hj => by have := hg.2 j hj; omega)
  have hlw := hid hg.1.1
  replace hg := hid hg
  replace hac := hid hac
  have h216 := confs_216 hMl.2 hk
  have hak3 : a.length ≤ 3 := by omega
  replace hak := hid hak
  cases hh : hasB a rn with
  | true =>
    have hC := hid (show svC M (confs M.length k 0) nx a rn = a by rw [svC, hh]; rfl)
    have hK := hid (show svK M (confs M.length k 0) nx a rn = 0 by rw [svK, hh]; rfl)
    replace hh := hid hh
    go_enter Tryz.func96, Tryz.ntmps96
    go_wp2_with fail
    with_reducible refine (l1Has_any (w0 := w0) ha').mono ?_
    rw [hh.out]
    rintro e w1 ⟨rfl, rfl⟩
    go_wp2_with fail
    with_reducible refine (l1Own_any (w0 := w0) ha').mono ?_
    rintro e w2 ⟨d, m, rfl, own, e2⟩
    go_wp2_with fail
    go_ret2
    exact ⟨.slice d a.length m, ret_tuple2 rfl (by rw [hK.out]; rfl), by rw [hC.out]; exact own.mono (by simp), Ext.trans inferInstance e2⟩
  | false =>
    have hC := hid (show svC M (confs M.length k 0) nx a rn = (svT M (confs M.length k 0) nx a rn a.length).1 by rw [svC, hh]; rfl)
    have hK := hid (show svK M (confs M.length k 0) nx a rn = (svT M (confs M.length k 0) nx a rn a.length).2.1 by rw [svK, hh]; rfl)
    replace hh := hid hh
    go_enter Tryz.func96, Tryz.ntmps96
    go_wp2_with fail
    with_reducible refine (l1Has_any (w0 := w0) ha').mono ?_
    rw [hh.out]
    rintro e w1 ⟨rfl, rfl⟩
    go_wp2_with fail
    refine (l6Configs_any (n := M.length) (k := a.length) hMl.2 hak3 _).mono ?_
    rintro e wP ⟨vP, rfl, hP, eP⟩
    rw [hak.out] at hP
    have x0 : wP.cell? ⟨w.heap.size, 0, none⟩ = some (.slice a1 M.length c1) := eP.cell (by go_simp)
    have ePw : Ext w wP := Ext.trans inferInstance eP
    have e0P : Ext w0 wP := Ext.trans ‹Ext w0 w› ePw
    clear eP
    obtain ⟨bx, hbx⟩ : ∃ q, q = w.heap.size := ⟨_, rfl⟩
    rw [← hbx] at x0 ⊢
    obtain ⟨B, hB⟩ : ∃ b, b = wP.heap.size := ⟨_, rfl⟩
    have hBw := hid (show w.heap.size ≤ B by rw [hB]; exact ePw.size)
    have hEx := hid (show ∀ u, Below B wP u → Ext wP u from fun u h => ⟨by rw [← hB]; exact h⟩)
    have hBl := hid (show ∀ u, Ext wP u → B ≤ u.heap.size from fun u e => by rw [hB]; exact e.size)
    have b0 : Below B wP (wP.alloc (.cells #[] 3)) := by rw [hB]; exact (Below.refl _ _).alloc (Nat.le_refl _) _
    have own0 : Own (wP.alloc (.cells #[] 3)) B [intRowOf 3 (.slice (some ⟨wP.heap.size, 0, none⟩) ([] : List Int).length 0) []] := by
      rw [hB]
      exact Own.litInts (Nat.le_refl _) rfl rfl (by simp) rfl
    replace hB := hid hB
    replace hbx := hid hbx
    obtain ⟨P, hPd⟩ : ∃ p, p = confs M.length k 0 := ⟨_, rfl⟩
    rw [← hPd] at hP hSw hTl hNi hwb hlw h216 hC hK
    replace hPd := hid hPd
    obtain ⟨aP, cP, rfl, lP⟩ := hP.form
    go_wp2_with fail
    go_loopw [11, 12, 13, 14] (fun bv lv cv i wr => ∃ s : Nat, s ≤ a.length ∧ i = .int .i64 s ∧ lv = .int .i64 (svL M P nx a rn s) ∧ cv = .int .i64 (svT M P nx a rn s).2.1 ∧ Own wr B [intRowOf 3 bv (svT M P nx a rn s).1] ∧ Below B wP wr) (fun _ _ _ i _ => a.length - (intOf i).toNat)
    case atStart => exact ⟨0, by omega, rfl, rfl, rfl, own0, b0⟩
    case round =>
      clear own0 b0
      obtain ⟨s, hs, rfl, rfl, rfl, hown, hb⟩ := hrel
      obtain ⟨wo, rfl⟩ : ∃ y : World, y = wr := ⟨_, rfl⟩
      have hx : Ext wP wo := hEx.out _ hb
      have hBo := hBl.out _ hx
      by_cases hlt : s < a.length
      · have hsk : s < k := by rw [← hak.out]; exact hlt
        have e0o : Ext w0 wo := Ext.trans e0P hx
        have hmem := hid (hSw.out s hsk)
        have htl := (atR_lt hmem.out).1
        obtain ⟨ba, oa, x, hd1, hxx, hxM, hca⟩ := ha.pt (w' := wo) hap (k := s) hlt
        cases hd1
        obtain ⟨bM, oM, dR, mR, hdM, hcM, hiR, _⟩ := hR.at (w' := wo) (k := x) hxM
        cases hdM
        have hRl : rn < (row M x).length := by rw [hMr.out x hxM]; exact hrn
        obtain ⟨bR, oR, hdR, hcR⟩ := hiR.at (w' := wo) (k := rn) hRl
        cases hdR
        have hswl := hid (show (sortL (a.set s rn)).length = a.length by rw [sortL_len, List.length_set])
        have hswi := hid (show ∀ y ∈ sortL (a.set s rn), I64 y from pts_i64 (n := M.length) ((hap.set hrp.out).perm (sortL_perm _)) (by omega))
        obtain ⟨t, ht⟩ : ∃ t, t = atR P (sortL (a.set s rn)) := ⟨_, rfl⟩
        rw [← ht] at htl
        have htw : t < nx.length := by rw [hlw.out]; exact htl
        obtain ⟨bw, ow, hdw, hcw⟩ := hn.at (w' := wo) htw
        cases hdw
        have x0q := hx.cell x0
        have hsum := hid (show svN M P nx a rn s = nth nx t + nth (row M x) rn by
          unfold svN svX
          rw [← ht, hxx]
          rfl)
        have hdcv := hid (show cell M (nth a s).toNat ((rn : Int)).toNat = nth (row M x) rn by rw [hxx]; rfl)
        have hq1 := hwb.out t htl
        have hq2 : 0 ≤ nth (row M x) rn ∧ nth (row M x) rn ≤ 99 := hdst.out.pos x rn hxM hrn
        have hy := hid (fun h => sv_yes (M := M) (P := P) (nx := nx) (a := a) (r := rn) (s := s) h)
        have hz := hid (fun h => sv_no (M := M) (P := P) (nx := nx) (a := a) (r := rn) (s := s) h)
        have hcas := hid (show (s = 0 ∧ svL M P nx a rn s = -1 ∧ (svT M P nx a rn s).2.2 = 1073741824) ∨ (svL M P nx a rn s = (svT M P nx a rn s).2.2 ∧ (svT M P nx a rn s).1.length = a.length ∧ 0 ≤ (svT M P nx a rn s).2.2) from by
          by_cases h0 : s = 0
          · subst h0; exact .inl ⟨rfl, rfl, rfl⟩
          · exact .inr ⟨svL_pos h0, hTl.out s (by omega) (by omega)⟩)
        have hbi := hid (show (svT M P nx a rn s).1.length ≤ 3 ∧ ∀ y ∈ (svT M P nx a rn s).1, I64 y from by
          by_cases h0 : s = 0
          · subst h0; exact ⟨Nat.zero_le _, fun y hy => by cases hy⟩
          · obtain ⟨q, hq, h2⟩ := svT_at (M := M) (P := P) (nx := nx) (a := a) (r := rn) (s := s) (fun q hq => by have := (hNi.out q (by omega)).2; omega) (by omega)
            rw [h2]
            exact ⟨by show (svX a rn q).length ≤ 3; rw [svX, sortL_len, List.length_set]; exact hak3, pts_i64 (n := M.length) ((hap.set hrp.out).perm (sortL_perm _)) (by omega)⟩)
        rw [hsum.out, hdcv.out] at hy
        rw [hsum.out] at hz
        have hat := hid ht.symm
        replace ht := hid ht
        replace hxx := hid hxx
        obtain ⟨T, hT⟩ : ∃ T, T = svT M P nx a rn s := ⟨_, rfl⟩
        rw [← hT] at hown hy hz hcas hbi ⊢
        replace hT := hid hT
        obtain ⟨bl, cst, bs⟩ := T
        simp only at hown hy hz hcas hbi ⊢
        obtain ⟨l, hl⟩ : ∃ l, l = svL M P nx a rn s := ⟨_, rfl⟩
        rw [← hl] at hcas ⊢
        replace hl := hid hl
        obtain ⟨wt, hwt⟩ : ∃ y, y = nth nx t := ⟨_, rfl⟩
        rw [← hwt] at hcw hy hz hq1
        replace hwt := hid hwt
        obtain ⟨dc, hdc⟩ : ∃ y, y = nth (row M x) rn := ⟨_, rfl⟩
        rw [← hdc] at hcR hy hz hq2
        replace hdc := hid hdc
        obtain ⟨Rx, hRx⟩ : ∃ y, y = row M x := ⟨_, rfl⟩
        rw [← hRx] at hcM hiR hRl
        replace hRx := hid hRx
        have hbv : IsInts wo _ bl := hown.reads (by unfold Short; have := hbi.out.1; omega) hbi.out.2
        obtain ⟨db, nb, mb, rfl, hnb⟩ := own_formN hown
        have hs1 : IntKind.i64.wrap (wt + dc) = wt + dc := IntWalk.i64_in _ (by omega)
        go_wp2_with fail
        with_reducible refine (l7Swap_any (w0 := w0) ha' hlt hri.out (by omega)).mono ?_
        rintro e w5 ⟨u5, rfl, own5, e5⟩
        have e5P : Ext wP w5 := Ext.trans hx e5
        have hU : IsInts w5 u5 (sortL (a.set s rn)) := own5.reads (by unfold Short; rw [hswl.out]; omega) hswi.out
        replace own5 := own5.mono hBo
        have hB5 : B ≤ w5.heap.size := Nat.le_trans hBo e5.size
        have hb5 := hbv.ext (w' := w5)
        have hSx := hid (show ∀ u, Ext w5 u → u.cell? ⟨bw, ow + t, none⟩ = some (.int .i64 wt) ∧ u.cell? ⟨bx, 0, none⟩ = some (.slice (some ⟨bM, oM, none⟩) M.length c1) ∧ u.cell? ⟨ba, oa + s, none⟩ = some (.int .i64 (x : Int)) ∧ u.cell? ⟨bM, oM + x, none⟩ = some (.slice (some ⟨bR, oR, none⟩) Rx.length mR) ∧ u.cell? ⟨bR, oR + rn, none⟩ = some (.int .i64 dc) from fun u e => ⟨(Ext.trans e5 e).cell hcw, (Ext.trans e5 e).cell x0q, (Ext.trans e5 e).cell hca, (Ext.trans e5 e).cell hcM, (Ext.trans e5 e).cell hcR⟩)
        clear hcw x0q hca hcM hcR
        have hXd := hid (show svX a rn s = sortL (a.set s rn) from rfl)
        rw [hXd.out] at hy hz
        obtain ⟨X, hX⟩ : ∃ X, X = sortL (a.set s rn) := ⟨_, rfl⟩
        rw [← hX] at hy hz hU hmem hat hswl own5
        replace hX := hid hX
        by_cases hl0 : l < 0
        · have hl0' : decide (l < 0) = true := decide_eq_true hl0
          have hyes := hid (hy.out (.inl (by rcases hcas.out with ⟨_, _, h⟩ | ⟨h, _, h2⟩ <;> omega)))
          clear hcas hy hz
          go_wp2_with fail
          refine region_held_from (w0 := w5) (S := fun u => u.cell? ⟨bw, ow + t, none⟩ = some (.int .i64 wt) ∧ u.cell? ⟨bx, 0, none⟩ = some (.slice (some ⟨bM, oM, none⟩) M.length c1) ∧ u.cell? ⟨ba, oa + s, none⟩ = some (.int .i64 (x : Int)) ∧ u.cell? ⟨bM, oM + x, none⟩ = some (.slice (some ⟨bR, oR, none⟩) Rx.length mR) ∧ u.cell? ⟨bR, oR + rn, none⟩ = some (.int .i64 dc)) (by kernel_rfl) hSx.out (fun wd ed hHeld0 => ?_)
          refine wpAnyH_take (i := 0) (v := .slice (some ⟨bw, ow, none⟩) nx.length mw) rfl (by kernel_rfl) (by kernel_rfl) (by kernel_rfl) (fun _ _ _ h => h) (Or.inl ⟨by rfl, by intro wx hx; go_simp⟩) (by assumption) ?_
          try simp only [List.getElem_toArray, List.getElem_cons_zero, Act.put, List.setIfInBounds_toArray, List.set_cons_zero, List.set_cons_succ]
          refine wpAnyH_take (i := 1) (v := .slice aP P.length cP) rfl (by kernel_rfl) (by kernel_rfl) (by kernel_rfl) (fun _ _ _ h => h) (Or.inl ⟨by rfl, by intro wx hx; go_simp⟩) (by assumption) ?_
          try simp only [List.getElem_toArray, List.getElem_cons_succ, List.getElem_cons_zero, Act.put, List.setIfInBounds_toArray, List.set_cons_zero, List.set_cons_succ]
          refine wpAnyH_take (i := 2) (v := u5) rfl (by kernel_rfl) (by kernel_rfl) (by kernel_rfl) (fun _ _ _ h => h) (Or.inl ⟨by rfl, by intro wx hx; go_simp⟩) (by assumption) ?_
          try simp only [List.getElem_toArray, List.getElem_cons_succ, List.getElem_cons_zero, Act.put, List.setIfInBounds_toArray, List.set_cons_zero, List.set_cons_succ]
          refine wpAnyH_take (i := 6) (v := .pointer (some ⟨bx, 0, none⟩)) rfl (by kernel_rfl) (by kernel_rfl) (by kernel_rfl) (fun _ _ _ h => h) (Or.inl ⟨by rfl, by intro wx hx; go_simp⟩) (by assumption) ?_
          try simp only [List.getElem_toArray, List.getElem_cons_succ, List.getElem_cons_zero, Act.put, List.setIfInBounds_toArray, List.set_cons_zero, List.set_cons_succ]
          refine wpAnyH_take (i := 7) (v := .slice (some ⟨bM, oM, none⟩) M.length c1) rfl (by kernel_rfl) (by kernel_rfl) (by kernel_rfl) (fun _ _ _ h => h) (Or.inl ⟨by rfl, by intro wx hx; obtain ⟨_, _, _, _, _⟩ := hx; go_simp⟩) (by assumption) ?_
          try simp only [List.getElem_toArray, List.getElem_cons_succ, List.getElem_cons_zero, Act.put, List.setIfInBounds_toArray, List.set_cons_zero, List.set_cons_succ]
          refine wpAnyH_take (i := 8) (v := .slice (some ⟨ba, oa, none⟩) a.length ma) rfl (by kernel_rfl) (by kernel_rfl) (by kernel_rfl) (fun _ _ _ h => h) (Or.inl ⟨by rfl, by intro wx hx; go_simp⟩) (by assumption) ?_
          try simp only [List.getElem_toArray, List.getElem_cons_succ, List.getElem_cons_zero, Act.put, List.setIfInBounds_toArray, List.set_cons_zero, List.set_cons_succ]
          refine wpAnyH_take (i := 9) (v := .int .i64 s) rfl (by kernel_rfl) (by kernel_rfl) (by kernel_rfl) (fun _ _ _ h => h) (Or.inl ⟨by rfl, by intro wx hx; go_simp⟩) (by assumption) ?_
          try simp only [List.getElem_toArray, List.getElem_cons_succ, List.getElem_cons_zero, Act.put, List.setIfInBounds_toArray, List.set_cons_zero, List.set_cons_succ]
          refine wpAnyH_take (i := 10) (v := .pointer (some ⟨ba, oa + s, none⟩)) rfl (by kernel_rfl) (by kernel_rfl) (by kernel_rfl) (fun _ _ _ h => h) (Or.inl ⟨by rfl, by intro wx hx; go_simp⟩) (by assumption) ?_
          try simp only [List.getElem_toArray, List.getElem_cons_succ, List.getElem_cons_zero, Act.put, List.setIfInBounds_toArray, List.set_cons_zero, List.set_cons_succ]
          refine wpAnyH_take (i := 11) (v := .int .i64 x) rfl (by kernel_rfl) (by kernel_rfl) (by kernel_rfl) (fun _ _ _ h => h) (Or.inl ⟨by rfl, by intro wx hx; obtain ⟨_, _, _, _, _⟩ := hx; go_simp⟩) (by assumption) ?_
          try simp only [List.getElem_toArray, List.getElem_cons_succ, List.getElem_cons_zero, Act.put, List.setIfInBounds_toArray, List.set_cons_zero, List.set_cons_succ]
          refine wpAnyH_take (i := 12) (v := .pointer (some ⟨bM, oM + x, none⟩)) rfl (by kernel_rfl) (by kernel_rfl) (by kernel_rfl) (fun _ _ _ h => h) (Or.inl ⟨by rfl, by intro wx hx; go_simp⟩) (by assumption) ?_
          try simp only [List.getElem_toArray, List.getElem_cons_succ, List.getElem_cons_zero, Act.put, List.setIfInBounds_toArray, List.set_cons_zero, List.set_cons_succ]
          refine wpAnyH_take (i := 13) (v := .slice (some ⟨bR, oR, none⟩) Rx.length mR) rfl (by kernel_rfl) (by kernel_rfl) (by kernel_rfl) (fun _ _ _ h => h) (Or.inl ⟨by rfl, by intro wx hx; obtain ⟨_, _, _, _, _⟩ := hx; go_simp⟩) (by assumption) ?_
          try simp only [List.getElem_toArray, List.getElem_cons_succ, List.getElem_cons_zero, Act.put, List.setIfInBounds_toArray, List.set_cons_zero, List.set_cons_succ]
          refine wpAnyH_take (i := 14) (v := .int .i64 rn) rfl (by kernel_rfl) (by kernel_rfl) (by kernel_rfl) (fun _ _ _ h => h) (Or.inl ⟨by rfl, by intro wx hx; go_simp⟩) (by assumption) ?_
          try simp only [List.getElem_toArray, List.getElem_cons_succ, List.getElem_cons_zero, Act.put, List.setIfInBounds_toArray, List.set_cons_zero, List.set_cons_succ]
          refine wpAnyH_take (i := 15) (v := .pointer (some ⟨bR, oR + rn, none⟩)) rfl (by kernel_rfl) (by kernel_rfl) (by kernel_rfl) (fun _ _ _ h => h) (Or.inl ⟨by rfl, by intro wx hx; go_simp⟩) (by assumption) ?_
          try simp only [List.getElem_toArray, List.getElem_cons_succ, List.getElem_cons_zero, Act.put, List.setIfInBounds_toArray, List.set_cons_zero, List.set_cons_succ]
          refine wpAnyH_take (i := 16) (v := .int .i64 dc) rfl (by kernel_rfl) (by kernel_rfl) (by kernel_rfl) (fun _ _ _ h => h) (Or.inl ⟨by rfl, by intro wx hx; obtain ⟨_, _, _, _, _⟩ := hx; go_simp⟩) (by assumption) ?_
          try simp only [List.getElem_toArray, List.getElem_cons_succ, List.getElem_cons_zero, Act.put, List.setIfInBounds_toArray, List.set_cons_zero, List.set_cons_succ]
          refine wpAnyH_ready (rs := [3]) (by kernel_rfl) (by simp) ?_
          refine AllReadyH.cons rfl (fun K hK => ?_) AllReadyH.nil
          go_simp
          go_at_call 81
          refine (l7Index_any (w0 := wd) (w := wd) (hP.ext (e := Ext.trans e5P ed)) (hU.ext (e := ed)) hmem.out).mono ?_
          rw [hat.out]
          rintro e w6 ⟨rfl, e6⟩
          have e65 : Ext w5 w6 := Ext.trans ed e6
          have own6 := own5.ext (w' := w6)
          have ob6 := (hown.ext (w' := w5)).ext (w' := w6)
          have b6 : Below B wP w6 := (hb.trans (e5.below.mono hBo)).trans (e65.below.mono hB5)
          have hB6 : B ≤ w6.heap.size := Nat.le_trans hB5 e65.size
          have hS6 := hSx.out w6 e65
          go_wp2_with fail
          refine hK.out _ _ hS6 (fun _ => ?_)
          clear hK K
          try simp only [List.getElem_toArray, List.getElem_cons_succ, List.getElem_cons_zero, Act.put, List.setIfInBounds_toArray, List.set_cons_zero, List.set_cons_succ]
          refine wpAnyH_take (i := 4) (v := .pointer (some ⟨bw, ow + t, none⟩)) rfl (by kernel_rfl) (by kernel_rfl) (by kernel_rfl) (fun _ _ _ h => h) (Or.inl ⟨by rfl, by intro wx hx; go_simp⟩) (by assumption) ?_
          try simp only [List.getElem_toArray, List.getElem_cons_succ, List.getElem_cons_zero, Act.put, List.setIfInBounds_toArray, List.set_cons_zero, List.set_cons_succ]
          refine wpAnyH_take (i := 5) (v := .int .i64 wt) rfl (by kernel_rfl) (by kernel_rfl) (by kernel_rfl) (fun _ _ _ h => h) (Or.inl ⟨by rfl, by intro wx hx; obtain ⟨_, _, _, _, _⟩ := hx; go_simp⟩) (by assumption) ?_
          try simp only [List.getElem_toArray, List.getElem_cons_succ, List.getElem_cons_zero, Act.put, List.setIfInBounds_toArray, List.set_cons_zero, List.set_cons_succ]
          refine wpAnyH_take (i := 17) (v := .int .i64 (wt + dc)) rfl (by kernel_rfl) (by kernel_rfl) (by kernel_rfl) (fun _ _ _ h => h) (Or.inl ⟨by rfl, by intro wx hx; go_simp⟩) (by assumption) ?_
          try simp only [List.getElem_toArray, List.getElem_cons_succ, List.getElem_cons_zero, Act.put, List.setIfInBounds_toArray, List.set_cons_zero, List.set_cons_succ]
          refine wpAnyH_take (i := 18) (v := .int .i64 (wt + dc)) rfl (by kernel_rfl) (by kernel_rfl) (by kernel_rfl) (fun _ _ _ h => h) (Or.inl ⟨by rfl, by intro wx hx; go_simp⟩) (by assumption) ?_
          try simp only [List.getElem_toArray, List.getElem_cons_succ, List.getElem_cons_zero, Act.put, List.setIfInBounds_toArray, List.set_cons_zero, List.set_cons_succ]
          refine wpAnyH_done (by kernel_rfl) ?_ _
          obtain ⟨k1, k2, k3, k4, k5⟩ := hS6
          go_wp2_with (go_quiet (fail))
          go_roundw
          case rel => exact ⟨s + 1, by omega, by go_num, by rw [hyes.out.2.2], by rw [hyes.out.2.1], by rw [hyes.out.1]; exact own6.ext, ext_below b6 hB6⟩
          case measure => simp [intOf]; omega
        · have hl0' : decide (l < 0) = false := decide_eq_false hl0
          have hlb := hid (show l = bs ∧ bl.length = a.length by rcases hcas.out with ⟨_, h, _⟩ | ⟨h, h2, _⟩; omega; exact ⟨h, h2⟩)
          by_cases hl1 : wt + dc < l
          · have hl1' : decide (wt + dc < l) = true := decide_eq_true hl1
            have hyes := hid (hy.out (.inl (by rw [← hlb.out.1]; exact hl1)))
            clear hcas hy hz
            go_wp2_with fail
            refine region_held_from (w0 := w5) (S := fun u => u.cell? ⟨bw, ow + t, none⟩ = some (.int .i64 wt) ∧ u.cell? ⟨bx, 0, none⟩ = some (.slice (some ⟨bM, oM, none⟩) M.length c1) ∧ u.cell? ⟨ba, oa + s, none⟩ = some (.int .i64 (x : Int)) ∧ u.cell? ⟨bM, oM + x, none⟩ = some (.slice (some ⟨bR, oR, none⟩) Rx.length mR) ∧ u.cell? ⟨bR, oR + rn, none⟩ = some (.int .i64 dc)) (by kernel_rfl) hSx.out (fun wd ed hHeld0 => ?_)
            refine wpAnyH_take (i := 0) (v := .slice (some ⟨bw, ow, none⟩) nx.length mw) rfl (by kernel_rfl) (by kernel_rfl) (by kernel_rfl) (fun _ _ _ h => h) (Or.inl ⟨by rfl, by intro wx hx; go_simp⟩) (by assumption) ?_
            try simp only [List.getElem_toArray, List.getElem_cons_zero, Act.put, List.setIfInBounds_toArray, List.set_cons_zero, List.set_cons_succ]
            refine wpAnyH_take (i := 1) (v := .slice aP P.length cP) rfl (by kernel_rfl) (by kernel_rfl) (by kernel_rfl) (fun _ _ _ h => h) (Or.inl ⟨by rfl, by intro wx hx; go_simp⟩) (by assumption) ?_
            try simp only [List.getElem_toArray, List.getElem_cons_succ, List.getElem_cons_zero, Act.put, List.setIfInBounds_toArray, List.set_cons_zero, List.set_cons_succ]
            refine wpAnyH_take (i := 2) (v := u5) rfl (by kernel_rfl) (by kernel_rfl) (by kernel_rfl) (fun _ _ _ h => h) (Or.inl ⟨by rfl, by intro wx hx; go_simp⟩) (by assumption) ?_
            try simp only [List.getElem_toArray, List.getElem_cons_succ, List.getElem_cons_zero, Act.put, List.setIfInBounds_toArray, List.set_cons_zero, List.set_cons_succ]
            refine wpAnyH_take (i := 6) (v := .pointer (some ⟨bx, 0, none⟩)) rfl (by kernel_rfl) (by kernel_rfl) (by kernel_rfl) (fun _ _ _ h => h) (Or.inl ⟨by rfl, by intro wx hx; go_simp⟩) (by assumption) ?_
            try simp only [List.getElem_toArray, List.getElem_cons_succ, List.getElem_cons_zero, Act.put, List.setIfInBounds_toArray, List.set_cons_zero, List.set_cons_succ]
            refine wpAnyH_take (i := 7) (v := .slice (some ⟨bM, oM, none⟩) M.length c1) rfl (by kernel_rfl) (by kernel_rfl) (by kernel_rfl) (fun _ _ _ h => h) (Or.inl ⟨by rfl, by intro wx hx; obtain ⟨_, _, _, _, _⟩ := hx; go_simp⟩) (by assumption) ?_
            try simp only [List.getElem_toArray, List.getElem_cons_succ, List.getElem_cons_zero, Act.put, List.setIfInBounds_toArray, List.set_cons_zero, List.set_cons_succ]
            refine wpAnyH_take (i := 8) (v := .slice (some ⟨ba, oa, none⟩) a.length ma) rfl (by kernel_rfl) (by kernel_rfl) (by kernel_rfl) (fun _ _ _ h => h) (Or.inl ⟨by rfl, by intro wx hx; go_simp⟩) (by assumption) ?_
            try simp only [List.getElem_toArray, List.getElem_cons_succ, List.getElem_cons_zero, Act.put, List.setIfInBounds_toArray, List.set_cons_zero, List.set_cons_succ]
            refine wpAnyH_take (i := 9) (v := .int .i64 s) rfl (by kernel_rfl) (by kernel_rfl) (by kernel_rfl) (fun _ _ _ h => h) (Or.inl ⟨by rfl, by intro wx hx; go_simp⟩) (by assumption) ?_
            try simp only [List.getElem_toArray, List.getElem_cons_succ, List.getElem_cons_zero, Act.put, List.setIfInBounds_toArray, List.set_cons_zero, List.set_cons_succ]
            refine wpAnyH_take (i := 10) (v := .pointer (some ⟨ba, oa + s, none⟩)) rfl (by kernel_rfl) (by kernel_rfl) (by kernel_rfl) (fun _ _ _ h => h) (Or.inl ⟨by rfl, by intro wx hx; go_simp⟩) (by assumption) ?_
            try simp only [List.getElem_toArray, List.getElem_cons_succ, List.getElem_cons_zero, Act.put, List.setIfInBounds_toArray, List.set_cons_zero, List.set_cons_succ]
            refine wpAnyH_take (i := 11) (v := .int .i64 x) rfl (by kernel_rfl) (by kernel_rfl) (by kernel_rfl) (fun _ _ _ h => h) (Or.inl ⟨by rfl, by intro wx hx; obtain ⟨_, _, _, _, _⟩ := hx; go_simp⟩) (by assumption) ?_
            try simp only [List.getElem_toArray, List.getElem_cons_succ, List.getElem_cons_zero, Act.put, List.setIfInBounds_toArray, List.set_cons_zero, List.set_cons_succ]
            refine wpAnyH_take (i := 12) (v := .pointer (some ⟨bM, oM + x, none⟩)) rfl (by kernel_rfl) (by kernel_rfl) (by kernel_rfl) (fun _ _ _ h => h) (Or.inl ⟨by rfl, by intro wx hx; go_simp⟩) (by assumption) ?_
            try simp only [List.getElem_toArray, List.getElem_cons_succ, List.getElem_cons_zero, Act.put, List.setIfInBounds_toArray, List.set_cons_zero, List.set_cons_succ]
            refine wpAnyH_take (i := 13) (v := .slice (some ⟨bR, oR, none⟩) Rx.length mR) rfl (by kernel_rfl) (by kernel_rfl) (by kernel_rfl) (fun _ _ _ h => h) (Or.inl ⟨by rfl, by intro wx hx; obtain ⟨_, _, _, _, _⟩ := hx; go_simp⟩) (by assumption) ?_
            try simp only [List.getElem_toArray, List.getElem_cons_succ, List.getElem_cons_zero, Act.put, List.setIfInBounds_toArray, List.set_cons_zero, List.set_cons_succ]
            refine wpAnyH_take (i := 14) (v := .int .i64 rn) rfl (by kernel_rfl) (by kernel_rfl) (by kernel_rfl) (fun _ _ _ h => h) (Or.inl ⟨by rfl, by intro wx hx; go_simp⟩) (by assumption) ?_
            try simp only [List.getElem_toArray, List.getElem_cons_succ, List.getElem_cons_zero, Act.put, List.setIfInBounds_toArray, List.set_cons_zero, List.set_cons_succ]
            refine wpAnyH_take (i := 15) (v := .pointer (some ⟨bR, oR + rn, none⟩)) rfl (by kernel_rfl) (by kernel_rfl) (by kernel_rfl) (fun _ _ _ h => h) (Or.inl ⟨by rfl, by intro wx hx; go_simp⟩) (by assumption) ?_
            try simp only [List.getElem_toArray, List.getElem_cons_succ, List.getElem_cons_zero, Act.put, List.setIfInBounds_toArray, List.set_cons_zero, List.set_cons_succ]
            refine wpAnyH_take (i := 16) (v := .int .i64 dc) rfl (by kernel_rfl) (by kernel_rfl) (by kernel_rfl) (fun _ _ _ h => h) (Or.inl ⟨by rfl, by intro wx hx; obtain ⟨_, _, _, _, _⟩ := hx; go_simp⟩) (by assumption) ?_
            try simp only [List.getElem_toArray, List.getElem_cons_succ, List.getElem_cons_zero, Act.put, List.setIfInBounds_toArray, List.set_cons_zero, List.set_cons_succ]
            refine wpAnyH_ready (rs := [3]) (by kernel_rfl) (by simp) ?_
            refine AllReadyH.cons rfl (fun K hK => ?_) AllReadyH.nil
            go_simp
            go_at_call 81
            refine (l7Index_any (w0 := wd) (w := wd) (hP.ext (e := Ext.trans e5P ed)) (hU.ext (e := ed)) hmem.out).mono ?_
            rw [hat.out]
            rintro e w6 ⟨rfl, e6⟩
            have e65 : Ext w5 w6 := Ext.trans ed e6
            have own6 := own5.ext (w' := w6)
            have ob6 := (hown.ext (w' := w5)).ext (w' := w6)
            have b6 : Below B wP w6 := (hb.trans (e5.below.mono hBo)).trans (e65.below.mono hB5)
            have hB6 : B ≤ w6.heap.size := Nat.le_trans hB5 e65.size
            have hS6 := hSx.out w6 e65
            go_wp2_with fail
            refine hK.out _ _ hS6 (fun _ => ?_)
            clear hK K
            try simp only [List.getElem_toArray, List.getElem_cons_succ, List.getElem_cons_zero, Act.put, List.setIfInBounds_toArray, List.set_cons_zero, List.set_cons_succ]
            refine wpAnyH_take (i := 4) (v := .pointer (some ⟨bw, ow + t, none⟩)) rfl (by kernel_rfl) (by kernel_rfl) (by kernel_rfl) (fun _ _ _ h => h) (Or.inl ⟨by rfl, by intro wx hx; go_simp⟩) (by assumption) ?_
            try simp only [List.getElem_toArray, List.getElem_cons_succ, List.getElem_cons_zero, Act.put, List.setIfInBounds_toArray, List.set_cons_zero, List.set_cons_succ]
            refine wpAnyH_take (i := 5) (v := .int .i64 wt) rfl (by kernel_rfl) (by kernel_rfl) (by kernel_rfl) (fun _ _ _ h => h) (Or.inl ⟨by rfl, by intro wx hx; obtain ⟨_, _, _, _, _⟩ := hx; go_simp⟩) (by assumption) ?_
            try simp only [List.getElem_toArray, List.getElem_cons_succ, List.getElem_cons_zero, Act.put, List.setIfInBounds_toArray, List.set_cons_zero, List.set_cons_succ]
            refine wpAnyH_take (i := 17) (v := .int .i64 (wt + dc)) rfl (by kernel_rfl) (by kernel_rfl) (by kernel_rfl) (fun _ _ _ h => h) (Or.inl ⟨by rfl, by intro wx hx; go_simp⟩) (by assumption) ?_
            try simp only [List.getElem_toArray, List.getElem_cons_succ, List.getElem_cons_zero, Act.put, List.setIfInBounds_toArray, List.set_cons_zero, List.set_cons_succ]
            refine wpAnyH_take (i := 18) (v := .int .i64 (wt + dc)) rfl (by kernel_rfl) (by kernel_rfl) (by kernel_rfl) (fun _ _ _ h => h) (Or.inl ⟨by rfl, by intro wx hx; go_simp⟩) (by assumption) ?_
            try simp only [List.getElem_toArray, List.getElem_cons_succ, List.getElem_cons_zero, Act.put, List.setIfInBounds_toArray, List.set_cons_zero, List.set_cons_succ]
            refine wpAnyH_done (by kernel_rfl) ?_ _
            obtain ⟨k1, k2, k3, k4, k5⟩ := hS6
            go_wp2_with (go_quiet (fail))
            go_roundw
            case rel => exact ⟨s + 1, by omega, by go_num, by rw [hyes.out.2.2], by rw [hyes.out.2.1], by rw [hyes.out.1]; exact own6.ext, ext_below b6 hB6⟩
            case measure => simp [intOf]; omega
          · have hl1' : decide (wt + dc < l) = false := decide_eq_false hl1
            have hXb : Hid (X.length = bl.length) := hid (by rw [hswl.out, hlb.out.2])
            by_cases hl2 : wt + dc = l
            · have hl2' : (wt + dc == l) = true := by simpa using hl2
              cases hlx : decide (lexC X bl < 0) with
              | true =>
                have hyes := hid (hy.out (.inr ⟨by rw [← hlb.out.1]; exact hl2, of_decide_eq_true hlx⟩))
                clear hcas hy hz
                replace hl2 := hid hl2
                replace hlx := hid hlx
                go_wp2_with fail
                refine region_held_from (w0 := w5) (S := fun u => u.cell? ⟨bw, ow + t, none⟩ = some (.int .i64 wt) ∧ u.cell? ⟨bx, 0, none⟩ = some (.slice (some ⟨bM, oM, none⟩) M.length c1) ∧ u.cell? ⟨ba, oa + s, none⟩ = some (.int .i64 (x : Int)) ∧ u.cell? ⟨bM, oM + x, none⟩ = some (.slice (some ⟨bR, oR, none⟩) Rx.length mR) ∧ u.cell? ⟨bR, oR + rn, none⟩ = some (.int .i64 dc)) (by kernel_rfl) hSx.out (fun wd ed hHeld0 => ?_)
                refine wpAnyH_take (i := 0) (v := .slice (some ⟨bw, ow, none⟩) nx.length mw) rfl (by kernel_rfl) (by kernel_rfl) (by kernel_rfl) (fun _ _ _ h => h) (Or.inl ⟨by rfl, by intro wx hx; go_simp⟩) (by assumption) ?_
                try simp only [List.getElem_toArray, List.getElem_cons_zero, Act.put, List.setIfInBounds_toArray, List.set_cons_zero, List.set_cons_succ]
                refine wpAnyH_take (i := 1) (v := .slice aP P.length cP) rfl (by kernel_rfl) (by kernel_rfl) (by kernel_rfl) (fun _ _ _ h => h) (Or.inl ⟨by rfl, by intro wx hx; go_simp⟩) (by assumption) ?_
                try simp only [List.getElem_toArray, List.getElem_cons_succ, List.getElem_cons_zero, Act.put, List.setIfInBounds_toArray, List.set_cons_zero, List.set_cons_succ]
                refine wpAnyH_take (i := 2) (v := u5) rfl (by kernel_rfl) (by kernel_rfl) (by kernel_rfl) (fun _ _ _ h => h) (Or.inl ⟨by rfl, by intro wx hx; go_simp⟩) (by assumption) ?_
                try simp only [List.getElem_toArray, List.getElem_cons_succ, List.getElem_cons_zero, Act.put, List.setIfInBounds_toArray, List.set_cons_zero, List.set_cons_succ]
                refine wpAnyH_take (i := 6) (v := .pointer (some ⟨bx, 0, none⟩)) rfl (by kernel_rfl) (by kernel_rfl) (by kernel_rfl) (fun _ _ _ h => h) (Or.inl ⟨by rfl, by intro wx hx; go_simp⟩) (by assumption) ?_
                try simp only [List.getElem_toArray, List.getElem_cons_succ, List.getElem_cons_zero, Act.put, List.setIfInBounds_toArray, List.set_cons_zero, List.set_cons_succ]
                refine wpAnyH_take (i := 7) (v := .slice (some ⟨bM, oM, none⟩) M.length c1) rfl (by kernel_rfl) (by kernel_rfl) (by kernel_rfl) (fun _ _ _ h => h) (Or.inl ⟨by rfl, by intro wx hx; obtain ⟨_, _, _, _, _⟩ := hx; go_simp⟩) (by assumption) ?_
                try simp only [List.getElem_toArray, List.getElem_cons_succ, List.getElem_cons_zero, Act.put, List.setIfInBounds_toArray, List.set_cons_zero, List.set_cons_succ]
                refine wpAnyH_take (i := 8) (v := .slice (some ⟨ba, oa, none⟩) a.length ma) rfl (by kernel_rfl) (by kernel_rfl) (by kernel_rfl) (fun _ _ _ h => h) (Or.inl ⟨by rfl, by intro wx hx; go_simp⟩) (by assumption) ?_
                try simp only [List.getElem_toArray, List.getElem_cons_succ, List.getElem_cons_zero, Act.put, List.setIfInBounds_toArray, List.set_cons_zero, List.set_cons_succ]
                refine wpAnyH_take (i := 9) (v := .int .i64 s) rfl (by kernel_rfl) (by kernel_rfl) (by kernel_rfl) (fun _ _ _ h => h) (Or.inl ⟨by rfl, by intro wx hx; go_simp⟩) (by assumption) ?_
                try simp only [List.getElem_toArray, List.getElem_cons_succ, List.getElem_cons_zero, Act.put, List.setIfInBounds_toArray, List.set_cons_zero, List.set_cons_succ]
                refine wpAnyH_take (i := 10) (v := .pointer (some ⟨ba, oa + s, none⟩)) rfl (by kernel_rfl) (by kernel_rfl) (by kernel_rfl) (fun _ _ _ h => h) (Or.inl ⟨by rfl, by intro wx hx; go_simp⟩) (by assumption) ?_
                try simp only [List.getElem_toArray, List.getElem_cons_succ, List.getElem_cons_zero, Act.put, List.setIfInBounds_toArray, List.set_cons_zero, List.set_cons_succ]
                refine wpAnyH_take (i := 11) (v := .int .i64 x) rfl (by kernel_rfl) (by kernel_rfl) (by kernel_rfl) (fun _ _ _ h => h) (Or.inl ⟨by rfl, by intro wx hx; obtain ⟨_, _, _, _, _⟩ := hx; go_simp⟩) (by assumption) ?_
                try simp only [List.getElem_toArray, List.getElem_cons_succ, List.getElem_cons_zero, Act.put, List.setIfInBounds_toArray, List.set_cons_zero, List.set_cons_succ]
                refine wpAnyH_take (i := 12) (v := .pointer (some ⟨bM, oM + x, none⟩)) rfl (by kernel_rfl) (by kernel_rfl) (by kernel_rfl) (fun _ _ _ h => h) (Or.inl ⟨by rfl, by intro wx hx; go_simp⟩) (by assumption) ?_
                try simp only [List.getElem_toArray, List.getElem_cons_succ, List.getElem_cons_zero, Act.put, List.setIfInBounds_toArray, List.set_cons_zero, List.set_cons_succ]
                refine wpAnyH_take (i := 13) (v := .slice (some ⟨bR, oR, none⟩) Rx.length mR) rfl (by kernel_rfl) (by kernel_rfl) (by kernel_rfl) (fun _ _ _ h => h) (Or.inl ⟨by rfl, by intro wx hx; obtain ⟨_, _, _, _, _⟩ := hx; go_simp⟩) (by assumption) ?_
                try simp only [List.getElem_toArray, List.getElem_cons_succ, List.getElem_cons_zero, Act.put, List.setIfInBounds_toArray, List.set_cons_zero, List.set_cons_succ]
                refine wpAnyH_take (i := 14) (v := .int .i64 rn) rfl (by kernel_rfl) (by kernel_rfl) (by kernel_rfl) (fun _ _ _ h => h) (Or.inl ⟨by rfl, by intro wx hx; go_simp⟩) (by assumption) ?_
                try simp only [List.getElem_toArray, List.getElem_cons_succ, List.getElem_cons_zero, Act.put, List.setIfInBounds_toArray, List.set_cons_zero, List.set_cons_succ]
                refine wpAnyH_take (i := 15) (v := .pointer (some ⟨bR, oR + rn, none⟩)) rfl (by kernel_rfl) (by kernel_rfl) (by kernel_rfl) (fun _ _ _ h => h) (Or.inl ⟨by rfl, by intro wx hx; go_simp⟩) (by assumption) ?_
                try simp only [List.getElem_toArray, List.getElem_cons_succ, List.getElem_cons_zero, Act.put, List.setIfInBounds_toArray, List.set_cons_zero, List.set_cons_succ]
                refine wpAnyH_take (i := 16) (v := .int .i64 dc) rfl (by kernel_rfl) (by kernel_rfl) (by kernel_rfl) (fun _ _ _ h => h) (Or.inl ⟨by rfl, by intro wx hx; obtain ⟨_, _, _, _, _⟩ := hx; go_simp⟩) (by assumption) ?_
                try simp only [List.getElem_toArray, List.getElem_cons_succ, List.getElem_cons_zero, Act.put, List.setIfInBounds_toArray, List.set_cons_zero, List.set_cons_succ]
                refine wpAnyH_ready (rs := [3]) (by kernel_rfl) (by simp) ?_
                refine AllReadyH.cons rfl (fun K hK => ?_) AllReadyH.nil
                go_simp
                go_at_call 81
                refine (l7Index_any (w0 := wd) (w := wd) (hP.ext (e := Ext.trans e5P ed)) (hU.ext (e := ed)) hmem.out).mono ?_
                rw [hat.out]
                rintro e w6 ⟨rfl, e6⟩
                have e65 : Ext w5 w6 := Ext.trans ed e6
                have own6 := own5.ext (w' := w6)
                have ob6 := (hown.ext (w' := w5)).ext (w' := w6)
                have b6 : Below B wP w6 := (hb.trans (e5.below.mono hBo)).trans (e65.below.mono hB5)
                have hB6 : B ≤ w6.heap.size := Nat.le_trans hB5 e65.size
                have hS6 := hSx.out w6 e65
                go_wp2_with fail
                refine hK.out _ _ hS6 (fun _ => ?_)
                clear hK K
                try simp only [List.getElem_toArray, List.getElem_cons_succ, List.getElem_cons_zero, Act.put, List.setIfInBounds_toArray, List.set_cons_zero, List.set_cons_succ]
                refine wpAnyH_take (i := 4) (v := .pointer (some ⟨bw, ow + t, none⟩)) rfl (by kernel_rfl) (by kernel_rfl) (by kernel_rfl) (fun _ _ _ h => h) (Or.inl ⟨by rfl, by intro wx hx; go_simp⟩) (by assumption) ?_
                try simp only [List.getElem_toArray, List.getElem_cons_succ, List.getElem_cons_zero, Act.put, List.setIfInBounds_toArray, List.set_cons_zero, List.set_cons_succ]
                refine wpAnyH_take (i := 5) (v := .int .i64 wt) rfl (by kernel_rfl) (by kernel_rfl) (by kernel_rfl) (fun _ _ _ h => h) (Or.inl ⟨by rfl, by intro wx hx; obtain ⟨_, _, _, _, _⟩ := hx; go_simp⟩) (by assumption) ?_
                try simp only [List.getElem_toArray, List.getElem_cons_succ, List.getElem_cons_zero, Act.put, List.setIfInBounds_toArray, List.set_cons_zero, List.set_cons_succ]
                refine wpAnyH_take (i := 17) (v := .int .i64 (wt + dc)) rfl (by kernel_rfl) (by kernel_rfl) (by kernel_rfl) (fun _ _ _ h => h) (Or.inl ⟨by rfl, by intro wx hx; go_simp⟩) (by assumption) ?_
                try simp only [List.getElem_toArray, List.getElem_cons_succ, List.getElem_cons_zero, Act.put, List.setIfInBounds_toArray, List.set_cons_zero, List.set_cons_succ]
                refine wpAnyH_take (i := 18) (v := .int .i64 (wt + dc)) rfl (by kernel_rfl) (by kernel_rfl) (by kernel_rfl) (fun _ _ _ h => h) (Or.inl ⟨by rfl, by intro wx hx; go_simp⟩) (by assumption) ?_
                try simp only [List.getElem_toArray, List.getElem_cons_succ, List.getElem_cons_zero, Act.put, List.setIfInBounds_toArray, List.set_cons_zero, List.set_cons_succ]
                refine wpAnyH_done (by kernel_rfl) ?_ _
                obtain ⟨k1, k2, k3, k4, k5⟩ := hS6
                go_wp2_with fail
                with_reducible refine (l7Before_any (w0 := w5) hU hb5 hXb.out).mono ?_
                rw [hlx.out]
                rintro e w7 ⟨rfl, e7⟩
                have k1' := e7.cell k1
                have k2' := e7.cell k2
                have k3' := e7.cell k3
                have k4' := e7.cell k4
                have k5' := e7.cell k5
                have e75 : Ext w5 w7 := Ext.trans e65 e7
                go_wp2_with (go_quiet (fail))
                go_roundw
                case rel => exact ⟨s + 1, by omega, by go_num, by rw [hyes.out.2.2], by rw [hyes.out.2.1], by rw [hyes.out.1]; exact (own6.ext (w' := w7)).ext, ext_below (ext_below (c := w7) b6 hB6) (Nat.le_trans hB6 e7.size)⟩
                case measure => simp [intOf]; omega
              | false =>
                have hno := hid (hz.out (by rintro (h | ⟨_, h⟩); rw [← hlb.out.1] at h; omega; exact of_decide_eq_false hlx h))
                have hlb1 := hid hlb.out.1
                clear hcas hy hz hlb
                replace hl2 := hid hl2
                replace hlx := hid hlx
                go_wp2_with fail
                refine region_held_from (w0 := w5) (S := fun u => u.cell? ⟨bw, ow + t, none⟩ = some (.int .i64 wt) ∧ u.cell? ⟨bx, 0, none⟩ = some (.slice (some ⟨bM, oM, none⟩) M.length c1) ∧ u.cell? ⟨ba, oa + s, none⟩ = some (.int .i64 (x : Int)) ∧ u.cell? ⟨bM, oM + x, none⟩ = some (.slice (some ⟨bR, oR, none⟩) Rx.length mR) ∧ u.cell? ⟨bR, oR + rn, none⟩ = some (.int .i64 dc)) (by kernel_rfl) hSx.out (fun wd ed hHeld0 => ?_)
                refine wpAnyH_take (i := 0) (v := .slice (some ⟨bw, ow, none⟩) nx.length mw) rfl (by kernel_rfl) (by kernel_rfl) (by kernel_rfl) (fun _ _ _ h => h) (Or.inl ⟨by rfl, by intro wx hx; go_simp⟩) (by assumption) ?_
                try simp only [List.getElem_toArray, List.getElem_cons_zero, Act.put, List.setIfInBounds_toArray, List.set_cons_zero, List.set_cons_succ]
                refine wpAnyH_take (i := 1) (v := .slice aP P.length cP) rfl (by kernel_rfl) (by kernel_rfl) (by kernel_rfl) (fun _ _ _ h => h) (Or.inl ⟨by rfl, by intro wx hx; go_simp⟩) (by assumption) ?_
                try simp only [List.getElem_toArray, List.getElem_cons_succ, List.getElem_cons_zero, Act.put, List.setIfInBounds_toArray, List.set_cons_zero, List.set_cons_succ]
                refine wpAnyH_take (i := 2) (v := u5) rfl (by kernel_rfl) (by kernel_rfl) (by kernel_rfl) (fun _ _ _ h => h) (Or.inl ⟨by rfl, by intro wx hx; go_simp⟩) (by assumption) ?_
                try simp only [List.getElem_toArray, List.getElem_cons_succ, List.getElem_cons_zero, Act.put, List.setIfInBounds_toArray, List.set_cons_zero, List.set_cons_succ]
                refine wpAnyH_take (i := 6) (v := .pointer (some ⟨bx, 0, none⟩)) rfl (by kernel_rfl) (by kernel_rfl) (by kernel_rfl) (fun _ _ _ h => h) (Or.inl ⟨by rfl, by intro wx hx; go_simp⟩) (by assumption) ?_
                try simp only [List.getElem_toArray, List.getElem_cons_succ, List.getElem_cons_zero, Act.put, List.setIfInBounds_toArray, List.set_cons_zero, List.set_cons_succ]
                refine wpAnyH_take (i := 7) (v := .slice (some ⟨bM, oM, none⟩) M.length c1) rfl (by kernel_rfl) (by kernel_rfl) (by kernel_rfl) (fun _ _ _ h => h) (Or.inl ⟨by rfl, by intro wx hx; obtain ⟨_, _, _, _, _⟩ := hx; go_simp⟩) (by assumption) ?_
                try simp only [List.getElem_toArray, List.getElem_cons_succ, List.getElem_cons_zero, Act.put, List.setIfInBounds_toArray, List.set_cons_zero, List.set_cons_succ]
                refine wpAnyH_take (i := 8) (v := .slice (some ⟨ba, oa, none⟩) a.length ma) rfl (by kernel_rfl) (by kernel_rfl) (by kernel_rfl) (fun _ _ _ h => h) (Or.inl ⟨by rfl, by intro wx hx; go_simp⟩) (by assumption) ?_
                try simp only [List.getElem_toArray, List.getElem_cons_succ, List.getElem_cons_zero, Act.put, List.setIfInBounds_toArray, List.set_cons_zero, List.set_cons_succ]
                refine wpAnyH_take (i := 9) (v := .int .i64 s) rfl (by kernel_rfl) (by kernel_rfl) (by kernel_rfl) (fun _ _ _ h => h) (Or.inl ⟨by rfl, by intro wx hx; go_simp⟩) (by assumption) ?_
                try simp only [List.getElem_toArray, List.getElem_cons_succ, List.getElem_cons_zero, Act.put, List.setIfInBounds_toArray, List.set_cons_zero, List.set_cons_succ]
                refine wpAnyH_take (i := 10) (v := .pointer (some ⟨ba, oa + s, none⟩)) rfl (by kernel_rfl) (by kernel_rfl) (by kernel_rfl) (fun _ _ _ h => h) (Or.inl ⟨by rfl, by intro wx hx; go_simp⟩) (by assumption) ?_
                try simp only [List.getElem_toArray, List.getElem_cons_succ, List.getElem_cons_zero, Act.put, List.setIfInBounds_toArray, List.set_cons_zero, List.set_cons_succ]
                refine wpAnyH_take (i := 11) (v := .int .i64 x) rfl (by kernel_rfl) (by kernel_rfl) (by kernel_rfl) (fun _ _ _ h => h) (Or.inl ⟨by rfl, by intro wx hx; obtain ⟨_, _, _, _, _⟩ := hx; go_simp⟩) (by assumption) ?_
                try simp only [List.getElem_toArray, List.getElem_cons_succ, List.getElem_cons_zero, Act.put, List.setIfInBounds_toArray, List.set_cons_zero, List.set_cons_succ]
                refine wpAnyH_take (i := 12) (v := .pointer (some ⟨bM, oM + x, none⟩)) rfl (by kernel_rfl) (by kernel_rfl) (by kernel_rfl) (fun _ _ _ h => h) (Or.inl ⟨by rfl, by intro wx hx; go_simp⟩) (by assumption) ?_
                try simp only [List.getElem_toArray, List.getElem_cons_succ, List.getElem_cons_zero, Act.put, List.setIfInBounds_toArray, List.set_cons_zero, List.set_cons_succ]
                refine wpAnyH_take (i := 13) (v := .slice (some ⟨bR, oR, none⟩) Rx.length mR) rfl (by kernel_rfl) (by kernel_rfl) (by kernel_rfl) (fun _ _ _ h => h) (Or.inl ⟨by rfl, by intro wx hx; obtain ⟨_, _, _, _, _⟩ := hx; go_simp⟩) (by assumption) ?_
                try simp only [List.getElem_toArray, List.getElem_cons_succ, List.getElem_cons_zero, Act.put, List.setIfInBounds_toArray, List.set_cons_zero, List.set_cons_succ]
                refine wpAnyH_take (i := 14) (v := .int .i64 rn) rfl (by kernel_rfl) (by kernel_rfl) (by kernel_rfl) (fun _ _ _ h => h) (Or.inl ⟨by rfl, by intro wx hx; go_simp⟩) (by assumption) ?_
                try simp only [List.getElem_toArray, List.getElem_cons_succ, List.getElem_cons_zero, Act.put, List.setIfInBounds_toArray, List.set_cons_zero, List.set_cons_succ]
                refine wpAnyH_take (i := 15) (v := .pointer (some ⟨bR, oR + rn, none⟩)) rfl (by kernel_rfl) (by kernel_rfl) (by kernel_rfl) (fun _ _ _ h => h) (Or.inl ⟨by rfl, by intro wx hx; go_simp⟩) (by assumption) ?_
                try simp only [List.getElem_toArray, List.getElem_cons_succ, List.getElem_cons_zero, Act.put, List.setIfInBounds_toArray, List.set_cons_zero, List.set_cons_succ]
                refine wpAnyH_take (i := 16) (v := .int .i64 dc) rfl (by kernel_rfl) (by kernel_rfl) (by kernel_rfl) (fun _ _ _ h => h) (Or.inl ⟨by rfl, by intro wx hx; obtain ⟨_, _, _, _, _⟩ := hx; go_simp⟩) (by assumption) ?_
                try simp only [List.getElem_toArray, List.getElem_cons_succ, List.getElem_cons_zero, Act.put, List.setIfInBounds_toArray, List.set_cons_zero, List.set_cons_succ]
                refine wpAnyH_ready (rs := [3]) (by kernel_rfl) (by simp) ?_
                refine AllReadyH.cons rfl (fun K hK => ?_) AllReadyH.nil
                go_simp
                go_at_call 81
                refine (l7Index_any (w0 := wd) (w := wd) (hP.ext (e := Ext.trans e5P ed)) (hU.ext (e := ed)) hmem.out).mono ?_
                rw [hat.out]
                rintro e w6 ⟨rfl, e6⟩
                have e65 : Ext w5 w6 := Ext.trans ed e6
                have own6 := own5.ext (w' := w6)
                have ob6 := (hown.ext (w' := w5)).ext (w' := w6)
                have b6 : Below B wP w6 := (hb.trans (e5.below.mono hBo)).trans (e65.below.mono hB5)
                have hB6 : B ≤ w6.heap.size := Nat.le_trans hB5 e65.size
                have hS6 := hSx.out w6 e65
                go_wp2_with fail
                refine hK.out _ _ hS6 (fun _ => ?_)
                clear hK K
                try simp only [List.getElem_toArray, List.getElem_cons_succ, List.getElem_cons_zero, Act.put, List.setIfInBounds_toArray, List.set_cons_zero, List.set_cons_succ]
                refine wpAnyH_take (i := 4) (v := .pointer (some ⟨bw, ow + t, none⟩)) rfl (by kernel_rfl) (by kernel_rfl) (by kernel_rfl) (fun _ _ _ h => h) (Or.inl ⟨by rfl, by intro wx hx; go_simp⟩) (by assumption) ?_
                try simp only [List.getElem_toArray, List.getElem_cons_succ, List.getElem_cons_zero, Act.put, List.setIfInBounds_toArray, List.set_cons_zero, List.set_cons_succ]
                refine wpAnyH_take (i := 5) (v := .int .i64 wt) rfl (by kernel_rfl) (by kernel_rfl) (by kernel_rfl) (fun _ _ _ h => h) (Or.inl ⟨by rfl, by intro wx hx; obtain ⟨_, _, _, _, _⟩ := hx; go_simp⟩) (by assumption) ?_
                try simp only [List.getElem_toArray, List.getElem_cons_succ, List.getElem_cons_zero, Act.put, List.setIfInBounds_toArray, List.set_cons_zero, List.set_cons_succ]
                refine wpAnyH_take (i := 17) (v := .int .i64 (wt + dc)) rfl (by kernel_rfl) (by kernel_rfl) (by kernel_rfl) (fun _ _ _ h => h) (Or.inl ⟨by rfl, by intro wx hx; go_simp⟩) (by assumption) ?_
                try simp only [List.getElem_toArray, List.getElem_cons_succ, List.getElem_cons_zero, Act.put, List.setIfInBounds_toArray, List.set_cons_zero, List.set_cons_succ]
                refine wpAnyH_take (i := 18) (v := .int .i64 (wt + dc)) rfl (by kernel_rfl) (by kernel_rfl) (by kernel_rfl) (fun _ _ _ h => h) (Or.inl ⟨by rfl, by intro wx hx; go_simp⟩) (by assumption) ?_
                try simp only [List.getElem_toArray, List.getElem_cons_succ, List.getElem_cons_zero, Act.put, List.setIfInBounds_toArray, List.set_cons_zero, List.set_cons_succ]
                refine wpAnyH_done (by kernel_rfl) ?_ _
                obtain ⟨k1, k2, k3, k4, k5⟩ := hS6
                go_wp2_with fail
                with_reducible refine (l7Before_any (w0 := w5) hU hb5 hXb.out).mono ?_
                rw [hlx.out]
                rintro e w7 ⟨rfl, e7⟩
                have e75 : Ext w5 w7 := Ext.trans e65 e7
                go_wp2_with fail
                go_roundw
                case rel => exact ⟨s + 1, by omega, by go_num, by rw [hno.out.2.2, hlb1.out], by rw [hno.out.2.1], by rw [hno.out.1]; exact ob6.ext (w' := w7), ext_below (c := w7) b6 hB6⟩
                case measure => simp [intOf]; omega
            · have hl2' : (wt + dc == l) = false := by simpa using hl2
              have hno := hid (hz.out (by rintro (h | ⟨h, _⟩); rw [← hlb.out.1] at h; omega; rw [← hlb.out.1] at h; exact hl2 h))
              have hlb1 := hid hlb.out.1
              clear hcas hy hz hlb
              replace hl2 := hid hl2
              go_wp2_with fail
              refine region_held_from (w0 := w5) (S := fun u => u.cell? ⟨bw, ow + t, none⟩ = some (.int .i64 wt) ∧ u.cell? ⟨bx, 0, none⟩ = some (.slice (some ⟨bM, oM, none⟩) M.length c1) ∧ u.cell? ⟨ba, oa + s, none⟩ = some (.int .i64 (x : Int)) ∧ u.cell? ⟨bM, oM + x, none⟩ = some (.slice (some ⟨bR, oR, none⟩) Rx.length mR) ∧ u.cell? ⟨bR, oR + rn, none⟩ = some (.int .i64 dc)) (by kernel_rfl) hSx.out (fun wd ed hHeld0 => ?_)
              refine wpAnyH_take (i := 0) (v := .slice (some ⟨bw, ow, none⟩) nx.length mw) rfl (by kernel_rfl) (by kernel_rfl) (by kernel_rfl) (fun _ _ _ h => h) (Or.inl ⟨by rfl, by intro wx hx; go_simp⟩) (by assumption) ?_
              try simp only [List.getElem_toArray, List.getElem_cons_zero, Act.put, List.setIfInBounds_toArray, List.set_cons_zero, List.set_cons_succ]
              refine wpAnyH_take (i := 1) (v := .slice aP P.length cP) rfl (by kernel_rfl) (by kernel_rfl) (by kernel_rfl) (fun _ _ _ h => h) (Or.inl ⟨by rfl, by intro wx hx; go_simp⟩) (by assumption) ?_
              try simp only [List.getElem_toArray, List.getElem_cons_succ, List.getElem_cons_zero, Act.put, List.setIfInBounds_toArray, List.set_cons_zero, List.set_cons_succ]
              refine wpAnyH_take (i := 2) (v := u5) rfl (by kernel_rfl) (by kernel_rfl) (by kernel_rfl) (fun _ _ _ h => h) (Or.inl ⟨by rfl, by intro wx hx; go_simp⟩) (by assumption) ?_
              try simp only [List.getElem_toArray, List.getElem_cons_succ, List.getElem_cons_zero, Act.put, List.setIfInBounds_toArray, List.set_cons_zero, List.set_cons_succ]
              refine wpAnyH_take (i := 6) (v := .pointer (some ⟨bx, 0, none⟩)) rfl (by kernel_rfl) (by kernel_rfl) (by kernel_rfl) (fun _ _ _ h => h) (Or.inl ⟨by rfl, by intro wx hx; go_simp⟩) (by assumption) ?_
              try simp only [List.getElem_toArray, List.getElem_cons_succ, List.getElem_cons_zero, Act.put, List.setIfInBounds_toArray, List.set_cons_zero, List.set_cons_succ]
              refine wpAnyH_take (i := 7) (v := .slice (some ⟨bM, oM, none⟩) M.length c1) rfl (by kernel_rfl) (by kernel_rfl) (by kernel_rfl) (fun _ _ _ h => h) (Or.inl ⟨by rfl, by intro wx hx; obtain ⟨_, _, _, _, _⟩ := hx; go_simp⟩) (by assumption) ?_
              try simp only [List.getElem_toArray, List.getElem_cons_succ, List.getElem_cons_zero, Act.put, List.setIfInBounds_toArray, List.set_cons_zero, List.set_cons_succ]
              refine wpAnyH_take (i := 8) (v := .slice (some ⟨ba, oa, none⟩) a.length ma) rfl (by kernel_rfl) (by kernel_rfl) (by kernel_rfl) (fun _ _ _ h => h) (Or.inl ⟨by rfl, by intro wx hx; go_simp⟩) (by assumption) ?_
              try simp only [List.getElem_toArray, List.getElem_cons_succ, List.getElem_cons_zero, Act.put, List.setIfInBounds_toArray, List.set_cons_zero, List.set_cons_succ]
              refine wpAnyH_take (i := 9) (v := .int .i64 s) rfl (by kernel_rfl) (by kernel_rfl) (by kernel_rfl) (fun _ _ _ h => h) (Or.inl ⟨by rfl, by intro wx hx; go_simp⟩) (by assumption) ?_
              try simp only [List.getElem_toArray, List.getElem_cons_succ, List.getElem_cons_zero, Act.put, List.setIfInBounds_toArray, List.set_cons_zero, List.set_cons_succ]
              refine wpAnyH_take (i := 10) (v := .pointer (some ⟨ba, oa + s, none⟩)) rfl (by kernel_rfl) (by kernel_rfl) (by kernel_rfl) (fun _ _ _ h => h) (Or.inl ⟨by rfl, by intro wx hx; go_simp⟩) (by assumption) ?_
              try simp only [List.getElem_toArray, List.getElem_cons_succ, List.getElem_cons_zero, Act.put, List.setIfInBounds_toArray, List.set_cons_zero, List.set_cons_succ]
              refine wpAnyH_take (i := 11) (v := .int .i64 x) rfl (by kernel_rfl) (by kernel_rfl) (by kernel_rfl) (fun _ _ _ h => h) (Or.inl ⟨by rfl, by intro wx hx; obtain ⟨_, _, _, _, _⟩ := hx; go_simp⟩) (by assumption) ?_
              try simp only [List.getElem_toArray, List.getElem_cons_succ, List.getElem_cons_zero, Act.put, List.setIfInBounds_toArray, List.set_cons_zero, List.set_cons_succ]
              refine wpAnyH_take (i := 12) (v := .pointer (some ⟨bM, oM + x, none⟩)) rfl (by kernel_rfl) (by kernel_rfl) (by kernel_rfl) (fun _ _ _ h => h) (Or.inl ⟨by rfl, by intro wx hx; go_simp⟩) (by assumption) ?_
              try simp only [List.getElem_toArray, List.getElem_cons_succ, List.getElem_cons_zero, Act.put, List.setIfInBounds_toArray, List.set_cons_zero, List.set_cons_succ]
              refine wpAnyH_take (i := 13) (v := .slice (some ⟨bR, oR, none⟩) Rx.length mR) rfl (by kernel_rfl) (by kernel_rfl) (by kernel_rfl) (fun _ _ _ h => h) (Or.inl ⟨by rfl, by intro wx hx; obtain ⟨_, _, _, _, _⟩ := hx; go_simp⟩) (by assumption) ?_
              try simp only [List.getElem_toArray, List.getElem_cons_succ, List.getElem_cons_zero, Act.put, List.setIfInBounds_toArray, List.set_cons_zero, List.set_cons_succ]
              refine wpAnyH_take (i := 14) (v := .int .i64 rn) rfl (by kernel_rfl) (by kernel_rfl) (by kernel_rfl) (fun _ _ _ h => h) (Or.inl ⟨by rfl, by intro wx hx; go_simp⟩) (by assumption) ?_
              try simp only [List.getElem_toArray, List.getElem_cons_succ, List.getElem_cons_zero, Act.put, List.setIfInBounds_toArray, List.set_cons_zero, List.set_cons_succ]
              refine wpAnyH_take (i := 15) (v := .pointer (some ⟨bR, oR + rn, none⟩)) rfl (by kernel_rfl) (by kernel_rfl) (by kernel_rfl) (fun _ _ _ h => h) (Or.inl ⟨by rfl, by intro wx hx; go_simp⟩) (by assumption) ?_
              try simp only [List.getElem_toArray, List.getElem_cons_succ, List.getElem_cons_zero, Act.put, List.setIfInBounds_toArray, List.set_cons_zero, List.set_cons_succ]
              refine wpAnyH_take (i := 16) (v := .int .i64 dc) rfl (by kernel_rfl) (by kernel_rfl) (by kernel_rfl) (fun _ _ _ h => h) (Or.inl ⟨by rfl, by intro wx hx; obtain ⟨_, _, _, _, _⟩ := hx; go_simp⟩) (by assumption) ?_
              try simp only [List.getElem_toArray, List.getElem_cons_succ, List.getElem_cons_zero, Act.put, List.setIfInBounds_toArray, List.set_cons_zero, List.set_cons_succ]
              refine wpAnyH_ready (rs := [3]) (by kernel_rfl) (by simp) ?_
              refine AllReadyH.cons rfl (fun K hK => ?_) AllReadyH.nil
              go_simp
              go_at_call 81
              refine (l7Index_any (w0 := wd) (w := wd) (hP.ext (e := Ext.trans e5P ed)) (hU.ext (e := ed)) hmem.out).mono ?_
              rw [hat.out]
              rintro e w6 ⟨rfl, e6⟩
              have e65 : Ext w5 w6 := Ext.trans ed e6
              have own6 := own5.ext (w' := w6)
              have ob6 := (hown.ext (w' := w5)).ext (w' := w6)
              have b6 : Below B wP w6 := (hb.trans (e5.below.mono hBo)).trans (e65.below.mono hB5)
              have hB6 : B ≤ w6.heap.size := Nat.le_trans hB5 e65.size
              have hS6 := hSx.out w6 e65
              go_wp2_with fail
              refine hK.out _ _ hS6 (fun _ => ?_)
              clear hK K
              try simp only [List.getElem_toArray, List.getElem_cons_succ, List.getElem_cons_zero, Act.put, List.setIfInBounds_toArray, List.set_cons_zero, List.set_cons_succ]
              refine wpAnyH_take (i := 4) (v := .pointer (some ⟨bw, ow + t, none⟩)) rfl (by kernel_rfl) (by kernel_rfl) (by kernel_rfl) (fun _ _ _ h => h) (Or.inl ⟨by rfl, by intro wx hx; go_simp⟩) (by assumption) ?_
              try simp only [List.getElem_toArray, List.getElem_cons_succ, List.getElem_cons_zero, Act.put, List.setIfInBounds_toArray, List.set_cons_zero, List.set_cons_succ]
              refine wpAnyH_take (i := 5) (v := .int .i64 wt) rfl (by kernel_rfl) (by kernel_rfl) (by kernel_rfl) (fun _ _ _ h => h) (Or.inl ⟨by rfl, by intro wx hx; obtain ⟨_, _, _, _, _⟩ := hx; go_simp⟩) (by assumption) ?_
              try simp only [List.getElem_toArray, List.getElem_cons_succ, List.getElem_cons_zero, Act.put, List.setIfInBounds_toArray, List.set_cons_zero, List.set_cons_succ]
              refine wpAnyH_take (i := 17) (v := .int .i64 (wt + dc)) rfl (by kernel_rfl) (by kernel_rfl) (by kernel_rfl) (fun _ _ _ h => h) (Or.inl ⟨by rfl, by intro wx hx; go_simp⟩) (by assumption) ?_
              try simp only [List.getElem_toArray, List.getElem_cons_succ, List.getElem_cons_zero, Act.put, List.setIfInBounds_toArray, List.set_cons_zero, List.set_cons_succ]
              refine wpAnyH_take (i := 18) (v := .int .i64 (wt + dc)) rfl (by kernel_rfl) (by kernel_rfl) (by kernel_rfl) (fun _ _ _ h => h) (Or.inl ⟨by rfl, by intro wx hx; go_simp⟩) (by assumption) ?_
              try simp only [List.getElem_toArray, List.getElem_cons_succ, List.getElem_cons_zero, Act.put, List.setIfInBounds_toArray, List.set_cons_zero, List.set_cons_succ]
              refine wpAnyH_done (by kernel_rfl) ?_ _
              obtain ⟨k1, k2, k3, k4, k5⟩ := hS6
              go_wp2_with fail
              go_roundw
              case rel => exact ⟨s + 1, by omega, by go_num, by rw [hno.out.2.2, hlb1.out], by rw [hno.out.2.1], by rw [hno.out.1]; exact ob6, b6⟩
              case measure => simp [intOf]; omega
      · have hsl : s = a.length := by omega
        have hfin := hid (show (svT M P nx a rn s).1 = svC M (confs M.length k 0) nx a rn ∧ (svT M P nx a rn s).2.1 = svK M (confs M.length k 0) nx a rn by
          rw [hsl, ← hPd.out, hC.out, hK.out]; exact ⟨rfl, rfl⟩)
        rw [hfin.out.1] at hown
        rw [hfin.out.2]
        replace hsl := hid hsl
        go_wp2_with fail
        go_ret2
        exact ⟨_, rfl, hown.mono hBw.out, Ext.trans ePw (hEx.out _ hb)⟩
theorem l7Serve_any {v vx va : Value} {M : List (List Int)} {nx a : List Int} {k : Nat} {r L : Int} {w0 w : World} [Ext w0 w] (hm : IsMet w0 v M) (hM : metB M = true) (hn : IsInts w0 vx nx) (ha : IsInts w0 va a) (h1k : 1 ≤ k) (hk : k ≤ 3) (hac : a ∈ confs M.length k 0) (hg : GoodW M (confs M.length k 0) nx L) (hL : L ≤ 2000000) (hr : 0 ≤ r ∧ r < (M.length : Int)) :
    Calls Tryz.prog 96 #[v, vx, va, .int .i64 r] w fun e w' => ∃ u, e = .returned (.tuple #[u, .int .i64 (svK M (confs M.length k 0) nx a r)]) ∧ IsInts w' u (svC M (confs M.length k 0) nx a r) ∧ Ext w w' :=
  (l7ServeO_any hm hM hn ha h1k hk hac hg hL hr).mono fun e w' ⟨u, h1, h2, h3⟩ => by
    have hc := confs_iff.1 (sv_conf (dst_of_met hM) h1k hg hL hac hr).1
    have hMl := met_len hM
    exact ⟨u, h1, h2.reads (by unfold Short; omega) (fun x hx => by have := hc.2.2 x hx; unfold I64; omega), h3⟩
end Go.Proofs.YtmgcfnciejfpbaaGreat

/- Plain law: runs of the work function algorithm, cruel requests. -/
namespace Go.Proofs.YtmgcfnciejfpbaaGreat
open Go.RowKit

--PURE
/-- the work list of the empty sequence -/
def wst (M P : List (List Int)) (a : List Int) : List Int := P.map fun b => mvC M a b
/-- the work lists after the first requests -/
def wlAt (M P : List (List Int)) (a X : List Int) : Nat → List Int
  | 0 => wst M P a
  | i + 1 => wnxL M P (wlAt M P a X i) (nth X i)
def wlL (M P : List (List Int)) (a X : List Int) (n : Nat) : List (List Int) := (List.range (n + 1)).map (wlAt M P a X)
theorem wlL_succ {M P : List (List Int)} {a X : List Int} {n : Nat} : wlL M P a X (n + 1) = wlL M P a X n ++ [wlAt M P a X (n + 1)] := by
  rw [wlL, List.range_succ, List.map_append]
  rfl
theorem wlL_len {M P : List (List Int)} {a X : List Int} {n : Nat} : (wlL M P a X n).length = n + 1 := by simp [wlL]
theorem wlL_row {M P : List (List Int)} {a X : List Int} {n i : Nat} (h : i ≤ n) : row (wlL M P a X n) i = wlAt M P a X i := by simp [wlL, row, show i < n + 1 by omega]
theorem wl_good {M : List (List Int)} {n k : Nat} {a X : List Int} (hd : Dst M n) (h1 : 1 ≤ k) (hk : k ≤ 3) (ha : a ∈ confs n k 0) (hX : ∀ j, j < X.length → 0 ≤ nth X j ∧ nth X j < (n : Int)) (hl : X.length ≤ 1000) :
    ∀ i, i ≤ X.length → GoodW M (confs n k 0) (wlAt M (confs n k 0) a X i) (297 + 198 * i) := by
  intro i
  induction i with
  | zero => intro _; exact start_good hd hk ha
  | succ i ih =>
    intro hi
    have h := (wnx_good hd h1 hk (ih (by omega)) (by omega) (hX i (by omega))).1
    refine h.mono ?_
    omega
/-- where the algorithm is, and what it has paid -/
def rnA (M P : List (List Int)) (a X : List Int) : Nat → List Int
  | 0 => a
  | i + 1 => svC M P (wlAt M P a X (i + 1)) (rnA M P a X i) (nth X i)
def rnS (M P : List (List Int)) (a X : List Int) : Nat → Int
  | 0 => 0
  | i + 1 => rnS M P a X i + svK M P (wlAt M P a X (i + 1)) (rnA M P a X i) (nth X i)
def rnT (M P : List (List Int)) (a X : List Int) (n : Nat) : List (List Int) := (List.range n).map fun i => rnA M P a X (i + 1)
theorem rnT_succ {M P : List (List Int)} {a X : List Int} {n : Nat} : rnT M P a X (n + 1) = rnT M P a X n ++ [rnA M P a X (n + 1)] := by
  rw [rnT, List.range_succ, List.map_append]
  rfl
theorem rnT_len {M P : List (List Int)} {a X : List Int} {n : Nat} : (rnT M P a X n).length = n := by simp [rnT]
theorem rn_conf {M : List (List Int)} {n k : Nat} {a X : List Int} (hd : Dst M n) (h1 : 1 ≤ k) (hk : k ≤ 3) (ha : a ∈ confs n k 0) (hX : ∀ j, j < X.length → 0 ≤ nth X j ∧ nth X j < (n : Int)) (hl : X.length ≤ 1000) :
    ∀ i, i ≤ X.length → rnA M (confs n k 0) a X i ∈ confs n k 0 ∧ 0 ≤ rnS M (confs n k 0) a X i ∧ rnS M (confs n k 0) a X i ≤ 99 * i := by
  intro i
  induction i with
  | zero => intro _; exact ⟨ha, by simp [rnS], by simp [rnS]⟩
  | succ i ih =>
    intro hi
    obtain ⟨h2, h3, h4⟩ := ih (by omega)
    obtain ⟨h5, _, h6, h7⟩ := sv_conf hd h1 (wl_good hd h1 hk ha hX hl (i + 1) hi) (by omega) h2 (hX i (by omega))
    refine ⟨h5, ?_, ?_⟩
    · rw [rnS]; omega
    · rw [rnS]; omega
theorem rnT_mem {M : List (List Int)} {n k : Nat} {a X : List Int} (hd : Dst M n) (h1 : 1 ≤ k) (hk : k ≤ 3) (ha : a ∈ confs n k 0) (hX : ∀ j, j < X.length → 0 ≤ nth X j ∧ nth X j < (n : Int)) (hl : X.length ≤ 1000) {i : Nat} (hi : i ≤ X.length) :
    ∀ r ∈ rnT M (confs n k 0) a X i, r ∈ confs n k 0 := by
  intro r hr
  obtain ⟨j, hj, rfl⟩ := List.mem_map.1 hr
  have := List.mem_range.1 hj
  exact (rn_conf hd h1 hk ha hX hl (j + 1) (by omega)).1

/-- the least number that is not in a list, as far as m -/
def misTo (l : List Int) : Nat → Nat → Nat
  | 0, r => r
  | m + 1, r => if (r : Int) ∈ l then misTo l m (r + 1) else r
theorem misTo_spec {l : List Int} : ∀ (m r : Nat), (∀ j, r ≤ j → j < misTo l m r → (j : Int) ∈ l) ∧ r ≤ misTo l m r ∧ misTo l m r ≤ r + m ∧ ((misTo l m r : Int) ∈ l → misTo l m r = r + m)
  | 0, r => ⟨fun j h1 h2 => by simp only [misTo] at h2; omega, Nat.le_refl _, Nat.le_refl _, fun _ => rfl⟩
  | m + 1, r => by
    rw [misTo]
    split
    · rename_i hr
      obtain ⟨h1, h2, h3, h4⟩ := misTo_spec (l := l) m (r + 1)
      refine ⟨fun j hj hj2 => ?_, by omega, by omega, fun h => by have := h4 h; omega⟩
      by_cases e : j = r
      · rw [e]; exact hr
      · exact h1 j (by omega) hj2
    · rename_i hr
      exact ⟨fun j h1 h2 => by omega, Nat.le_refl _, by omega, fun h => absurd h hr⟩
/-- the least number that is not in a list -/
def misL (l : List Int) : Nat := misTo l (l.length + 1) 0
theorem mis_in {l : List Int} {j : Nat} (h : j < misL l) : (j : Int) ∈ l := (misTo_spec (l.length + 1) 0).1 j (by omega) h
theorem mis_pig : ∀ {l : List Int} {n : Nat}, (∀ j, j < n → (j : Int) ∈ l) → n ≤ l.length := by
  intro l n h
  have h1 : ((List.range n).map fun i : Nat => (i : Int)).Nodup := idL_nodup n
  have h2 : ∀ x ∈ (List.range n).map (fun i : Nat => (i : Int)), x ∈ l := by
    intro x hx
    obtain ⟨i, hi, rfl⟩ := List.mem_map.1 hx
    exact h i (List.mem_range.1 hi)
  by_cases hc : n ≤ l.length
  · exact hc
  · have hp := perm_of_sub (l := (List.range (l.length + 1)).map fun i : Nat => (i : Int)) (m := l) (idL_nodup _) (fun x hx => by
      obtain ⟨i, hi, rfl⟩ := List.mem_map.1 hx
      exact h i (by have := List.mem_range.1 hi; omega)) (by simp)
    have := hp.length_eq
    simp at this
theorem mis_le {l : List Int} : misL l ≤ l.length := mis_pig fun _ hj => mis_in hj
theorem mis_not {l : List Int} : (misL l : Int) ∉ l := by
  intro h
  have h1 := (misTo_spec (l := l) (l.length + 1) 0).2.2.2 h
  have h2 := mis_le (l := l)
  unfold misL at h2
  omega
/-- cruel requests: where the algorithm is, its work list -/
def crT (M P : List (List Int)) (a : List Int) : Nat → List Int × List Int
  | 0 => (a, wst M P a)
  | i + 1 => (svC M P (wnxL M P (crT M P a i).2 (misL (crT M P a i).1)) (crT M P a i).1 (misL (crT M P a i).1), wnxL M P (crT M P a i).2 (misL (crT M P a i).1))
def crL (M P : List (List Int)) (a : List Int) (n : Nat) : List Int := (List.range n).map fun i => ((misL (crT M P a i).1 : Nat) : Int)
theorem crL_succ {M P : List (List Int)} {a : List Int} {n : Nat} : crL M P a (n + 1) = crL M P a n ++ [((misL (crT M P a n).1 : Nat) : Int)] := by
  rw [crL, List.range_succ, List.map_append]
  rfl
theorem crL_len {M P : List (List Int)} {a : List Int} {n : Nat} : (crL M P a n).length = n := by simp [crL]
theorem cr_good {M : List (List Int)} {n k : Nat} {a : List Int} (hd : Dst M n) (h1 : 1 ≤ k) (hk : k ≤ 3) (hkn : k < n) (ha : a ∈ confs n k 0) :
    ∀ i, i ≤ 1000 → (crT M (confs n k 0) a i).1 ∈ confs n k 0 ∧ GoodW M (confs n k 0) (crT M (confs n k 0) a i).2 (297 + 198 * i) := by
  intro i
  induction i with
  | zero => intro _; exact ⟨ha, start_good hd hk ha⟩
  | succ i ih =>
    intro hi
    obtain ⟨h2, h3⟩ := ih (by omega)
    have hr : 0 ≤ ((misL (crT M (confs n k 0) a i).1 : Nat) : Int) ∧ ((misL (crT M (confs n k 0) a i).1 : Nat) : Int) < (n : Int) := by
      have := mis_le (l := (crT M (confs n k 0) a i).1)
      have := (confs_iff.1 h2).1
      omega
    have hg := (wnx_good hd h1 hk h3 (by omega) hr).1
    exact ⟨(sv_conf hd h1 hg (by omega) h2 hr).1, hg.mono (by omega)⟩
theorem cr_mis {M : List (List Int)} {n k : Nat} {a : List Int} (hd : Dst M n) (h1 : 1 ≤ k) (hk : k ≤ 3) (hkn : k < n) (ha : a ∈ confs n k 0) {i : Nat} (hi : i ≤ 1000) : misL (crT M (confs n k 0) a i).1 < n := by
  have := mis_le (l := (crT M (confs n k 0) a i).1)
  have := (confs_iff.1 (cr_good hd h1 hk hkn ha i hi).1).1
  omega
end Go.Proofs.YtmgcfnciejfpbaaGreat

/- The run of the work function algorithm, the reference's. -/
namespace Go.Proofs.YtmgcfnciejfpbaaGreat
open Go.RowKit

theorem perm_c {α : Type} (x n t v : α) (Z : List α) : (t :: x :: (Z ++ [n, v])).Perm (x :: n :: t :: (Z ++ [v])) := by
  classical
  refine List.perm_iff_count.2 fun y => ?_
  simp only [List.count_append, List.count_cons, List.count_nil]
  omega
theorem rows_in0 {w : World} {B e1 e2 : Nat} {v rv : Value} {vs : List Value} {M : List (List Int)} {xs : List Int} {R : List Row} (h : Own w B (⟨e1, 1, v, vs.length + 1, vs ++ [rv]⟩ :: (intRowOf e2 rv xs :: (List.zipWith (intRowOf e2) vs M ++ R)))) (hl : vs.length = M.length) :
    Own w B (valRowOf e1 v (vs ++ [rv]) :: (List.zipWith (intRowOf e2) (vs ++ [rv]) (M ++ [xs]) ++ R)) := by
  have e : (valRowOf e1 v (vs ++ [rv]) :: (List.zipWith (intRowOf e2) (vs ++ [rv]) (M ++ [xs]) ++ R)) = (⟨e1, 1, v, vs.length + 1, vs ++ [rv]⟩ : Row) :: (List.zipWith (intRowOf e2) vs M ++ (intRowOf e2 rv xs :: R)) := by
    unfold valRowOf
    rw [List.zipWith_append hl, List.length_append]
    simp
  rw [e]
  exact h.perm (List.Perm.cons _ List.perm_middle)
theorem own_at {w : World} {B e1 e2 : Nat} {ov : Value} {vs : List Value} {L : List (List Int)} {R : List Row} (h : Own w B (valRowOf e1 ov vs :: (List.zipWith (intRowOf e2) vs L ++ R))) (hl : vs.length = L.length) {j : Nat} (hj : j < L.length) (hs : Short (row L j).length) (hi : ∀ x ∈ row L j, I64 x) : IsInts w (vs.getD j undef) (row L j) := by
  have h1 : (List.zipWith (intRowOf e2) vs L ++ R)[j]? = some (intRowOf e2 (vs.getD j undef) (row L j)) := by
    have hj' : j < vs.length := by omega
    rw [List.getElem?_append_left (by simp; omega)]
    simp [List.getElem?_zipWith, hj', row, hj]
  exact (h.tail.pick h1).reads hs hi

set_option maxHeartbeats 1600000 in
set_option maxRecDepth 100000 in
theorem l7Start_any {v va : Value} {M : List (List Int)} {a : List Int} {k : Nat} {w0 w : World} [Ext w0 w] (hm : IsMet w0 v M) (hM : metB M = true) (ha : IsInts w0 va a) (hk : k ≤ 3) (hac : a ∈ confs M.length k 0) :
    Calls Tryz.prog 86 #[v, .int .i64 k, va] w fun e w' => ∃ u, e = .returned u ∧ Own w' w.heap.size [intRowOf 3 u (wst M (confs M.length k 0) a)] ∧ Ext w w' := by
  have hm' := hm
  obtain ⟨v1, rfl, hR⟩ := hm
  obtain ⟨a1, c1, rfl, l1⟩ := hR.form
  have ha' := ha
  obtain ⟨da, ma, rfl, la⟩ := ha.form
  have hMl := met_len hM
  have hdst := hid (dst_of_met hM)
  have hM' := hid hM
  clear hM
  obtain ⟨hak, _, hap0⟩ := confs_iff.1 hac
  have hap : Pts M.length a := fun x hx => by have := hap0 x hx; omega
  clear hap0
  have hgood := hid (start_good hdst.out hk hac)
  replace hac := hid hac
  replace hak := hid hak
  have hPm := hid (show ∀ i, i < (confs M.length k 0).length → (row (confs M.length k 0) i).length = k ∧ Pts M.length (row (confs M.length k 0) i) from fun i hi => by
    obtain ⟨h1, h2, _⟩ := row_conf hi
    exact ⟨h1, h2⟩)
  have h216 := confs_216 hMl.2 hk
  go_enter Tryz.func86, Tryz.ntmps86
  go_wp2_with fail
  refine (l6Configs_any (n := M.length) hMl.2 hk _).mono ?_
  rintro e wP ⟨vP, rfl, hP, eP⟩
  have x0 : wP.cell? ⟨w.heap.size, 0, none⟩ = some (.slice a1 M.length c1) := eP.cell (by go_simp)
  have ePw : Ext w wP := Ext.trans inferInstance eP
  have e0P : Ext w0 wP := Ext.trans ‹Ext w0 w› ePw
  clear eP
  obtain ⟨bx, hbx⟩ : ∃ q, q = w.heap.size := ⟨_, rfl⟩
  rw [← hbx] at x0 ⊢
  have hBw := hid (show w.heap.size ≤ wP.heap.size from ePw.size)
  replace hbx := hid hbx
  obtain ⟨P, hPd⟩ : ∃ p, p = confs M.length k 0 := ⟨_, rfl⟩
  rw [← hPd] at hP hPm hgood h216
  replace hPd := hid hPd
  obtain ⟨aP, cP, rfl, lP⟩ := hP.form
  obtain ⟨Xs, hXs⟩ : ∃ x, x = P.map fun b => mvC M a b := ⟨_, rfl⟩
  have hXl := hid (show Xs.length = P.length by rw [hXs, List.length_map])
  have hXn := hid (show ∀ i, i < P.length → nth Xs i = mvC M a (row P i) from fun i hi => by rw [hXs]; simp [nth, row, hi])
  rw [← hXs] at hgood
  replace hXs := hid hXs
  obtain ⟨B, hB⟩ : ∃ b, b = wP.heap.size := ⟨_, rfl⟩
  have own0 : Own (wP.alloc (.cells #[] 3)) B [intRowOf 3 (.slice (some ⟨wP.heap.size, 0, none⟩) ([] : List Int).length 0) []] := by
    rw [hB]
    exact Own.litInts (Nat.le_refl _) rfl rfl (by simp) rfl
  have b0 : Below B wP (wP.alloc (.cells #[] 3)) := by rw [hB]; exact (Below.refl _ _).alloc (Nat.le_refl _) _
  have hEx := hid (show ∀ u, Below B wP u → Ext wP u from fun u h => ⟨by rw [← hB]; exact h⟩)
  rw [← hB] at hBw
  replace hB := hid hB
  go_wp2_with fail
  go_loopw [8, 9] (fun ov i wr => ∃ j : Nat, j ≤ P.length ∧ i = .int .i64 j ∧ Own wr B [intRowOf 3 ov (Xs.take j)] ∧ Below B wP wr) (fun _ i _ => P.length - (intOf i).toNat)
  case atStart => exact ⟨0, by omega, rfl, own0, b0⟩
  case round =>
    obtain ⟨j, hj, rfl, hown, hb⟩ := hrel
    obtain ⟨wq, rfl⟩ : ∃ y : World, y = wr := ⟨_, rfl⟩
    obtain ⟨d0, n0, m0, rfl, hn0⟩ := own_formN hown
    clear own0 b0
    have eq : Ext wP wq := hEx.out _ hb
    have e0q : Ext w0 wq := Ext.trans e0P eq
    have hBq : B ≤ wq.heap.size := by rw [hB.out]; exact eq.size
    by_cases hlt : j < P.length
    · obtain ⟨bP, oP, dr, mr, hdP, hc1, hi1, _⟩ := hP.at (w' := wP) hlt
      cases hdP
      obtain ⟨hcl, hcp⟩ := hPm.out j hlt
      have hXj := hid (show Xs.take (j + 1) = Xs.take j ++ [mvC M a (row P j)] by rw [take_succ_nth (by rw [hXl.out]; exact hlt), hXn.out j hlt])
      have hT : (Xs.take j).length ≤ 1000 := by rw [List.length_take]; omega
      have hn1000 : n0 ≤ 1000 := by rw [hn0.out]; exact hT
      obtain ⟨T, hTd⟩ : ∃ l, l = Xs.take j := ⟨_, rfl⟩
      rw [← hTd] at hown hn0 hXj hT
      replace hTd := hid hTd
      have hown' : Own wq B [⟨3, 1, .slice d0 n0 m0, n0, T.map (Value.int .i64)⟩] := by rw [hn0.out]; rw [hn0.out] at hown; exact hown
      clear hown
      obtain ⟨c, hc⟩ : ∃ y, y = row P j := ⟨_, rfl⟩
      rw [← hc] at hc1 hi1 hcl hcp hXj
      replace hc := hid hc
      replace hcl := hid hcl
      replace hcp := hid hcp
      have hSb := hid (show ∀ u, Below B wP u → u.cell? ⟨bx, 0, none⟩ = some (.slice a1 M.length c1) ∧ u.cell? ⟨bP, oP + j, none⟩ = some (.slice dr c.length mr) from fun u h => ⟨(hEx.out _ h).cell x0, (hEx.out _ h).cell hc1⟩)
      have hSx := hid (show ∀ u, Ext wq u → u.cell? ⟨bx, 0, none⟩ = some (.slice a1 M.length c1) ∧ u.cell? ⟨bP, oP + j, none⟩ = some (.slice dr c.length mr) from fun u e => ⟨(Ext.trans eq e).cell x0, (Ext.trans eq e).cell hc1⟩)
      clear hc1
      go_wp2_with fail
      refine region_held_from (w0 := wq) (S := fun u => u.cell? ⟨bx, 0, none⟩ = some (.slice a1 M.length c1) ∧ u.cell? ⟨bP, oP + j, none⟩ = some (.slice dr c.length mr)) (by kernel_rfl) hSx.out (fun wd ed hHeld0 => ?_)
      have ownd := hown'.ext (w' := wd)
      refine wpAnyH_take (i := 0) (v := .slice d0 n0 m0) rfl (by kernel_rfl) (by kernel_rfl) (by kernel_rfl) (fun _ _ _ h => h) (Or.inl ⟨by rfl, by intro wx hx; go_simp⟩) (by assumption) ?_
      try simp only [List.getElem_toArray, List.getElem_cons_zero, Act.put, List.setIfInBounds_toArray, List.set_cons_zero, List.set_cons_succ]
      refine wpAnyH_take (i := 1) (v := .agg #[.slice a1 M.length c1]) rfl (by kernel_rfl) (by kernel_rfl) (by kernel_rfl) (fun _ _ _ h => h) (Or.inl ⟨by rfl, by intro wx hx; obtain ⟨_, _⟩ := hx; go_simp⟩) (by assumption) ?_
      try simp only [List.getElem_toArray, List.getElem_cons_succ, List.getElem_cons_zero, Act.put, List.setIfInBounds_toArray, List.set_cons_zero, List.set_cons_succ]
      refine wpAnyH_take (i := 2) (v := .slice da a.length ma) rfl (by kernel_rfl) (by kernel_rfl) (by kernel_rfl) (fun _ _ _ h => h) (Or.inl ⟨by rfl, by intro wx hx; go_simp⟩) (by assumption) ?_
      try simp only [List.getElem_toArray, List.getElem_cons_succ, List.getElem_cons_zero, Act.put, List.setIfInBounds_toArray, List.set_cons_zero, List.set_cons_succ]
      refine wpAnyH_take (i := 3) (v := .slice (some ⟨bP, oP, none⟩) P.length cP) rfl (by kernel_rfl) (by kernel_rfl) (by kernel_rfl) (fun _ _ _ h => h) (Or.inl ⟨by rfl, by intro wx hx; go_simp⟩) (by assumption) ?_
      try simp only [List.getElem_toArray, List.getElem_cons_succ, List.getElem_cons_zero, Act.put, List.setIfInBounds_toArray, List.set_cons_zero, List.set_cons_succ]
      refine wpAnyH_take (i := 4) (v := .int .i64 j) rfl (by kernel_rfl) (by kernel_rfl) (by kernel_rfl) (fun _ _ _ h => h) (Or.inl ⟨by rfl, by intro wx hx; go_simp⟩) (by assumption) ?_
      try simp only [List.getElem_toArray, List.getElem_cons_succ, List.getElem_cons_zero, Act.put, List.setIfInBounds_toArray, List.set_cons_zero, List.set_cons_succ]
      refine wpAnyH_take (i := 5) (v := .pointer (some ⟨bP, oP + j, none⟩)) rfl (by kernel_rfl) (by kernel_rfl) (by kernel_rfl) (fun _ _ _ h => h) (Or.inl ⟨by rfl, by intro wx hx; go_simp⟩) (by assumption) ?_
      try simp only [List.getElem_toArray, List.getElem_cons_succ, List.getElem_cons_zero, Act.put, List.setIfInBounds_toArray, List.set_cons_zero, List.set_cons_succ]
      refine wpAnyH_take (i := 6) (v := .slice dr c.length mr) rfl (by kernel_rfl) (by kernel_rfl) (by kernel_rfl) (fun _ _ _ h => h) (Or.inl ⟨by rfl, by intro wx hx; obtain ⟨_, _⟩ := hx; go_simp⟩) (by assumption) ?_
      try simp only [List.getElem_toArray, List.getElem_cons_succ, List.getElem_cons_zero, Act.put, List.setIfInBounds_toArray, List.set_cons_zero, List.set_cons_succ]
      refine wpAnyH_ready (rs := [7]) (by kernel_rfl) (by simp) ?_
      refine AllReadyH.cons rfl (fun K hK => ?_) AllReadyH.nil
      go_simp
      go_at_call 110
      have e0d : Ext w0 wd := Ext.trans e0q ed
      refine (l6Move_any (w0 := wd) (w := wd) (hm'.ext (e := e0d)) hM'.out (ha'.ext (e := e0d)) (hi1.ext (e := Ext.trans eq ed)) hap hcp.out (by rw [hak.out, hcl.out]) (by rw [hak.out]; exact hk)).mono ?_
      rintro e w6 ⟨rfl, e6⟩
      have e6q : Ext wq w6 := Ext.trans ed e6
      have hS6 := hSx.out w6 e6q
      have own6 := ownd.ext (w' := w6)
      have hB6 : B ≤ w6.heap.size := Nat.le_trans hBq e6q.size
      generalize mvC M a c = y at *
      go_wp2_with fail
      refine hK.out _ _ hS6 (fun _ => ?_)
      clear hK K
      try simp only [List.getElem_toArray, List.getElem_cons_succ, List.getElem_cons_zero, Act.put, List.setIfInBounds_toArray, List.set_cons_zero, List.set_cons_succ]
      refine wpAnyH_ready (rs := [8]) (by kernel_rfl) (by simp) ?_
      refine AllReadyH.cons rfl (fun K hK => ?_) AllReadyH.nil
      go_simp
      have oL := own6.lit 3 1 1 #[.int .i64 y] hB6 (by unfold maxLen; omega) rfl
      have e7q : Ext wq (w6.alloc (.cells #[.int .i64 y] 3)) := Ext.trans e6q inferInstance
      have hS7 := hSx.out _ e7q
      refine hK.out _ _ hS7 (fun _ => ?_)
      clear hK K
      try simp only [List.getElem_toArray, List.getElem_cons_succ, List.getElem_cons_zero, Act.put, List.setIfInBounds_toArray, List.set_cons_zero, List.set_cons_succ]
      generalize w6.alloc (.cells #[.int .i64 y] 3) = w7 at *
      generalize w6.heap.size = gl at *
      have o7 := oL.perm (List.Perm.swap _ _ _)
      have hB7 : B ≤ w7.heap.size := Nat.le_trans hBq e7q.size
      refine wpAnyH_ready (rs := [9]) (by kernel_rfl) (by simp) ?_
      refine AllReadyH.cons rfl (fun K hK => ?_) AllReadyH.nil
      have c7 : w7.cell? ⟨gl, 0, none⟩ = some (.int .i64 y) := by
        have h := o7.tail.head.cellAt 0 (show 0 < 1 * 1 by omega)
        simpa using h
      refine stp_one rfl (.tmp 22) (.tmp 30) 27 rfl elemInt rfl o7 hB7 (us := [.int .i64 y]) rfl rfl ?_ (by intro u hu; simp at hu; subst hu; rfl) (by omega) (by omega) ?_
      · intro jj u hj
        match jj, hj with
        | 0, hj => simp at hj; subst hj; exact c7
      intro v8 w8 ho8 hb8
      have own8 := (own_grow1 ho8 hn0.out).sub (List.Sublist.cons_cons _ (List.nil_sublist _))
      have b8 : Below B wP w8 := (hb.trans (e7q.below.mono hBq)).trans hb8
      have hS8 := hSb.out _ b8
      refine hK.out _ _ hS8 (fun _ => ?_)
      clear hK K
      try simp only [List.getElem_toArray, List.getElem_cons_succ, List.getElem_cons_zero, Act.put, List.setIfInBounds_toArray, List.set_cons_zero, List.set_cons_succ]
      refine wpAnyH_take (i := 10) (v := v8) rfl (by kernel_rfl) (by kernel_rfl) (by kernel_rfl) (fun _ _ _ h => h) (Or.inl ⟨by rfl, by intro wx hx; go_simp⟩) (by assumption) ?_
      try simp only [List.getElem_toArray, List.getElem_cons_succ, List.getElem_cons_zero, Act.put, List.setIfInBounds_toArray, List.set_cons_zero, List.set_cons_succ]
      refine wpAnyH_done (by kernel_rfl) ?_ _
      go_wp2_with fail
      go_roundw
      case rel => exact ⟨j + 1, by omega, by go_num, by rw [hXj.out]; exact own8, b8⟩
      case measure => simp [intOf]; omega
    · have hjP : j = P.length := by omega
      have hfin := hid (show Own wq B [intRowOf 3 (.slice d0 n0 m0) Xs] by
        have e : Xs.take j = Xs := by rw [hjP, ← hXl.out, List.take_length]
        rw [e] at hown
        exact hown)
      replace hjP := hid hjP
      go_wp2_with fail
      go_ret
      exact ⟨_, rfl, by rw [wst, ← hPd.out, ← hXs.out]; exact hfin.out.mono hBw.out, Ext.trans ePw eq⟩

set_option maxHeartbeats 3200000 in
set_option maxRecDepth 100000 in
theorem l7Run_any {v va vX : Value} {M : List (List Int)} {a X : List Int} {w0 w : World} [Ext w0 w] (hm : IsMet w0 v M) (hM : metB M = true) (ha : IsInts w0 va a) (hXi : IsInts w0 vX X) (h1k : 1 ≤ a.length) (hk : a.length ≤ 3) (hac : a ∈ confs M.length a.length 0) (hl : X.length ≤ 1000) (hX : ∀ j, j < X.length → 0 ≤ nth X j ∧ nth X j < (M.length : Int)) :
    Calls Tryz.prog 113 #[v, va, vX] w fun e w' => ∃ u, e = .returned (.tuple #[u, .int .i64 (rnS M (confs M.length a.length 0) a X X.length)]) ∧ IsRows w' u (rnT M (confs M.length a.length 0) a X X.length) ∧ Ext w w' := by
  have hm' := hm
  obtain ⟨v1, rfl, hR⟩ := hm
  obtain ⟨a1, c1, rfl, l1⟩ := hR.form
  have ha' := ha
  obtain ⟨da, ma, rfl, la⟩ := ha.form
  have hX' := hXi
  obtain ⟨aX, mX, rfl, lX⟩ := hXi.form
  have hMl := met_len hM
  have hdst := hid (dst_of_met hM)
  have hM' := hid hM
  clear hM
  have hwl := hid (wl_good hdst.out h1k hk hac hX hl)
  have hrn := hid (rn_conf hdst.out h1k hk hac hX hl)
  have hrt := hid (fun (i : Nat) (hi : i ≤ X.length) => rnT_mem hdst.out h1k hk hac hX hl hi)
  have hcl := hid (show ∀ c, c ∈ confs M.length a.length 0 → c.length = a.length ∧ ∀ x ∈ c, I64 x from fun c hc => by
    obtain ⟨h1, _, h3⟩ := confs_iff.1 hc
    exact ⟨h1, fun x hx => by have := h3 x hx; unfold I64; omega⟩)
  have hac' := hid hac
  clear hac
  replace hX := hid hX
  have h216 := confs_216 hMl.2 hk
  have hwll := hid (show ∀ i, i ≤ X.length → (wlAt M (confs M.length a.length 0) a X i).length ≤ 216 ∧ ∀ x ∈ wlAt M (confs M.length a.length 0) a X i, I64 x from fun i hi => by
    have h := hwl.out i hi
    exact ⟨by rw [h.1.1]; exact h216, good_i64 h (by omega)⟩)
  obtain ⟨w1, hw1⟩ : ∃ x, x = w.alloc (.cells #[.slice a1 M.length c1] 26) := ⟨_, rfl⟩
  have e1 : Ext w w1 := by rw [hw1]; infer_instance
  have x0 : w1.cell? ⟨w.heap.size, 0, none⟩ = some (.slice a1 M.length c1) := by rw [hw1]; go_simp
  have hz1 := hid (show w1.heap.size = w.heap.size + 1 by rw [hw1]; simp)
  obtain ⟨B, hB⟩ : ∃ b, b = w1.heap.size := ⟨_, rfl⟩
  have hEx := hid (show ∀ u, Below B w1 u → Ext w1 u from fun u h => ⟨by rw [← hB]; exact h⟩)
  have hBl := hid (show ∀ u, Ext w1 u → B ≤ u.heap.size from fun u e => by rw [hB]; exact e.size)
  have e01 : Ext w0 w1 := Ext.trans ‹Ext w0 w› e1
  have own0 : Own (w1.alloc (.cells #[] 27)) B [valRowOf 27 (.slice (some ⟨w1.heap.size, 0, none⟩) ([] : List Value).length 0) []] := by
    rw [hB]
    exact (Own.nil w1 w1.heap.size).lit 27 1 0 #[] (Nat.le_refl _) (by unfold maxLen; omega) rfl
  have b0 : Below B w1 (w1.alloc (.cells #[] 27)) := by rw [hB]; exact (Below.refl _ _).alloc (Nat.le_refl _) _
  replace hB := hid hB
  go_enter Tryz.func113, Tryz.ntmps113
  go_upto_region 1 with fail
  rw [← hw1]
  obtain ⟨bx, hbx⟩ : ∃ q, q = w.heap.size := ⟨_, rfl⟩
  rw [← hbx] at x0 hz1 ⊢
  replace hbx := hid hbx
  replace hw1 := hid hw1
  have x1 := (inferInstance : Ext w1 (w1.alloc (.cells #[] 27))).cell x0
  have e02 : Ext w0 (w1.alloc (.cells #[] 27)) := Ext.trans e01 inferInstance
  go_wp2_with fail
  refine (l7Start_any (w0 := w0) hm' hM'.out ha' hk hac'.out).mono ?_
  rintro e w2 ⟨u2, rfl, ownW, e2⟩
  have own2 := Own.join own0 ownW (hB := (hBl.out _ (inferInstance : Ext w1 (w1.alloc (.cells #[] 27)))))
  have b2 : Below B w1 w2 := ext_below b0 (hBl.out _ (inferInstance : Ext w1 (w1.alloc (.cells #[] 27))))
  clear ownW own0 b0
  have own2' : Own w2 B (valRowOf 27 (.slice (some ⟨w1.heap.size, 0, none⟩) ([] : List Value).length 0) [] :: (List.zipWith (intRowOf 3) [] (rnT M (confs M.length a.length 0) a X 0) ++ [intRowOf 3 u2 (wlAt M (confs M.length a.length 0) a X 0)])) := own2.perm (List.Perm.swap _ _ _)
  clear own2 x1 e02 e2
  obtain ⟨P, hPd⟩ : ∃ p, p = confs M.length a.length 0 := ⟨_, rfl⟩
  rw [← hPd] at own2' hwl hrn hrt hcl hac' h216 hwll
  replace hPd := hid hPd
  go_wp2_with fail
  go_loopw [1, 8, 9, 10, 11] (fun av ov wv sv i wr => ∃ (q : Nat) (vs : List Value), q ≤ X.length ∧ i = .int .i64 q ∧ sv = .int .i64 (rnS M P a X q) ∧ Hid (vs.length = q) ∧ Hid ((q = 0 ∧ av = .slice da a.length ma) ∨ (1 ≤ q ∧ av = vs.getD (q - 1) undef)) ∧ Own wr B (valRowOf 27 ov vs :: (List.zipWith (intRowOf 3) vs (rnT M P a X q) ++ [intRowOf 3 wv (wlAt M P a X q)])) ∧ Below B w1 wr) (fun _ _ _ _ i _ => X.length - (intOf i).toNat)
  case atStart => exact ⟨0, [], by omega, rfl, rfl, rfl, .inl ⟨rfl, rfl⟩, own2', b2⟩
  case round =>
    clear own2' b2
    obtain ⟨i, vs, hi, rfl, rfl, hvl, hav, hown, hb⟩ := hrel
    obtain ⟨wq, rfl⟩ : ∃ y : World, y = wr := ⟨_, rfl⟩
    have eq : Ext w1 wq := hEx.out _ hb
    have e0q : Ext w0 wq := Ext.trans e01 eq
    have hBq := hBl.out _ eq
    have hvl2 := hid (show vs.length = (rnT M P a X i).length by rw [hvl.out, rnT_len])
    obtain ⟨dO, mO, hO⟩ := hown.form
    replace hO : u8 = Value.slice dO vs.length mO := hO
    by_cases hlt : i < X.length
    · have hAi := hrn.out i hi
      have hA : IsInts wq u1 (rnA M P a X i) := by
        rcases hav.out with ⟨h0, h1⟩ | ⟨h0, h1⟩
        · rw [h1, h0]; exact ha'.ext
        · have hr : row (rnT M P a X i) (i - 1) = rnA M P a X i := by
            have : i - 1 < i := by omega
            simp [rnT, row, this, show i - 1 + 1 = i by omega]
          have h2 := hcl.out _ hAi.1
          have h3 := own_at hown hvl2.out (j := i - 1) (by rw [rnT_len]; omega) (by rw [hr]; unfold Short; omega) (by rw [hr]; exact h2.2)
          rw [h1]
          rw [hr] at h3
          exact h3
      clear hav
      have hAl := hcl.out _ hAi.1
      have hWl := hwll.out i hi
      have hown2 := hown.perm (S := intRowOf 3 u9 (wlAt M P a X i) :: (valRowOf 27 u8 vs :: List.zipWith (intRowOf 3) vs (rnT M P a X i))) (by
        have := List.perm_middle (a := intRowOf 3 u9 (wlAt M P a X i)) (l₁ := valRowOf 27 u8 vs :: List.zipWith (intRowOf 3) vs (rnT M P a X i)) (l₂ := [])
        rw [List.append_nil] at this
        exact this.symm)
      have hW := hown2.reads (by unfold Short; omega) hWl.2
      clear hown2
      subst hO
      obtain ⟨dA, mA, hAv, lA⟩ := hA.form
      subst hAv
      obtain ⟨dW, mW, hWv, lW⟩ := hW.form
      subst hWv
      obtain ⟨bX, oX, hdX, hcX⟩ := hX'.at (w' := wq) hlt
      cases hdX
      have x0q := eq.cell x0
      have hri := hid (hX.out i hlt)
      have hgW := hid (show GoodW M (confs M.length (rnA M P a X i).length 0) (wlAt M P a X i) 300000 by
        rw [hAl.1, ← hPd.out]
        exact (hwl.out i hi).mono (by omega))
      have hgN := hid (show GoodW M (confs M.length a.length 0) (wlAt M P a X (i + 1)) 300000 by
        rw [← hPd.out]
        exact (hwl.out (i + 1) hlt).mono (by omega))
      have hnw := hid (show wnxL M (confs M.length (rnA M P a X i).length 0) (wlAt M P a X i) (nth X i) = wlAt M P a X (i + 1) by rw [hAl.1, ← hPd.out]; rfl)
      have hAc := hid (show rnA M P a X i ∈ confs M.length a.length 0 by rw [← hPd.out]; exact hAi.1)
      have hsc := hid (show svC M (confs M.length a.length 0) (wlAt M P a X (i + 1)) (rnA M P a X i) (nth X i) = rnA M P a X (i + 1) by rw [← hPd.out]; rfl)
      have hsk := hid (show svK M (confs M.length a.length 0) (wlAt M P a X (i + 1)) (rnA M P a X i) (nth X i) = rnS M P a X (i + 1) - rnS M P a X i by rw [← hPd.out, rnS]; omega)
      have hs2 := (hrn.out (i + 1) hlt).2
      have hTs := hid (show rnT M P a X (i + 1) = rnT M P a X i ++ [rnA M P a X (i + 1)] from rnT_succ)
      have hNl := hwll.out (i + 1) hlt
      have hA2 := hcl.out _ (hrn.out (i + 1) hlt).1
      obtain ⟨A, hAd⟩ : ∃ y, y = rnA M P a X i := ⟨_, rfl⟩
      rw [← hAd] at hA hAi hAl hgW hnw hAc hsc hsk ⊢
      obtain ⟨W, hWd⟩ : ∃ y, y = wlAt M P a X i := ⟨_, rfl⟩
      rw [← hWd] at hW hWl hgW hnw hown ⊢
      obtain ⟨NW, hNW⟩ : ∃ y, y = wlAt M P a X (i + 1) := ⟨_, rfl⟩
      rw [← hNW] at hgN hnw hsc hsk hNl
      obtain ⟨A2, hA2d⟩ : ∃ y, y = rnA M P a X (i + 1) := ⟨_, rfl⟩
      rw [← hA2d] at hsc hTs hA2
      obtain ⟨r, hrd⟩ : ∃ y, y = nth X i := ⟨_, rfl⟩
      rw [← hrd] at hri hnw hsc hsk hcX
      obtain ⟨L, hL⟩ : ∃ y, y = rnT M P a X i := ⟨_, rfl⟩
      rw [← hL] at hown hTs hvl2
      obtain ⟨s1, hs1⟩ : ∃ y, y = rnS M P a X i := ⟨_, rfl⟩
      rw [← hs1] at hsk hAi ⊢
      obtain ⟨ck, hck⟩ : ∃ y, y = rnS M P a X (i + 1) - s1 := ⟨_, rfl⟩
      rw [← hck] at hsk
      have hck2 := hid (show s1 + ck = rnS M P a X (i + 1) by omega)
      have hsb : 0 ≤ s1 + ck ∧ s1 + ck ≤ 1000000 := by omega
      have hAk := hid hAl.1
      have hA2l := hA2.1
      have hA2i := hid hA2.2
      have hA3 : A.length ≤ 3 := by omega
      have hA1 : 1 ≤ A.length := by omega
      have hA23 : A2.length ≤ 3 := by omega
      have hs99 : 0 ≤ s1 ∧ s1 ≤ 100000 := by omega
      clear hAl hA2 hA2l hs2
      replace hAd := hid hAd
      replace hWd := hid hWd
      replace hNW := hid hNW
      replace hA2d := hid hA2d
      replace hrd := hid hrd
      replace hL := hid hL
      replace hs1 := hid hs1
      replace hck := hid hck
      replace hAi := hid hAi
      replace hWl := hid hWl
      have hNl1 := hNl.1
      have hNl2 := hid hNl.2
      clear hNl
      have hSx := hid (show ∀ u, Ext wq u → u.cell? ⟨bx, 0, none⟩ = some (.slice a1 M.length c1) ∧ u.cell? ⟨bX, oX + i, none⟩ = some (.int .i64 r) from fun u e => ⟨e.cell x0q, e.cell hcX⟩)
      clear x0q hcX
      go_wp2_with fail
      refine region_held_from (w0 := wq) (S := fun u => u.cell? ⟨bx, 0, none⟩ = some (.slice a1 M.length c1) ∧ u.cell? ⟨bX, oX + i, none⟩ = some (.int .i64 r)) (by kernel_rfl) hSx.out (fun wd ed hHeld0 => ?_)
      have e0d : Ext w0 wd := Ext.trans e0q ed
      refine wpAnyH_take (i := 0) (v := .agg #[.slice a1 M.length c1]) rfl (by kernel_rfl) (by kernel_rfl) (by kernel_rfl) (fun _ _ _ h => h) (Or.inl ⟨by rfl, by intro wx hx; obtain ⟨_, _⟩ := hx; go_simp⟩) (by assumption) ?_
      try simp only [List.getElem_toArray, List.getElem_cons_zero, Act.put, List.setIfInBounds_toArray, List.set_cons_zero, List.set_cons_succ]
      refine wpAnyH_take (i := 1) (v := .slice dA A.length mA) rfl (by kernel_rfl) (by kernel_rfl) (by kernel_rfl) (fun _ _ _ h => h) (Or.inl ⟨by rfl, by intro wx hx; go_simp⟩) (by assumption) ?_
      try simp only [List.getElem_toArray, List.getElem_cons_succ, List.getElem_cons_zero, Act.put, List.setIfInBounds_toArray, List.set_cons_zero, List.set_cons_succ]
      refine wpAnyH_take (i := 2) (v := .int .i64 A.length) rfl (by kernel_rfl) (by kernel_rfl) (by kernel_rfl) (fun _ _ _ h => h) (Or.inl ⟨by rfl, by intro wx hx; go_simp⟩) (by assumption) ?_
      try simp only [List.getElem_toArray, List.getElem_cons_succ, List.getElem_cons_zero, Act.put, List.setIfInBounds_toArray, List.set_cons_zero, List.set_cons_succ]
      refine wpAnyH_take (i := 3) (v := .slice dW W.length mW) rfl (by kernel_rfl) (by kernel_rfl) (by kernel_rfl) (fun _ _ _ h => h) (Or.inl ⟨by rfl, by intro wx hx; go_simp⟩) (by assumption) ?_
      try simp only [List.getElem_toArray, List.getElem_cons_succ, List.getElem_cons_zero, Act.put, List.setIfInBounds_toArray, List.set_cons_zero, List.set_cons_succ]
      refine wpAnyH_take (i := 4) (v := .slice (some ⟨bX, oX, none⟩) X.length mX) rfl (by kernel_rfl) (by kernel_rfl) (by kernel_rfl) (fun _ _ _ h => h) (Or.inl ⟨by rfl, by intro wx hx; go_simp⟩) (by assumption) ?_
      try simp only [List.getElem_toArray, List.getElem_cons_succ, List.getElem_cons_zero, Act.put, List.setIfInBounds_toArray, List.set_cons_zero, List.set_cons_succ]
      refine wpAnyH_take (i := 5) (v := .int .i64 i) rfl (by kernel_rfl) (by kernel_rfl) (by kernel_rfl) (fun _ _ _ h => h) (Or.inl ⟨by rfl, by intro wx hx; go_simp⟩) (by assumption) ?_
      try simp only [List.getElem_toArray, List.getElem_cons_succ, List.getElem_cons_zero, Act.put, List.setIfInBounds_toArray, List.set_cons_zero, List.set_cons_succ]
      refine wpAnyH_take (i := 6) (v := .pointer (some ⟨bX, oX + i, none⟩)) rfl (by kernel_rfl) (by kernel_rfl) (by kernel_rfl) (fun _ _ _ h => h) (Or.inl ⟨by rfl, by intro wx hx; go_simp⟩) (by assumption) ?_
      try simp only [List.getElem_toArray, List.getElem_cons_succ, List.getElem_cons_zero, Act.put, List.setIfInBounds_toArray, List.set_cons_zero, List.set_cons_succ]
      refine wpAnyH_take (i := 7) (v := .int .i64 r) rfl (by kernel_rfl) (by kernel_rfl) (by kernel_rfl) (fun _ _ _ h => h) (Or.inl ⟨by rfl, by intro wx hx; obtain ⟨_, _⟩ := hx; go_simp⟩) (by assumption) ?_
      try simp only [List.getElem_toArray, List.getElem_cons_succ, List.getElem_cons_zero, Act.put, List.setIfInBounds_toArray, List.set_cons_zero, List.set_cons_succ]
      refine wpAnyH_ready (rs := [8]) (by kernel_rfl) (by simp) ?_
      refine AllReadyH.cons rfl (fun K hK => ?_) AllReadyH.nil
      go_simp
      go_at_call 73
      refine (l7NextO_any (w0 := wd) (w := wd) (hm'.ext (e := e0d)) hM'.out (hW.ext (e := ed)) hA1 hA3 hgW.out (by omega) hri.out).mono ?_
      rw [hnw.out]
      rintro e w5 ⟨u5, rfl, ownN, e5⟩
      have hBd : B ≤ wd.heap.size := Nat.le_trans hBq ed.size
      have own5 := Own.join (hown.ext (w' := wd)) ownN (hB := hBd)
      have hN : IsInts w5 u5 NW := ownN.reads (by unfold Short; omega) hNl2.out
      clear ownN
      obtain ⟨dN, mN, rfl, lN⟩ := hN.form
      have e5q : Ext wq w5 := Ext.trans ed e5
      have hS5 := hSx.out w5 e5q
      go_wp2_with fail
      refine hK.out _ _ hS5 (fun _ => ?_)
      clear hK K
      try simp only [List.getElem_toArray, List.getElem_cons_succ, List.getElem_cons_zero, Act.put, List.setIfInBounds_toArray, List.set_cons_zero, List.set_cons_succ]
      refine wpAnyH_take (i := 9) (v := .slice dN NW.length mN) rfl (by kernel_rfl) (by kernel_rfl) (by kernel_rfl) (fun _ _ _ h => h) (Or.inl ⟨by rfl, by intro wx hx; go_simp⟩) (by assumption) ?_
      try simp only [List.getElem_toArray, List.getElem_cons_succ, List.getElem_cons_zero, Act.put, List.setIfInBounds_toArray, List.set_cons_zero, List.set_cons_succ]
      refine wpAnyH_done (by kernel_rfl) ?_ _
      go_wp2_with fail
      refine region_held_from (w0 := w5) (S := fun u => u.cell? ⟨bx, 0, none⟩ = some (.slice a1 M.length c1) ∧ u.cell? ⟨bX, oX + i, none⟩ = some (.int .i64 r)) (by kernel_rfl) (fun u e => hSx.out u (Ext.trans e5q e)) (fun we ee hHeld0 => ?_)
      have e0e : Ext w0 we := Ext.trans e0d (Ext.trans e5 ee)
      have e5e : Ext wq we := Ext.trans e5q ee
      refine wpAnyH_take (i := 0) (v := .agg #[.slice a1 M.length c1]) rfl (by kernel_rfl) (by kernel_rfl) (by kernel_rfl) (fun _ _ _ h => h) (Or.inl ⟨by rfl, by intro wx hx; obtain ⟨_, _⟩ := hx; go_simp⟩) (by assumption) ?_
      try simp only [List.getElem_toArray, List.getElem_cons_zero, Act.put, List.setIfInBounds_toArray, List.set_cons_zero, List.set_cons_succ]
      refine wpAnyH_take (i := 1) (v := .slice dN NW.length mN) rfl (by kernel_rfl) (by kernel_rfl) (by kernel_rfl) (fun _ _ _ h => h) (Or.inl ⟨by rfl, by intro wx hx; go_simp⟩) (by assumption) ?_
      try simp only [List.getElem_toArray, List.getElem_cons_succ, List.getElem_cons_zero, Act.put, List.setIfInBounds_toArray, List.set_cons_zero, List.set_cons_succ]
      refine wpAnyH_take (i := 2) (v := .slice dA A.length mA) rfl (by kernel_rfl) (by kernel_rfl) (by kernel_rfl) (fun _ _ _ h => h) (Or.inl ⟨by rfl, by intro wx hx; go_simp⟩) (by assumption) ?_
      try simp only [List.getElem_toArray, List.getElem_cons_succ, List.getElem_cons_zero, Act.put, List.setIfInBounds_toArray, List.set_cons_zero, List.set_cons_succ]
      refine wpAnyH_take (i := 3) (v := .slice (some ⟨bX, oX, none⟩) X.length mX) rfl (by kernel_rfl) (by kernel_rfl) (by kernel_rfl) (fun _ _ _ h => h) (Or.inl ⟨by rfl, by intro wx hx; go_simp⟩) (by assumption) ?_
      try simp only [List.getElem_toArray, List.getElem_cons_succ, List.getElem_cons_zero, Act.put, List.setIfInBounds_toArray, List.set_cons_zero, List.set_cons_succ]
      refine wpAnyH_take (i := 4) (v := .int .i64 i) rfl (by kernel_rfl) (by kernel_rfl) (by kernel_rfl) (fun _ _ _ h => h) (Or.inl ⟨by rfl, by intro wx hx; go_simp⟩) (by assumption) ?_
      try simp only [List.getElem_toArray, List.getElem_cons_succ, List.getElem_cons_zero, Act.put, List.setIfInBounds_toArray, List.set_cons_zero, List.set_cons_succ]
      refine wpAnyH_take (i := 5) (v := .pointer (some ⟨bX, oX + i, none⟩)) rfl (by kernel_rfl) (by kernel_rfl) (by kernel_rfl) (fun _ _ _ h => h) (Or.inl ⟨by rfl, by intro wx hx; go_simp⟩) (by assumption) ?_
      try simp only [List.getElem_toArray, List.getElem_cons_succ, List.getElem_cons_zero, Act.put, List.setIfInBounds_toArray, List.set_cons_zero, List.set_cons_succ]
      refine wpAnyH_take (i := 6) (v := .int .i64 r) rfl (by kernel_rfl) (by kernel_rfl) (by kernel_rfl) (fun _ _ _ h => h) (Or.inl ⟨by rfl, by intro wx hx; obtain ⟨_, _⟩ := hx; go_simp⟩) (by assumption) ?_
      try simp only [List.getElem_toArray, List.getElem_cons_succ, List.getElem_cons_zero, Act.put, List.setIfInBounds_toArray, List.set_cons_zero, List.set_cons_succ]
      refine wpAnyH_ready (rs := [7]) (by kernel_rfl) (by simp) ?_
      refine AllReadyH.cons rfl (fun K hK => ?_) AllReadyH.nil
      go_simp
      go_at_call 96
      refine (l7ServeO_any (w0 := we) (w := we) (hm'.ext (e := e0e)) hM'.out (hN.ext (e := ee)) (hA.ext (e := e5e)) h1k hk hAc.out hgN.out (by omega) hri.out).mono ?_
      rw [hsc.out, hsk.out]
      rintro e w6 ⟨u6, rfl, ownU, e6⟩
      obtain ⟨dU, mU, hu6⟩ := ownU.form
      replace hu6 : u6 = .slice dU A2.length mU := hu6
      subst hu6
      have hBe : B ≤ we.heap.size := Nat.le_trans hBq e5e.size
      have own6 := Own.join (own5.ext (w' := we)) ownU (hB := hBe)
      have ownT : Own w6 B (⟨27, 1, .slice dO vs.length mO, vs.length, vs⟩ :: (intRowOf 3 (.slice dU A2.length mU) A2 :: (List.zipWith (intRowOf 3) vs L ++ [intRowOf 3 (.slice dN NW.length mN) NW]))) := (own6.perm (perm_c _ _ _ _ _)).sub (List.Sublist.cons_cons _ (List.Sublist.cons_cons _ (List.Sublist.append (List.Sublist.refl _) (List.Sublist.cons_cons _ (List.nil_sublist _)))))
      clear own5 own6 ownU
      have b6 : Below B w1 w6 := (hb.trans (e5e.below.mono hBq)).trans (e6.below.mono hBe)
      have hB6 : B ≤ w6.heap.size := Nat.le_trans hBe e6.size
      have e6q : Ext wq w6 := Ext.trans e5e e6
      have hS6 := hSx.out w6 e6q
      go_wp2_with fail
      refine hK.out _ _ hS6 (fun _ => ?_)
      clear hK K
      try simp only [List.getElem_toArray, List.getElem_cons_succ, List.getElem_cons_zero, Act.put, List.setIfInBounds_toArray, List.set_cons_zero, List.set_cons_succ]
      refine wpAnyH_take (i := 8) (v := .tuple #[.slice dU A2.length mU, .int .i64 ck]) rfl (by kernel_rfl) (by kernel_rfl) (by kernel_rfl) (fun _ _ _ h => h) (Or.inl ⟨by rfl, by intro wx hx; go_simp⟩) (by assumption) ?_
      try simp only [List.getElem_toArray, List.getElem_cons_succ, List.getElem_cons_zero, Act.put, List.setIfInBounds_toArray, List.set_cons_zero, List.set_cons_succ]
      refine wpAnyH_take (i := 9) (v := .slice dU A2.length mU) rfl (by kernel_rfl) (by kernel_rfl) (by kernel_rfl) (fun _ _ _ h => h) (Or.inl ⟨by rfl, by intro wx hx; go_simp⟩) (by assumption) ?_
      try simp only [List.getElem_toArray, List.getElem_cons_succ, List.getElem_cons_zero, Act.put, List.setIfInBounds_toArray, List.set_cons_zero, List.set_cons_succ]
      refine wpAnyH_take (i := 10) (v := .int .i64 ck) rfl (by kernel_rfl) (by kernel_rfl) (by kernel_rfl) (fun _ _ _ h => h) (Or.inl ⟨by rfl, by intro wx hx; go_simp⟩) (by assumption) ?_
      try simp only [List.getElem_toArray, List.getElem_cons_succ, List.getElem_cons_zero, Act.put, List.setIfInBounds_toArray, List.set_cons_zero, List.set_cons_succ]
      refine wpAnyH_take (i := 11) (v := .slice dU A2.length mU) rfl (by kernel_rfl) (by kernel_rfl) (by kernel_rfl) (fun _ _ _ h => h) (Or.inl ⟨by rfl, by intro wx hx; go_simp⟩) (by assumption) ?_
      try simp only [List.getElem_toArray, List.getElem_cons_succ, List.getElem_cons_zero, Act.put, List.setIfInBounds_toArray, List.set_cons_zero, List.set_cons_succ]
      refine wpAnyH_take (i := 12) (v := .int .i64 ck) rfl (by kernel_rfl) (by kernel_rfl) (by kernel_rfl) (fun _ _ _ h => h) (Or.inl ⟨by rfl, by intro wx hx; go_simp⟩) (by assumption) ?_
      try simp only [List.getElem_toArray, List.getElem_cons_succ, List.getElem_cons_zero, Act.put, List.setIfInBounds_toArray, List.set_cons_zero, List.set_cons_succ]
      refine wpAnyH_done (by kernel_rfl) ?_ _
      have hvs2 : vs.length ≤ 1000 := by rw [hvl.out]; omega
      go_wp2_with (at_builtin; refine wpList_append1 rfl _ _ _ rfl elemInts rfl ownT hB6 rfl rfl (by omega) (by omega) ?_; intro v7 w7 ho hb7)
      have own7 := rows_in0 ho hvl2.out
      rw [← hTs.out] at own7
      go_roundw
      case rel =>
        refine ⟨i + 1, vs ++ [.slice dU A2.length mU], by omega, by go_num, by rw [hck2.out], ?_, ?_, by rw [← hNW.out]; exact own7, (b6.trans hb7)⟩
        · show (vs ++ [_]).length = i + 1
          rw [List.length_append, hvl.out]; rfl
        · refine .inr ⟨by omega, ?_⟩
          have : i = vs.length := hvl.out.symm
          simp [this]
      case measure => simp [intOf]; omega
    · have hin : i = X.length := by omega
      subst hO
      have hfin := hid (show IsRows wq (.slice dO vs.length mO) (rnT M P a X X.length) by
        rw [← hin]
        refine Own.readsAll (e1 := 27) (e2 := 3) (vs := vs) (R := [intRowOf 3 u9 (wlAt M P a X i)]) hown hvl2.out (by unfold ShortRows; rw [rnT_len]; omega) (fun r hr => ?_) (fun r hr => ?_)
        · have := (hcl.out r (hrt.out i hi r hr)).1
          unfold Short; omega
        · exact (hcl.out r (hrt.out i hi r hr)).2)
      have hsf := hid (show rnS M P a X i = rnS M (confs M.length a.length 0) a X X.length by rw [hin, hPd.out])
      rw [hsf.out]
      replace hin := hid hin
      go_wp2_with fail
      go_ret2
      exact ⟨_, rfl, by rw [← hPd.out]; exact hfin.out, Ext.trans e1 eq⟩
end Go.Proofs.YtmgcfnciejfpbaaGreat

