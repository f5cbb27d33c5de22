/- The draw of a schedule. -/
import Derived.Test.YtkniohcmhdgbeaaDraw8
import Derived.Test.YtkniohcmhdgbeaaAlgD
import Derived.Test.YtkniohcmhdgbeaaAlgS
namespace Go.Proofs.Ytkniohcmhdgbeaa
open Go.RowKit

theorem ints_no (u : World) (d : Option Addr) (c : Nat) : IsInts u (.slice d 0 c) [] := ⟨d, c, rfl, ⟨Nat.zero_le _, Nat.zero_le _⟩, by simp, fun j hj => by simp at hj⟩
theorem ints_drop1 {w : World} {b o c n : Nat} {xs : List Int} (h : IsInts w (.slice (some ⟨b, o, none⟩) n c) xs) (h0 : 0 < xs.length) (_hc : c ≠ 1) : IsInts w (.slice (some ⟨b, o + 1, none⟩) (n - 1) (c - 1)) xs.tail := by
  obtain ⟨a', c'', h1, h2, h3, h4⟩ := h
  cases h1
  refine ⟨_, _, by rw [List.length_tail], ⟨by have := h2.1; unfold Short at this ⊢; rw [List.length_tail]; omega, by have := h2.2; rw [List.length_tail]; omega⟩, fun x hx => h3 x (List.mem_of_mem_tail hx), fun j hj => ?_⟩
  rw [List.length_tail] at hj
  obtain ⟨b', o', h5, h6⟩ := h4 (j + 1) (by omega)
  cases h5
  refine ⟨b, o + 1, rfl, ?_⟩
  rw [show o + 1 + j = o + (j + 1) by omega, h6]
  simp [nth]
def SCPost (w : World) (e : Ending) (w' : World) : Prop := ∃ pv s rv yv M S X Y, e = .returned (.tuple #[pv, .int .i64 s, rv, yv]) ∧ IsProb w' pv M S ∧ I64 s ∧ IsInts w' rv X ∧ IsInts w' yv Y ∧ X.length ≤ 100 ∧ Ext w w'

set_option maxHeartbeats 3200000 in
set_option maxRecDepth 100000 in
theorem drawSC_any {w0 w : World} [Ext w0 w] {vc : Value} {nb : Nat} (hc : IsBytes w0 vc nb) :
    Calls Try.prog 14 #[vc] w (SCPost w) := by
  obtain ⟨ac, cc, rfl⟩ := hc.form
  go_enter Try.func14, Try.ntmps14
  go_upto_region 2 with fail
  have hsz : w0.heap.size ≤ w.heap.size := (‹Ext w0 w›).size
  have own1 := CurAt.start (vc := .slice ac nb cc) (((Own.nil w w.heap.size).lit 26 2 1 #[.slice none 0 0, .slice none 0 0] (Nat.le_refl _) (by unfold maxLen; omega) rfl)) (by simp)
  have e1 : Ext w ((w.alloc (.cells #[.slice none 0 0, .slice none 0 0] 26)).alloc (.cells #[.slice ac nb cc, .int .i64 0, .int .u64 0] 56)) := inferInstance
  have hcs : (w.alloc (.cells #[.slice none 0 0, .slice none 0 0] 26)).heap.size = w.heap.size + 1 := by simp
  rw [hcs] at own1
  obtain ⟨r, hr⟩ : ∃ r, r = w.heap.size := ⟨_, rfl⟩
  obtain ⟨c, hcd⟩ : ∃ c, c = w.heap.size + 1 := ⟨_, rfl⟩
  obtain ⟨B, hBd⟩ : ∃ B, B = w.heap.size := ⟨_, rfl⟩
  have own1' : CurAt ((w.alloc (.cells #[.slice none 0 0, .slice none 0 0] 26)).alloc (.cells #[.slice ac nb cc, .int .i64 0, .int .u64 0] 56)) B c (.slice ac nb cc) 0 [boxRow 26 2 r [.slice none 0 0, .slice none 0 0]] := by
    rw [hBd, hcd, hr]; exact own1
  have hwB : w0.heap.size ≤ B := by omega
  have b1 : Below B w ((w.alloc (.cells #[.slice none 0 0, .slice none 0 0] 26)).alloc (.cells #[.slice ac nb cc, .int .i64 0, .int .u64 0] 56)) := by rw [hBd]; exact e1.below
  rw [← hcd, ← hr]
  generalize (w.alloc (.cells #[.slice none 0 0, .slice none 0 0] 26)).alloc (.cells #[.slice ac nb cc, .int .i64 0, .int .u64 0] 56) = w1 at *
  replace hr := hid hr
  replace hcd := hid hcd
  replace hBd := hid hBd
  have hE : ∀ u, Below B w u → Ext w0 u := fun u h => ⟨(‹Ext w0 w›).below.trans (h.mono hwB)⟩
  replace hE := hid hE
  clear own1 e1 hcs
  have e1 : Ext w0 w1 := hE.out _ b1
  go_wp2_with fail
  refine (problem_any (w0 := w0) hc own1' hwB (by omega) (by omega)).mono ?_
  rintro e w2 ⟨mv, sv, M, S, Z, a2, rfl, hM1, hM2, hS1, hS2, ha1, ha2, own2, hZ, b2⟩
  obtain ⟨dm, mm, rfl, lm⟩ := (hZ w2 own2.rows.left).1.form
  obtain ⟨ds, ms, rfl, ls⟩ := (hZ w2 own2.rows.left).2.form
  replace hZ := hid hZ
  have b2' := b1.trans b2
  have own3 := own2.box 26 2 #[.slice dm M.length mm, .slice ds S.length ms] own2.size rfl
  have b3 : Below B w (w2.alloc (.cells #[.slice dm M.length mm, .slice ds S.length ms] 26)) := b2'.alloc own2.size _
  obtain ⟨pb, hpb⟩ : ∃ r, r = w2.heap.size := ⟨_, rfl⟩
  go_upto_region 3 with fail
  generalize w2.alloc (.cells #[.slice dm M.length mm, .slice ds S.length ms] 26) = w3 at *
  rw [← hpb] at own3 ⊢
  replace hpb := hid hpb
  clear own1' own2 b1 b2 b2' e1
  have own4 := own3.ext (w' := w3.drew)
  have b4 : Below B w w3.drew := b3.drew
  generalize hw4 : w3.drew = w4 at *
  have p0 : w4.cell? ⟨pb, 0, none⟩ = some (.slice dm M.length mm) := (own4.at (.head _) (j := 0) (by omega)).1
  have p1 : w4.cell? ⟨pb, 1, none⟩ = some (.slice ds S.length ms) := (own4.at (.head _) (j := 1) (by omega)).1
  subst hw4
  refine wp_region_held_drew (S := fun w' => w'.cell? ⟨pb, 0, none⟩ = some (.slice dm M.length mm) ∧ w'.cell? ⟨pb, 1, none⟩ = some (.slice ds S.length ms)) (by kernel_rfl) ⟨p0, p1⟩ (fun hHeld0 => ?_)
  generalize w3.drew = w4 at *
  clear own3 b3 p0 p1
  refine wpAnyH_take (i := 0) (v := .pointer (some ⟨c, 0, none⟩)) rfl (by kernel_rfl) (by kernel_rfl) (by kernel_rfl) (fun _ _ _ h => h) (Or.inl ⟨by rfl, by intro wx hx; go_simp⟩) (by assumption) ?_
  try simp only [List.getElem_toArray, List.getElem_cons_zero, Act.put, List.setIfInBounds_toArray, List.set_cons_zero, List.set_cons_succ]
  refine wpAnyH_take (i := 1) (v := .agg #[.slice dm M.length mm, .slice ds S.length ms]) rfl (by kernel_rfl) (by kernel_rfl) (by kernel_rfl) (fun _ _ _ h => h) (Or.inl ⟨by rfl, by intro wx hx; obtain ⟨_, _⟩ := hx; go_simp⟩) (by assumption) ?_
  try simp only [List.getElem_toArray, List.getElem_cons_succ, List.getElem_cons_zero, Act.put, List.setIfInBounds_toArray, List.set_cons_zero, List.set_cons_succ]
  refine wpAnyH_take (i := 3) (v := .pointer (some ⟨c, 0, none⟩)) rfl (by kernel_rfl) (by kernel_rfl) (by kernel_rfl) (fun _ _ _ h => h) (Or.inl ⟨by rfl, by intro wx hx; go_simp⟩) (by assumption) ?_
  try simp only [List.getElem_toArray, List.getElem_cons_succ, List.getElem_cons_zero, Act.put, List.setIfInBounds_toArray, List.set_cons_zero, List.set_cons_succ]
  refine wpAnyH_take (i := 4) (v := .agg #[.slice dm M.length mm, .slice ds S.length ms]) rfl (by kernel_rfl) (by kernel_rfl) (by kernel_rfl) (fun _ _ _ h => h) (Or.inl ⟨by rfl, by intro wx hx; obtain ⟨_, _⟩ := hx; go_simp⟩) (by assumption) ?_
  try simp only [List.getElem_toArray, List.getElem_cons_succ, List.getElem_cons_zero, Act.put, List.setIfInBounds_toArray, List.set_cons_zero, List.set_cons_succ]
  have e4 : Ext w0 w4 := hE.out _ b4
  refine wpAnyH_ready (rs := [2]) (by kernel_rfl) (by simp) ?_
  refine AllReadyH.cons rfl (fun K hK => ?_) AllReadyH.nil
  go_simp
  go_at_call 33
  refine (state8_any (w0 := w0) hc own4 hwB (by omega) (by omega) hM1 (by omega)).mono ?_
  rintro e w5 ⟨x, a5, rfl, hx1, hx2, h51, h52, own5, b5⟩
  have b5' := b4.trans b5
  have p0 : w5.cell? ⟨pb, 0, none⟩ = some (.slice dm M.length mm) := (own5.at (.head _) (j := 0) (by omega)).1
  have p1 : w5.cell? ⟨pb, 1, none⟩ = some (.slice ds S.length ms) := (own5.at (.head _) (j := 1) (by omega)).1
  have e5 : Ext w0 w5 := hE.out _ b5'
  clear own4 b4 b5 e4
  go_wp2_with fail
  refine hK.out _ _ ⟨p0, p1⟩ (fun _ => ?_)
  clear hK K
  try simp only [List.getElem_toArray, List.getElem_cons_succ, List.getElem_cons_zero, Act.put, List.setIfInBounds_toArray, List.set_cons_zero, List.set_cons_succ]
  refine wpAnyH_ready (rs := [5]) (by kernel_rfl) (by simp) ?_
  refine AllReadyH.cons rfl (fun K hK => ?_) AllReadyH.nil
  go_simp
  go_at_call 49
  refine (reqs8_any (w0 := w0) hc own5 hwB (by omega) (by omega) hS1 (by omega)).mono ?_
  rintro e w6 ⟨v, X, a6, rfl, hX1, hX2, h61, h62, own6, b6⟩
  have b6' := b5'.trans b6
  have q0 : w6.cell? ⟨pb, 0, none⟩ = some (.slice dm M.length mm) := (own6.at (.tail _ (.head _)) (j := 0) (by omega)).1
  have q1 : w6.cell? ⟨pb, 1, none⟩ = some (.slice ds S.length ms) := (own6.at (.tail _ (.head _)) (j := 1) (by omega)).1
  have hqq : w6.cell? ⟨pb, 0, none⟩ = some (.slice dm M.length mm) ∧ w6.cell? ⟨pb, 1, none⟩ = some (.slice ds S.length ms) := ⟨q0, q1⟩
  clear own5 b5' b6 e5 p0 p1
  go_wp2_with fail
  refine hK.out _ _ hqq (fun _ => ?_)
  clear hK K
  try simp only [List.getElem_toArray, List.getElem_cons_succ, List.getElem_cons_zero, Act.put, List.setIfInBounds_toArray, List.set_cons_zero, List.set_cons_succ]
  refine wpAnyH_take (i := 6) (v := .int .i64 x) rfl (by kernel_rfl) (by kernel_rfl) (by kernel_rfl) (fun _ _ _ h => h) (Or.inl ⟨by rfl, by intro wx hx; go_simp⟩) (by assumption) ?_
  try simp only [List.getElem_toArray, List.getElem_cons_succ, List.getElem_cons_zero, Act.put, List.setIfInBounds_toArray, List.set_cons_zero, List.set_cons_succ]
  refine wpAnyH_take (i := 7) (v := v) rfl (by kernel_rfl) (by kernel_rfl) (by kernel_rfl) (fun _ _ _ h => h) (Or.inl ⟨by rfl, by intro wx hx; go_simp⟩) (by assumption) ?_
  try simp only [List.getElem_toArray, List.getElem_cons_succ, List.getElem_cons_zero, Act.put, List.setIfInBounds_toArray, List.set_cons_zero, List.set_cons_succ]
  refine wpAnyH_done (by kernel_rfl) ?_ _
  clear hqq q0 q1
  obtain ⟨vd, vm, hv⟩ : ∃ d m, v = .slice d X.length m := ow_ints own6.rows
  subst hv
  go_upto_region 5 with fail
  have own7 := own6.lit (e := 3) (n := 0) (cs := #[]) [] own6.size rfl rfl (by simp)
  have b7 : Below B w (w6.alloc (.cells #[] 3)) := b6'.alloc own6.size _
  generalize w6.alloc (.cells #[] 3) = w7 at *
  generalize (some (⟨w6.heap.size, 0, none⟩ : Addr)) = dE at *
  clear own6 b6'
  have hbase := hid (show ∀ (u : World) Z2, Own u B (Z2 ++ (intRowOf 3 (.slice dE 0 0) [] :: (intRowOf 3 (.slice vd X.length vm) X :: (boxRow 26 2 pb (#[.slice dm M.length mm, .slice ds S.length ms] : Array Value).toList :: Z)))) →
      (IsRows u (.slice dm M.length mm) M ∧ IsRows u (.slice ds S.length ms) S) ∧ IsInts u (.slice vd X.length vm) X from fun u Z2 h => by
    have h1 := h.right.tail
    exact ⟨hZ.out _ h1.tail.tail, h1.reads (by unfold Short; omega) (fun y hy => by have := hX2 y hy; unfold I64; omega)⟩)
  have hpc := hid (show ∀ (u : World) av Z2, CurAt u B c (.slice ac nb cc) av (Z2 ++ (intRowOf 3 (.slice dE 0 0) [] :: (intRowOf 3 (.slice vd X.length vm) X :: (boxRow 26 2 pb (#[.slice dm M.length mm, .slice ds S.length ms] : Array Value).toList :: (Z ++ [boxRow 26 2 r [.slice none 0 0, .slice none 0 0]]))))) →
      u.cell? ⟨pb, 0, none⟩ = some (.slice dm M.length mm) ∧ u.cell? ⟨pb, 1, none⟩ = some (.slice ds S.length ms) from fun u av Z2 h =>
    ⟨(h.at (List.mem_append_right _ (.tail _ (.tail _ (.head _)))) (j := 0) (by omega)).1, (h.at (List.mem_append_right _ (.tail _ (.tail _ (.head _)))) (j := 1) (by omega)).1⟩)
  have e7 : Ext w0 w7 := hE.out _ b7
  have c7 := hpc.out _ _ [] own7
  have c70 := c7.1
  have c71 := c7.2
  go_wp2_with fail
  refine (algorithm_any (w0 := w0) hc own7 hwB (by omega) (by omega) (fun u h => hZ.out u h.tail.tail.tail.left) ⟨hM1, hM2⟩ ⟨hS1, hS2⟩ rfl rfl).mono ?_
  rintro e w8 ⟨tv, T, Z2, a8, rfl, h81, h82, own8, hZ2, b8⟩
  have b8' := b7.trans b8
  have c8 := hpc.out _ _ _ own8
  have c80 := c8.1
  have c81 := c8.2
  have hT : IsRows w8 tv T := hZ2 _ own8.rows.left
  obtain ⟨aT, cT, hTv, lT⟩ := hT.form
  subst hTv
  replace hZ2 := hid hZ2
  have hpr : (IsRows w8 (.slice dm M.length mm) M ∧ IsRows w8 (.slice ds S.length ms) S) ∧ IsInts w8 (.slice vd X.length vm) X := by
    refine hbase.out w8 Z2 ?_
    have h := own8.rows
    have h2 : Own w8 B ((Z2 ++ (intRowOf 3 (.slice dE 0 0) [] :: (intRowOf 3 (.slice vd X.length vm) X :: (boxRow 26 2 pb (#[.slice dm M.length mm, .slice ds S.length ms] : Array Value).toList :: Z)))) ++ [boxRow 26 2 r [.slice none 0 0, .slice none 0 0]]) := by
      simpa only [List.cons_append, List.append_assoc] using h
    exact h2.left
  have hPr : IsProb w8 (.agg #[.slice dm M.length mm, .slice ds S.length ms]) M S := ⟨_, _, rfl, hpr.1.1, hpr.1.2⟩
  clear own7 b7 b8 e7 c7 c70 c71
  go_wp2_with fail
  refine (l8Takes_any (w0 := w8) (w := w8) hPr hpr.2).mono ?_
  obtain ⟨sb, hsb⟩ : ∃ b, b = startB M S x X := ⟨_, rfl⟩
  rw [← hsb]
  replace hsb := hid hsb
  rintro e w9 ⟨rfl, e9⟩
  have own9 := own8.ext (w' := w9)
  have b9 : Below B w w9 := b8'.trans (e9.below.mono own8.size)
  have c9 := hpc.out _ _ _ own9
  have c90 := c9.1
  have c91 := c9.2
  clear own8 b8' c8 c80 c81
  have noF := hid (fun (u : World) (_ : Own u B (Z2 ++ (intRowOf 3 (.slice dE 0 0) [] :: (intRowOf 3 (.slice vd X.length vm) X :: (boxRow 26 2 pb (#[.slice dm M.length mm, .slice ds S.length ms] : Array Value).toList :: Z))))) => ints_no u dE 0)
  cases sb with
  | false =>
    clear c9 c90 c91
    have cz := hpc.out _ _ _ own9
    have cz0 := cz.1
    have cz1 := cz.2
    have ownF : CurAt w9 B c (.slice ac nb cc) a8 ((Z2 ++ (intRowOf 3 (.slice dE 0 0) [] :: (intRowOf 3 (.slice vd X.length vm) X :: (boxRow 26 2 pb (#[.slice dm M.length mm, .slice ds S.length ms] : Array Value).toList :: Z)))) ++ (boxRow 26 2 r [.slice none 0 0, .slice none 0 0] :: [])) := by
      simpa only [List.cons_append, List.append_assoc] using own9
    have r00 : (w9).cell? ⟨r, 0, none⟩ = some (.slice none 0 0) := (ownF.at (List.mem_append_right _ (.head _)) (j := 0) (by omega)).1
    have r10 : (w9).cell? ⟨r, 1, none⟩ = some (.slice none 0 0) := (ownF.at (List.mem_append_right _ (.head _)) (j := 1) (by omega)).1
    have r01 := (ownF.at (List.mem_append_right _ (.head _)) (e := 26) (z := 2) (b := r) (cs := [.slice none 0 0, .slice none 0 0]) (j := 0) (by omega)).2
    have r11 := (ownF.at (List.mem_append_right _ (.head _)) (e := 26) (z := 2) (b := r) (cs := [.slice none 0 0, .slice none 0 0]) (j := 1) (by omega)).2
    have sF1 := CurAt.set (L := []) ownF 0 (.slice dm M.length mm)
    have sF2 := CurAt.set (L := []) sF1.1 1 (.slice ds S.length ms)
    have ownG := sF2.1
    have bG := ((b9).setCell sF1.2 (p := ⟨r, 0, none⟩) (.slice dm M.length mm)).setCell sF1.2 (p := ⟨r, 1, none⟩) (.slice ds S.length ms)
    have y0 : (((w9).setCell ⟨r, 0, none⟩ (.slice dm M.length mm)).setCell ⟨r, 1, none⟩ (.slice ds S.length ms)).cell? ⟨r, 0, none⟩ = some (.slice dm M.length mm) := by go_simp
    have y1 : (((w9).setCell ⟨r, 0, none⟩ (.slice dm M.length mm)).setCell ⟨r, 1, none⟩ (.slice ds S.length ms)).cell? ⟨r, 1, none⟩ = some (.slice ds S.length ms) := by go_simp
    clear sF1 sF2 cz own9
    go_wp2_with fail
    refine bodyPost_ret (v := .tuple #[.agg #[.slice dm M.length mm, .slice ds S.length ms], .int .i64 x, .slice vd X.length vm, .slice dE 0 0]) (by simp [results, Try.results14, go_sem, y0, y1]) rfl ?_
    have hrows := ownG.rows.left
    have hb := hbase.out _ _ hrows
    refine ⟨_, x, _, _, M, S, X, [], rfl, ⟨_, _, rfl, hb.1.1, hb.1.2⟩, by unfold I64; omega, hb.2, noF.out _ hrows, hX1, ?_⟩
    refine ⟨?_⟩
    rw [← hBd.out]
    exact bG
  | true =>
    go_wp2_with fail
    refine (l8Alg_any (w0 := w8) (w := w9) hpr.1.1 hpr.1.2 hT (startB_prob hsb.out.symm)).mono ?_
    obtain ⟨ab, hab⟩ : ∃ b, b = algB M S T := ⟨_, rfl⟩
    rw [← hab]
    replace hab := hid hab
    rintro e w10 ⟨rfl, e10⟩
    have own10 := own9.ext (w' := w10)
    have b10 : Below B w w10 := b9.trans (e10.below.mono own9.size)
    have e810 : Ext w8 w10 := Ext.trans e9 e10
    clear own9 b9 c9 c90 c91
    cases ab with
    | false =>
      have cz := hpc.out _ _ _ own10
      have cz0 := cz.1
      have cz1 := cz.2
      have ownF : CurAt w10 B c (.slice ac nb cc) a8 ((Z2 ++ (intRowOf 3 (.slice dE 0 0) [] :: (intRowOf 3 (.slice vd X.length vm) X :: (boxRow 26 2 pb (#[.slice dm M.length mm, .slice ds S.length ms] : Array Value).toList :: Z)))) ++ (boxRow 26 2 r [.slice none 0 0, .slice none 0 0] :: [])) := by
        simpa only [List.cons_append, List.append_assoc] using own10
      have r00 : (w10).cell? ⟨r, 0, none⟩ = some (.slice none 0 0) := (ownF.at (List.mem_append_right _ (.head _)) (j := 0) (by omega)).1
      have r10 : (w10).cell? ⟨r, 1, none⟩ = some (.slice none 0 0) := (ownF.at (List.mem_append_right _ (.head _)) (j := 1) (by omega)).1
      have r01 := (ownF.at (List.mem_append_right _ (.head _)) (e := 26) (z := 2) (b := r) (cs := [.slice none 0 0, .slice none 0 0]) (j := 0) (by omega)).2
      have r11 := (ownF.at (List.mem_append_right _ (.head _)) (e := 26) (z := 2) (b := r) (cs := [.slice none 0 0, .slice none 0 0]) (j := 1) (by omega)).2
      have sF1 := CurAt.set (L := []) ownF 0 (.slice dm M.length mm)
      have sF2 := CurAt.set (L := []) sF1.1 1 (.slice ds S.length ms)
      have ownG := sF2.1
      have bG := ((b10).setCell sF1.2 (p := ⟨r, 0, none⟩) (.slice dm M.length mm)).setCell sF1.2 (p := ⟨r, 1, none⟩) (.slice ds S.length ms)
      have y0 : (((w10).setCell ⟨r, 0, none⟩ (.slice dm M.length mm)).setCell ⟨r, 1, none⟩ (.slice ds S.length ms)).cell? ⟨r, 0, none⟩ = some (.slice dm M.length mm) := by go_simp
      have y1 : (((w10).setCell ⟨r, 0, none⟩ (.slice dm M.length mm)).setCell ⟨r, 1, none⟩ (.slice ds S.length ms)).cell? ⟨r, 1, none⟩ = some (.slice ds S.length ms) := by go_simp
      clear sF1 sF2 cz own10
      go_wp2_with fail
      refine bodyPost_ret (v := .tuple #[.agg #[.slice dm M.length mm, .slice ds S.length ms], .int .i64 x, .slice vd X.length vm, .slice dE 0 0]) (by simp [results, Try.results14, go_sem, y0, y1]) rfl ?_
      have hrows := ownG.rows.left
      have hb := hbase.out _ _ hrows
      refine ⟨_, x, _, _, M, S, X, [], rfl, ⟨_, _, rfl, hb.1.1, hb.1.2⟩, by unfold I64; omega, hb.2, noF.out _ hrows, hX1, ?_⟩
      refine ⟨?_⟩
      rw [← hBd.out]
      exact bG
    | true =>
      go_wp2_with fail
      refine (l8States_any (w0 := w8) (w := w10) (M := M) (S := S) hT hpr.2 hsb.out.symm hab.out.symm).mono ?_
      have hYl := statesTo_length T x X X.length
      have hYi := statesTo_i64 hsb.out.symm hab.out.symm (Nat.le_refl X.length) (by omega)
      generalize statesTo T x X X.length = Y at *
      rintro e w11 ⟨dy, my, rfl, ownY, e11⟩
      have own11 : CurAt w11 B c (.slice ac nb cc) a8 ((intRowOf 3 (.slice dy Y.length my) Y :: Z2) ++ (intRowOf 3 (.slice dE 0 0) [] :: (intRowOf 3 (.slice vd X.length vm) X :: (boxRow 26 2 pb (#[.slice dm M.length mm, .slice ds S.length ms] : Array Value).toList :: (Z ++ [boxRow 26 2 r [.slice none 0 0, .slice none 0 0]]))))) := CurAt.join (S := [intRowOf 3 (.slice dy Y.length my) Y]) (R := Z2 ++ (intRowOf 3 (.slice dE 0 0) [] :: (intRowOf 3 (.slice vd X.length vm) X :: (boxRow 26 2 pb (#[.slice dm M.length mm, .slice ds S.length ms] : Array Value).toList :: (Z ++ [boxRow 26 2 r [.slice none 0 0, .slice none 0 0]]))))) own10 ownY own10.size
      have b11 : Below B w w11 := b10.trans (e11.below.mono own10.size)
      have hYr := hid (show ∀ (u : World) L, Own u B (intRowOf 3 (.slice dy Y.length my) Y :: L) → IsInts u (.slice dy Y.length my) Y from fun u L h => h.reads (by unfold Short; omega) hYi)
      have hY100 : Y.length ≤ 100 := by omega
      replace hYl := hid hYl
      replace hYi := hid hYi
      clear own10 b10 ownY
      by_cases hY0 : Y.length = 0
      · have hYn : Y = [] := List.eq_nil_of_length_eq_zero hY0
        subst hYn
        have cz := hpc.out _ _ _ own11
        have cz0 := cz.1
        have cz1 := cz.2
        have ownF : CurAt w11 B c (.slice ac nb cc) a8 (((intRowOf 3 (.slice dy ([]:List Int).length my) [] :: Z2) ++ (intRowOf 3 (.slice dE 0 0) [] :: (intRowOf 3 (.slice vd X.length vm) X :: (boxRow 26 2 pb (#[.slice dm M.length mm, .slice ds S.length ms] : Array Value).toList :: Z)))) ++ (boxRow 26 2 r [.slice none 0 0, .slice none 0 0] :: [])) := by
          simpa only [List.cons_append, List.append_assoc] using own11
        have r00 : (w11).cell? ⟨r, 0, none⟩ = some (.slice none 0 0) := (ownF.at (List.mem_append_right _ (.head _)) (j := 0) (by omega)).1
        have r10 : (w11).cell? ⟨r, 1, none⟩ = some (.slice none 0 0) := (ownF.at (List.mem_append_right _ (.head _)) (j := 1) (by omega)).1
        have r01 := (ownF.at (List.mem_append_right _ (.head _)) (e := 26) (z := 2) (b := r) (cs := [.slice none 0 0, .slice none 0 0]) (j := 0) (by omega)).2
        have r11 := (ownF.at (List.mem_append_right _ (.head _)) (e := 26) (z := 2) (b := r) (cs := [.slice none 0 0, .slice none 0 0]) (j := 1) (by omega)).2
        have sF1 := CurAt.set (L := []) ownF 0 (.slice dm M.length mm)
        have sF2 := CurAt.set (L := []) sF1.1 1 (.slice ds S.length ms)
        have ownG := sF2.1
        have bG := ((b11).setCell sF1.2 (p := ⟨r, 0, none⟩) (.slice dm M.length mm)).setCell sF1.2 (p := ⟨r, 1, none⟩) (.slice ds S.length ms)
        have y0 : (((w11).setCell ⟨r, 0, none⟩ (.slice dm M.length mm)).setCell ⟨r, 1, none⟩ (.slice ds S.length ms)).cell? ⟨r, 0, none⟩ = some (.slice dm M.length mm) := by go_simp
        have y1 : (((w11).setCell ⟨r, 0, none⟩ (.slice dm M.length mm)).setCell ⟨r, 1, none⟩ (.slice ds S.length ms)).cell? ⟨r, 1, none⟩ = some (.slice ds S.length ms) := by go_simp
        clear sF1 sF2 cz own11
        go_wp2_with fail
        refine bodyPost_ret (v := .tuple #[.agg #[.slice dm M.length mm, .slice ds S.length ms], .int .i64 x, .slice vd X.length vm, .slice dy ([]:List Int).length my]) (by simp [results, Try.results14, go_sem, y0, y1]) rfl ?_
        have hrows := ownG.rows.left
        have hb := hbase.out _ _ hrows
        refine ⟨_, x, _, _, M, S, X, [], rfl, ⟨_, _, rfl, hb.1.1, hb.1.2⟩, by unfold I64; omega, hb.2, (fun u h => hYr.out u (Z2 ++ (intRowOf 3 (.slice dE 0 0) [] :: (intRowOf 3 (.slice vd X.length vm) X :: (boxRow 26 2 pb (#[.slice dm M.length mm, .slice ds S.length ms] : Array Value).toList :: Z)))) h) _ hrows, hX1, ?_⟩
        refine ⟨?_⟩
        rw [← hBd.out]
        exact bG
      · have hY1 : 0 < Y.length := by omega
        have e11' : Ext w0 w11 := hE.out _ b11
        clear hY0
        go_wp2_with fail
        refine (pick_any (w0 := w0) hc own11 hwB (by omega) (by omega)).mono ?_
        rintro e w12 ⟨z, a12, rfl, hz0, hz1, hz2, h121, h122, own12, b12⟩
        have b12' := b11.trans b12
        clear own11 b11 b12 e11' hz1 hz2
        by_cases hzz0 : z = 0
        · obtain ⟨gy, rfl⟩ : ∃ gy, dy = some ⟨gy, 0, none⟩ := by
            obtain ⟨s', h'⟩ := own12
            exact h'.tail.at (j := 0) hY1
          go_upto_region 11 with fail
          have own13 := own12.ext (w' := w12.drew)
          have b13 : Below B w w12.drew := b12'.drew
          have hf13 := (hpc.out _ _ (intRowOf 3 (.slice (some ⟨gy, 0, none⟩) Y.length my) Y :: Z2) own13).1
          clear own12 b12'
          refine wp_region_held_drew (S := fun w' => w'.cell? ⟨pb, 0, none⟩ = some (.slice dm M.length mm) ∧ True) (by kernel_rfl) ⟨hf13, trivial⟩ (fun hHeld0 => ?_)
          generalize w12.drew = w13 at *
          clear hf13
          refine wpAnyH_take (i := 0) (v := .slice (some ⟨gy, 0, none⟩) Y.length my) rfl (by kernel_rfl) (by kernel_rfl) (by kernel_rfl) (fun _ _ _ h => h) (Or.inl ⟨by rfl, by intro wx hx; go_simp⟩) (by assumption) ?_
          try simp only [List.getElem_toArray, List.getElem_cons_zero, Act.put, List.setIfInBounds_toArray, List.set_cons_zero, List.set_cons_succ]
          refine wpAnyH_take (i := 1) (v := .pointer (some ⟨c, 0, none⟩)) rfl (by kernel_rfl) (by kernel_rfl) (by kernel_rfl) (fun _ _ _ h => h) (Or.inl ⟨by rfl, by intro wx hx; go_simp⟩) (by assumption) ?_
          try simp only [List.getElem_toArray, List.getElem_cons_succ, List.getElem_cons_zero, Act.put, List.setIfInBounds_toArray, List.set_cons_zero, List.set_cons_succ]
          refine wpAnyH_take (i := 2) (v := .slice (some ⟨gy, 0, none⟩) Y.length my) rfl (by kernel_rfl) (by kernel_rfl) (by kernel_rfl) (fun _ _ _ h => h) (Or.inl ⟨by rfl, by intro wx hx; go_simp⟩) (by assumption) ?_
          try simp only [List.getElem_toArray, List.getElem_cons_succ, List.getElem_cons_zero, Act.put, List.setIfInBounds_toArray, List.set_cons_zero, List.set_cons_succ]
          refine wpAnyH_take (i := 3) (v := .int .i64 Y.length) rfl (by kernel_rfl) (by kernel_rfl) (by kernel_rfl) (fun _ _ _ h => h) (Or.inl ⟨by rfl, by intro wx hx; go_simp⟩) (by assumption) ?_
          try simp only [List.getElem_toArray, List.getElem_cons_succ, List.getElem_cons_zero, Act.put, List.setIfInBounds_toArray, List.set_cons_zero, List.set_cons_succ]
          refine wpAnyH_take (i := 5) (v := .pointer (some ⟨c, 0, none⟩)) rfl (by kernel_rfl) (by kernel_rfl) (by kernel_rfl) (fun _ _ _ h => h) (Or.inl ⟨by rfl, by intro wx hx; go_simp⟩) (by assumption) ?_
          try simp only [List.getElem_toArray, List.getElem_cons_succ, List.getElem_cons_zero, Act.put, List.setIfInBounds_toArray, List.set_cons_zero, List.set_cons_succ]
          refine wpAnyH_take (i := 6) (v := .pointer (some ⟨pb, 0, none⟩)) rfl (by kernel_rfl) (by kernel_rfl) (by kernel_rfl) (fun _ _ _ h => h) (Or.inl ⟨by rfl, by intro wx hx; go_simp⟩) (by assumption) ?_
          try simp only [List.getElem_toArray, List.getElem_cons_succ, List.getElem_cons_zero, Act.put, List.setIfInBounds_toArray, List.set_cons_zero, List.set_cons_succ]
          refine wpAnyH_take (i := 7) (v := .slice dm M.length mm) rfl (by kernel_rfl) (by kernel_rfl) (by kernel_rfl) (fun _ _ _ h => h) (Or.inl ⟨by rfl, by intro wx hx; obtain ⟨_, _⟩ := hx; go_simp⟩) (by assumption) ?_
          try simp only [List.getElem_toArray, List.getElem_cons_succ, List.getElem_cons_zero, Act.put, List.setIfInBounds_toArray, List.set_cons_zero, List.set_cons_succ]
          refine wpAnyH_take (i := 8) (v := .int .i64 M.length) rfl (by kernel_rfl) (by kernel_rfl) (by kernel_rfl) (fun _ _ _ h => h) (Or.inl ⟨by rfl, by intro wx hx; go_simp⟩) (by assumption) ?_
          try simp only [List.getElem_toArray, List.getElem_cons_succ, List.getElem_cons_zero, Act.put, List.setIfInBounds_toArray, List.set_cons_zero, List.set_cons_succ]
          refine wpAnyH_ready (rs := [4, 9]) (by kernel_rfl) (by simp) ?_
          refine AllReadyH.cons rfl (fun K hK => ?_) (AllReadyH.cons rfl (fun K hK => ?_) AllReadyH.nil)
          · have e13 : Ext w0 w13 := hE.out _ b13
            go_simp
            go_at_call 35
            refine (pick_any (w0 := w0) hc own13 hwB (by omega) (by omega)).mono ?_
            rintro e w14 ⟨q, a14, rfl, hq0, hq1, hq2, h141, h142, own14, b14⟩
            have hqY := hq2 (by omega)
            have b14' := b13.trans b14
            have hf14 := (hpc.out _ _ (intRowOf 3 (.slice (some ⟨gy, 0, none⟩) Y.length my) Y :: Z2) own14).1
            clear own13 b13 b14 e13 hq1 hq2
            go_wp2_with fail
            refine hK.out _ _ ⟨hf14, trivial⟩ (fun _ => ?_)
            clear hK K
            try simp only [List.getElem_toArray, List.getElem_cons_succ, List.getElem_cons_zero, Act.put, List.setIfInBounds_toArray, List.set_cons_zero, List.set_cons_succ]
            have own15 := own14.lit (e := 3) (n := 4) (cs := #[.int .i64 (-1), .int .i64 0, .int .i64 1, .int .i64 M.length]) [-1, 0, 1, (M.length : Int)] own14.size rfl rfl (by simp)
            have b15 : Below B w (w14.alloc (.cells #[.int .i64 (-1), .int .i64 0, .int .i64 1, .int .i64 M.length] 3)) := b14'.alloc own14.size _
            have hf15 := (hpc.out _ _ (intRowOf 3 (.slice (some ⟨gy, 0, none⟩) Y.length my) Y :: Z2) own15.drop).1
            clear own14 b14' hf14
            refine wpAnyH_ready (rs := [9]) (by kernel_rfl) (by simp) ?_
            refine AllReadyH.cons rfl (fun K hK => ?_) AllReadyH.nil
            go_simp
            refine hK.out _ _ ⟨hf15, trivial⟩ (fun _ => ?_)
            clear hK K
            try simp only [List.getElem_toArray, List.getElem_cons_succ, List.getElem_cons_zero, Act.put, List.setIfInBounds_toArray, List.set_cons_zero, List.set_cons_succ]
            generalize w14.alloc (.cells #[.int .i64 (-1), .int .i64 0, .int .i64 1, .int .i64 M.length] 3) = w15 at *
            generalize (some (⟨w14.heap.size, 0, none⟩ : Addr)) = dl at *
            have e15 : Ext w0 w15 := hE.out _ b15
            refine wpAnyH_ready (rs := [10]) (by kernel_rfl) (by simp) ?_
            refine AllReadyH.cons rfl (fun K hK => ?_) AllReadyH.nil
            go_simp
            go_at_call 34
            refine (among_any (w0 := w0) hc own15 hwB (by omega) (by omega) (by simp) (by simp)).mono ?_
            rintro e w16 ⟨x16, a16, rfl, hx16, h161, h162, own16, b16⟩
            have hx16' : I64 x16 := by simp at hx16; unfold I64; omega
            have own16' := own16.drop
            have b16' := b15.trans b16
            have hf16 := (hpc.out _ _ (intRowOf 3 (.slice (some ⟨gy, 0, none⟩) Y.length my) Y :: Z2) own16').1
            obtain ⟨s16, h16⟩ := own16'
            obtain ⟨q, rfl⟩ := Int.eq_ofNat_of_zero_le hq0
            have hqY' : q < Y.length := by omega
            have tr3 : w16.cell? ⟨gy, q, none⟩ = some (.int .i64 (nth Y q)) := by
              rw [h16.tail.cellAt (w' := w16) hqY']
              simp [nth, hqY']
            have trf3 := h16.tail.frozenAt q
            have hos := (h16.perm (List.Perm.swap _ _ _)).set q (.int .i64 x16)
            have hgB := h16.tail.lt.1
            rw [← List.map_set] at hos
            have eX : (⟨3, 1, .slice (some ⟨gy, 0, none⟩) Y.length my, Y.length, (Y.set q x16).map (Value.int .i64)⟩ : Row) = intRowOf 3 (.slice (some ⟨gy, 0, none⟩) Y.length my) (Y.set q x16) := by unfold intRowOf; rw [List.length_set]
            rw [eX] at hos
            have own17 : CurAt (w16.setCell ⟨gy, q, none⟩ (.int .i64 x16)) B c (.slice ac nb cc) a16 ((intRowOf 3 (.slice (some ⟨gy, 0, none⟩) Y.length my) (Y.set q x16) :: Z2) ++ (intRowOf 3 (.slice dE 0 0) [] :: (intRowOf 3 (.slice vd X.length vm) X :: (boxRow 26 2 pb (#[.slice dm M.length mm, .slice ds S.length ms] : Array Value).toList :: (Z ++ [boxRow 26 2 r [.slice none 0 0, .slice none 0 0]]))))) := ⟨s16, hos.perm (List.Perm.swap _ _ _)⟩
            have b17 := b16'.setCell hgB (p := ⟨gy, q, none⟩) (.int .i64 x16)
            have hf17 := (hpc.out _ _ (intRowOf 3 (.slice (some ⟨gy, 0, none⟩) Y.length my) (Y.set q x16) :: Z2) own17).1
            have hYr2 := hid (show ∀ (u : World) L, Own u B (intRowOf 3 (.slice (some ⟨gy, 0, none⟩) Y.length my) (Y.set q x16) :: L) → IsInts u (.slice (some ⟨gy, 0, none⟩) Y.length my) (Y.set q x16) from fun u L h => by
              refine h.reads (by unfold Short; rw [List.length_set]; omega) (fun y hy => ?_)
              rcases List.mem_or_eq_of_mem_set hy with h1 | h1
              · exact hYi.out y h1
              · rw [h1]; exact hx16')
            clear own15 own16 b15 b16 hos e15 h16 eX
            go_wp2_with fail
            refine hK.out _ _ ⟨hf16, trivial⟩ (fun _ => ?_)
            clear hK K
            try simp only [List.getElem_toArray, List.getElem_cons_succ, List.getElem_cons_zero, Act.put, List.setIfInBounds_toArray, List.set_cons_zero, List.set_cons_succ]
            refine wpAnyH_take (i := 11) (v := .pointer (some ⟨gy, q, none⟩)) rfl (by kernel_rfl) (by kernel_rfl) (by kernel_rfl) (fun _ _ _ h => h) (Or.inl ⟨by rfl, by intro wx hx; go_simp⟩) (by assumption) ?_
            try simp only [List.getElem_toArray, List.getElem_cons_succ, List.getElem_cons_zero, Act.put, List.setIfInBounds_toArray, List.set_cons_zero, List.set_cons_succ]
            refine wpAnyH_ready (rs := [12]) (by kernel_rfl) (by simp) ?_
            refine AllReadyH.cons rfl (fun K hK => ?_) AllReadyH.nil
            go_simp
            refine hK.out _ _ ⟨hf17, trivial⟩ (fun _ => ?_)
            clear hK K
            try simp only [List.getElem_toArray, List.getElem_cons_succ, List.getElem_cons_zero, Act.put, List.setIfInBounds_toArray, List.set_cons_zero, List.set_cons_succ]
            refine wpAnyH_done (by kernel_rfl) ?_ _
            generalize w16.setCell ⟨gy, q, none⟩ (.int .i64 x16) = w17 at *
            obtain ⟨Y2, hY2⟩ : ∃ y, y = Y.set q x16 := ⟨_, rfl⟩
            rw [← hY2] at own17 hYr2
            clear hY2 tr3 trf3
            have cz := hpc.out _ _ _ own17
            have cz0 := cz.1
            have cz1 := cz.2
            have ownF : CurAt w17 B c (.slice ac nb cc) a16 (((intRowOf 3 (.slice (some ⟨gy, 0, none⟩) Y.length my) Y2 :: Z2) ++ (intRowOf 3 (.slice dE 0 0) [] :: (intRowOf 3 (.slice vd X.length vm) X :: (boxRow 26 2 pb (#[.slice dm M.length mm, .slice ds S.length ms] : Array Value).toList :: Z)))) ++ (boxRow 26 2 r [.slice none 0 0, .slice none 0 0] :: [])) := by
              simpa only [List.cons_append, List.append_assoc] using own17
            have r00 : (w17).cell? ⟨r, 0, none⟩ = some (.slice none 0 0) := (ownF.at (List.mem_append_right _ (.head _)) (j := 0) (by omega)).1
            have r10 : (w17).cell? ⟨r, 1, none⟩ = some (.slice none 0 0) := (ownF.at (List.mem_append_right _ (.head _)) (j := 1) (by omega)).1
            have r01 := (ownF.at (List.mem_append_right _ (.head _)) (e := 26) (z := 2) (b := r) (cs := [.slice none 0 0, .slice none 0 0]) (j := 0) (by omega)).2
            have r11 := (ownF.at (List.mem_append_right _ (.head _)) (e := 26) (z := 2) (b := r) (cs := [.slice none 0 0, .slice none 0 0]) (j := 1) (by omega)).2
            have sF1 := CurAt.set (L := []) ownF 0 (.slice dm M.length mm)
            have sF2 := CurAt.set (L := []) sF1.1 1 (.slice ds S.length ms)
            have ownG := sF2.1
            have bG := ((b17).setCell sF1.2 (p := ⟨r, 0, none⟩) (.slice dm M.length mm)).setCell sF1.2 (p := ⟨r, 1, none⟩) (.slice ds S.length ms)
            have y0 : (((w17).setCell ⟨r, 0, none⟩ (.slice dm M.length mm)).setCell ⟨r, 1, none⟩ (.slice ds S.length ms)).cell? ⟨r, 0, none⟩ = some (.slice dm M.length mm) := by go_simp
            have y1 : (((w17).setCell ⟨r, 0, none⟩ (.slice dm M.length mm)).setCell ⟨r, 1, none⟩ (.slice ds S.length ms)).cell? ⟨r, 1, none⟩ = some (.slice ds S.length ms) := by go_simp
            clear sF1 sF2 cz own17
            go_wp2_with fail
            refine bodyPost_ret (v := .tuple #[.agg #[.slice dm M.length mm, .slice ds S.length ms], .int .i64 x, .slice vd X.length vm, .slice (some ⟨gy, 0, none⟩) Y.length my]) (by simp [results, Try.results14, go_sem, y0, y1]) rfl ?_
            have hrows := ownG.rows.left
            have hb := hbase.out _ _ hrows
            refine ⟨_, x, _, _, M, S, X, Y2, rfl, ⟨_, _, rfl, hb.1.1, hb.1.2⟩, by unfold I64; omega, hb.2, (fun u h => hYr2.out u (Z2 ++ (intRowOf 3 (.slice dE 0 0) [] :: (intRowOf 3 (.slice vd X.length vm) X :: (boxRow 26 2 pb (#[.slice dm M.length mm, .slice ds S.length ms] : Array Value).toList :: Z)))) h) _ hrows, hX1, ?_⟩
            refine ⟨?_⟩
            rw [← hBd.out]
            exact bG
          · go_simp
            have own14 := own13.lit (e := 3) (n := 4) (cs := #[.int .i64 (-1), .int .i64 0, .int .i64 1, .int .i64 M.length]) [-1, 0, 1, (M.length : Int)] own13.size rfl rfl (by simp)
            have b14 : Below B w (w13.alloc (.cells #[.int .i64 (-1), .int .i64 0, .int .i64 1, .int .i64 M.length] 3)) := b13.alloc own13.size _
            have hf14 := (hpc.out _ _ (intRowOf 3 (.slice (some ⟨gy, 0, none⟩) Y.length my) Y :: Z2) own14.drop).1
            clear own13 b13
            refine hK.out _ _ ⟨hf14, trivial⟩ (fun _ => ?_)
            clear hK K
            try simp only [List.getElem_toArray, List.getElem_cons_succ, List.getElem_cons_zero, Act.put, List.setIfInBounds_toArray, List.set_cons_zero, List.set_cons_succ]
            generalize w13.alloc (.cells #[.int .i64 (-1), .int .i64 0, .int .i64 1, .int .i64 M.length] 3) = w14 at *
            generalize (some (⟨w13.heap.size, 0, none⟩ : Addr)) = dl at *
            have e14 : Ext w0 w14 := hE.out _ b14
            refine wpAnyH_ready (rs := [4]) (by kernel_rfl) (by simp) ?_
            refine AllReadyH.cons rfl (fun K hK => ?_) AllReadyH.nil
            go_simp
            go_at_call 35
            refine (pick_any (w0 := w0) hc own14 hwB (by omega) (by omega)).mono ?_
            rintro e w15 ⟨q, a15, rfl, hq0, hq1, hq2, h151, h152, own15, b15⟩
            have hqY := hq2 (by omega)
            replace b15 := b14.trans b15
            have hf15 := (hpc.out _ _ (intRowOf 3 (.slice (some ⟨gy, 0, none⟩) Y.length my) Y :: Z2) own15.drop).1
            clear own14 b14 e14 hq1 hq2 hf14
            go_wp2_with fail
            refine hK.out _ _ ⟨hf15, trivial⟩ (fun _ => ?_)
            clear hK K
            try simp only [List.getElem_toArray, List.getElem_cons_succ, List.getElem_cons_zero, Act.put, List.setIfInBounds_toArray, List.set_cons_zero, List.set_cons_succ]
            have e15 : Ext w0 w15 := hE.out _ b15
            refine wpAnyH_ready (rs := [10]) (by kernel_rfl) (by simp) ?_
            refine AllReadyH.cons rfl (fun K hK => ?_) AllReadyH.nil
            go_simp
            go_at_call 34
            refine (among_any (w0 := w0) hc own15 hwB (by omega) (by omega) (by simp) (by simp)).mono ?_
            rintro e w16 ⟨x16, a16, rfl, hx16, h161, h162, own16, b16⟩
            have hx16' : I64 x16 := by simp at hx16; unfold I64; omega
            have own16' := own16.drop
            have b16' := b15.trans b16
            have hf16 := (hpc.out _ _ (intRowOf 3 (.slice (some ⟨gy, 0, none⟩) Y.length my) Y :: Z2) own16').1
            obtain ⟨s16, h16⟩ := own16'
            obtain ⟨q, rfl⟩ := Int.eq_ofNat_of_zero_le hq0
            have hqY' : q < Y.length := by omega
            have tr3 : w16.cell? ⟨gy, q, none⟩ = some (.int .i64 (nth Y q)) := by
              rw [h16.tail.cellAt (w' := w16) hqY']
              simp [nth, hqY']
            have trf3 := h16.tail.frozenAt q
            have hos := (h16.perm (List.Perm.swap _ _ _)).set q (.int .i64 x16)
            have hgB := h16.tail.lt.1
            rw [← List.map_set] at hos
            have eX : (⟨3, 1, .slice (some ⟨gy, 0, none⟩) Y.length my, Y.length, (Y.set q x16).map (Value.int .i64)⟩ : Row) = intRowOf 3 (.slice (some ⟨gy, 0, none⟩) Y.length my) (Y.set q x16) := by unfold intRowOf; rw [List.length_set]
            rw [eX] at hos
            have own17 : CurAt (w16.setCell ⟨gy, q, none⟩ (.int .i64 x16)) B c (.slice ac nb cc) a16 ((intRowOf 3 (.slice (some ⟨gy, 0, none⟩) Y.length my) (Y.set q x16) :: Z2) ++ (intRowOf 3 (.slice dE 0 0) [] :: (intRowOf 3 (.slice vd X.length vm) X :: (boxRow 26 2 pb (#[.slice dm M.length mm, .slice ds S.length ms] : Array Value).toList :: (Z ++ [boxRow 26 2 r [.slice none 0 0, .slice none 0 0]]))))) := ⟨s16, hos.perm (List.Perm.swap _ _ _)⟩
            have b17 := b16'.setCell hgB (p := ⟨gy, q, none⟩) (.int .i64 x16)
            have hf17 := (hpc.out _ _ (intRowOf 3 (.slice (some ⟨gy, 0, none⟩) Y.length my) (Y.set q x16) :: Z2) own17).1
            have hYr2 := hid (show ∀ (u : World) L, Own u B (intRowOf 3 (.slice (some ⟨gy, 0, none⟩) Y.length my) (Y.set q x16) :: L) → IsInts u (.slice (some ⟨gy, 0, none⟩) Y.length my) (Y.set q x16) from fun u L h => by
              refine h.reads (by unfold Short; rw [List.length_set]; omega) (fun y hy => ?_)
              rcases List.mem_or_eq_of_mem_set hy with h1 | h1
              · exact hYi.out y h1
              · rw [h1]; exact hx16')
            clear own15 own16 b15 b16 hos e15 h16 eX
            go_wp2_with fail
            refine hK.out _ _ ⟨hf16, trivial⟩ (fun _ => ?_)
            clear hK K
            try simp only [List.getElem_toArray, List.getElem_cons_succ, List.getElem_cons_zero, Act.put, List.setIfInBounds_toArray, List.set_cons_zero, List.set_cons_succ]
            refine wpAnyH_take (i := 11) (v := .pointer (some ⟨gy, q, none⟩)) rfl (by kernel_rfl) (by kernel_rfl) (by kernel_rfl) (fun _ _ _ h => h) (Or.inl ⟨by rfl, by intro wx hx; go_simp⟩) (by assumption) ?_
            try simp only [List.getElem_toArray, List.getElem_cons_succ, List.getElem_cons_zero, Act.put, List.setIfInBounds_toArray, List.set_cons_zero, List.set_cons_succ]
            refine wpAnyH_ready (rs := [12]) (by kernel_rfl) (by simp) ?_
            refine AllReadyH.cons rfl (fun K hK => ?_) AllReadyH.nil
            go_simp
            refine hK.out _ _ ⟨hf17, trivial⟩ (fun _ => ?_)
            clear hK K
            try simp only [List.getElem_toArray, List.getElem_cons_succ, List.getElem_cons_zero, Act.put, List.setIfInBounds_toArray, List.set_cons_zero, List.set_cons_succ]
            refine wpAnyH_done (by kernel_rfl) ?_ _
            generalize w16.setCell ⟨gy, q, none⟩ (.int .i64 x16) = w17 at *
            obtain ⟨Y2, hY2⟩ : ∃ y, y = Y.set q x16 := ⟨_, rfl⟩
            rw [← hY2] at own17 hYr2
            clear hY2 tr3 trf3
            have cz := hpc.out _ _ _ own17
            have cz0 := cz.1
            have cz1 := cz.2
            have ownF : CurAt w17 B c (.slice ac nb cc) a16 (((intRowOf 3 (.slice (some ⟨gy, 0, none⟩) Y.length my) Y2 :: Z2) ++ (intRowOf 3 (.slice dE 0 0) [] :: (intRowOf 3 (.slice vd X.length vm) X :: (boxRow 26 2 pb (#[.slice dm M.length mm, .slice ds S.length ms] : Array Value).toList :: Z)))) ++ (boxRow 26 2 r [.slice none 0 0, .slice none 0 0] :: [])) := by
              simpa only [List.cons_append, List.append_assoc] using own17
            have r00 : (w17).cell? ⟨r, 0, none⟩ = some (.slice none 0 0) := (ownF.at (List.mem_append_right _ (.head _)) (j := 0) (by omega)).1
            have r10 : (w17).cell? ⟨r, 1, none⟩ = some (.slice none 0 0) := (ownF.at (List.mem_append_right _ (.head _)) (j := 1) (by omega)).1
            have r01 := (ownF.at (List.mem_append_right _ (.head _)) (e := 26) (z := 2) (b := r) (cs := [.slice none 0 0, .slice none 0 0]) (j := 0) (by omega)).2
            have r11 := (ownF.at (List.mem_append_right _ (.head _)) (e := 26) (z := 2) (b := r) (cs := [.slice none 0 0, .slice none 0 0]) (j := 1) (by omega)).2
            have sF1 := CurAt.set (L := []) ownF 0 (.slice dm M.length mm)
            have sF2 := CurAt.set (L := []) sF1.1 1 (.slice ds S.length ms)
            have ownG := sF2.1
            have bG := ((b17).setCell sF1.2 (p := ⟨r, 0, none⟩) (.slice dm M.length mm)).setCell sF1.2 (p := ⟨r, 1, none⟩) (.slice ds S.length ms)
            have y0 : (((w17).setCell ⟨r, 0, none⟩ (.slice dm M.length mm)).setCell ⟨r, 1, none⟩ (.slice ds S.length ms)).cell? ⟨r, 0, none⟩ = some (.slice dm M.length mm) := by go_simp
            have y1 : (((w17).setCell ⟨r, 0, none⟩ (.slice dm M.length mm)).setCell ⟨r, 1, none⟩ (.slice ds S.length ms)).cell? ⟨r, 1, none⟩ = some (.slice ds S.length ms) := by go_simp
            clear sF1 sF2 cz own17
            go_wp2_with fail
            refine bodyPost_ret (v := .tuple #[.agg #[.slice dm M.length mm, .slice ds S.length ms], .int .i64 x, .slice vd X.length vm, .slice (some ⟨gy, 0, none⟩) Y.length my]) (by simp [results, Try.results14, go_sem, y0, y1]) rfl ?_
            have hrows := ownG.rows.left
            have hb := hbase.out _ _ hrows
            refine ⟨_, x, _, _, M, S, X, Y2, rfl, ⟨_, _, rfl, hb.1.1, hb.1.2⟩, by unfold I64; omega, hb.2, (fun u h => hYr2.out u (Z2 ++ (intRowOf 3 (.slice dE 0 0) [] :: (intRowOf 3 (.slice vd X.length vm) X :: (boxRow 26 2 pb (#[.slice dm M.length mm, .slice ds S.length ms] : Array Value).toList :: Z)))) h) _ hrows, hX1, ?_⟩
            refine ⟨?_⟩
            rw [← hBd.out]
            exact bG
        · by_cases hzz1 : z = 1
          · obtain ⟨gy, rfl⟩ : ∃ gy, dy = some ⟨gy, 0, none⟩ := by
              obtain ⟨s', h'⟩ := own12
              exact h'.tail.at (j := 0) hY1
            have hcap : Y.length ≤ my := by
              obtain ⟨s', h'⟩ := own12
              exact ow_cap h'.tail
            have hYr1 := hid (show ∀ (u : World) L, Own u B (intRowOf 3 (.slice (some ⟨gy, 0, none⟩) Y.length my) Y :: L) → my ≠ 1 → IsInts u (.slice (some ⟨gy, 1, none⟩) (Y.length - 1) (my - 1)) Y.tail from fun u L h hm => ints_drop1 (hYr.out u L h) hY1 hm)
            have hYr2 := hid (show ∀ (u : World) L, Own u B (intRowOf 3 (.slice (some ⟨gy, 0, none⟩) Y.length my) Y :: L) → my = 1 → IsInts u (.slice (some ⟨gy, 0, none⟩) (Y.length - 1) 0) [] from fun u L h hm => by
              have : Y.length - 1 = 0 := by omega
              rw [this]
              exact ints_no _ _ _)
            by_cases hm1 : my = 1
            · skip
              have cz := hpc.out _ _ _ own12
              have cz0 := cz.1
              have cz1 := cz.2
              have ownF : CurAt w12 B c (.slice ac nb cc) a12 (((intRowOf 3 (.slice (some ⟨gy, 0, none⟩) Y.length my) Y :: Z2) ++ (intRowOf 3 (.slice dE 0 0) [] :: (intRowOf 3 (.slice vd X.length vm) X :: (boxRow 26 2 pb (#[.slice dm M.length mm, .slice ds S.length ms] : Array Value).toList :: Z)))) ++ (boxRow 26 2 r [.slice none 0 0, .slice none 0 0] :: [])) := by
                simpa only [List.cons_append, List.append_assoc] using own12
              have r00 : (w12).cell? ⟨r, 0, none⟩ = some (.slice none 0 0) := (ownF.at (List.mem_append_right _ (.head _)) (j := 0) (by omega)).1
              have r10 : (w12).cell? ⟨r, 1, none⟩ = some (.slice none 0 0) := (ownF.at (List.mem_append_right _ (.head _)) (j := 1) (by omega)).1
              have r01 := (ownF.at (List.mem_append_right _ (.head _)) (e := 26) (z := 2) (b := r) (cs := [.slice none 0 0, .slice none 0 0]) (j := 0) (by omega)).2
              have r11 := (ownF.at (List.mem_append_right _ (.head _)) (e := 26) (z := 2) (b := r) (cs := [.slice none 0 0, .slice none 0 0]) (j := 1) (by omega)).2
              have sF1 := CurAt.set (L := []) ownF 0 (.slice dm M.length mm)
              have sF2 := CurAt.set (L := []) sF1.1 1 (.slice ds S.length ms)
              have ownG := sF2.1
              have bG := ((b12').setCell sF1.2 (p := ⟨r, 0, none⟩) (.slice dm M.length mm)).setCell sF1.2 (p := ⟨r, 1, none⟩) (.slice ds S.length ms)
              have y0 : (((w12).setCell ⟨r, 0, none⟩ (.slice dm M.length mm)).setCell ⟨r, 1, none⟩ (.slice ds S.length ms)).cell? ⟨r, 0, none⟩ = some (.slice dm M.length mm) := by go_simp
              have y1 : (((w12).setCell ⟨r, 0, none⟩ (.slice dm M.length mm)).setCell ⟨r, 1, none⟩ (.slice ds S.length ms)).cell? ⟨r, 1, none⟩ = some (.slice ds S.length ms) := by go_simp
              clear sF1 sF2 cz own12
              go_wp2_with fail
              refine bodyPost_ret (v := .tuple #[.agg #[.slice dm M.length mm, .slice ds S.length ms], .int .i64 x, .slice vd X.length vm, .slice (some ⟨gy, 0, none⟩) (Y.length - 1) 0]) (by simp [results, Try.results14, go_sem, y0, y1]) rfl ?_
              have hrows := ownG.rows.left
              have hb := hbase.out _ _ hrows
              refine ⟨_, x, _, _, M, S, X, [], rfl, ⟨_, _, rfl, hb.1.1, hb.1.2⟩, by unfold I64; omega, hb.2, (fun u h => hYr2.out u (Z2 ++ (intRowOf 3 (.slice dE 0 0) [] :: (intRowOf 3 (.slice vd X.length vm) X :: (boxRow 26 2 pb (#[.slice dm M.length mm, .slice ds S.length ms] : Array Value).toList :: Z)))) h hm1) _ hrows, hX1, ?_⟩
              refine ⟨?_⟩
              rw [← hBd.out]
              exact bG
            · skip
              have cz := hpc.out _ _ _ own12
              have cz0 := cz.1
              have cz1 := cz.2
              have ownF : CurAt w12 B c (.slice ac nb cc) a12 (((intRowOf 3 (.slice (some ⟨gy, 0, none⟩) Y.length my) Y :: Z2) ++ (intRowOf 3 (.slice dE 0 0) [] :: (intRowOf 3 (.slice vd X.length vm) X :: (boxRow 26 2 pb (#[.slice dm M.length mm, .slice ds S.length ms] : Array Value).toList :: Z)))) ++ (boxRow 26 2 r [.slice none 0 0, .slice none 0 0] :: [])) := by
                simpa only [List.cons_append, List.append_assoc] using own12
              have r00 : (w12).cell? ⟨r, 0, none⟩ = some (.slice none 0 0) := (ownF.at (List.mem_append_right _ (.head _)) (j := 0) (by omega)).1
              have r10 : (w12).cell? ⟨r, 1, none⟩ = some (.slice none 0 0) := (ownF.at (List.mem_append_right _ (.head _)) (j := 1) (by omega)).1
              have r01 := (ownF.at (List.mem_append_right _ (.head _)) (e := 26) (z := 2) (b := r) (cs := [.slice none 0 0, .slice none 0 0]) (j := 0) (by omega)).2
              have r11 := (ownF.at (List.mem_append_right _ (.head _)) (e := 26) (z := 2) (b := r) (cs := [.slice none 0 0, .slice none 0 0]) (j := 1) (by omega)).2
              have sF1 := CurAt.set (L := []) ownF 0 (.slice dm M.length mm)
              have sF2 := CurAt.set (L := []) sF1.1 1 (.slice ds S.length ms)
              have ownG := sF2.1
              have bG := ((b12').setCell sF1.2 (p := ⟨r, 0, none⟩) (.slice dm M.length mm)).setCell sF1.2 (p := ⟨r, 1, none⟩) (.slice ds S.length ms)
              have y0 : (((w12).setCell ⟨r, 0, none⟩ (.slice dm M.length mm)).setCell ⟨r, 1, none⟩ (.slice ds S.length ms)).cell? ⟨r, 0, none⟩ = some (.slice dm M.length mm) := by go_simp
              have y1 : (((w12).setCell ⟨r, 0, none⟩ (.slice dm M.length mm)).setCell ⟨r, 1, none⟩ (.slice ds S.length ms)).cell? ⟨r, 1, none⟩ = some (.slice ds S.length ms) := by go_simp
              clear sF1 sF2 cz own12
              go_wp2_with fail
              refine bodyPost_ret (v := .tuple #[.agg #[.slice dm M.length mm, .slice ds S.length ms], .int .i64 x, .slice vd X.length vm, .slice (some ⟨gy, 1, none⟩) (Y.length - 1) (my - 1)]) (by simp [results, Try.results14, go_sem, y0, y1]) rfl ?_
              have hrows := ownG.rows.left
              have hb := hbase.out _ _ hrows
              refine ⟨_, x, _, _, M, S, X, Y.tail, rfl, ⟨_, _, rfl, hb.1.1, hb.1.2⟩, by unfold I64; omega, hb.2, (fun u h => hYr1.out u (Z2 ++ (intRowOf 3 (.slice dE 0 0) [] :: (intRowOf 3 (.slice vd X.length vm) X :: (boxRow 26 2 pb (#[.slice dm M.length mm, .slice ds S.length ms] : Array Value).toList :: Z)))) h hm1) _ hrows, hX1, ?_⟩
              refine ⟨?_⟩
              rw [← hBd.out]
              exact bG
          · skip
            have cz := hpc.out _ _ _ own12
            have cz0 := cz.1
            have cz1 := cz.2
            have ownF : CurAt w12 B c (.slice ac nb cc) a12 (((intRowOf 3 (.slice dy Y.length my) Y :: Z2) ++ (intRowOf 3 (.slice dE 0 0) [] :: (intRowOf 3 (.slice vd X.length vm) X :: (boxRow 26 2 pb (#[.slice dm M.length mm, .slice ds S.length ms] : Array Value).toList :: Z)))) ++ (boxRow 26 2 r [.slice none 0 0, .slice none 0 0] :: [])) := by
              simpa only [List.cons_append, List.append_assoc] using own12
            have r00 : (w12).cell? ⟨r, 0, none⟩ = some (.slice none 0 0) := (ownF.at (List.mem_append_right _ (.head _)) (j := 0) (by omega)).1
            have r10 : (w12).cell? ⟨r, 1, none⟩ = some (.slice none 0 0) := (ownF.at (List.mem_append_right _ (.head _)) (j := 1) (by omega)).1
            have r01 := (ownF.at (List.mem_append_right _ (.head _)) (e := 26) (z := 2) (b := r) (cs := [.slice none 0 0, .slice none 0 0]) (j := 0) (by omega)).2
            have r11 := (ownF.at (List.mem_append_right _ (.head _)) (e := 26) (z := 2) (b := r) (cs := [.slice none 0 0, .slice none 0 0]) (j := 1) (by omega)).2
            have sF1 := CurAt.set (L := []) ownF 0 (.slice dm M.length mm)
            have sF2 := CurAt.set (L := []) sF1.1 1 (.slice ds S.length ms)
            have ownG := sF2.1
            have bG := ((b12').setCell sF1.2 (p := ⟨r, 0, none⟩) (.slice dm M.length mm)).setCell sF1.2 (p := ⟨r, 1, none⟩) (.slice ds S.length ms)
            have y0 : (((w12).setCell ⟨r, 0, none⟩ (.slice dm M.length mm)).setCell ⟨r, 1, none⟩ (.slice ds S.length ms)).cell? ⟨r, 0, none⟩ = some (.slice dm M.length mm) := by go_simp
            have y1 : (((w12).setCell ⟨r, 0, none⟩ (.slice dm M.length mm)).setCell ⟨r, 1, none⟩ (.slice ds S.length ms)).cell? ⟨r, 1, none⟩ = some (.slice ds S.length ms) := by go_simp
            clear sF1 sF2 cz own12
            go_wp2_with fail
            refine bodyPost_ret (v := .tuple #[.agg #[.slice dm M.length mm, .slice ds S.length ms], .int .i64 x, .slice vd X.length vm, .slice dy Y.length my]) (by simp [results, Try.results14, go_sem, y0, y1]) rfl ?_
            have hrows := ownG.rows.left
            have hb := hbase.out _ _ hrows
            refine ⟨_, x, _, _, M, S, X, Y, rfl, ⟨_, _, rfl, hb.1.1, hb.1.2⟩, by unfold I64; omega, hb.2, (fun u h => hYr.out u (Z2 ++ (intRowOf 3 (.slice dE 0 0) [] :: (intRowOf 3 (.slice vd X.length vm) X :: (boxRow 26 2 pb (#[.slice dm M.length mm, .slice ds S.length ms] : Array Value).toList :: Z)))) h) _ hrows, hX1, ?_⟩
            refine ⟨?_⟩
            rw [← hBd.out]
            exact bG
end Go.Proofs.Ytkniohcmhdgbeaa
