/- The draw of an algorithm and a sequence. -/
import Derived.Test.YtkniohcmhdgbeaaDraw8
import Derived.Test.YtkniohcmhdgbeaaAlgD
namespace Go.Proofs.Ytkniohcmhdgbeaa
open Go.RowKit

def WSPost (w : World) (e : Ending) (w' : World) : Prop := ∃ pv tv s q M S T, e = .returned (.tuple #[pv, tv, .int .i64 s, .int .i64 q]) ∧ IsProb w' pv M S ∧ IsRows w' tv T ∧ I64 s ∧ I64 q ∧ Ext w w'
theorem Own.cutRow {w : World} {B : Nat} {r : Row} {e g n cp : Nat} {xs : List Int} {R : List Row} (h : Own w B (r :: intRowOf e (.slice (some ⟨g, 0, none⟩) n cp) xs :: R)) {k : Nat} (hk : k ≤ xs.length) :
    Own w B (r :: intRowOf e (.slice (some ⟨g, 0, none⟩) k cp) (xs.take k) :: R) := by
  refine ⟨fun y hy => ?_, ?_⟩
  · rcases List.mem_cons.1 hy with rfl | hy
    · exact h.1 _ (.head _)
    rcases List.mem_cons.1 hy with rfl | hy
    · have h1 := h.1 (intRowOf e (.slice (some ⟨g, 0, none⟩) n cp) xs) (.tail _ (.head _))
      refine ⟨by simp, .inr ?_⟩
      rcases h1.2 with ⟨h2, _⟩ | ⟨g', cap, cur, h2, h3, h4, h5, h6, h7, h8⟩
      · cases h2
      · have h2' : Value.slice (some ⟨g, 0, none⟩) n cp = .slice (some ⟨g', 0, none⟩) xs.length cap := h2
        simp only [Value.slice.injEq, Option.some.injEq, Addr.mk.injEq, and_true] at h2'
        obtain ⟨rfl, rfl, rfl⟩ := h2'
        refine ⟨g, cp, cur, by show Value.slice (some ⟨g, 0, none⟩) k cp = .slice (some ⟨g, 0, none⟩) (xs.take k).length cp; rw [List.length_take, Nat.min_eq_left hk], h3, h4, by show (xs.take k).length ≤ cp; rw [List.length_take]; have : xs.length ≤ cp := h5; omega, h6, h7, ?_⟩
        have h8' : cur.toList.take (xs.length * 1) = xs.map (Value.int .i64) := h8
        show cur.toList.take ((xs.take k).length * 1) = (xs.take k).map (Value.int .i64)
        rw [List.map_take, ← h8', List.take_take, List.length_take]
        congr 1
        omega
    · exact h.1 _ (.tail _ (.tail _ hy))
  · have h2 := h.2
    rw [List.pairwise_cons] at h2 ⊢
    rw [List.pairwise_cons] at h2 ⊢
    refine ⟨fun y hy => ?_, fun y hy => h2.2.1 y hy, h2.2.2⟩
    rcases List.mem_cons.1 hy with rfl | hy
    · exact h2.1 (intRowOf e (.slice (some ⟨g, 0, none⟩) n cp) xs) (.head _)
    · exact h2.1 y (.tail _ hy)
theorem CurAt.cutRow {w : World} {B c : Nat} {vc : Value} {a : Int} {e g n cp : Nat} {xs : List Int} {R : List Row} (h : CurAt w B c vc a (intRowOf e (.slice (some ⟨g, 0, none⟩) n cp) xs :: R)) {k : Nat} (hk : k ≤ xs.length) :
    CurAt w B c vc a (intRowOf e (.slice (some ⟨g, 0, none⟩) k cp) (xs.take k) :: R) := by
  obtain ⟨s, h⟩ := h
  exact ⟨s, h.cutRow hk⟩

set_option maxHeartbeats 6400000 in
set_option maxRecDepth 100000 in
theorem drawWS_any {w0 w : World} [Ext w0 w] {vc : Value} {nb : Nat} (hc : IsBytes w0 vc nb) :
    Calls Try.prog 7 #[vc] w (WSPost w) := by
  obtain ⟨ac, cc, rfl⟩ := hc.form
  go_enter Try.func7, Try.ntmps7
  go_upto_region 2 with fail
  have hsz : w0.heap.size ≤ w.heap.size := (‹Ext w0 w›).size
  have own1 := CurAt.start (vc := .slice ac nb cc) (((Own.nil w w.heap.size).lit 26 2 1 #[.slice none 0 0, .slice none 0 0] (Nat.le_refl _) (by unfold maxLen; omega) rfl)) (by simp)
  have e1 : Ext w ((w.alloc (.cells #[.slice none 0 0, .slice none 0 0] 26)).alloc (.cells #[.slice ac nb cc, .int .i64 0, .int .u64 0] 56)) := inferInstance
  have hcs : (w.alloc (.cells #[.slice none 0 0, .slice none 0 0] 26)).heap.size = w.heap.size + 1 := by simp
  rw [hcs] at own1
  obtain ⟨r, hr⟩ : ∃ r, r = w.heap.size := ⟨_, rfl⟩
  obtain ⟨c, hcd⟩ : ∃ c, c = w.heap.size + 1 := ⟨_, rfl⟩
  obtain ⟨B, hBd⟩ : ∃ B, B = w.heap.size := ⟨_, rfl⟩
  have own1' : CurAt ((w.alloc (.cells #[.slice none 0 0, .slice none 0 0] 26)).alloc (.cells #[.slice ac nb cc, .int .i64 0, .int .u64 0] 56)) B c (.slice ac nb cc) 0 [boxRow 26 2 r [.slice none 0 0, .slice none 0 0]] := by
    rw [hBd, hcd, hr]; exact own1
  have hwB : w0.heap.size ≤ B := by omega
  have b1 : Below B w ((w.alloc (.cells #[.slice none 0 0, .slice none 0 0] 26)).alloc (.cells #[.slice ac nb cc, .int .i64 0, .int .u64 0] 56)) := by rw [hBd]; exact e1.below
  rw [← hcd, ← hr]
  generalize (w.alloc (.cells #[.slice none 0 0, .slice none 0 0] 26)).alloc (.cells #[.slice ac nb cc, .int .i64 0, .int .u64 0] 56) = w1 at *
  replace hr := hid hr
  replace hcd := hid hcd
  replace hBd := hid hBd
  have hE : ∀ u, Below B w u → Ext w0 u := fun u h => ⟨(‹Ext w0 w›).below.trans (h.mono hwB)⟩
  replace hE := hid hE
  clear own1 e1 hcs
  have e1 : Ext w0 w1 := hE.out _ b1
  go_wp2_with fail
  refine (problem_any (w0 := w0) hc own1' hwB (by omega) (by omega)).mono ?_
  rintro e w2 ⟨mv, sv, M, S, Z, a2, rfl, hM1, hM2, hS1, hS2, ha1, ha2, own2, hZ, b2⟩
  obtain ⟨dm, mm, rfl, lm⟩ := (hZ w2 own2.rows.left).1.form
  obtain ⟨ds, ms, rfl, ls⟩ := (hZ w2 own2.rows.left).2.form
  replace hZ := hid hZ
  have b2' := b1.trans b2
  have own3 := own2.box 26 2 #[.slice dm M.length mm, .slice ds S.length ms] own2.size rfl
  have b3 : Below B w (w2.alloc (.cells #[.slice dm M.length mm, .slice ds S.length ms] 26)) := b2'.alloc own2.size _
  obtain ⟨pb, hpb⟩ : ∃ r, r = w2.heap.size := ⟨_, rfl⟩
  go_upto_region 3 with fail
  generalize w2.alloc (.cells #[.slice dm M.length mm, .slice ds S.length ms] 26) = w3 at *
  rw [← hpb] at own3 ⊢
  replace hpb := hid hpb
  clear own1' own2 b1 b2 b2' e1
  have own4 := own3.ext (w' := w3.drew)
  have b4 : Below B w w3.drew := b3.drew
  generalize hw4 : w3.drew = w4 at *
  have p0 : w4.cell? ⟨pb, 0, none⟩ = some (.slice dm M.length mm) := (own4.at (.head _) (j := 0) (by omega)).1
  have p1 : w4.cell? ⟨pb, 1, none⟩ = some (.slice ds S.length ms) := (own4.at (.head _) (j := 1) (by omega)).1
  subst hw4
  refine wp_region_held_drew (S := fun w' => w'.cell? ⟨pb, 0, none⟩ = some (.slice dm M.length mm) ∧ w'.cell? ⟨pb, 1, none⟩ = some (.slice ds S.length ms)) (by kernel_rfl) ⟨p0, p1⟩ (fun hHeld0 => ?_)
  generalize w3.drew = w4 at *
  clear own3 b3 p0 p1

  refine wpAnyH_take (i := 0) (v := .agg #[.slice dm M.length mm, .slice ds S.length ms]) rfl (by kernel_rfl) (by kernel_rfl) (by kernel_rfl) (fun _ _ _ h => h) (Or.inl ⟨by rfl, by intro wx hx; obtain ⟨_, _⟩ := hx; go_simp⟩) (by assumption) ?_
  try simp only [List.getElem_toArray, List.getElem_cons_zero, Act.put, List.setIfInBounds_toArray, List.set_cons_zero, List.set_cons_succ]
  refine wpAnyH_take (i := 1) (v := .pointer (some ⟨c, 0, none⟩)) rfl (by kernel_rfl) (by kernel_rfl) (by kernel_rfl) (fun _ _ _ h => h) (Or.inl ⟨by rfl, by intro wx hx; go_simp⟩) (by assumption) ?_
  try simp only [List.getElem_toArray, List.getElem_cons_succ, List.getElem_cons_zero, Act.put, List.setIfInBounds_toArray, List.set_cons_zero, List.set_cons_succ]
  refine wpAnyH_take (i := 2) (v := .agg #[.slice dm M.length mm, .slice ds S.length ms]) rfl (by kernel_rfl) (by kernel_rfl) (by kernel_rfl) (fun _ _ _ h => h) (Or.inl ⟨by rfl, by intro wx hx; obtain ⟨_, _⟩ := hx; go_simp⟩) (by assumption) ?_
  try simp only [List.getElem_toArray, List.getElem_cons_succ, List.getElem_cons_zero, Act.put, List.setIfInBounds_toArray, List.set_cons_zero, List.set_cons_succ]
  refine wpAnyH_take (i := 4) (v := .pointer (some ⟨c, 0, none⟩)) rfl (by kernel_rfl) (by kernel_rfl) (by kernel_rfl) (fun _ _ _ h => h) (Or.inl ⟨by rfl, by intro wx hx; go_simp⟩) (by assumption) ?_
  try simp only [List.getElem_toArray, List.getElem_cons_succ, List.getElem_cons_zero, Act.put, List.setIfInBounds_toArray, List.set_cons_zero, List.set_cons_succ]
  refine wpAnyH_take (i := 5) (v := .agg #[.slice dm M.length mm, .slice ds S.length ms]) rfl (by kernel_rfl) (by kernel_rfl) (by kernel_rfl) (fun _ _ _ h => h) (Or.inl ⟨by rfl, by intro wx hx; obtain ⟨_, _⟩ := hx; go_simp⟩) (by assumption) ?_
  try simp only [List.getElem_toArray, List.getElem_cons_succ, List.getElem_cons_zero, Act.put, List.setIfInBounds_toArray, List.set_cons_zero, List.set_cons_succ]
  refine wpAnyH_take (i := 7) (v := .pointer (some ⟨c, 0, none⟩)) rfl (by kernel_rfl) (by kernel_rfl) (by kernel_rfl) (fun _ _ _ h => h) (Or.inl ⟨by rfl, by intro wx hx; go_simp⟩) (by assumption) ?_
  try simp only [List.getElem_toArray, List.getElem_cons_succ, List.getElem_cons_zero, Act.put, List.setIfInBounds_toArray, List.set_cons_zero, List.set_cons_succ]
  refine wpAnyH_take (i := 9) (v := .pointer (some ⟨c, 0, none⟩)) rfl (by kernel_rfl) (by kernel_rfl) (by kernel_rfl) (fun _ _ _ h => h) (Or.inl ⟨by rfl, by intro wx hx; go_simp⟩) (by assumption) ?_
  try simp only [List.getElem_toArray, List.getElem_cons_succ, List.getElem_cons_zero, Act.put, List.setIfInBounds_toArray, List.set_cons_zero, List.set_cons_succ]
  have hpc := hid (show ∀ (u : World) av R, CurAt u B c (.slice ac nb cc) av R → boxRow 26 2 pb (#[.slice dm M.length mm, .slice ds S.length ms] : Array Value).toList ∈ R → u.cell? ⟨pb, 0, none⟩ = some (.slice dm M.length mm) ∧ u.cell? ⟨pb, 1, none⟩ = some (.slice ds S.length ms) from fun u av R h hm =>
    ⟨(h.at hm (j := 0) (by omega)).1, (h.at hm (j := 1) (by omega)).1⟩)
  refine wpAnyH_ready (rs := [3, 8]) (by kernel_rfl) (by simp) ?_
  refine AllReadyH.cons rfl (fun K hK => ?_) (AllReadyH.cons rfl (fun K hK => ?_) AllReadyH.nil)
  · go_simp
    have eC := hE.out _ b4
    go_at_call 32
    refine (algorithm_any (w0 := w0) hc own4 hwB (by omega) (by omega) (fun u h => hZ.out u h.tail.left) ⟨hM1, hM2⟩ ⟨hS1, hS2⟩ rfl rfl).mono ?_
    rintro e w9 ⟨tv, T, Z2, a9, rfl, h91, h92, own9a, hZ2, b9⟩
    have b9' := b4.trans b9
    replace hZ2 := hid hZ2
    have own9 := own9a
    clear own9a own4 b4 b9 eC
    go_wp2_with fail
    refine hK.out _ _ (hpc.out _ _ _ own9 (List.mem_append_right _ (.head _))) (fun _ => ?_)
    clear hK K
    try simp only [List.getElem_toArray, List.getElem_cons_succ, List.getElem_cons_zero, Act.put, List.setIfInBounds_toArray, List.set_cons_zero, List.set_cons_succ]
    refine wpAnyH_ready (rs := [6, 8]) (by kernel_rfl) (by simp) ?_
    refine AllReadyH.cons rfl (fun K hK => ?_) (AllReadyH.cons rfl (fun K hK => ?_) AllReadyH.nil)
    · go_simp
      have eC := hE.out _ b9'
      go_at_call 33
      refine (state8_any (w0 := w0) hc own9 hwB (by omega) (by omega) hM1 (by omega)).mono ?_
      rintro e w5 ⟨x, a5, rfl, hx1, hx2, h51, h52, own5, b5⟩
      have b5' := b9'.trans b5
      clear own9 b9' b5 eC
      go_wp2_with fail
      refine hK.out _ _ (hpc.out _ _ _ own5 (List.mem_append_right _ (.head _))) (fun _ => ?_)
      clear hK K
      try simp only [List.getElem_toArray, List.getElem_cons_succ, List.getElem_cons_zero, Act.put, List.setIfInBounds_toArray, List.set_cons_zero, List.set_cons_succ]
      refine wpAnyH_ready (rs := [8, 10]) (by kernel_rfl) (by simp) ?_
      refine AllReadyH.cons rfl (fun K hK => ?_) (AllReadyH.cons rfl (fun K hK => ?_) AllReadyH.nil)
      · go_simp
        have ownL := own5.lit (e := 3) (n := 8) (cs := #[.int .i64 0, .int .i64 1, .int .i64 2, .int .i64 3, .int .i64 4, .int .i64 5, .int .i64 (-1), .int .i64 6]) ([0, 1, 2, 3, 4, 5, -1, 6] : List Int) own5.size rfl rfl (by simp)
        have bL : Below B w (w5.alloc (.cells #[.int .i64 0, .int .i64 1, .int .i64 2, .int .i64 3, .int .i64 4, .int .i64 5, .int .i64 (-1), .int .i64 6] 3)) := b5'.alloc own5.size _
        refine hK.out _ _ (hpc.out _ _ _ ownL (.tail _ (List.mem_append_right _ (.head _)))) (fun _ => ?_)
        clear hK K
        try simp only [List.getElem_toArray, List.getElem_cons_succ, List.getElem_cons_zero, Act.put, List.setIfInBounds_toArray, List.set_cons_zero, List.set_cons_succ]
        obtain ⟨gl, hgl⟩ : ∃ g, g = w5.heap.size := ⟨_, rfl⟩
        rw [← hgl] at ownL ⊢
        replace hgl := hid hgl
        generalize w5.alloc (.cells #[.int .i64 0, .int .i64 1, .int .i64 2, .int .i64 3, .int .i64 4, .int .i64 5, .int .i64 (-1), .int .i64 6] 3) = wl at *
        clear own5 b5'
        have own5 := ownL
        have b5' := bL
        clear ownL bL
        refine wpAnyH_ready (rs := [10]) (by kernel_rfl) (by simp) ?_
        refine AllReadyH.cons rfl (fun K hK => ?_) AllReadyH.nil
        go_simp
        have eC := hE.out _ b5'
        go_at_call 35
        refine (pick_any (w0 := w0) hc own5 hwB (by omega) (by omega)).mono ?_
        rintro e w6 ⟨y, a6, rfl, hy0, _, hy2, h61, h62, own6, b6⟩
        have b6' := b5'.trans b6
        have hyd : 0 ≤ y ∧ y < 24 := ⟨hy0, hy2 (by omega)⟩
        clear own5 b5' b6 eC hy2
        go_wp2_with fail
        refine hK.out _ _ (hpc.out _ _ _ own6 (.tail _ (List.mem_append_right _ (.head _)))) (fun _ => ?_)
        clear hK K
        try simp only [List.getElem_toArray, List.getElem_cons_succ, List.getElem_cons_zero, Act.put, List.setIfInBounds_toArray, List.set_cons_zero, List.set_cons_succ]
        obtain ⟨q, hq, hqd⟩ : ∃ q : Nat, q ≤ 2 ∧ Int.tdiv y 11 = q := ⟨(Int.tdiv y 11).toNat, by have := Int.tdiv_eq_ediv_of_nonneg (b := 11) hyd.1; omega, by have := Int.tdiv_eq_ediv_of_nonneg (b := 11) hyd.1; omega⟩
        have hq0 : IntKind.i64.wrap (q : Int) = (q : Int) := IntWalk.i64_in _ (by omega)
        refine wpAnyH_take (i := 11) (v := .int .i64 q) rfl (by kernel_rfl) (by kernel_rfl) (by kernel_rfl) (fun _ _ _ h => h) (Or.inl ⟨by rfl, by intro wx hx; (go_simp; try rw [hqd]; try rw [hq0])⟩) (by assumption) ?_
        try simp only [List.getElem_toArray, List.getElem_cons_succ, List.getElem_cons_zero, Act.put, List.setIfInBounds_toArray, List.set_cons_zero, List.set_cons_succ]
        clear hq0
        replace hqd := hid hqd
        have hq6 : IntKind.i64.wrap (6 + (q : Int)) = 6 + (q : Int) := IntWalk.i64_in _ (by omega)
        refine wpAnyH_take (i := 12) (v := .int .i64 (6 + q)) rfl (by kernel_rfl) (by kernel_rfl) (by kernel_rfl) (fun _ _ _ h => h) (Or.inl ⟨by rfl, by intro wx hx; go_simp⟩) (by assumption) ?_
        try simp only [List.getElem_toArray, List.getElem_cons_succ, List.getElem_cons_zero, Act.put, List.setIfInBounds_toArray, List.set_cons_zero, List.set_cons_succ]
        replace hq6 := hid hq6
        have hlt : ((6 : Int) + q).toNat = 6 + q := by omega
        have hb1 : (0 : Int) ≤ 6 + (q : Int) := by omega
        have hb2 : (6 : Int) + (q : Int) ≤ 8 := by omega
        refine wpAnyH_take (i := 13) (v := .slice (some ⟨gl, 0, none⟩) (6 + q) 8) rfl (by kernel_rfl) (by kernel_rfl) (by kernel_rfl) (fun _ _ _ h => h) (Or.inl ⟨by rfl, by intro wx hx; go_simp⟩) (by assumption) ?_
        try simp only [List.getElem_toArray, List.getElem_cons_succ, List.getElem_cons_zero, Act.put, List.setIfInBounds_toArray, List.set_cons_zero, List.set_cons_succ]
        clear hlt hb1 hb2
        have own7 := own6.cutRow (k := 6 + q) (by simp; omega)
        have eC := hE.out _ b6'
        refine wpAnyH_ready (rs := [14]) (by kernel_rfl) (by simp) ?_
        refine AllReadyH.cons rfl (fun K hK => ?_) AllReadyH.nil
        go_simp
        go_at_call 34
        have hlen : ((([0, 1, 2, 3, 4, 5, -1, 6] : List Int)).take (6 + q)).length = 6 + q := by rw [List.length_take]; simp; omega
        refine (among_any (w0 := w0) hc own7 hwB (by omega) (by omega) (by rw [hlen]; omega) (by rw [hlen]; omega)).mono ?_
        rintro e w8 ⟨z, a8, rfl, hz, h81, h82, own8a, b8⟩
        have b8' := b6'.trans b8
        have hzi : I64 z := by
          have := List.mem_of_mem_take hz
          simp at this
          unfold I64
          omega
        have own8 : CurAt w8 B c (.slice ac nb cc) a8 ((Z2 ++ (boxRow 26 2 pb (#[.slice dm M.length mm, .slice ds S.length ms] : Array Value).toList :: Z)) ++ (boxRow 26 2 r [.slice none 0 0, .slice none 0 0] :: [])) := by simpa only [List.cons_append, List.append_assoc] using own8a.drop
        clear own6 own7 own8a b6' b8 eC hz hlen
        have hpm : boxRow 26 2 pb (#[.slice dm M.length mm, .slice ds S.length ms] : Array Value).toList ∈ (Z2 ++ (boxRow 26 2 pb (#[.slice dm M.length mm, .slice ds S.length ms] : Array Value).toList :: Z)) := List.mem_append_right _ (.head _)
        have hqq := hpc.out _ _ _ own8 (List.mem_append_left _ hpm)
        have r00 : w8.cell? ⟨r, 0, none⟩ = some (.slice none 0 0) := (own8.at (List.mem_append_right _ (.head _)) (j := 0) (by omega)).1
        have r10 : w8.cell? ⟨r, 1, none⟩ = some (.slice none 0 0) := (own8.at (List.mem_append_right _ (.head _)) (j := 1) (by omega)).1
        have r01 := (own8.at (List.mem_append_right _ (.head _)) (e := 26) (z := 2) (b := r) (cs := [.slice none 0 0, .slice none 0 0]) (j := 0) (by omega)).2
        have r11 := (own8.at (List.mem_append_right _ (.head _)) (e := 26) (z := 2) (b := r) (cs := [.slice none 0 0, .slice none 0 0]) (j := 1) (by omega)).2
        go_wp2_with fail
        refine hK.out _ _ hqq (fun _ => ?_)
        clear hK K
        try simp only [List.getElem_toArray, List.getElem_cons_succ, List.getElem_cons_zero, Act.put, List.setIfInBounds_toArray, List.set_cons_zero, List.set_cons_succ]
        have s1 := CurAt.set (L := []) own8 0 (.slice dm M.length mm)
        have s2 := CurAt.set (L := []) s1.1 1 (.slice ds S.length ms)
        have own7 := s2.1
        have b7 := (b8'.setCell s1.2 (p := ⟨r, 0, none⟩) (.slice dm M.length mm)).setCell s1.2 (p := ⟨r, 1, none⟩) (.slice ds S.length ms)
        have htt := hpc.out _ _ _ own7 (List.mem_append_left _ hpm)
        have y0 : ((w8.setCell ⟨r, 0, none⟩ (.slice dm M.length mm)).setCell ⟨r, 1, none⟩ (.slice ds S.length ms)).cell? ⟨r, 0, none⟩ = some (.slice dm M.length mm) := by go_simp
        have y1 : ((w8.setCell ⟨r, 0, none⟩ (.slice dm M.length mm)).setCell ⟨r, 1, none⟩ (.slice ds S.length ms)).cell? ⟨r, 1, none⟩ = some (.slice ds S.length ms) := by go_simp
        clear s1 s2
        refine wpAnyH_ready (rs := [15]) (by kernel_rfl) (by simp) ?_
        refine AllReadyH.cons rfl (fun K hK => ?_) AllReadyH.nil
        go_simp
        refine hK.out _ _ htt (fun _ => ?_)
        clear hK K
        try simp only [List.getElem_toArray, List.getElem_cons_succ, List.getElem_cons_zero, Act.put, List.setIfInBounds_toArray, List.set_cons_zero, List.set_cons_succ]
        generalize (w8.setCell ⟨r, 0, none⟩ (.slice dm M.length mm)).setCell ⟨r, 1, none⟩ (.slice ds S.length ms) = w7 at *
        refine wpAnyH_take (i := 16) (v := tv) rfl (by kernel_rfl) (by kernel_rfl) (by kernel_rfl) (fun _ _ _ h => h) (Or.inl ⟨by rfl, by intro wx hx; go_simp⟩) (by assumption) ?_
        try simp only [List.getElem_toArray, List.getElem_cons_succ, List.getElem_cons_zero, Act.put, List.setIfInBounds_toArray, List.set_cons_zero, List.set_cons_succ]
        refine wpAnyH_take (i := 17) (v := .int .i64 x) rfl (by kernel_rfl) (by kernel_rfl) (by kernel_rfl) (fun _ _ _ h => h) (Or.inl ⟨by rfl, by intro wx hx; go_simp⟩) (by assumption) ?_
        try simp only [List.getElem_toArray, List.getElem_cons_succ, List.getElem_cons_zero, Act.put, List.setIfInBounds_toArray, List.set_cons_zero, List.set_cons_succ]
        refine wpAnyH_take (i := 18) (v := .int .i64 z) rfl (by kernel_rfl) (by kernel_rfl) (by kernel_rfl) (fun _ _ _ h => h) (Or.inl ⟨by rfl, by intro wx hx; go_simp⟩) (by assumption) ?_
        try simp only [List.getElem_toArray, List.getElem_cons_succ, List.getElem_cons_zero, Act.put, List.setIfInBounds_toArray, List.set_cons_zero, List.set_cons_succ]
        refine wpAnyH_done (by kernel_rfl) ?_ _
        go_wp2_with fail
        refine bodyPost_ret (v := .tuple #[.agg #[.slice dm M.length mm, .slice ds S.length ms], tv, .int .i64 x, .int .i64 z]) (by simp [results, Try.results7, go_sem, y0, y1]) rfl ?_
        have hrows := own7.rows.left
        have hZu : Own w7 B Z := hrows.right.tail
        refine ⟨_, _, x, z, M, S, T, rfl, ⟨_, _, rfl, (hZ.out _ hZu).1, (hZ.out _ hZu).2⟩, hZ2.out _ hrows.left, by unfold I64; omega, hzi, ?_⟩
        refine ⟨?_⟩
        rw [← hBd.out]
        exact b7
      · go_simp
        have eC := hE.out _ b5'
        go_at_call 35
        refine (pick_any (w0 := w0) hc own5 hwB (by omega) (by omega)).mono ?_
        rintro e w6 ⟨y, a6, rfl, hy0, _, hy2, h61, h62, own6, b6⟩
        have b6' := b5'.trans b6
        have hyd : 0 ≤ y ∧ y < 24 := ⟨hy0, hy2 (by omega)⟩
        clear own5 b5' b6 eC hy2
        go_wp2_with fail
        refine hK.out _ _ (hpc.out _ _ _ own6 (List.mem_append_right _ (.head _))) (fun _ => ?_)
        clear hK K
        try simp only [List.getElem_toArray, List.getElem_cons_succ, List.getElem_cons_zero, Act.put, List.setIfInBounds_toArray, List.set_cons_zero, List.set_cons_succ]
        obtain ⟨q, hq, hqd⟩ : ∃ q : Nat, q ≤ 2 ∧ Int.tdiv y 11 = q := ⟨(Int.tdiv y 11).toNat, by have := Int.tdiv_eq_ediv_of_nonneg (b := 11) hyd.1; omega, by have := Int.tdiv_eq_ediv_of_nonneg (b := 11) hyd.1; omega⟩
        have hq0 : IntKind.i64.wrap (q : Int) = (q : Int) := IntWalk.i64_in _ (by omega)
        refine wpAnyH_take (i := 11) (v := .int .i64 q) rfl (by kernel_rfl) (by kernel_rfl) (by kernel_rfl) (fun _ _ _ h => h) (Or.inl ⟨by rfl, by intro wx hx; (go_simp; try rw [hqd]; try rw [hq0])⟩) (by assumption) ?_
        try simp only [List.getElem_toArray, List.getElem_cons_succ, List.getElem_cons_zero, Act.put, List.setIfInBounds_toArray, List.set_cons_zero, List.set_cons_succ]
        clear hq0
        replace hqd := hid hqd
        have hq6 : IntKind.i64.wrap (6 + (q : Int)) = 6 + (q : Int) := IntWalk.i64_in _ (by omega)
        refine wpAnyH_take (i := 12) (v := .int .i64 (6 + q)) rfl (by kernel_rfl) (by kernel_rfl) (by kernel_rfl) (fun _ _ _ h => h) (Or.inl ⟨by rfl, by intro wx hx; go_simp⟩) (by assumption) ?_
        try simp only [List.getElem_toArray, List.getElem_cons_succ, List.getElem_cons_zero, Act.put, List.setIfInBounds_toArray, List.set_cons_zero, List.set_cons_succ]
        replace hq6 := hid hq6
        refine wpAnyH_ready (rs := [8]) (by kernel_rfl) (by simp) ?_
        refine AllReadyH.cons rfl (fun K hK => ?_) AllReadyH.nil
        go_simp
        have ownL := own6.lit (e := 3) (n := 8) (cs := #[.int .i64 0, .int .i64 1, .int .i64 2, .int .i64 3, .int .i64 4, .int .i64 5, .int .i64 (-1), .int .i64 6]) ([0, 1, 2, 3, 4, 5, -1, 6] : List Int) own6.size rfl rfl (by simp)
        have bL : Below B w (w6.alloc (.cells #[.int .i64 0, .int .i64 1, .int .i64 2, .int .i64 3, .int .i64 4, .int .i64 5, .int .i64 (-1), .int .i64 6] 3)) := b6'.alloc own6.size _
        refine hK.out _ _ (hpc.out _ _ _ ownL (.tail _ (List.mem_append_right _ (.head _)))) (fun _ => ?_)
        clear hK K
        try simp only [List.getElem_toArray, List.getElem_cons_succ, List.getElem_cons_zero, Act.put, List.setIfInBounds_toArray, List.set_cons_zero, List.set_cons_succ]
        obtain ⟨gl, hgl⟩ : ∃ g, g = w6.heap.size := ⟨_, rfl⟩
        rw [← hgl] at ownL ⊢
        replace hgl := hid hgl
        generalize w6.alloc (.cells #[.int .i64 0, .int .i64 1, .int .i64 2, .int .i64 3, .int .i64 4, .int .i64 5, .int .i64 (-1), .int .i64 6] 3) = wl at *
        clear own6 b6'
        have own6 := ownL
        have b6' := bL
        clear ownL bL
        have hlt : ((6 : Int) + q).toNat = 6 + q := by omega
        have hb1 : (0 : Int) ≤ 6 + (q : Int) := by omega
        have hb2 : (6 : Int) + (q : Int) ≤ 8 := by omega
        refine wpAnyH_take (i := 13) (v := .slice (some ⟨gl, 0, none⟩) (6 + q) 8) rfl (by kernel_rfl) (by kernel_rfl) (by kernel_rfl) (fun _ _ _ h => h) (Or.inl ⟨by rfl, by intro wx hx; go_simp⟩) (by assumption) ?_
        try simp only [List.getElem_toArray, List.getElem_cons_succ, List.getElem_cons_zero, Act.put, List.setIfInBounds_toArray, List.set_cons_zero, List.set_cons_succ]
        clear hlt hb1 hb2
        have own7 := own6.cutRow (k := 6 + q) (by simp; omega)
        have eC := hE.out _ b6'
        refine wpAnyH_ready (rs := [14]) (by kernel_rfl) (by simp) ?_
        refine AllReadyH.cons rfl (fun K hK => ?_) AllReadyH.nil
        go_simp
        go_at_call 34
        have hlen : ((([0, 1, 2, 3, 4, 5, -1, 6] : List Int)).take (6 + q)).length = 6 + q := by rw [List.length_take]; simp; omega
        refine (among_any (w0 := w0) hc own7 hwB (by omega) (by omega) (by rw [hlen]; omega) (by rw [hlen]; omega)).mono ?_
        rintro e w8 ⟨z, a8, rfl, hz, h81, h82, own8a, b8⟩
        have b8' := b6'.trans b8
        have hzi : I64 z := by
          have := List.mem_of_mem_take hz
          simp at this
          unfold I64
          omega
        have own8 : CurAt w8 B c (.slice ac nb cc) a8 ((Z2 ++ (boxRow 26 2 pb (#[.slice dm M.length mm, .slice ds S.length ms] : Array Value).toList :: Z)) ++ (boxRow 26 2 r [.slice none 0 0, .slice none 0 0] :: [])) := by simpa only [List.cons_append, List.append_assoc] using own8a.drop
        clear own6 own7 own8a b6' b8 eC hz hlen
        have hpm : boxRow 26 2 pb (#[.slice dm M.length mm, .slice ds S.length ms] : Array Value).toList ∈ (Z2 ++ (boxRow 26 2 pb (#[.slice dm M.length mm, .slice ds S.length ms] : Array Value).toList :: Z)) := List.mem_append_right _ (.head _)
        have hqq := hpc.out _ _ _ own8 (List.mem_append_left _ hpm)
        have r00 : w8.cell? ⟨r, 0, none⟩ = some (.slice none 0 0) := (own8.at (List.mem_append_right _ (.head _)) (j := 0) (by omega)).1
        have r10 : w8.cell? ⟨r, 1, none⟩ = some (.slice none 0 0) := (own8.at (List.mem_append_right _ (.head _)) (j := 1) (by omega)).1
        have r01 := (own8.at (List.mem_append_right _ (.head _)) (e := 26) (z := 2) (b := r) (cs := [.slice none 0 0, .slice none 0 0]) (j := 0) (by omega)).2
        have r11 := (own8.at (List.mem_append_right _ (.head _)) (e := 26) (z := 2) (b := r) (cs := [.slice none 0 0, .slice none 0 0]) (j := 1) (by omega)).2
        go_wp2_with fail
        refine hK.out _ _ hqq (fun _ => ?_)
        clear hK K
        try simp only [List.getElem_toArray, List.getElem_cons_succ, List.getElem_cons_zero, Act.put, List.setIfInBounds_toArray, List.set_cons_zero, List.set_cons_succ]
        have s1 := CurAt.set (L := []) own8 0 (.slice dm M.length mm)
        have s2 := CurAt.set (L := []) s1.1 1 (.slice ds S.length ms)
        have own7 := s2.1
        have b7 := (b8'.setCell s1.2 (p := ⟨r, 0, none⟩) (.slice dm M.length mm)).setCell s1.2 (p := ⟨r, 1, none⟩) (.slice ds S.length ms)
        have htt := hpc.out _ _ _ own7 (List.mem_append_left _ hpm)
        have y0 : ((w8.setCell ⟨r, 0, none⟩ (.slice dm M.length mm)).setCell ⟨r, 1, none⟩ (.slice ds S.length ms)).cell? ⟨r, 0, none⟩ = some (.slice dm M.length mm) := by go_simp
        have y1 : ((w8.setCell ⟨r, 0, none⟩ (.slice dm M.length mm)).setCell ⟨r, 1, none⟩ (.slice ds S.length ms)).cell? ⟨r, 1, none⟩ = some (.slice ds S.length ms) := by go_simp
        clear s1 s2
        refine wpAnyH_ready (rs := [15]) (by kernel_rfl) (by simp) ?_
        refine AllReadyH.cons rfl (fun K hK => ?_) AllReadyH.nil
        go_simp
        refine hK.out _ _ htt (fun _ => ?_)
        clear hK K
        try simp only [List.getElem_toArray, List.getElem_cons_succ, List.getElem_cons_zero, Act.put, List.setIfInBounds_toArray, List.set_cons_zero, List.set_cons_succ]
        generalize (w8.setCell ⟨r, 0, none⟩ (.slice dm M.length mm)).setCell ⟨r, 1, none⟩ (.slice ds S.length ms) = w7 at *
        refine wpAnyH_take (i := 16) (v := tv) rfl (by kernel_rfl) (by kernel_rfl) (by kernel_rfl) (fun _ _ _ h => h) (Or.inl ⟨by rfl, by intro wx hx; go_simp⟩) (by assumption) ?_
        try simp only [List.getElem_toArray, List.getElem_cons_succ, List.getElem_cons_zero, Act.put, List.setIfInBounds_toArray, List.set_cons_zero, List.set_cons_succ]
        refine wpAnyH_take (i := 17) (v := .int .i64 x) rfl (by kernel_rfl) (by kernel_rfl) (by kernel_rfl) (fun _ _ _ h => h) (Or.inl ⟨by rfl, by intro wx hx; go_simp⟩) (by assumption) ?_
        try simp only [List.getElem_toArray, List.getElem_cons_succ, List.getElem_cons_zero, Act.put, List.setIfInBounds_toArray, List.set_cons_zero, List.set_cons_succ]
        refine wpAnyH_take (i := 18) (v := .int .i64 z) rfl (by kernel_rfl) (by kernel_rfl) (by kernel_rfl) (fun _ _ _ h => h) (Or.inl ⟨by rfl, by intro wx hx; go_simp⟩) (by assumption) ?_
        try simp only [List.getElem_toArray, List.getElem_cons_succ, List.getElem_cons_zero, Act.put, List.setIfInBounds_toArray, List.set_cons_zero, List.set_cons_succ]
        refine wpAnyH_done (by kernel_rfl) ?_ _
        go_wp2_with fail
        refine bodyPost_ret (v := .tuple #[.agg #[.slice dm M.length mm, .slice ds S.length ms], tv, .int .i64 x, .int .i64 z]) (by simp [results, Try.results7, go_sem, y0, y1]) rfl ?_
        have hrows := own7.rows.left
        have hZu : Own w7 B Z := hrows.right.tail
        refine ⟨_, _, x, z, M, S, T, rfl, ⟨_, _, rfl, (hZ.out _ hZu).1, (hZ.out _ hZu).2⟩, hZ2.out _ hrows.left, by unfold I64; omega, hzi, ?_⟩
        refine ⟨?_⟩
        rw [← hBd.out]
        exact b7
    · go_simp
      have ownL := own9.lit (e := 3) (n := 8) (cs := #[.int .i64 0, .int .i64 1, .int .i64 2, .int .i64 3, .int .i64 4, .int .i64 5, .int .i64 (-1), .int .i64 6]) ([0, 1, 2, 3, 4, 5, -1, 6] : List Int) own9.size rfl rfl (by simp)
      have bL : Below B w (w9.alloc (.cells #[.int .i64 0, .int .i64 1, .int .i64 2, .int .i64 3, .int .i64 4, .int .i64 5, .int .i64 (-1), .int .i64 6] 3)) := b9'.alloc own9.size _
      refine hK.out _ _ (hpc.out _ _ _ ownL (.tail _ (List.mem_append_right _ (.head _)))) (fun _ => ?_)
      clear hK K
      try simp only [List.getElem_toArray, List.getElem_cons_succ, List.getElem_cons_zero, Act.put, List.setIfInBounds_toArray, List.set_cons_zero, List.set_cons_succ]
      obtain ⟨gl, hgl⟩ : ∃ g, g = w9.heap.size := ⟨_, rfl⟩
      rw [← hgl] at ownL ⊢
      replace hgl := hid hgl
      generalize w9.alloc (.cells #[.int .i64 0, .int .i64 1, .int .i64 2, .int .i64 3, .int .i64 4, .int .i64 5, .int .i64 (-1), .int .i64 6] 3) = wl at *
      clear own9 b9'
      have own9 := ownL
      have b9' := bL
      clear ownL bL
      refine wpAnyH_ready (rs := [6]) (by kernel_rfl) (by simp) ?_
      refine AllReadyH.cons rfl (fun K hK => ?_) AllReadyH.nil
      go_simp
      have eC := hE.out _ b9'
      go_at_call 33
      refine (state8_any (w0 := w0) hc own9 hwB (by omega) (by omega) hM1 (by omega)).mono ?_
      rintro e w5 ⟨x, a5, rfl, hx1, hx2, h51, h52, own5, b5⟩
      have b5' := b9'.trans b5
      clear own9 b9' b5 eC
      go_wp2_with fail
      refine hK.out _ _ (hpc.out _ _ _ own5 (.tail _ (List.mem_append_right _ (.head _)))) (fun _ => ?_)
      clear hK K
      try simp only [List.getElem_toArray, List.getElem_cons_succ, List.getElem_cons_zero, Act.put, List.setIfInBounds_toArray, List.set_cons_zero, List.set_cons_succ]
      refine wpAnyH_ready (rs := [10]) (by kernel_rfl) (by simp) ?_
      refine AllReadyH.cons rfl (fun K hK => ?_) AllReadyH.nil
      go_simp
      have eC := hE.out _ b5'
      go_at_call 35
      refine (pick_any (w0 := w0) hc own5 hwB (by omega) (by omega)).mono ?_
      rintro e w6 ⟨y, a6, rfl, hy0, _, hy2, h61, h62, own6, b6⟩
      have b6' := b5'.trans b6
      have hyd : 0 ≤ y ∧ y < 24 := ⟨hy0, hy2 (by omega)⟩
      clear own5 b5' b6 eC hy2
      go_wp2_with fail
      refine hK.out _ _ (hpc.out _ _ _ own6 (.tail _ (List.mem_append_right _ (.head _)))) (fun _ => ?_)
      clear hK K
      try simp only [List.getElem_toArray, List.getElem_cons_succ, List.getElem_cons_zero, Act.put, List.setIfInBounds_toArray, List.set_cons_zero, List.set_cons_succ]
      obtain ⟨q, hq, hqd⟩ : ∃ q : Nat, q ≤ 2 ∧ Int.tdiv y 11 = q := ⟨(Int.tdiv y 11).toNat, by have := Int.tdiv_eq_ediv_of_nonneg (b := 11) hyd.1; omega, by have := Int.tdiv_eq_ediv_of_nonneg (b := 11) hyd.1; omega⟩
      have hq0 : IntKind.i64.wrap (q : Int) = (q : Int) := IntWalk.i64_in _ (by omega)
      refine wpAnyH_take (i := 11) (v := .int .i64 q) rfl (by kernel_rfl) (by kernel_rfl) (by kernel_rfl) (fun _ _ _ h => h) (Or.inl ⟨by rfl, by intro wx hx; (go_simp; try rw [hqd]; try rw [hq0])⟩) (by assumption) ?_
      try simp only [List.getElem_toArray, List.getElem_cons_succ, List.getElem_cons_zero, Act.put, List.setIfInBounds_toArray, List.set_cons_zero, List.set_cons_succ]
      clear hq0
      replace hqd := hid hqd
      have hq6 : IntKind.i64.wrap (6 + (q : Int)) = 6 + (q : Int) := IntWalk.i64_in _ (by omega)
      refine wpAnyH_take (i := 12) (v := .int .i64 (6 + q)) rfl (by kernel_rfl) (by kernel_rfl) (by kernel_rfl) (fun _ _ _ h => h) (Or.inl ⟨by rfl, by intro wx hx; go_simp⟩) (by assumption) ?_
      try simp only [List.getElem_toArray, List.getElem_cons_succ, List.getElem_cons_zero, Act.put, List.setIfInBounds_toArray, List.set_cons_zero, List.set_cons_succ]
      replace hq6 := hid hq6
      have hlt : ((6 : Int) + q).toNat = 6 + q := by omega
      have hb1 : (0 : Int) ≤ 6 + (q : Int) := by omega
      have hb2 : (6 : Int) + (q : Int) ≤ 8 := by omega
      refine wpAnyH_take (i := 13) (v := .slice (some ⟨gl, 0, none⟩) (6 + q) 8) rfl (by kernel_rfl) (by kernel_rfl) (by kernel_rfl) (fun _ _ _ h => h) (Or.inl ⟨by rfl, by intro wx hx; go_simp⟩) (by assumption) ?_
      try simp only [List.getElem_toArray, List.getElem_cons_succ, List.getElem_cons_zero, Act.put, List.setIfInBounds_toArray, List.set_cons_zero, List.set_cons_succ]
      clear hlt hb1 hb2
      have own7 := own6.cutRow (k := 6 + q) (by simp; omega)
      have eC := hE.out _ b6'
      refine wpAnyH_ready (rs := [14]) (by kernel_rfl) (by simp) ?_
      refine AllReadyH.cons rfl (fun K hK => ?_) AllReadyH.nil
      go_simp
      go_at_call 34
      have hlen : ((([0, 1, 2, 3, 4, 5, -1, 6] : List Int)).take (6 + q)).length = 6 + q := by rw [List.length_take]; simp; omega
      refine (among_any (w0 := w0) hc own7 hwB (by omega) (by omega) (by rw [hlen]; omega) (by rw [hlen]; omega)).mono ?_
      rintro e w8 ⟨z, a8, rfl, hz, h81, h82, own8a, b8⟩
      have b8' := b6'.trans b8
      have hzi : I64 z := by
        have := List.mem_of_mem_take hz
        simp at this
        unfold I64
        omega
      have own8 : CurAt w8 B c (.slice ac nb cc) a8 ((Z2 ++ (boxRow 26 2 pb (#[.slice dm M.length mm, .slice ds S.length ms] : Array Value).toList :: Z)) ++ (boxRow 26 2 r [.slice none 0 0, .slice none 0 0] :: [])) := by simpa only [List.cons_append, List.append_assoc] using own8a.drop
      clear own6 own7 own8a b6' b8 eC hz hlen
      have hpm : boxRow 26 2 pb (#[.slice dm M.length mm, .slice ds S.length ms] : Array Value).toList ∈ (Z2 ++ (boxRow 26 2 pb (#[.slice dm M.length mm, .slice ds S.length ms] : Array Value).toList :: Z)) := List.mem_append_right _ (.head _)
      have hqq := hpc.out _ _ _ own8 (List.mem_append_left _ hpm)
      have r00 : w8.cell? ⟨r, 0, none⟩ = some (.slice none 0 0) := (own8.at (List.mem_append_right _ (.head _)) (j := 0) (by omega)).1
      have r10 : w8.cell? ⟨r, 1, none⟩ = some (.slice none 0 0) := (own8.at (List.mem_append_right _ (.head _)) (j := 1) (by omega)).1
      have r01 := (own8.at (List.mem_append_right _ (.head _)) (e := 26) (z := 2) (b := r) (cs := [.slice none 0 0, .slice none 0 0]) (j := 0) (by omega)).2
      have r11 := (own8.at (List.mem_append_right _ (.head _)) (e := 26) (z := 2) (b := r) (cs := [.slice none 0 0, .slice none 0 0]) (j := 1) (by omega)).2
      go_wp2_with fail
      refine hK.out _ _ hqq (fun _ => ?_)
      clear hK K
      try simp only [List.getElem_toArray, List.getElem_cons_succ, List.getElem_cons_zero, Act.put, List.setIfInBounds_toArray, List.set_cons_zero, List.set_cons_succ]
      have s1 := CurAt.set (L := []) own8 0 (.slice dm M.length mm)
      have s2 := CurAt.set (L := []) s1.1 1 (.slice ds S.length ms)
      have own7 := s2.1
      have b7 := (b8'.setCell s1.2 (p := ⟨r, 0, none⟩) (.slice dm M.length mm)).setCell s1.2 (p := ⟨r, 1, none⟩) (.slice ds S.length ms)
      have htt := hpc.out _ _ _ own7 (List.mem_append_left _ hpm)
      have y0 : ((w8.setCell ⟨r, 0, none⟩ (.slice dm M.length mm)).setCell ⟨r, 1, none⟩ (.slice ds S.length ms)).cell? ⟨r, 0, none⟩ = some (.slice dm M.length mm) := by go_simp
      have y1 : ((w8.setCell ⟨r, 0, none⟩ (.slice dm M.length mm)).setCell ⟨r, 1, none⟩ (.slice ds S.length ms)).cell? ⟨r, 1, none⟩ = some (.slice ds S.length ms) := by go_simp
      clear s1 s2
      refine wpAnyH_ready (rs := [15]) (by kernel_rfl) (by simp) ?_
      refine AllReadyH.cons rfl (fun K hK => ?_) AllReadyH.nil
      go_simp
      refine hK.out _ _ htt (fun _ => ?_)
      clear hK K
      try simp only [List.getElem_toArray, List.getElem_cons_succ, List.getElem_cons_zero, Act.put, List.setIfInBounds_toArray, List.set_cons_zero, List.set_cons_succ]
      generalize (w8.setCell ⟨r, 0, none⟩ (.slice dm M.length mm)).setCell ⟨r, 1, none⟩ (.slice ds S.length ms) = w7 at *
      refine wpAnyH_take (i := 16) (v := tv) rfl (by kernel_rfl) (by kernel_rfl) (by kernel_rfl) (fun _ _ _ h => h) (Or.inl ⟨by rfl, by intro wx hx; go_simp⟩) (by assumption) ?_
      try simp only [List.getElem_toArray, List.getElem_cons_succ, List.getElem_cons_zero, Act.put, List.setIfInBounds_toArray, List.set_cons_zero, List.set_cons_succ]
      refine wpAnyH_take (i := 17) (v := .int .i64 x) rfl (by kernel_rfl) (by kernel_rfl) (by kernel_rfl) (fun _ _ _ h => h) (Or.inl ⟨by rfl, by intro wx hx; go_simp⟩) (by assumption) ?_
      try simp only [List.getElem_toArray, List.getElem_cons_succ, List.getElem_cons_zero, Act.put, List.setIfInBounds_toArray, List.set_cons_zero, List.set_cons_succ]
      refine wpAnyH_take (i := 18) (v := .int .i64 z) rfl (by kernel_rfl) (by kernel_rfl) (by kernel_rfl) (fun _ _ _ h => h) (Or.inl ⟨by rfl, by intro wx hx; go_simp⟩) (by assumption) ?_
      try simp only [List.getElem_toArray, List.getElem_cons_succ, List.getElem_cons_zero, Act.put, List.setIfInBounds_toArray, List.set_cons_zero, List.set_cons_succ]
      refine wpAnyH_done (by kernel_rfl) ?_ _
      go_wp2_with fail
      refine bodyPost_ret (v := .tuple #[.agg #[.slice dm M.length mm, .slice ds S.length ms], tv, .int .i64 x, .int .i64 z]) (by simp [results, Try.results7, go_sem, y0, y1]) rfl ?_
      have hrows := own7.rows.left
      have hZu : Own w7 B Z := hrows.right.tail
      refine ⟨_, _, x, z, M, S, T, rfl, ⟨_, _, rfl, (hZ.out _ hZu).1, (hZ.out _ hZu).2⟩, hZ2.out _ hrows.left, by unfold I64; omega, hzi, ?_⟩
      refine ⟨?_⟩
      rw [← hBd.out]
      exact b7
  · go_simp
    have ownL := own4.lit (e := 3) (n := 8) (cs := #[.int .i64 0, .int .i64 1, .int .i64 2, .int .i64 3, .int .i64 4, .int .i64 5, .int .i64 (-1), .int .i64 6]) ([0, 1, 2, 3, 4, 5, -1, 6] : List Int) own4.size rfl rfl (by simp)
    have bL : Below B w (w4.alloc (.cells #[.int .i64 0, .int .i64 1, .int .i64 2, .int .i64 3, .int .i64 4, .int .i64 5, .int .i64 (-1), .int .i64 6] 3)) := b4.alloc own4.size _
    refine hK.out _ _ (hpc.out _ _ _ ownL (.tail _ (.head _))) (fun _ => ?_)
    clear hK K
    try simp only [List.getElem_toArray, List.getElem_cons_succ, List.getElem_cons_zero, Act.put, List.setIfInBounds_toArray, List.set_cons_zero, List.set_cons_succ]
    obtain ⟨gl, hgl⟩ : ∃ g, g = w4.heap.size := ⟨_, rfl⟩
    rw [← hgl] at ownL ⊢
    replace hgl := hid hgl
    generalize w4.alloc (.cells #[.int .i64 0, .int .i64 1, .int .i64 2, .int .i64 3, .int .i64 4, .int .i64 5, .int .i64 (-1), .int .i64 6] 3) = wl at *
    clear own4 b4
    have own4 := ownL
    have b4 := bL
    clear ownL bL
    refine wpAnyH_ready (rs := [3]) (by kernel_rfl) (by simp) ?_
    refine AllReadyH.cons rfl (fun K hK => ?_) AllReadyH.nil
    go_simp
    have eC := hE.out _ b4
    go_at_call 32
    refine (algorithm_any (w0 := w0) hc own4 hwB (by omega) (by omega) (fun u h => hZ.out u h.tail.tail.left) ⟨hM1, hM2⟩ ⟨hS1, hS2⟩ rfl rfl).mono ?_
    rintro e w9 ⟨tv, T, Z2, a9, rfl, h91, h92, own9a, hZ2, b9⟩
    have b9' := b4.trans b9
    replace hZ2 := hid hZ2
    have own9 : CurAt w9 B c (.slice ac nb cc) a9 (intRowOf 3 (.slice (some ⟨gl, 0, none⟩) 8 8) ([0, 1, 2, 3, 4, 5, -1, 6] : List Int) :: (Z2 ++ (boxRow 26 2 pb (#[.slice dm M.length mm, .slice ds S.length ms] : Array Value).toList :: (Z ++ [boxRow 26 2 r [.slice none 0 0, .slice none 0 0]])))) := own9a.perm List.perm_middle.symm
    clear own9a own4 b4 b9 eC
    go_wp2_with fail
    refine hK.out _ _ (hpc.out _ _ _ own9 (.tail _ (List.mem_append_right _ (.head _)))) (fun _ => ?_)
    clear hK K
    try simp only [List.getElem_toArray, List.getElem_cons_succ, List.getElem_cons_zero, Act.put, List.setIfInBounds_toArray, List.set_cons_zero, List.set_cons_succ]
    refine wpAnyH_ready (rs := [6]) (by kernel_rfl) (by simp) ?_
    refine AllReadyH.cons rfl (fun K hK => ?_) AllReadyH.nil
    go_simp
    have eC := hE.out _ b9'
    go_at_call 33
    refine (state8_any (w0 := w0) hc own9 hwB (by omega) (by omega) hM1 (by omega)).mono ?_
    rintro e w5 ⟨x, a5, rfl, hx1, hx2, h51, h52, own5, b5⟩
    have b5' := b9'.trans b5
    clear own9 b9' b5 eC
    go_wp2_with fail
    refine hK.out _ _ (hpc.out _ _ _ own5 (.tail _ (List.mem_append_right _ (.head _)))) (fun _ => ?_)
    clear hK K
    try simp only [List.getElem_toArray, List.getElem_cons_succ, List.getElem_cons_zero, Act.put, List.setIfInBounds_toArray, List.set_cons_zero, List.set_cons_succ]
    refine wpAnyH_ready (rs := [10]) (by kernel_rfl) (by simp) ?_
    refine AllReadyH.cons rfl (fun K hK => ?_) AllReadyH.nil
    go_simp
    have eC := hE.out _ b5'
    go_at_call 35
    refine (pick_any (w0 := w0) hc own5 hwB (by omega) (by omega)).mono ?_
    rintro e w6 ⟨y, a6, rfl, hy0, _, hy2, h61, h62, own6, b6⟩
    have b6' := b5'.trans b6
    have hyd : 0 ≤ y ∧ y < 24 := ⟨hy0, hy2 (by omega)⟩
    clear own5 b5' b6 eC hy2
    go_wp2_with fail
    refine hK.out _ _ (hpc.out _ _ _ own6 (.tail _ (List.mem_append_right _ (.head _)))) (fun _ => ?_)
    clear hK K
    try simp only [List.getElem_toArray, List.getElem_cons_succ, List.getElem_cons_zero, Act.put, List.setIfInBounds_toArray, List.set_cons_zero, List.set_cons_succ]
    obtain ⟨q, hq, hqd⟩ : ∃ q : Nat, q ≤ 2 ∧ Int.tdiv y 11 = q := ⟨(Int.tdiv y 11).toNat, by have := Int.tdiv_eq_ediv_of_nonneg (b := 11) hyd.1; omega, by have := Int.tdiv_eq_ediv_of_nonneg (b := 11) hyd.1; omega⟩
    have hq0 : IntKind.i64.wrap (q : Int) = (q : Int) := IntWalk.i64_in _ (by omega)
    refine wpAnyH_take (i := 11) (v := .int .i64 q) rfl (by kernel_rfl) (by kernel_rfl) (by kernel_rfl) (fun _ _ _ h => h) (Or.inl ⟨by rfl, by intro wx hx; (go_simp; try rw [hqd]; try rw [hq0])⟩) (by assumption) ?_
    try simp only [List.getElem_toArray, List.getElem_cons_succ, List.getElem_cons_zero, Act.put, List.setIfInBounds_toArray, List.set_cons_zero, List.set_cons_succ]
    clear hq0
    replace hqd := hid hqd
    have hq6 : IntKind.i64.wrap (6 + (q : Int)) = 6 + (q : Int) := IntWalk.i64_in _ (by omega)
    refine wpAnyH_take (i := 12) (v := .int .i64 (6 + q)) rfl (by kernel_rfl) (by kernel_rfl) (by kernel_rfl) (fun _ _ _ h => h) (Or.inl ⟨by rfl, by intro wx hx; go_simp⟩) (by assumption) ?_
    try simp only [List.getElem_toArray, List.getElem_cons_succ, List.getElem_cons_zero, Act.put, List.setIfInBounds_toArray, List.set_cons_zero, List.set_cons_succ]
    replace hq6 := hid hq6
    have hlt : ((6 : Int) + q).toNat = 6 + q := by omega
    have hb1 : (0 : Int) ≤ 6 + (q : Int) := by omega
    have hb2 : (6 : Int) + (q : Int) ≤ 8 := by omega
    refine wpAnyH_take (i := 13) (v := .slice (some ⟨gl, 0, none⟩) (6 + q) 8) rfl (by kernel_rfl) (by kernel_rfl) (by kernel_rfl) (fun _ _ _ h => h) (Or.inl ⟨by rfl, by intro wx hx; go_simp⟩) (by assumption) ?_
    try simp only [List.getElem_toArray, List.getElem_cons_succ, List.getElem_cons_zero, Act.put, List.setIfInBounds_toArray, List.set_cons_zero, List.set_cons_succ]
    clear hlt hb1 hb2
    have own7 := own6.cutRow (k := 6 + q) (by simp; omega)
    have eC := hE.out _ b6'
    refine wpAnyH_ready (rs := [14]) (by kernel_rfl) (by simp) ?_
    refine AllReadyH.cons rfl (fun K hK => ?_) AllReadyH.nil
    go_simp
    go_at_call 34
    have hlen : ((([0, 1, 2, 3, 4, 5, -1, 6] : List Int)).take (6 + q)).length = 6 + q := by rw [List.length_take]; simp; omega
    refine (among_any (w0 := w0) hc own7 hwB (by omega) (by omega) (by rw [hlen]; omega) (by rw [hlen]; omega)).mono ?_
    rintro e w8 ⟨z, a8, rfl, hz, h81, h82, own8a, b8⟩
    have b8' := b6'.trans b8
    have hzi : I64 z := by
      have := List.mem_of_mem_take hz
      simp at this
      unfold I64
      omega
    have own8 : CurAt w8 B c (.slice ac nb cc) a8 ((Z2 ++ (boxRow 26 2 pb (#[.slice dm M.length mm, .slice ds S.length ms] : Array Value).toList :: Z)) ++ (boxRow 26 2 r [.slice none 0 0, .slice none 0 0] :: [])) := by simpa only [List.cons_append, List.append_assoc] using own8a.drop
    clear own6 own7 own8a b6' b8 eC hz hlen
    have hpm : boxRow 26 2 pb (#[.slice dm M.length mm, .slice ds S.length ms] : Array Value).toList ∈ (Z2 ++ (boxRow 26 2 pb (#[.slice dm M.length mm, .slice ds S.length ms] : Array Value).toList :: Z)) := List.mem_append_right _ (.head _)
    have hqq := hpc.out _ _ _ own8 (List.mem_append_left _ hpm)
    have r00 : w8.cell? ⟨r, 0, none⟩ = some (.slice none 0 0) := (own8.at (List.mem_append_right _ (.head _)) (j := 0) (by omega)).1
    have r10 : w8.cell? ⟨r, 1, none⟩ = some (.slice none 0 0) := (own8.at (List.mem_append_right _ (.head _)) (j := 1) (by omega)).1
    have r01 := (own8.at (List.mem_append_right _ (.head _)) (e := 26) (z := 2) (b := r) (cs := [.slice none 0 0, .slice none 0 0]) (j := 0) (by omega)).2
    have r11 := (own8.at (List.mem_append_right _ (.head _)) (e := 26) (z := 2) (b := r) (cs := [.slice none 0 0, .slice none 0 0]) (j := 1) (by omega)).2
    go_wp2_with fail
    refine hK.out _ _ hqq (fun _ => ?_)
    clear hK K
    try simp only [List.getElem_toArray, List.getElem_cons_succ, List.getElem_cons_zero, Act.put, List.setIfInBounds_toArray, List.set_cons_zero, List.set_cons_succ]
    have s1 := CurAt.set (L := []) own8 0 (.slice dm M.length mm)
    have s2 := CurAt.set (L := []) s1.1 1 (.slice ds S.length ms)
    have own7 := s2.1
    have b7 := (b8'.setCell s1.2 (p := ⟨r, 0, none⟩) (.slice dm M.length mm)).setCell s1.2 (p := ⟨r, 1, none⟩) (.slice ds S.length ms)
    have htt := hpc.out _ _ _ own7 (List.mem_append_left _ hpm)
    have y0 : ((w8.setCell ⟨r, 0, none⟩ (.slice dm M.length mm)).setCell ⟨r, 1, none⟩ (.slice ds S.length ms)).cell? ⟨r, 0, none⟩ = some (.slice dm M.length mm) := by go_simp
    have y1 : ((w8.setCell ⟨r, 0, none⟩ (.slice dm M.length mm)).setCell ⟨r, 1, none⟩ (.slice ds S.length ms)).cell? ⟨r, 1, none⟩ = some (.slice ds S.length ms) := by go_simp
    clear s1 s2
    refine wpAnyH_ready (rs := [15]) (by kernel_rfl) (by simp) ?_
    refine AllReadyH.cons rfl (fun K hK => ?_) AllReadyH.nil
    go_simp
    refine hK.out _ _ htt (fun _ => ?_)
    clear hK K
    try simp only [List.getElem_toArray, List.getElem_cons_succ, List.getElem_cons_zero, Act.put, List.setIfInBounds_toArray, List.set_cons_zero, List.set_cons_succ]
    generalize (w8.setCell ⟨r, 0, none⟩ (.slice dm M.length mm)).setCell ⟨r, 1, none⟩ (.slice ds S.length ms) = w7 at *
    refine wpAnyH_take (i := 16) (v := tv) rfl (by kernel_rfl) (by kernel_rfl) (by kernel_rfl) (fun _ _ _ h => h) (Or.inl ⟨by rfl, by intro wx hx; go_simp⟩) (by assumption) ?_
    try simp only [List.getElem_toArray, List.getElem_cons_succ, List.getElem_cons_zero, Act.put, List.setIfInBounds_toArray, List.set_cons_zero, List.set_cons_succ]
    refine wpAnyH_take (i := 17) (v := .int .i64 x) rfl (by kernel_rfl) (by kernel_rfl) (by kernel_rfl) (fun _ _ _ h => h) (Or.inl ⟨by rfl, by intro wx hx; go_simp⟩) (by assumption) ?_
    try simp only [List.getElem_toArray, List.getElem_cons_succ, List.getElem_cons_zero, Act.put, List.setIfInBounds_toArray, List.set_cons_zero, List.set_cons_succ]
    refine wpAnyH_take (i := 18) (v := .int .i64 z) rfl (by kernel_rfl) (by kernel_rfl) (by kernel_rfl) (fun _ _ _ h => h) (Or.inl ⟨by rfl, by intro wx hx; go_simp⟩) (by assumption) ?_
    try simp only [List.getElem_toArray, List.getElem_cons_succ, List.getElem_cons_zero, Act.put, List.setIfInBounds_toArray, List.set_cons_zero, List.set_cons_succ]
    refine wpAnyH_done (by kernel_rfl) ?_ _
    go_wp2_with fail
    refine bodyPost_ret (v := .tuple #[.agg #[.slice dm M.length mm, .slice ds S.length ms], tv, .int .i64 x, .int .i64 z]) (by simp [results, Try.results7, go_sem, y0, y1]) rfl ?_
    have hrows := own7.rows.left
    have hZu : Own w7 B Z := hrows.right.tail
    refine ⟨_, _, x, z, M, S, T, rfl, ⟨_, _, rfl, (hZ.out _ hZu).1, (hZ.out _ hZu).2⟩, hZ2.out _ hrows.left, by unfold I64; omega, hzi, ?_⟩
    refine ⟨?_⟩
    rw [← hBd.out]
    exact b7
end Go.Proofs.Ytkniohcmhdgbeaa
