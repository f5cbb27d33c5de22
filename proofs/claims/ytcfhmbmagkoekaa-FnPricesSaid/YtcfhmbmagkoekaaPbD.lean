/- The draw of prices: DrawPriceBound. -/
import Derived.Test.YtcfhmbmagkoekaaGrM
import Derived.Test.YtcfhmbmagkoekaaRzW
import Derived.Deep.DeepCutAuto
namespace Go.Proofs.Ytcfhmbmagkoekaa
open Go.RowKit

/-- a list of ints of one's own beside the cursor -/
abbrev liR (g n cp : Nat) (L : List Int) : Row := ⟨3, 1, .slice (some ⟨g, 0, none⟩) n cp, n, L.map (Value.int .i64)⟩
theorem CurAt.liAt {w : World} {B c g n cp : Nat} {vc : Value} {a : Int} {L : List Int} {R : List Row} (h : CurAt w B c vc a (liR g n cp L :: R)) (hn : L.length = n) {j : Nat} (hj : j < n) :
    (w.cell? ⟨g, j, none⟩ = some (.int .i64 (nth L j)) ∧ w.frozen? ⟨g, j, none⟩ = false) ∧ (∀ x, CurAt (w.setCell ⟨g, j, none⟩ (.int .i64 x)) B c vc a (liR g n cp (L.set j x) :: R)) ∧ B ≤ g := by
  obtain ⟨s, h⟩ := h
  have h1 := h.perm (List.Perm.swap _ _ _)
  refine ⟨⟨?_, h1.frozenAt j⟩, fun x => ⟨s, ?_⟩, h1.lt.1⟩
  · rw [h1.cellAt (w' := w) hj]
    simp [nth, show j < L.length by omega]
  · have h2 := h1.set j (.int .i64 x)
    rw [← List.map_set] at h2
    exact h2.perm (List.Perm.swap _ _ _)
theorem CurAt.joinR {w w' : World} {B c : Nat} {vc : Value} {a : Int} {R : List Row} {r : Row} (h : CurAt w B c vc a R) (hn : Own w' w.heap.size [r]) [e : Ext w w'] (hB : B ≤ w.heap.size) : CurAt w' B c vc a (r :: R) := by
  obtain ⟨s, h⟩ := h
  have h2 := Own.join h hn (hB := hB)
  exact ⟨s, h2.perm (List.Perm.swap _ _ _)⟩
def PBPost (w : World) (e : Ending) (w' : World) : Prop :=
  ∃ d m av rv pv M A X P Z, e = .returned (.tuple #[.agg #[.slice d (M : List (List Int)).length m], av, rv, pv]) ∧ MOk M ∧ (A : List Int).length ≤ 20 ∧ (X : List Int).length ≤ 100 ∧ (P : List Int).length ≤ 61 ∧ Own w' w.heap.size Z ∧ Hid (∀ u B', Own u B' Z → IsMet u (.agg #[.slice d M.length m]) M ∧ IsInts u av A ∧ IsInts u rv X ∧ IsInts u pv P) ∧ Ext w w'
/-- small numbers -/
def Sm (b : Int) (L : List Int) : Prop := ∀ x ∈ L, -1 ≤ x ∧ x ≤ b
theorem Sm.mono {b b' : Int} {L : List Int} (h : Sm b L) (hb : b ≤ b') : Sm b' L := fun x hx => ⟨(h x hx).1, Int.le_trans (h x hx).2 hb⟩
theorem Sm.set {b : Int} {L : List Int} (h : Sm b L) {j : Nat} {x : Int} (hx : -1 ≤ x ∧ x ≤ b) : Sm b (L.set j x) := fun y hy => by
  rcases List.mem_or_eq_of_mem_set hy with h1 | h1
  · exact h y h1
  · rw [h1]; exact hx
set_option maxHeartbeats 6400000 in
set_option maxRecDepth 100000 in
theorem drawPB_any {w0 w : World} [Ext w0 w] {vc : Value} {nb : Nat} (hc : IsBytes w0 vc nb) :
    Calls Try.prog 23 #[vc] w (PBPost w) := by
  obtain ⟨ac, cc, rfl⟩ := hc.form
  go_enter Try.func23, Try.ntmps23
  go_upto_region 2 with fail
  have hsz : w0.heap.size ≤ w.heap.size := (‹Ext w0 w›).size
  have own1 := CurAt.start (vc := .slice ac nb cc) (((Own.nil w w.heap.size).lit 29 1 1 #[.slice none 0 0] (Nat.le_refl _) (by unfold maxLen; omega) rfl)) (by simp)
  have e1 : Ext w ((w.alloc (.cells #[.slice none 0 0] 29)).alloc (.cells #[.slice ac nb cc, .int .i64 0, .int .u64 0] 58)) := inferInstance
  have hcs : (w.alloc (.cells #[.slice none 0 0] 29)).heap.size = w.heap.size + 1 := by simp
  rw [hcs] at own1
  obtain ⟨r, hr⟩ : ∃ r, r = w.heap.size := ⟨_, rfl⟩
  obtain ⟨c, hcd⟩ : ∃ c, c = w.heap.size + 1 := ⟨_, rfl⟩
  obtain ⟨B, hBd⟩ : ∃ B, B = w.heap.size := ⟨_, rfl⟩
  have own1' : CurAt ((w.alloc (.cells #[.slice none 0 0] 29)).alloc (.cells #[.slice ac nb cc, .int .i64 0, .int .u64 0] 58)) B c (.slice ac nb cc) 0 [boxRow 29 1 r [.slice none 0 0]] := by
    rw [hBd, hcd, hr]; exact own1
  have hwB : w0.heap.size ≤ B := by omega
  have b1 : Below B w ((w.alloc (.cells #[.slice none 0 0] 29)).alloc (.cells #[.slice ac nb cc, .int .i64 0, .int .u64 0] 58)) := by rw [hBd]; exact e1.below
  rw [← hcd, ← hr]
  generalize (w.alloc (.cells #[.slice none 0 0] 29)).alloc (.cells #[.slice ac nb cc, .int .i64 0, .int .u64 0] 58) = w1 at *
  replace hr := hid hr
  replace hcd := hid hcd
  have hBs := hid (show ∀ u, Below B w u → B ≤ u.heap.size from fun u h => by rw [hBd]; exact h.size)
  have hEw := hid (show ∀ u, Below B w u → Ext w u from fun u h => ⟨by rw [← hBd]; exact h⟩)
  replace hBd := hid hBd
  have hE : ∀ u, Below B w u → Ext w0 u := fun u h => ⟨(‹Ext w0 w›).below.trans (h.mono hwB)⟩
  replace hE := hid hE
  clear own1 e1 hcs
  have e1 : Ext w0 w1 := hE.out _ b1
  go_wp2_with fail
  with_reducible refine (server7_any (w0 := w0) hc own1' hwB (by omega) (by omega)).mono ?_
  rintro e w2 ⟨d, m, av, rv, M, A, X, Z, a2, rfl, hM, hAl, hXl, h1, h2, own2, hZ, b2⟩
  have b2' := b1.trans b2
  have hB2 := hBs.out _ b2'
  have own4 := own2.box 29 1 #[.slice d M.length m] hB2 rfl
  have b4 := b2'.alloc hB2 (.cells #[.slice d M.length m] 29)
  clear own1' own2 b1 b2 b2' e1
  go_upto_region 3 with fail
  obtain ⟨q, hq⟩ : ∃ q, q = w2.heap.size := ⟨_, rfl⟩
  rw [← hq] at own4 ⊢
  replace hq := hid hq
  generalize w2.alloc (.cells #[.slice d M.length m] 29) = w4 at *
  have hB4 := hBs.out _ b4
  have own5 := CurAt.lit (e := 3) (n := 0) (cs := #[]) own4 [] hB4 rfl rfl (by simp)
  have b5 := b4.alloc hB4 (.cells #[] 3)
  clear own4 b4
  go_upto_region 4 with fail
  obtain ⟨g0, hg0⟩ : ∃ q, q = w4.heap.size := ⟨_, rfl⟩
  rw [← hg0] at own5 ⊢
  replace hg0 := hid hg0
  generalize w4.alloc (.cells #[] 3) = w5 at *
  have hrd := hid (show ∀ u pl a', CurAt u B c (.slice ac nb cc) a' (pl :: boxRow 29 1 q [.slice d M.length m] :: (Z ++ [boxRow 29 1 r [.slice none 0 0]])) → u.cell? ⟨q, 0, none⟩ = some (.slice d M.length m) ∧ IsMet u (.agg #[.slice d M.length m]) M ∧ IsInts u av A ∧ IsInts u rv X from fun u pl a' h => ⟨(h.at (.tail _ (.head _)) (j := 0) (by omega)).1, hZ.out u B (h.rows.tail.tail.left)⟩)
  have hB5 := hBs.out _ b5
  obtain ⟨x5, hm5, ha5, hx5⟩ := hrd.out _ _ _ own5
  have hsB := hid (show srvB M A X = true → metB M = true from fun h => (srv_pts h).1)
  go_cut [30] (fun bv wx => bv = .bool (srvB M A X) ∧ Ext w5 wx)
  case first =>
    cases hMB : metB M with
    | false =>
      have hs := hid (show srvB M A X = false by
        cases h : srvB M A X with
        | false => rfl
        | true => rw [hsB.out h] at hMB; cases hMB)
      replace hMB := hid hMB
      go_wp2_with fail
      with_reducible refine (l6Good_any (w0 := w5) hm5).mono ?_
      rw [hMB.out]
      rintro e w6 ⟨rfl, e6⟩
      go_wp2_with fail
      go_meet
      exact ⟨by rw [hs.out], e6⟩
    | true =>
      replace hMB := hid hMB
      obtain ⟨b, hb⟩ : ∃ b, b = srvB M A X := ⟨_, rfl⟩
      replace hb := hid hb
      go_wp2_with fail
      with_reducible refine (l6Good_any (w0 := w5) hm5).mono ?_
      rw [hMB.out]
      rintro e w6 ⟨rfl, e6⟩
      have x6 := e6.cell x5
      go_wp2_with fail
      with_reducible refine (l6Start_any (w0 := w5) (w := w6) hm5 ha5 hx5).mono ?_
      rw [← hb.out]
      rintro e w7 ⟨rfl, e7⟩
      go_wp2_with fail
      go_meet
      exact ⟨by rw [hb.out], Ext.trans e6 e7⟩
  case rest => as_aux_lemma =>
    obtain ⟨rfl, e5c⟩ := hcut
    have own6 := own5.ext (e := e5c)
    have b6 : Below B w wc := b5.trans (e5c.below.mono hB5)
    clear own5 b5 hB5 x5 hm5 ha5 hx5 e5c
    obtain ⟨x6, hm6, ha6, hx6⟩ := hrd.out _ _ _ own6
    go_upto_if 30 with fail
    go_cut [10] (fun pv wx => ∃ g n cp L, pv = .slice (some ⟨g, 0, none⟩) n cp ∧ L.length = n ∧ n ≤ 60 ∧ Sm 1000000 L ∧ CurAt wx B c (.slice ac nb cc) a2 (liR g n cp L :: boxRow 29 1 q [.slice d M.length m] :: (Z ++ [boxRow 29 1 r [.slice none 0 0]])) ∧ Below B w wx)
    case first =>
      cases hs : srvB M A X with
      | false =>
        replace hs := hid hs
        go_wp2_with fail
        go_meet
        exact ⟨g0, 0, 0, [], rfl, rfl, by omega, fun x hx => by simp at hx, own6, b6⟩
      | true =>
        replace hs := hid hs
        go_wp2_with fail
        with_reducible refine (specLpc_any (w0 := wc) (w := wc) hm6 ha6 hx6).mono ?_
        rintro e w8 ⟨g8, cp8, L8, rfl, own8, hb8, hl8, hok8, e8⟩
        have hBc := hBs.out _ b6
        have own9 := CurAt.joinR own6.drop own8 (e := e8) hBc
        have b9 : Below B w w8 := b6.trans (e8.below.mono hBc)
        obtain ⟨n8, hn8⟩ : ∃ n, n = L8.length := ⟨_, rfl⟩
        have own9' : CurAt w8 B c (.slice ac nb cc) a2 (liR g8 n8 cp8 L8 :: boxRow 29 1 q [.slice d M.length m] :: (Z ++ [boxRow 29 1 r [.slice none 0 0]])) := by rw [hn8]; exact own9
        rw [← hn8] at hl8 ⊢
        replace hn8 := hid hn8
        clear own9 own8 own6 hok8
        go_wp2_with fail
        go_meet
        exact ⟨g8, n8, cp8, L8, rfl, hn8.out.symm, hl8, fun x hx => by have := hb8 x hx; omega, own9', b9⟩
    case rest => as_aux_lemma =>
      obtain ⟨g, n, cp, L, rfl, hLn, hn60, hSm, own, hb⟩ := hcut
      clear own6 b6 x6 hm6 ha6 hx6
      replace hLn := hid hLn
      have e0c := hE.out _ hb
      go_wp2_with fail
      with_reducible refine (pick_any (w0 := w0) hc own hwB (by omega) (by omega)).mono ?_
      rintro e w7 ⟨t0, a3, rfl, ht0, _, ht2, h31, h32, own7, b7⟩
      have ht3 := ht2 (by omega)
      obtain ⟨t1, rfl⟩ := Int.eq_ofNat_of_zero_le ht0
      have b7' := hb.trans b7
      clear own hb b7 e0c ht2
      generalize hr0 : boxRow 29 1 q [.slice d M.length m] :: (Z ++ [boxRow 29 1 r [.slice none 0 0]]) = R0 at own7
      replace hr0 := hid hr0
      go_wp2_with fail
      go_loopw [11] (fun iv wr => ∃ (i : Nat) (L' : List Int) (a' : Int), i ≤ 3 ∧ iv = .int .i64 i ∧ Hid (L'.length = n) ∧ Hid (Sm (1000000 + 10 * (3 - (i : Int))) L') ∧ a2 ≤ a' ∧ a' ≤ a2 + 2 + 10 * (3 - (i : Int)) ∧ CurAt wr B c (.slice ac nb cc) a' (liR g n cp L' :: R0) ∧ Below B w wr) (fun iv _ => (intOf iv).toNat)
      case atStart => exact ⟨t1, L, a3, by omega, rfl, hLn, hid (hSm.mono (by omega)), by omega, by omega, own7, b7'⟩
      case round =>
        clear own7 b7' h31 h32
        obtain ⟨i, L', a', hi3, rfl, hLn', hSm', ha1, ha2, own, hb⟩ := hrel
        obtain ⟨wo, rfl⟩ : ∃ y : World, y = wr := ⟨_, rfl⟩
        have e0o := hE.out _ hb
        by_cases hin : 0 < i ∧ 0 < n
        · obtain ⟨hi0, hn0⟩ := hin
          go_wp2_with fail
          with_reducible refine (pick_any (w0 := w0) hc own hwB (by omega) (by omega)).mono ?_
          rintro e w8 ⟨k0, a4, rfl, hk0, _, hk2, h41, h42, own8, b8⟩
          have hk3 := hk2 (by omega)
          obtain ⟨k, rfl⟩ := Int.eq_ofNat_of_zero_le hk0
          have b8' := hb.trans b8
          clear own hb b8 e0o hk2 hk0
          have hkn : k < n := by omega
          obtain ⟨⟨z1, g1⟩, hset, hBg⟩ := own8.liAt hLn'.out hkn
          have hxb := hSm'.out (nth L' k) (nth_mem (by rw [hLn'.out]; exact hkn))
          obtain ⟨x, hx⟩ : ∃ x, x = nth L' k := ⟨_, rfl⟩
          rw [← hx] at z1 hxb
          have hset8 := hid hset
          replace hx := hid hx
          clear hset
          go_upto_region 10 with fail
          refine region_held_from (w0 := w8) (S := fun _ => True) (by kernel_rfl) (fun _ _ => trivial) (fun wd ed hHeld0 => ?_)
          have ownd := own8.ext (e := ed)
          have bd : Below B w wd := b8'.trans (ed.below.mono (hBs.out _ b8'))
          have zd := ed.cell z1
          clear own8 b8' z1 g1 hset8
          refine wpAnyH_take (i := 0) (v := .slice (some ⟨g, 0, none⟩) n cp) rfl (by kernel_rfl) (by kernel_rfl) (by kernel_rfl) (fun _ _ _ h => h) (Or.inl ⟨by rfl, by intro wx hx; go_simp⟩) (by assumption) ?_
          try simp only [List.getElem_toArray, List.getElem_cons_zero, Act.put, List.setIfInBounds_toArray, List.set_cons_zero, List.set_cons_succ]
          refine wpAnyH_take (i := 1) (v := .int .i64 (k : Nat)) rfl (by kernel_rfl) (by kernel_rfl) (by kernel_rfl) (fun _ _ _ h => h) (Or.inl ⟨by rfl, by intro wx hx; go_simp⟩) (by assumption) ?_
          try simp only [List.getElem_toArray, List.getElem_cons_succ, List.getElem_cons_zero, Act.put, List.setIfInBounds_toArray, List.set_cons_zero, List.set_cons_succ]
          refine wpAnyH_take (i := 2) (v := .slice (some ⟨g, 0, none⟩) n cp) rfl (by kernel_rfl) (by kernel_rfl) (by kernel_rfl) (fun _ _ _ h => h) (Or.inl ⟨by rfl, by intro wx hx; go_simp⟩) (by assumption) ?_
          try simp only [List.getElem_toArray, List.getElem_cons_succ, List.getElem_cons_zero, Act.put, List.setIfInBounds_toArray, List.set_cons_zero, List.set_cons_succ]
          refine wpAnyH_take (i := 3) (v := .int .i64 (k : Nat)) rfl (by kernel_rfl) (by kernel_rfl) (by kernel_rfl) (fun _ _ _ h => h) (Or.inl ⟨by rfl, by intro wx hx; go_simp⟩) (by assumption) ?_
          try simp only [List.getElem_toArray, List.getElem_cons_succ, List.getElem_cons_zero, Act.put, List.setIfInBounds_toArray, List.set_cons_zero, List.set_cons_succ]
          refine wpAnyH_take (i := 4) (v := .pointer (some ⟨g, k, none⟩)) rfl (by kernel_rfl) (by kernel_rfl) (by kernel_rfl) (fun _ _ _ h => h) (Or.inl ⟨by rfl, by intro wx hx; go_simp⟩) (by assumption) ?_
          try simp only [List.getElem_toArray, List.getElem_cons_succ, List.getElem_cons_zero, Act.put, List.setIfInBounds_toArray, List.set_cons_zero, List.set_cons_succ]
          refine wpAnyH_take (i := 6) (v := .pointer (some ⟨c, 0, none⟩)) rfl (by kernel_rfl) (by kernel_rfl) (by kernel_rfl) (fun _ _ _ h => h) (Or.inl ⟨by rfl, by intro wx hx; go_simp⟩) (by assumption) ?_
          try simp only [List.getElem_toArray, List.getElem_cons_succ, List.getElem_cons_zero, Act.put, List.setIfInBounds_toArray, List.set_cons_zero, List.set_cons_succ]
          refine wpAnyH_ready (rs := [5, 7]) (by kernel_rfl) (by simp) ?_
          refine AllReadyH.cons rfl (fun K hK => ?_) (AllReadyH.cons rfl (fun K hK => ?_) AllReadyH.nil)
          · go_simp
            refine hK.out _ _ trivial (fun _ => ?_)
            clear hK K
            try simp only [List.getElem_toArray, List.getElem_cons_succ, List.getElem_cons_zero, Act.put, List.setIfInBounds_toArray, List.set_cons_zero, List.set_cons_succ]
            refine wpAnyH_ready (rs := [7]) (by kernel_rfl) (by simp) ?_
            refine AllReadyH.cons rfl (fun K hK => ?_) AllReadyH.nil
            go_simp
            go_at_call 31
            have e0z := hE.out _ bd
            with_reducible refine (pick_any (w0 := w0) hc ownd hwB (by omega) (by omega)).mono ?_
            rintro e w9 ⟨y, a5, rfl, hy0, _, hy2, h51, h52, own9, b9⟩
            have hy3 := hy2 (by omega)
            have b9' := bd.trans b9
            clear e0z hy2
            go_wp2_with fail
            refine hK.out _ _ trivial (fun _ => ?_)
            clear hK K
            try simp only [List.getElem_toArray, List.getElem_cons_succ, List.getElem_cons_zero, Act.put, List.setIfInBounds_toArray, List.set_cons_zero, List.set_cons_succ]
            have s1 : IntKind.i64.wrap (x + y) = x + y := IntWalk.i64_in _ (by omega)
            have s2 : IntKind.i64.wrap (x + y - 4) = x + y - 4 := IntWalk.i64_in _ (by omega)
            refine wpAnyH_take (i := 8) (v := .int .i64 (x + y)) rfl (by kernel_rfl) (by kernel_rfl) (by kernel_rfl) (fun _ _ _ h => h) (Or.inl ⟨by rfl, by intro wx hx; go_simp⟩) (by assumption) ?_
            try simp only [List.getElem_toArray, List.getElem_cons_succ, List.getElem_cons_zero, Act.put, List.setIfInBounds_toArray, List.set_cons_zero, List.set_cons_succ]
            refine wpAnyH_take (i := 9) (v := .int .i64 (x + y - 4)) rfl (by kernel_rfl) (by kernel_rfl) (by kernel_rfl) (fun _ _ _ h => h) (Or.inl ⟨by rfl, by intro wx hx; go_simp⟩) (by assumption) ?_
            try simp only [List.getElem_toArray, List.getElem_cons_succ, List.getElem_cons_zero, Act.put, List.setIfInBounds_toArray, List.set_cons_zero, List.set_cons_succ]
            obtain ⟨V, hV⟩ : ∃ V, V = max 0 (x + y - 4) := ⟨_, rfl⟩
            have hVb : 0 ≤ V ∧ V ≤ 1000000 + 10 * (3 - ((i - 1 : Nat) : Int)) := by omega
            clear s1 s2
            refine wpAnyH_ready (rs := [10]) (by kernel_rfl) (by simp) ?_
            refine AllReadyH.cons rfl (fun K hK => ?_) AllReadyH.nil
            go_simp
            refine (l1Most_any _ _ _).mono ?_
            rw [← hV]
            replace hV := hid hV
            rintro e w10 ⟨rfl, rfl⟩
            go_wp2_with fail
            refine hK.out _ _ trivial (fun _ => ?_)
            clear hK K
            try simp only [List.getElem_toArray, List.getElem_cons_succ, List.getElem_cons_zero, Act.put, List.setIfInBounds_toArray, List.set_cons_zero, List.set_cons_succ]
            refine wpAnyH_take (i := 11) (v := .pointer (some ⟨g, k, none⟩)) rfl (by kernel_rfl) (by kernel_rfl) (by kernel_rfl) (fun _ _ _ h => h) (Or.inl ⟨by rfl, by intro wx hx; go_simp⟩) (by assumption) ?_
            try simp only [List.getElem_toArray, List.getElem_cons_succ, List.getElem_cons_zero, Act.put, List.setIfInBounds_toArray, List.set_cons_zero, List.set_cons_succ]
            obtain ⟨⟨z9, g9⟩, hset9, hBg9⟩ := own9.liAt hLn'.out hkn
            have own11 := hset9 V
            have b11 := b9'.setCell hBg9 (p := ⟨g, k, none⟩) (.int .i64 V)
            have hL3 := hid (show (L'.set k V).length = n by rw [List.length_set]; exact hLn'.out)
            have hS3 := hid (show Sm (1000000 + 10 * (3 - ((i - 1 : Nat) : Int))) (L'.set k V) from (hSm'.out.mono (by omega)).set ⟨by omega, hVb.2⟩)
            clear own9 hset9
            refine wpAnyH_ready (rs := [12]) (by kernel_rfl) (by simp) ?_
            refine AllReadyH.cons rfl (fun K hK => ?_) AllReadyH.nil
            go_simp
            refine hK.out _ _ trivial (fun _ => ?_)
            clear hK K
            try simp only [List.getElem_toArray, List.getElem_cons_succ, List.getElem_cons_zero, Act.put, List.setIfInBounds_toArray, List.set_cons_zero, List.set_cons_succ]
            refine wpAnyH_done (by kernel_rfl) ?_ _
            go_wp2_with fail
            go_roundw
            case rel => exact ⟨i - 1, L'.set k V, a5, by omega, by congr 1; omega, hL3, hS3, by omega, by omega, own11, b11⟩
            case measure => simp [intOf]; omega
          · go_simp
            go_at_call 31
            have e0z := hE.out _ bd
            with_reducible refine (pick_any (w0 := w0) hc ownd hwB (by omega) (by omega)).mono ?_
            rintro e w9 ⟨y, a5, rfl, hy0, _, hy2, h51, h52, own9, b9⟩
            have hy3 := hy2 (by omega)
            have b9' := bd.trans b9
            clear e0z hy2
            go_wp2_with fail
            refine hK.out _ _ trivial (fun _ => ?_)
            clear hK K
            try simp only [List.getElem_toArray, List.getElem_cons_succ, List.getElem_cons_zero, Act.put, List.setIfInBounds_toArray, List.set_cons_zero, List.set_cons_succ]
            have z9 := ((own9.liAt hLn'.out hkn).1).1
            rw [← hx.out] at z9
            refine wpAnyH_ready (rs := [5]) (by kernel_rfl) (by simp) ?_
            refine AllReadyH.cons rfl (fun K hK => ?_) AllReadyH.nil
            go_simp
            refine hK.out _ _ trivial (fun _ => ?_)
            clear hK K
            try simp only [List.getElem_toArray, List.getElem_cons_succ, List.getElem_cons_zero, Act.put, List.setIfInBounds_toArray, List.set_cons_zero, List.set_cons_succ]
            clear z9
            have s1 : IntKind.i64.wrap (x + y) = x + y := IntWalk.i64_in _ (by omega)
            have s2 : IntKind.i64.wrap (x + y - 4) = x + y - 4 := IntWalk.i64_in _ (by omega)
            refine wpAnyH_take (i := 8) (v := .int .i64 (x + y)) rfl (by kernel_rfl) (by kernel_rfl) (by kernel_rfl) (fun _ _ _ h => h) (Or.inl ⟨by rfl, by intro wx hx; go_simp⟩) (by assumption) ?_
            try simp only [List.getElem_toArray, List.getElem_cons_succ, List.getElem_cons_zero, Act.put, List.setIfInBounds_toArray, List.set_cons_zero, List.set_cons_succ]
            refine wpAnyH_take (i := 9) (v := .int .i64 (x + y - 4)) rfl (by kernel_rfl) (by kernel_rfl) (by kernel_rfl) (fun _ _ _ h => h) (Or.inl ⟨by rfl, by intro wx hx; go_simp⟩) (by assumption) ?_
            try simp only [List.getElem_toArray, List.getElem_cons_succ, List.getElem_cons_zero, Act.put, List.setIfInBounds_toArray, List.set_cons_zero, List.set_cons_succ]
            obtain ⟨V, hV⟩ : ∃ V, V = max 0 (x + y - 4) := ⟨_, rfl⟩
            have hVb : 0 ≤ V ∧ V ≤ 1000000 + 10 * (3 - ((i - 1 : Nat) : Int)) := by omega
            clear s1 s2
            refine wpAnyH_ready (rs := [10]) (by kernel_rfl) (by simp) ?_
            refine AllReadyH.cons rfl (fun K hK => ?_) AllReadyH.nil
            go_simp
            refine (l1Most_any _ _ _).mono ?_
            rw [← hV]
            replace hV := hid hV
            rintro e w10 ⟨rfl, rfl⟩
            go_wp2_with fail
            refine hK.out _ _ trivial (fun _ => ?_)
            clear hK K
            try simp only [List.getElem_toArray, List.getElem_cons_succ, List.getElem_cons_zero, Act.put, List.setIfInBounds_toArray, List.set_cons_zero, List.set_cons_succ]
            refine wpAnyH_take (i := 11) (v := .pointer (some ⟨g, k, none⟩)) rfl (by kernel_rfl) (by kernel_rfl) (by kernel_rfl) (fun _ _ _ h => h) (Or.inl ⟨by rfl, by intro wx hx; go_simp⟩) (by assumption) ?_
            try simp only [List.getElem_toArray, List.getElem_cons_succ, List.getElem_cons_zero, Act.put, List.setIfInBounds_toArray, List.set_cons_zero, List.set_cons_succ]
            obtain ⟨⟨z9, g9⟩, hset9, hBg9⟩ := own9.liAt hLn'.out hkn
            have own11 := hset9 V
            have b11 := b9'.setCell hBg9 (p := ⟨g, k, none⟩) (.int .i64 V)
            have hL3 := hid (show (L'.set k V).length = n by rw [List.length_set]; exact hLn'.out)
            have hS3 := hid (show Sm (1000000 + 10 * (3 - ((i - 1 : Nat) : Int))) (L'.set k V) from (hSm'.out.mono (by omega)).set ⟨by omega, hVb.2⟩)
            clear own9 hset9
            refine wpAnyH_ready (rs := [12]) (by kernel_rfl) (by simp) ?_
            refine AllReadyH.cons rfl (fun K hK => ?_) AllReadyH.nil
            go_simp
            refine hK.out _ _ trivial (fun _ => ?_)
            clear hK K
            try simp only [List.getElem_toArray, List.getElem_cons_succ, List.getElem_cons_zero, Act.put, List.setIfInBounds_toArray, List.set_cons_zero, List.set_cons_succ]
            refine wpAnyH_done (by kernel_rfl) ?_ _
            go_wp2_with fail
            go_roundw
            case rel => exact ⟨i - 1, L'.set k V, a5, by omega, by congr 1; omega, hL3, hS3, by omega, by omega, own11, b11⟩
            case measure => simp [intOf]; omega
        · have hF2 := hid (show Sm 1000030 L' from hSm'.out.mono (by omega))
          by_cases hi0 : 0 < i
          · have hn0 : ¬ 0 < n := by omega
            go_wp2_with fail
            with_reducible refine (pick_any (w0 := w0) hc own hwB (by omega) (by omega)).mono ?_
            rintro e w7 ⟨x, a7, rfl, hx0, _, hx2, h71, h72, own7, b7⟩
            have b7' := hb.trans b7
            clear own hb b7 e0o hx2
            by_cases hx0' : x = 0
            · subst hx0'
              obtain ⟨s7, o7⟩ := own7
              have o7' : Own w7 B (⟨3, 1, .slice (some ⟨g, 0, none⟩) n cp, n, L'.map (Value.int .i64)⟩ :: curRow c (.slice ac nb cc) a7 s7 :: R0) := o7.perm (List.Perm.swap _ _ _)
              have hB7 := hBs.out _ b7'
              clear o7
              go_upto_region 17 with (at_builtin; refine wpList_append1 rfl _ _ _ rfl elemInt rfl o7' hB7 rfl rfl (by omega) (by omega) ?_; intro v6 w6 ho6 hb6; obtain ⟨d6, m6, hf6⟩ := ho6.form; simp only at hf6; subst hf6)
              have b6' := b7'.trans hb6
              have hrow : (⟨3, 1, .slice d6 (n + 1) m6, n + 1, L'.map (Value.int .i64) ++ [.int .i64 1]⟩ : Row) = intRowOf 3 (.slice d6 (n + 1) m6) (L' ++ [1]) := by
                unfold intRowOf
                rw [List.length_append, List.map_append, hLn'.out]
                rfl
              rw [hrow] at ho6
              have own8 : CurAt w6 B c (.slice ac nb cc) a7 (intRowOf 3 (.slice d6 (n + 1) m6) (L' ++ [1]) :: R0) := ⟨s7, ho6.perm (List.Perm.swap _ _ _)⟩
              clear ho6 o7' hrow
              have ow := own8
              rw [← hr0.out] at ow
              have xq := (hrd.out _ _ _ ow).1
              have r0 := ow.at (e := 29) (z := 1) (b := r) (cs := [.slice none 0 0]) (.tail _ (.tail _ (List.mem_append_right _ (.head _)))) (j := 0) (by omega)
              have r00 : (w6).cell? ⟨r, 0, none⟩ = some (.slice none 0 0) := r0.1
              have r01 := r0.2
              have hset := CurAt.set (A := (intRowOf 3 (.slice d6 (n + 1) m6) (L' ++ [1])) :: boxRow 29 1 q [.slice d M.length m] :: Z) (L := []) ow 0 (.slice d M.length m)
              have y0 : ((w6).setCell ⟨r, 0, none⟩ (.slice d M.length m)).cell? ⟨r, 0, none⟩ = some (.slice d M.length m) := by go_simp
              have hz := hset.1.rows.sub (S := (intRowOf 3 (.slice d6 (n + 1) m6) (L' ++ [1])) :: Z) (List.Sublist.cons_cons _ (.cons _ (List.sublist_append_left _ _)))
              have b3 := (b6').setCell hset.2 (p := ⟨r, 0, none⟩) (.slice d M.length m)
              have hcl := hid ((show ∀ u B' S, Own u B' (intRowOf 3 (.slice d6 (n + 1) m6) (L' ++ [1]) :: S) → IsInts u (.slice d6 (n + 1) m6) (L' ++ [1]) from fun u B' S h => h.reads (by rw [List.length_append, hLn'.out]; unfold Short; simp; omega) (fun y hy => by unfold I64; rcases List.mem_append.1 hy with h | h; have := hF2.out y h; omega; rw [List.mem_singleton.1 h]; omega)))
              have hl9 := hid ((show (L' ++ [1]).length ≤ 61 by rw [List.length_append, hLn'.out]; simp; omega))
              clear r0 hset ow
              go_wp2_with fail
              refine bodyPost_ret (v := .tuple #[.agg #[.slice d M.length m], av, rv, (.slice d6 (n + 1) m6)]) (by simp [results, Try.results23, go_sem, y0]) rfl ?_
              exact ⟨d, m, av, rv, (.slice d6 (n + 1) m6), M, A, X, (L' ++ [1]), (intRowOf 3 (.slice d6 (n + 1) m6) (L' ++ [1])) :: Z, rfl, hM, hAl, hXl, hl9.out, by rw [← hBd.out]; exact hz, hid (fun u B' h => ⟨(hZ.out u B' h.tail).1, (hZ.out u B' h.tail).2.1, (hZ.out u B' h.tail).2.2, hcl.out u B' Z h⟩), hEw.out _ b3⟩
            · have hx0b : (x == 0) = false := beq_eq_false_iff_ne.2 hx0'
              have hclL := hid (show ∀ (P : List Int), P.length = n → Sm 1000030 P → ∀ u B' S, Own u B' (liR g n cp P :: S) → IsInts u (.slice (some ⟨g, 0, none⟩) n cp) P from fun P hP hS u B' S h => by
                have h1 : liR g n cp P = intRowOf 3 (.slice (some ⟨g, 0, none⟩) P.length cp) P := by unfold intRowOf; rw [hP]
                rw [h1] at h
                have := h.reads (by unfold Short; omega) (fun y hy => by have := hS y hy; unfold I64; omega)
                rw [hP] at this
                exact this)
              by_cases hx1 : x = 1
              · subst hx1
                by_cases hnz : 0 < n
                · skip
                  exact absurd hnz hn0
                · have hnz' : ¬ (n : Int) > 0 := by omega
                  have ow := own7
                  rw [← hr0.out] at ow
                  have xq := (hrd.out _ _ _ ow).1
                  have r0 := ow.at (e := 29) (z := 1) (b := r) (cs := [.slice none 0 0]) (.tail _ (.tail _ (List.mem_append_right _ (.head _)))) (j := 0) (by omega)
                  have r00 : (w7).cell? ⟨r, 0, none⟩ = some (.slice none 0 0) := r0.1
                  have r01 := r0.2
                  have hset := CurAt.set (A := (liR g n cp L') :: boxRow 29 1 q [.slice d M.length m] :: Z) (L := []) ow 0 (.slice d M.length m)
                  have y0 : ((w7).setCell ⟨r, 0, none⟩ (.slice d M.length m)).cell? ⟨r, 0, none⟩ = some (.slice d M.length m) := by go_simp
                  have hz := hset.1.rows.sub (S := (liR g n cp L') :: Z) (List.Sublist.cons_cons _ (.cons _ (List.sublist_append_left _ _)))
                  have b3 := (b7').setCell hset.2 (p := ⟨r, 0, none⟩) (.slice d M.length m)
                  have hcl := hid ((hclL.out _ hLn'.out hF2.out))
                  have hl9 := hid ((show L'.length ≤ 61 by rw [hLn'.out]; omega))
                  clear r0 hset ow
                  go_wp2_with fail
                  refine bodyPost_ret (v := .tuple #[.agg #[.slice d M.length m], av, rv, (.slice (some ⟨g, 0, none⟩) n cp)]) (by simp [results, Try.results23, go_sem, y0]) rfl ?_
                  exact ⟨d, m, av, rv, (.slice (some ⟨g, 0, none⟩) n cp), M, A, X, L', (liR g n cp L') :: Z, rfl, hM, hAl, hXl, hl9.out, by rw [← hBd.out]; exact hz, hid (fun u B' h => ⟨(hZ.out u B' h.tail).1, (hZ.out u B' h.tail).2.1, (hZ.out u B' h.tail).2.2, hcl.out u B' Z h⟩), hEw.out _ b3⟩
              · have hx1b : (x == 1) = false := beq_eq_false_iff_ne.2 hx1
                have ow := own7
                rw [← hr0.out] at ow
                have xq := (hrd.out _ _ _ ow).1
                have r0 := ow.at (e := 29) (z := 1) (b := r) (cs := [.slice none 0 0]) (.tail _ (.tail _ (List.mem_append_right _ (.head _)))) (j := 0) (by omega)
                have r00 : (w7).cell? ⟨r, 0, none⟩ = some (.slice none 0 0) := r0.1
                have r01 := r0.2
                have hset := CurAt.set (A := (liR g n cp L') :: boxRow 29 1 q [.slice d M.length m] :: Z) (L := []) ow 0 (.slice d M.length m)
                have y0 : ((w7).setCell ⟨r, 0, none⟩ (.slice d M.length m)).cell? ⟨r, 0, none⟩ = some (.slice d M.length m) := by go_simp
                have hz := hset.1.rows.sub (S := (liR g n cp L') :: Z) (List.Sublist.cons_cons _ (.cons _ (List.sublist_append_left _ _)))
                have b3 := (b7').setCell hset.2 (p := ⟨r, 0, none⟩) (.slice d M.length m)
                have hcl := hid ((hclL.out _ hLn'.out hF2.out))
                have hl9 := hid ((show L'.length ≤ 61 by rw [hLn'.out]; omega))
                clear r0 hset ow
                go_wp2_with fail
                refine bodyPost_ret (v := .tuple #[.agg #[.slice d M.length m], av, rv, (.slice (some ⟨g, 0, none⟩) n cp)]) (by simp [results, Try.results23, go_sem, y0]) rfl ?_
                exact ⟨d, m, av, rv, (.slice (some ⟨g, 0, none⟩) n cp), M, A, X, L', (liR g n cp L') :: Z, rfl, hM, hAl, hXl, hl9.out, by rw [← hBd.out]; exact hz, hid (fun u B' h => ⟨(hZ.out u B' h.tail).1, (hZ.out u B' h.tail).2.1, (hZ.out u B' h.tail).2.2, hcl.out u B' Z h⟩), hEw.out _ b3⟩
          · skip
            go_wp2_with fail
            with_reducible refine (pick_any (w0 := w0) hc own hwB (by omega) (by omega)).mono ?_
            rintro e w7 ⟨x, a7, rfl, hx0, _, hx2, h71, h72, own7, b7⟩
            have b7' := hb.trans b7
            clear own hb b7 e0o hx2
            by_cases hx0' : x = 0
            · subst hx0'
              obtain ⟨s7, o7⟩ := own7
              have o7' : Own w7 B (⟨3, 1, .slice (some ⟨g, 0, none⟩) n cp, n, L'.map (Value.int .i64)⟩ :: curRow c (.slice ac nb cc) a7 s7 :: R0) := o7.perm (List.Perm.swap _ _ _)
              have hB7 := hBs.out _ b7'
              clear o7
              go_upto_region 17 with (at_builtin; refine wpList_append1 rfl _ _ _ rfl elemInt rfl o7' hB7 rfl rfl (by omega) (by omega) ?_; intro v6 w6 ho6 hb6; obtain ⟨d6, m6, hf6⟩ := ho6.form; simp only at hf6; subst hf6)
              have b6' := b7'.trans hb6
              have hrow : (⟨3, 1, .slice d6 (n + 1) m6, n + 1, L'.map (Value.int .i64) ++ [.int .i64 1]⟩ : Row) = intRowOf 3 (.slice d6 (n + 1) m6) (L' ++ [1]) := by
                unfold intRowOf
                rw [List.length_append, List.map_append, hLn'.out]
                rfl
              rw [hrow] at ho6
              have own8 : CurAt w6 B c (.slice ac nb cc) a7 (intRowOf 3 (.slice d6 (n + 1) m6) (L' ++ [1]) :: R0) := ⟨s7, ho6.perm (List.Perm.swap _ _ _)⟩
              clear ho6 o7' hrow
              have ow := own8
              rw [← hr0.out] at ow
              have xq := (hrd.out _ _ _ ow).1
              have r0 := ow.at (e := 29) (z := 1) (b := r) (cs := [.slice none 0 0]) (.tail _ (.tail _ (List.mem_append_right _ (.head _)))) (j := 0) (by omega)
              have r00 : (w6).cell? ⟨r, 0, none⟩ = some (.slice none 0 0) := r0.1
              have r01 := r0.2
              have hset := CurAt.set (A := (intRowOf 3 (.slice d6 (n + 1) m6) (L' ++ [1])) :: boxRow 29 1 q [.slice d M.length m] :: Z) (L := []) ow 0 (.slice d M.length m)
              have y0 : ((w6).setCell ⟨r, 0, none⟩ (.slice d M.length m)).cell? ⟨r, 0, none⟩ = some (.slice d M.length m) := by go_simp
              have hz := hset.1.rows.sub (S := (intRowOf 3 (.slice d6 (n + 1) m6) (L' ++ [1])) :: Z) (List.Sublist.cons_cons _ (.cons _ (List.sublist_append_left _ _)))
              have b3 := (b6').setCell hset.2 (p := ⟨r, 0, none⟩) (.slice d M.length m)
              have hcl := hid ((show ∀ u B' S, Own u B' (intRowOf 3 (.slice d6 (n + 1) m6) (L' ++ [1]) :: S) → IsInts u (.slice d6 (n + 1) m6) (L' ++ [1]) from fun u B' S h => h.reads (by rw [List.length_append, hLn'.out]; unfold Short; simp; omega) (fun y hy => by unfold I64; rcases List.mem_append.1 hy with h | h; have := hF2.out y h; omega; rw [List.mem_singleton.1 h]; omega)))
              have hl9 := hid ((show (L' ++ [1]).length ≤ 61 by rw [List.length_append, hLn'.out]; simp; omega))
              clear r0 hset ow
              go_wp2_with fail
              refine bodyPost_ret (v := .tuple #[.agg #[.slice d M.length m], av, rv, (.slice d6 (n + 1) m6)]) (by simp [results, Try.results23, go_sem, y0]) rfl ?_
              exact ⟨d, m, av, rv, (.slice d6 (n + 1) m6), M, A, X, (L' ++ [1]), (intRowOf 3 (.slice d6 (n + 1) m6) (L' ++ [1])) :: Z, rfl, hM, hAl, hXl, hl9.out, by rw [← hBd.out]; exact hz, hid (fun u B' h => ⟨(hZ.out u B' h.tail).1, (hZ.out u B' h.tail).2.1, (hZ.out u B' h.tail).2.2, hcl.out u B' Z h⟩), hEw.out _ b3⟩
            · have hx0b : (x == 0) = false := beq_eq_false_iff_ne.2 hx0'
              have hclL := hid (show ∀ (P : List Int), P.length = n → Sm 1000030 P → ∀ u B' S, Own u B' (liR g n cp P :: S) → IsInts u (.slice (some ⟨g, 0, none⟩) n cp) P from fun P hP hS u B' S h => by
                have h1 : liR g n cp P = intRowOf 3 (.slice (some ⟨g, 0, none⟩) P.length cp) P := by unfold intRowOf; rw [hP]
                rw [h1] at h
                have := h.reads (by unfold Short; omega) (fun y hy => by have := hS y hy; unfold I64; omega)
                rw [hP] at this
                exact this)
              by_cases hx1 : x = 1
              · subst hx1
                by_cases hnz : 0 < n
                · skip
                  have hnz' : (n : Int) > 0 := by omega
                  have hB7 := hBs.out _ b7'
                  have own8 := CurAt.lit (e := 3) (n := 3) (cs := #[.int .i64 (-1), .int .i64 99999, .int .i64 100000]) own7 [-1, 99999, 100000] hB7 rfl rfl (by simp)
                  have b8 := b7'.alloc hB7 (.cells #[.int .i64 (-1), .int .i64 99999, .int .i64 100000] 3)
                  have e08 := hE.out _ b8
                  clear own7 b7'
                  go_wp2_with fail
                  with_reducible refine (among_any (w0 := w0) hc own8 hwB (by omega) (by omega) (by simp) (by simp)).mono ?_
                  rintro e w9 ⟨y, a9, rfl, hy, h91, h92, own9, b9⟩
                  have b9' := b8.trans b9
                  have hyb : -1 ≤ y ∧ y ≤ 100000 := by
                    simp only [List.mem_cons, List.not_mem_nil, or_false] at hy
                    omega
                  have own10 := own9.drop
                  obtain ⟨⟨z9, g9⟩, hset9, hBg9⟩ := own10.liAt hLn'.out hnz
                  have own11 := hset9 y
                  have b11 := b9'.setCell hBg9 (p := ⟨g, 0, none⟩) (.int .i64 y)
                  have hL3 := hid (show (L'.set 0 y).length = n by rw [List.length_set]; exact hLn'.out)
                  have hS3 := hid (show Sm 1000030 (L'.set 0 y) from hF2.out.set ⟨by omega, by omega⟩)
                  clear own8 b8 e08 own9 own10 hset9 hy
                  go_upto_region 17 with fail
                  generalize w9.setCell ⟨g, 0, none⟩ (.int .i64 y) = w11 at *
                  clear z9 g9
                  have ow := own11
                  rw [← hr0.out] at ow
                  have xq := (hrd.out _ _ _ ow).1
                  have r0 := ow.at (e := 29) (z := 1) (b := r) (cs := [.slice none 0 0]) (.tail _ (.tail _ (List.mem_append_right _ (.head _)))) (j := 0) (by omega)
                  have r00 : (w11).cell? ⟨r, 0, none⟩ = some (.slice none 0 0) := r0.1
                  have r01 := r0.2
                  have hset := CurAt.set (A := (liR g n cp (L'.set 0 y)) :: boxRow 29 1 q [.slice d M.length m] :: Z) (L := []) ow 0 (.slice d M.length m)
                  have y0 : ((w11).setCell ⟨r, 0, none⟩ (.slice d M.length m)).cell? ⟨r, 0, none⟩ = some (.slice d M.length m) := by go_simp
                  have hz := hset.1.rows.sub (S := (liR g n cp (L'.set 0 y)) :: Z) (List.Sublist.cons_cons _ (.cons _ (List.sublist_append_left _ _)))
                  have b3 := (b11).setCell hset.2 (p := ⟨r, 0, none⟩) (.slice d M.length m)
                  have hcl := hid ((hclL.out _ hL3.out hS3.out))
                  have hl9 := hid ((show (L'.set 0 y).length ≤ 61 by rw [hL3.out]; omega))
                  clear r0 hset ow
                  go_wp2_with fail
                  refine bodyPost_ret (v := .tuple #[.agg #[.slice d M.length m], av, rv, (.slice (some ⟨g, 0, none⟩) n cp)]) (by simp [results, Try.results23, go_sem, y0]) rfl ?_
                  exact ⟨d, m, av, rv, (.slice (some ⟨g, 0, none⟩) n cp), M, A, X, (L'.set 0 y), (liR g n cp (L'.set 0 y)) :: Z, rfl, hM, hAl, hXl, hl9.out, by rw [← hBd.out]; exact hz, hid (fun u B' h => ⟨(hZ.out u B' h.tail).1, (hZ.out u B' h.tail).2.1, (hZ.out u B' h.tail).2.2, hcl.out u B' Z h⟩), hEw.out _ b3⟩
                · have hnz' : ¬ (n : Int) > 0 := by omega
                  have ow := own7
                  rw [← hr0.out] at ow
                  have xq := (hrd.out _ _ _ ow).1
                  have r0 := ow.at (e := 29) (z := 1) (b := r) (cs := [.slice none 0 0]) (.tail _ (.tail _ (List.mem_append_right _ (.head _)))) (j := 0) (by omega)
                  have r00 : (w7).cell? ⟨r, 0, none⟩ = some (.slice none 0 0) := r0.1
                  have r01 := r0.2
                  have hset := CurAt.set (A := (liR g n cp L') :: boxRow 29 1 q [.slice d M.length m] :: Z) (L := []) ow 0 (.slice d M.length m)
                  have y0 : ((w7).setCell ⟨r, 0, none⟩ (.slice d M.length m)).cell? ⟨r, 0, none⟩ = some (.slice d M.length m) := by go_simp
                  have hz := hset.1.rows.sub (S := (liR g n cp L') :: Z) (List.Sublist.cons_cons _ (.cons _ (List.sublist_append_left _ _)))
                  have b3 := (b7').setCell hset.2 (p := ⟨r, 0, none⟩) (.slice d M.length m)
                  have hcl := hid ((hclL.out _ hLn'.out hF2.out))
                  have hl9 := hid ((show L'.length ≤ 61 by rw [hLn'.out]; omega))
                  clear r0 hset ow
                  go_wp2_with fail
                  refine bodyPost_ret (v := .tuple #[.agg #[.slice d M.length m], av, rv, (.slice (some ⟨g, 0, none⟩) n cp)]) (by simp [results, Try.results23, go_sem, y0]) rfl ?_
                  exact ⟨d, m, av, rv, (.slice (some ⟨g, 0, none⟩) n cp), M, A, X, L', (liR g n cp L') :: Z, rfl, hM, hAl, hXl, hl9.out, by rw [← hBd.out]; exact hz, hid (fun u B' h => ⟨(hZ.out u B' h.tail).1, (hZ.out u B' h.tail).2.1, (hZ.out u B' h.tail).2.2, hcl.out u B' Z h⟩), hEw.out _ b3⟩
              · have hx1b : (x == 1) = false := beq_eq_false_iff_ne.2 hx1
                have ow := own7
                rw [← hr0.out] at ow
                have xq := (hrd.out _ _ _ ow).1
                have r0 := ow.at (e := 29) (z := 1) (b := r) (cs := [.slice none 0 0]) (.tail _ (.tail _ (List.mem_append_right _ (.head _)))) (j := 0) (by omega)
                have r00 : (w7).cell? ⟨r, 0, none⟩ = some (.slice none 0 0) := r0.1
                have r01 := r0.2
                have hset := CurAt.set (A := (liR g n cp L') :: boxRow 29 1 q [.slice d M.length m] :: Z) (L := []) ow 0 (.slice d M.length m)
                have y0 : ((w7).setCell ⟨r, 0, none⟩ (.slice d M.length m)).cell? ⟨r, 0, none⟩ = some (.slice d M.length m) := by go_simp
                have hz := hset.1.rows.sub (S := (liR g n cp L') :: Z) (List.Sublist.cons_cons _ (.cons _ (List.sublist_append_left _ _)))
                have b3 := (b7').setCell hset.2 (p := ⟨r, 0, none⟩) (.slice d M.length m)
                have hcl := hid ((hclL.out _ hLn'.out hF2.out))
                have hl9 := hid ((show L'.length ≤ 61 by rw [hLn'.out]; omega))
                clear r0 hset ow
                go_wp2_with fail
                refine bodyPost_ret (v := .tuple #[.agg #[.slice d M.length m], av, rv, (.slice (some ⟨g, 0, none⟩) n cp)]) (by simp [results, Try.results23, go_sem, y0]) rfl ?_
                exact ⟨d, m, av, rv, (.slice (some ⟨g, 0, none⟩) n cp), M, A, X, L', (liR g n cp L') :: Z, rfl, hM, hAl, hXl, hl9.out, by rw [← hBd.out]; exact hz, hid (fun u B' h => ⟨(hZ.out u B' h.tail).1, (hZ.out u B' h.tail).2.1, (hZ.out u B' h.tail).2.2, hcl.out u B' Z h⟩), hEw.out _ b3⟩
end Go.Proofs.Ytcfhmbmagkoekaa
