/- Double coverage walked: the least cost of the program, by tables of rows. -/
import Derived.Test.YtohjbabjkjcddaaDcJ
namespace Go.Proofs.Ytohjbabjkjcddaa
open Go.RowKit Go.Maps

def lrB (a X : List Int) : Bool := rowB a && plcB X 12
def lrV (a X : List Int) : Int := if lrB a X then vU X a else 0
theorem cand_empty (V : Int) (rs : List Int) (L : Nat) (m : Int) : Cand V rs L m (.map []) := fun kl h => by rw [has_eq] at h; cases h
set_option maxHeartbeats 3200000 in
set_option maxRecDepth 100000 in
theorem implLr_any {va vX : Value} {a X : List Int} {w0 w : World} [Ext w0 w] (ha : IsInts w0 va a) (hXi : IsInts w0 vX X) :
    Calls Try.prog 8 #[va, vX] w fun e w' => e = .returned (.tuple #[.int .i64 (lrV a X), .bool (lrB a X)]) ∧ Ext w w' := by
  have ha' := ha
  have hX' := hXi
  obtain ⟨da, ca, rfl, la⟩ := ha.form
  obtain ⟨dX, cX, rfl, lX⟩ := hXi.form
  cases hB1 : rowB a with
  | false =>
    have hS := hid (show lrB a X = false by rw [lrB, hB1]; rfl)
    have hs := hid (show lrV a X = 0 by rw [lrV, hS.out]; rfl)
    go_enter Try.func8, Try.ntmps8
    go_wp2_with fail
    refine (isRow_any (w0 := w0) ha').mono ?_
    rw [hB1]
    rintro e w1 ⟨rfl, e1⟩
    go_wp2_with fail
    go_ret2
    rw [hS.out, hs.out]
    exact ⟨rfl, e1⟩
  | true =>
    cases hB2 : plcB X 12 with
    | false =>
      have hS := hid (show lrB a X = false by rw [lrB, hB1, hB2]; rfl)
      have hs := hid (show lrV a X = 0 by rw [lrV, hS.out]; rfl)
      go_enter Try.func8, Try.ntmps8
      go_wp2_with fail
      refine (isRow_any (w0 := w0) ha').mono ?_
      rw [hB1]
      rintro e w1 ⟨rfl, e1⟩
      have e01 : Ext w0 w1 := Ext.trans ‹Ext w0 w› e1
      go_wp2_with fail
      refine (arePlaces_any (w0 := w0) hX').mono ?_
      rw [hB2]
      rintro e w2 ⟨rfl, e2⟩
      go_wp2_with fail
      go_ret2
      rw [hS.out, hs.out]
      exact ⟨rfl, Ext.trans e1 e2⟩
    | true =>
      have hS := hid (show lrB a X = true by rw [lrB, hB1, hB2]; rfl)
      have hs := hid (show lrV a X = vU X a by rw [lrV, hS.out]; rfl)
      have hXb : ∀ x ∈ X, 0 ≤ x ∧ x ≤ 99 := fun x hx => by
        have h := hB2
        unfold plcB belowB at h
        rw [Bool.and_eq_true, decide_eq_true_eq, decide_eq_true_eq] at h
        have := inB_true.1 (h.2 x hx); omega
      have hXl : X.length ≤ 12 := by
        have h := hB2
        unfold plcB at h
        rw [Bool.and_eq_true, decide_eq_true_eq] at h
        omega
      obtain ⟨hl, hab, _⟩ := rowB_iff.1 hB1
      have hrow : RowS a.length a := ⟨rfl, hab⟩
      go_enter Try.func8, Try.ntmps8
      go_wp2_with fail
      refine (isRow_any (w0 := w0) ha').mono ?_
      rw [hB1]
      rintro e w1 ⟨rfl, e1⟩
      have e01 : Ext w0 w1 := Ext.trans ‹Ext w0 w› e1
      go_wp2_with fail
      refine (arePlaces_any (w0 := w0) hX').mono ?_
      rw [hB2]
      rintro e w2 ⟨rfl, e2⟩
      have ew2 : Ext w w2 := Ext.trans e1 e2
      have e02 : Ext w0 w2 := Ext.trans ‹Ext w0 w› ew2
      have hz3 : (w2.alloc (.cells #[.int .i64 0, .int .i64 0, .int .i64 0] 68)).heap[w2.heap.size]? = some (.cells #[.int .i64 0, .int .i64 0, .int .i64 0] 68 (0, 0)) := by show (w2.heap.push _)[w2.heap.size]? = some _; exact Array.getElem?_push_size
      have e23 : Ext w2 (w2.alloc (.cells #[.int .i64 0, .int .i64 0, .int .i64 0] 68)) := inferInstance
      have hsz3 : (w2.alloc (.cells #[.int .i64 0, .int .i64 0, .int .i64 0] 68)).heap.size = w2.heap.size + 1 := by go_simp
      go_upto_region 4 with fail
      obtain ⟨B, hB⟩ : ∃ b, b = w2.heap.size := ⟨_, rfl⟩
      rw [← hB] at hz3 hsz3 ⊢
      generalize w2.alloc (.cells #[.int .i64 0, .int .i64 0, .int .i64 0] 68) = w3 at *
      have e03 : Ext w0 w3 := Ext.trans e02 e23
      have ha3 := ha'.ext (w' := w3)
      have b3 : Below B w2 w3 := by rw [hB]; exact e23.below
      replace hB := hid hB
      replace hz3 := hid hz3
      have hmm := @run_makeMap Try.prog
      replace hmm := hid hmm
      go_upto_region 5 with (refine wpList_copy_st rfl (.tmp 31) (.tmp 32) rfl B _ a rfl rfl ha3 hl.1 hl.2 hz3.out ?_; intro w4 hst4 hg4)
      have b4 : Below B w2 w4 := b3.grown hg4 (by omega) (fun k hk => by cases hk; exact Nat.le_refl _)
      have hs4 : B < w4.heap.size := hst4.lt
      have hst5 := hst4.ext (w' := w4.alloc (.map #[] 0))
      obtain ⟨x0, x1, x2⟩ := hst5.cells
      have hown5 : (w4.alloc (.map #[] 0)).ownsMap Try.prog 68 (plainElem Try.prog 3) w4.heap.size 0 (.map [] : DataW Unit) := World.ownsMap_made _ _ _ _
      have b5 : Below B w2 (w4.alloc (.map #[] 0)) := b4.alloc (by omega) _
      have hs5 : (w4.alloc (.map #[] 0)).heap.size = w4.heap.size + 1 := by go_simp
      obtain ⟨bm, hbm⟩ : ∃ q, q = w4.heap.size := ⟨_, rfl⟩
      have hkey := kk_of hrow
      have hwf0 : (Lit.int .i64 0).wf = true := by decide
      have hmm := hmm.out
      rw [← hbm] at hown5 hs5 hs4
      go_wp2_with (first
        | (refine wpList_insert_own _ rfl _ _ _ 69 rfl 68 3 key3_law Try.underlying69 _ bm 0 _ (by rw [hbm]; rfl) hown5 (by unfold maxLen; omega) _ _ (kk a) rfl rfl hkey (.lit (.int .i64 0)) [] (plainElem_int Try.underlying3 hwf0) ?_; intro w6 hown6 hg6)
        | go_in)
      obtain ⟨V, hV⟩ : ∃ z, z = vU X a := ⟨_, rfl⟩
      have htab := hid (show Cand V (X.drop 0) a.length (99 * ((0 : Nat) : Int)) (DataW.put (.map []) (kk a) (.lit (.int .i64 0))) ∧ Best V (X.drop 0) a.length (DataW.put (.map []) (kk a) (.lit (.int .i64 0))) from
        ⟨cand_put (cand_empty _ _ _ _) isMap_empty hrow (Int.le_refl _) (Int.le_refl _) (by rw [hV, List.drop_zero]; omega), a, 0, hrow, at_put isMap_empty (kk_key hrow) 0, by rw [hV, List.drop_zero]; omega⟩)
      have b6 : Below B w2 w6 := b5.grown hg6 (by omega) (fun k hk => by cases hk; omega)
      rw [← hbm]
      have hbmB : B ≤ bm := by omega
      have hEx := hid (show ∀ u, Below B w2 u → Ext w2 u from fun u h => ⟨by rw [← hB.out]; exact h⟩)
      have hBl := hid (show ∀ u, Below B w2 u → B ≤ u.heap.size from fun u h => by rw [hB.out]; exact h.size)
      replace hbm := hid hbm
      replace hV := hid hV
      replace hXb := hid hXb
      clear hst5 x0 x1 x2 b5 hs5 hown5 hst4 hg4 b4 b3 ha3 e03 hz3 hsz3 e23 hs4 hB1 hB2
      go_loopw [7, 39] (fun mv i wr => ∃ (q bm n : Nat) (D : DataW Unit), q ≤ X.length ∧ i = .int .i64 q ∧ mv = .map (some bm) ∧ B ≤ bm ∧ wr.ownsMap Try.prog 68 (plainElem Try.prog 3) bm n D ∧ n ≤ 3 ^ q ∧ Hid (Cand V (X.drop q) a.length (99 * (q : Int)) D ∧ Best V (X.drop q) a.length D) ∧ Below B w2 wr) (fun _ i _ => X.length - (intOf i).toNat)
      case atStart => exact ⟨0, bm, 1, _, by omega, rfl, rfl, hbmB, hown6, by decide, htab, b6⟩
      case round =>
        clear hown6 htab b6 hbmB hg6
        obtain ⟨q, bm, n, D, hq, rfl, rfl, hbmB, hown, hn, htab, hb⟩ := hrel
        obtain ⟨wq, rfl⟩ : ∃ y : World, y = wr := ⟨_, rfl⟩
        have eq : Ext w2 wq := hEx.out _ hb
        have e0q : Ext w0 wq := Ext.trans e02 eq
        have hBq := hBl.out _ hb
        by_cases hlt : q < X.length
        · have hlt' : (q : Int) < (X.length : Int) := by omega
          obtain ⟨bX, oX, hdX, hcX⟩ := hX'.at (w' := wq) hlt
          cases hdX
          have hrb := hXb.out _ (nth_mem hlt)
          have hdr : X.drop q = nth X q :: X.drop (q + 1) := by
            rw [List.drop_eq_getElem_cons hlt]
            congr 1
            simp [nth, hlt]
          obtain ⟨r, hr⟩ : ∃ z, z = nth X q := ⟨_, rfl⟩
          obtain ⟨rs, hrs⟩ : ∃ z, z = X.drop (q + 1) := ⟨_, rfl⟩
          rw [← hr] at hcX hrb hdr
          rw [← hrs, ] at hdr
          have htab1 := hid htab.out.1
          have htab2 := htab.out.2
          rw [hdr] at htab2
          replace htab2 := hid htab2
          replace hdr := hid hdr
          replace hr := hid hr
          replace hrs := hid hrs
          have hbmw := hown.lt
          have hsize := hown.size_le
          have hownA := hown.alloc (.map #[] 0)
          have b7 : Below B w2 (wq.alloc (.map #[] 0)) := hb.alloc hBq _
          have hsz7 : (wq.alloc (.map #[] 0)).heap.size = wq.heap.size + 1 := by go_simp
          have hown7 : (wq.alloc (.map #[] 0)).ownsMap Try.prog 68 (plainElem Try.prog 3) wq.heap.size 0 (.map [] : DataW Unit) := World.ownsMap_made _ _ _ _
          go_upto_region 10 with fail
          obtain ⟨bn, hbn⟩ : ∃ z, z = wq.heap.size := ⟨_, rfl⟩
          rw [← hbn] at hown7 hsz7 hbmw hBq ⊢
          replace hbn := hid hbn
          generalize wq.alloc (.map #[] 0) = w7 at *
          go_wp2_with (first
            | (at_range; refine wpList_range_own _ rfl _ 69 rfl 68 3 key3_law Try.underlying69 _ bm n D rfl hownA ?_; intro w8 hrg8 hg8 hs8)
            | go_in)
          go_frame
          rw [hsz7] at hrg8 hs8 ⊢
          have hown8 := hown7.kept hg8 (by simp)
          have b8 : Below B w2 w8 := b7.grown hg8 (by omega) (fun k hk => by cases hk)
          have hin8 := hid (show Cand V rs a.length (99 * ((q : Int) + 1)) (.map []) ∧ (∀ kl, has D kl = true → has D kl = true) ∧ ∀ s c, RowS a.length s → At D (kk s) c → has D (kk s) = false → Done r (.map []) s c a.length from
            ⟨cand_empty _ _ _ _, fun _ h => h, fun s c _ h1 h2 => by rw [h1.1] at h2; cases h2⟩)
          clear hownA b7 hown7 hg8
          go_loopw [12] (fun _ wi => ∃ (left : Lit → Bool) (cnt n' : Nat) (D' : DataW Unit), wi.ranges Try.prog 68 (plainElem Try.prog 3) bm (bn + 1) n D left cnt ∧ cnt ≤ Maps.size D ∧ wi.ownsMap Try.prog 68 (plainElem Try.prog 3) bn n' D' ∧ n' + 3 * cnt ≤ 3 * Maps.size D ∧
              Hid (Cand V rs a.length (99 * ((q : Int) + 1)) D' ∧ (∀ kl, left kl = true → has D kl = true) ∧ ∀ s c, RowS a.length s → At D (kk s) c → left (kk s) = false → Done r D' s c a.length) ∧ Below B w2 wi)
            (fun _ wi => wi.rangeLeft bm (bn + 1))
          case atStart => exact ⟨_, _, 0, _, hrg8, Nat.le_refl _, hown8, by omega, hin8, b8⟩
          case round =>
            clear hrg8 hs8 hown8 b8 hin8
            obtain ⟨left, cnt, n', D', hrg, hcs, hown', hnc, hin, hbi⟩ := hrel
            obtain ⟨wi, rfl⟩ : ∃ y : World, y = wr := ⟨_, rfl⟩
            go_upto_region 11 with fail
            go_wp2_with (first
              | (at_next; refine wpList_next_ranges _ rfl _ rfl 68 key3_law (plainElem Try.prog 3) (fun v : Value => v) (Value.int .i64) (fun key kl _ => ⟨key, rfl⟩) (fun v y h => by obtain ⟨c, e, _, _⟩ := plainElem_int_inv Try.underlying3 h; exact ⟨c, e⟩) bm (bn + 1) n D left cnt rfl hrg ?_ ?_)
              | go_in)
            · intro hc0 hl0
              have hB2 := hid (best_next (V := V) (r := r) (rs := rs) (L := a.length) (D := D) (D' := D') (m := 99 * ((q : Int) + 1)) (by omega) hl.2 htab2.out hin.out.1 (fun s c h1 h2 => hin.out.2.2 s c h1 h2 (hl0 _)) hrb)
              have hC2 := hid hin.out.1
              have hn3 : n' ≤ 3 ^ (q + 1) := by rw [Nat.pow_succ]; omega
              go_wp2_with fail
              go_roundw
              case rel => exact ⟨q + 1, bn, n', D', by omega, by go_num, rfl, hBq, hown', hn3, hid ⟨by rw [← hrs.out]; simpa using hC2.out, by rw [← hrs.out]; exact hB2.out⟩, hbi⟩
              case measure => simp [intOf]; omega
            · intro key c kl y ps w9 cnt1 hkey hlk hR hat hrg9 hlt9 hg9 hs9 hen
              obtain ⟨s, c0, hsr, rfl, hAt, hc0, hc1, hc2⟩ := htab1.out _ (hin.out.2.1 _ hlk)
              obtain ⟨c', hc', hy, hwf⟩ := plainElem_int_inv Try.underlying3 hR
              cases hc'
              have hy1 : y = .lit (.int .i64 c) := congrArg Prod.fst hy
              have hcc : c0 = c := by
                have h1 := hat (.lit (.int .i64 0))
                rw [hAt.2, hy1] at h1
                simpa using h1
              subst hcc
              have hkv := key_val (hsr.i64 0) (hsr.i64 1) (hsr.i64 2) hkey
              subst hkv
              have hcv := hc2
              rw [hdr.out] at hcv
              replace hc2 := hid hc2
              replace hcv := hid hcv
              have hz10 : (w9.alloc (.cells #[.int .i64 (nth s 0), .int .i64 (nth s 1), .int .i64 (nth s 2)] 68)).heap[w9.heap.size]? = some (.cells #[.int .i64 (nth s 0), .int .i64 (nth s 1), .int .i64 (nth s 2)] 68 (0, 0)) := by show (w9.heap.push _)[w9.heap.size]? = some _; exact Array.getElem?_push_size
              have hst : StB (w9.alloc (.cells #[.int .i64 (nth s 0), .int .i64 (nth s 1), .int .i64 (nth s 2)] 68)) w9.heap.size s := hz10
              have hB9 : bn + 1 < w9.heap.size := hrg9.lt
              have hrgA := hrg9.alloc (.cells #[.int .i64 (nth s 0), .int .i64 (nth s 1), .int .i64 (nth s 2)] 68)
              have hownA := (hown'.kept hg9 (fun e => by have := Option.some.inj e; omega)).alloc (.cells #[.int .i64 (nth s 0), .int .i64 (nth s 1), .int .i64 (nth s 2)] 68)
              have b9 : Below B w2 w9 := hbi.grown hg9 (hBl.out _ hbi) (fun k hk => by cases hk; omega)
              have bA := b9.alloc (hBl.out _ b9) (.cells #[.int .i64 (nth s 0), .int .i64 (nth s 1), .int .i64 (nth s 2)] 68)
              have hleq := hid hrg.left_eq
              clear hz10 hkey hR hat hy hy1 hg9 hs9 hrg hown'
              go_upto_region 13 with fail
              obtain ⟨gA, hgA⟩ : ∃ z, z = w9.heap.size := ⟨_, rfl⟩
              rw [← hgA] at hst hB9 ⊢
              replace hgA := hid hgA
              generalize w9.alloc (.cells #[.int .i64 (nth s 0), .int .i64 (nth s 1), .int .i64 (nth s 2)] 68) = wA at *
              clear hen
              have hsl := hsr.1
              have hinA := hid (show Cand V rs a.length (99 * ((q : Int) + 1)) D' ∧ Le D' D' ∧ Done r D' s c0 0 from ⟨hin.out.1, Le.refl _, fun k hk => absurd hk (Nat.not_lt_zero _)⟩)
              replace hsl := hid hsl
              go_wp2_with fail
              go_loopw [53] (fun jv wl => ∃ (k n2 : Nat) (D2 : DataW Unit), k ≤ a.length ∧ jv = .int .i64 k ∧ wl.ranges Try.prog 68 (plainElem Try.prog 3) bm (bn + 1) n D (fun z => left z && !z.sameKey (kk s)) cnt1 ∧ wl.ownsMap Try.prog 68 (plainElem Try.prog 3) bn n2 D2 ∧ n2 ≤ n' + k ∧ StB wl gA s ∧
                  Hid (Cand V rs a.length (99 * ((q : Int) + 1)) D2 ∧ Le D' D2 ∧ Done r D2 s c0 k) ∧ Below B w2 wl) (fun jv _ => a.length - (intOf jv).toNat)
              case atStart => exact ⟨0, n', D', by omega, rfl, hrgA, hownA, by omega, hst, hinA, bA⟩
              case round =>
                clear hrgA hownA hst hinA bA
                obtain ⟨k, n2, D2, hk, rfl, hrgl, hownl, hn2, hst, hinl, hbl⟩ := hrel
                obtain ⟨wl, rfl⟩ : ∃ y : World, y = wr := ⟨_, rfl⟩
                by_cases hka : k < a.length
                · have hka' : (k : Int) < (a.length : Int) := by omega
                  have hk3 : k < 3 := by omega
                  have hk3' : (k : Int) < 3 := by omega
                  have hal : (a.length : Int) ≤ 3 := by omega
                  have hks : k < s.length := by rw [hsl.out]; exact hka
                  have el : Ext w2 wl := hEx.out _ hbl
                  have hBl2 := hBl.out _ hbl
                  have hck := hst.at hk3
                  have hpm : nth s k ∈ s := nth_mem hks
                  have hpb := hsr.nth k
                  have hmr := hid (mv_row hsr hrb hks)
                  have hmv := hid (mv_val (r := r) rs hks)
                  have hvu := hid (vU_step (r := r) (rs := rs) hks)
                  have hri : I64 r := by unfold I64; omega
                  have hMv := fun (u : World) (hu : StB u gA s) => moved_any (w0 := u) (w := u) (v := .slice (some ⟨gA, 0, none⟩) s.length 3) (a := s) (p := nth s k) (r := r) (hu.ints hsr hl.2) hpm hri
                  rw [hsl.out] at hMv
                  obtain ⟨x, hx⟩ : ∃ z, z = nth s k := ⟨_, rfl⟩
                  rw [← hx] at hck hpb hMv
                  replace hx := hid hx
                  replace hMv := hid hMv
                  replace hpm := hid hpm
                  replace hks := hid hks
                  go_upto_region 16 with fail
                  refine region_held_from (w0 := wl) (S := fun u => Ext wl u ∧ u.cell? ⟨gA, k, none⟩ = some (.int .i64 x)) (by kernel_rfl) (fun u e => ⟨e, e.cell hck⟩) (fun wd ed hHeld0 => ?_)
                  refine wpAnyH_take (i := 0) (v := .slice da a.length ca) rfl (by kernel_rfl) (by kernel_rfl) (by kernel_rfl) (fun _ _ _ h => h) (Or.inl ⟨by rfl, by intro wx hx; go_simp⟩) (by assumption) ?_
                  try simp only [List.getElem_toArray, List.getElem_cons_zero, Act.put, List.setIfInBounds_toArray, List.set_cons_zero, List.set_cons_succ]
                  refine wpAnyH_take (i := 1) (v := .int .i64 a.length) rfl (by kernel_rfl) (by kernel_rfl) (by kernel_rfl) (fun _ _ _ h => h) (Or.inl ⟨by rfl, by intro wx hx; go_simp⟩) (by assumption) ?_
                  try simp only [List.getElem_toArray, List.getElem_cons_succ, List.getElem_cons_zero, Act.put, List.setIfInBounds_toArray, List.set_cons_zero, List.set_cons_succ]
                  refine wpAnyH_take (i := 2) (v := .slice (some ⟨gA, 0, none⟩) a.length 3) rfl (by kernel_rfl) (by kernel_rfl) (by kernel_rfl) (fun _ _ _ h => h) (Or.inl ⟨by rfl, by intro wx hx; go_simp⟩) (by assumption) ?_
                  try simp only [List.getElem_toArray, List.getElem_cons_succ, List.getElem_cons_zero, Act.put, List.setIfInBounds_toArray, List.set_cons_zero, List.set_cons_succ]
                  refine wpAnyH_take (i := 3) (v := .int .i64 k) rfl (by kernel_rfl) (by kernel_rfl) (by kernel_rfl) (fun _ _ _ h => h) (Or.inl ⟨by rfl, by intro wx hx; go_simp⟩) (by assumption) ?_
                  try simp only [List.getElem_toArray, List.getElem_cons_succ, List.getElem_cons_zero, Act.put, List.setIfInBounds_toArray, List.set_cons_zero, List.set_cons_succ]
                  refine wpAnyH_take (i := 4) (v := .pointer (some ⟨gA, k, none⟩)) rfl (by kernel_rfl) (by kernel_rfl) (by kernel_rfl) (fun _ _ _ h => h) (Or.inl ⟨by rfl, by intro wx hx; go_simp⟩) (by assumption) ?_
                  try simp only [List.getElem_toArray, List.getElem_cons_succ, List.getElem_cons_zero, Act.put, List.setIfInBounds_toArray, List.set_cons_zero, List.set_cons_succ]
                  refine wpAnyH_take (i := 5) (v := .int .i64 x) rfl (by kernel_rfl) (by kernel_rfl) (by kernel_rfl) (fun _ _ _ h => h) (Or.inl ⟨by rfl, by intro wx hx; obtain ⟨_, _⟩ := hx; go_simp⟩) (by assumption) ?_
                  try simp only [List.getElem_toArray, List.getElem_cons_succ, List.getElem_cons_zero, Act.put, List.setIfInBounds_toArray, List.set_cons_zero, List.set_cons_succ]
                  refine wpAnyH_take (i := 6) (v := .int .i64 r) rfl (by kernel_rfl) (by kernel_rfl) (by kernel_rfl) (fun _ _ _ h => h) (Or.inl ⟨by rfl, by intro wx hx; go_simp⟩) (by assumption) ?_
                  try simp only [List.getElem_toArray, List.getElem_cons_succ, List.getElem_cons_zero, Act.put, List.setIfInBounds_toArray, List.set_cons_zero, List.set_cons_succ]
                  refine wpAnyH_ready (rs := [7]) (by kernel_rfl) (by simp) ?_
                  refine AllReadyH.cons rfl (fun K hK => ?_) AllReadyH.nil
                  go_simp
                  refine (hMv.out wd hst.ext).mono ?_
                  rintro e we ⟨d, m, rfl, ownm, eme⟩
                  have ele : Ext wl we := Ext.trans ed eme
                  go_wp2_with fail
                  refine hK.out _ _ ⟨ele, ele.cell hck⟩ (fun hHeld1 => ?_)
                  clear hK K hHeld0
                  try simp only [List.getElem_toArray, List.getElem_cons_succ, List.getElem_cons_zero, Act.put, List.setIfInBounds_toArray, List.set_cons_zero, List.set_cons_succ]
                  refine wpAnyH_take (i := 8) (v := .slice d a.length m) rfl (by kernel_rfl) (by kernel_rfl) (by kernel_rfl) (fun _ _ _ h => h) (Or.inl ⟨by rfl, by intro wx hx; go_simp⟩) (by assumption) ?_
                  try simp only [List.getElem_toArray, List.getElem_cons_succ, List.getElem_cons_zero, Act.put, List.setIfInBounds_toArray, List.set_cons_zero, List.set_cons_succ]
                  refine wpAnyH_done (by kernel_rfl) ?_ _
                  have hmvx : movL s x r = mvR s k r := by rw [hx.out]; rfl
                  rw [hmvx] at ownm
                  have hMi : IsInts we (.slice d a.length m) (mvR s k r) := ownm.reads (e := 3) (by unfold Short; have := hmr.out.1; omega) (fun y hy => by have := hmr.out.2 y hy; unfold I64; omega)
                  have hzB : (we.alloc (.cells #[.int .i64 0, .int .i64 0, .int .i64 0] 68)).heap[we.heap.size]? = some (.cells #[.int .i64 0, .int .i64 0, .int .i64 0] 68 (0, 0)) := by show (we.heap.push _)[we.heap.size]? = some _; exact Array.getElem?_push_size
                  have hMi2 := hMi.ext (w' := we.alloc (.cells #[.int .i64 0, .int .i64 0, .int .i64 0] 68))
                  have hwl1 := hrgl.lt
                  have hwl2 := hownl.lt
                  have hwl3 := hst.lt
                  have hwe := ele.size
                  have hrgf := (hrgl.kept (ext_grown3 (w := wl) (w' := we) none) (by simp) (by simp)).alloc (.cells #[.int .i64 0, .int .i64 0, .int .i64 0] 68)
                  have hownf := (hownl.kept (ext_grown3 (w := wl) (w' := we) none) (by simp)).alloc (.cells #[.int .i64 0, .int .i64 0, .int .i64 0] 68)
                  have hstf := hst.ext (w' := we.alloc (.cells #[.int .i64 0, .int .i64 0, .int .i64 0] 68))
                  have be : Below B w2 we := hbl.trans (ele.below.mono hBl2)
                  have bf := be.alloc (hBl.out _ be) (.cells #[.int .i64 0, .int .i64 0, .int .i64 0] 68)
                  clear hrgl hownl hst hMi hck ownm
                  go_upto_region 18 with fail
                  obtain ⟨gB, hgB⟩ : ∃ z, z = we.heap.size := ⟨_, rfl⟩
                  rw [← hgB] at hzB hwe ⊢
                  replace hgB := hid hgB
                  generalize we.alloc (.cells #[.int .i64 0, .int .i64 0, .int .i64 0] 68) = wf at *
                  replace hzB := hid hzB
                  have hml := hid hmr.out.1
                  go_upto_region 19 with (refine wpList_copy_st rfl (.tmp 65) (.tmp 66) rfl gB _ (mvR s k r) rfl rfl hMi2 (by have := hml.out; omega) (by have := hml.out; omega) hzB.out ?_; intro wg hstB hgg)
                  have hBgB : B ≤ gB := by have := hBl.out _ be; omega
                  have hrgg := hrgf.kept hgg (fun e => by have := Option.some.inj e; omega) (fun e => by have := Option.some.inj e; omega)
                  have howng := hownf.kept hgg (fun e => by have := Option.some.inj e; omega)
                  have hstg := hstf.grown hgg (fun e => by have := Option.some.inj e; omega)
                  have bg : Below B w2 wg := bf.grown hgg (hBl.out _ bf) (fun z hz => by cases hz; exact hBgB)
                  have hck := hstg.at hk3
                  rw [← hx.out] at hck
                  have hsz := fun (u : World) => size_any (n := x - r) (by omega) (by omega) u
                  replace hsz := hid hsz
                  clear hrgf hownf hstf hMi2
                  go_wp2_with fail
                  refine (hsz.out wg).mono ?_
                  rintro e wh ⟨rfl, eh⟩
                  obtain ⟨C, hC⟩ : ∃ z, z = c0 + ((x - r).natAbs : Nat) := ⟨_, rfl⟩
                  have hCd := hid (show C = c0 + dst (nth s k) r by rw [hC, ← hx.out]; rfl)
                  have hrgh := hrgg.kept (ext_grown3 (w := wg) (w' := wh) none) (by simp) (by simp)
                  have hownh := howng.kept (ext_grown3 (w := wg) (w' := wh) none) (by simp)
                  have hsth := hstg.ext (w' := wh)
                  have hstBh := hstB.ext (w' := wh)
                  have bh : Below B w2 wh := bg.trans (eh.below.mono (hBl.out _ bg))
                  obtain ⟨y0, y1, y2⟩ := hstBh.cells
                  have hkeyt := kk_of hmr.out
                  have hCb : c0 ≤ C ∧ C ≤ c0 + 99 := by rw [hC]; omega
                  have hq12 : (q : Int) ≤ 12 := by omega
                  have hcost0 : 0 ≤ C := by omega
                  have hcost1 : C ≤ 99 * ((q : Int) + 1) := by omega
                  have hcost2 : V ≤ C + vU rs (mvR s k r) := by have h1 := hcv.out; have h2 := hvu.out; have h3 := hmv.out; have h4 := hCd.out; omega
                  have hwfC : (Lit.int .i64 C).wf = true := wf3_of (by unfold I64; omega)
                  have hmapD := hownh.isMap
                  have hn5 : n ≤ 531441 := Nat.le_trans hn (Nat.le_trans (Nat.pow_le_pow_right (by omega) (show q ≤ 12 by omega)) (by decide))
                  replace hcost2 := hid hcost2
                  replace hC := hid hC
                  clear hrgg howng hstg
                  go_upto_region 20 with fail
                  rw [← hC.out]
                  go_upto_region 21 with (first
                    | (at_lookup; refine wpList_lookup_own_ok_int _ rfl _ _ 69 rfl 68 3 .i64 key3_law Try.underlying69 Try.underlying3 (zeroInt3 _) bn n2 D2 rfl hownh _ _ rfl hkeyt ?_; intro o hato hwo)
                    | go_in)
                  cases hhas : has D2 (kk (mvR s k r)) with
                  | false =>
                    have hhas' := hid hhas
                    have hcan := hid (cand_put hinl.out.1 hmapD hmr.out hcost0 hcost1 hcost2)
                    have hle := le_put hmapD (kk_key hmr.out) (c := C) (fun o' ho' => by have h1 := ho'.1; rw [hhas] at h1; cases h1)
                    have hdone := hid ((hinl.out.2.2.le hle).step (at_put hmapD (kk_key hmr.out) C) (by rw [← hCd.out]; exact Int.le_refl _))
                    have hleD := hid (show Le D' (D2.put (kk (mvR s k r)) (.lit (.int .i64 C))) from fun kl o' ho' => by
                      obtain ⟨o1, h1, h2⟩ := hinl.out.2.1 kl o' ho'
                      obtain ⟨o2, h3, h4⟩ := hle kl o1 h1
                      exact ⟨o2, h3, by omega⟩)
                    replace hle := hid hle
                    go_wp2_with (first
                      | (at_mapUpdate; refine wpList_mapUpdate_own _ rfl _ _ _ 69 rfl 68 3 key3_law Try.underlying69 _ bn n2 D2 rfl hownh (by unfold maxLen; omega) _ _ (kk (mvR s k r)) rfl rfl hkeyt (.lit (.int .i64 C)) [] (plainElem_int Try.underlying3 hwfC) ?_; intro wu hownu hgu)
                      | go_in)
                    have hrgu := hrgh.kept hgu (fun e => by have := Option.some.inj e; omega) (fun e => by have := Option.some.inj e; omega)
                    have hstu := hsth.grown hgu (fun e => by have := Option.some.inj e; omega)
                    have bu : Below B w2 wu := bh.grown hgu (hBl.out _ bh) (fun z hz => by cases hz; omega)
                    go_roundw
                    case rel => exact ⟨k + 1, n2 + 1, _, by omega, by go_num, hrgu, hownu, by omega, hstu, hid ⟨hcan.out, hleD.out, hdone.out⟩, bu⟩
                    case measure => simp [intOf]; omega
                  | true =>
                    obtain ⟨o', hao, hoc⟩ : ∃ o', At D2 (kk (mvR s k r)) o' ∧ o = o' := by
                      obtain ⟨s1, c1, _, _, h3, _⟩ := hinl.out.1 _ hhas
                      refine ⟨c1, h3, ?_⟩
                      have h4 := hato
                      rw [h3.2] at h4
                      simpa using h4.symm
                    subst hoc
                    replace hhas := hid hhas
                    replace hato := hid hato
                    by_cases hco : C < o
                    · skip
                      have hcan := hid (cand_put hinl.out.1 hmapD hmr.out hcost0 hcost1 hcost2)
                      have hle := le_put hmapD (kk_key hmr.out) (c := C) (fun o' ho' => by have h1 := ho'.uniq hao; omega)
                      have hdone := hid ((hinl.out.2.2.le hle).step (at_put hmapD (kk_key hmr.out) C) (by rw [← hCd.out]; exact Int.le_refl _))
                      have hleD := hid (show Le D' (D2.put (kk (mvR s k r)) (.lit (.int .i64 C))) from fun kl o' ho' => by
                        obtain ⟨o1, h1, h2⟩ := hinl.out.2.1 kl o' ho'
                        obtain ⟨o2, h3, h4⟩ := hle kl o1 h1
                        exact ⟨o2, h3, by omega⟩)
                      replace hle := hid hle
                      go_wp2_with (first
                        | (at_mapUpdate; refine wpList_mapUpdate_own _ rfl _ _ _ 69 rfl 68 3 key3_law Try.underlying69 _ bn n2 D2 rfl hownh (by unfold maxLen; omega) _ _ (kk (mvR s k r)) rfl rfl hkeyt (.lit (.int .i64 C)) [] (plainElem_int Try.underlying3 hwfC) ?_; intro wu hownu hgu)
                        | go_in)
                      have hrgu := hrgh.kept hgu (fun e => by have := Option.some.inj e; omega) (fun e => by have := Option.some.inj e; omega)
                      have hstu := hsth.grown hgu (fun e => by have := Option.some.inj e; omega)
                      have bu : Below B w2 wu := bh.grown hgu (hBl.out _ bh) (fun z hz => by cases hz; omega)
                      go_roundw
                      case rel => exact ⟨k + 1, n2 + 1, _, by omega, by go_num, hrgu, hownu, by omega, hstu, hid ⟨hcan.out, hleD.out, hdone.out⟩, bu⟩
                      case measure => simp [intOf]; omega
                    · have hdone := hid (hinl.out.2.2.step (c' := o) hao (by rw [← hCd.out]; omega))
                      go_wp2_with fail
                      go_roundw
                      case rel => exact ⟨k + 1, n2, D2, by omega, by go_num, hrgh, hownh, by omega, hsth, hid ⟨hinl.out.1, hinl.out.2.1, hdone.out⟩, bh⟩
                      case measure => simp [intOf]; omega
                · have hkn : k = a.length := by omega
                  have hgt : ¬ (k : Int) < (a.length : Int) := by omega
                  have hfin := hid (show Cand V rs a.length (99 * ((q : Int) + 1)) D2 ∧ (∀ z, (left z && !z.sameKey (kk s)) = true → has D z = true) ∧ ∀ s' c', RowS a.length s' → At D (kk s') c' → (left (kk s') && !(kk s').sameKey (kk s)) = false → Done r D2 s' c' a.length from by
                    refine ⟨hinl.out.1, fun z hz => ?_, fun s' c' h1 h2 h3 => ?_⟩
                    · rw [Bool.and_eq_true] at hz
                      exact hin.out.2.1 z hz.1
                    · cases hlf : left (kk s') with
                      | false => exact (hin.out.2.2 s' c' h1 h2 hlf).le hinl.out.2.1
                      | true =>
                        by_cases he : kk s' = kk s
                        · have e1 := kk_inj h1 hsr hl.2 he
                          subst e1
                          rw [h2.uniq hAt, ← hkn]
                          exact hinl.out.2.2
                        · rw [hlf, sameKey_ne he] at h3
                          simp at h3)
                  replace hkn := hid hkn
                  have hnn : n2 + 3 * cnt1 ≤ 3 * Maps.size D := by omega
                  have hcs1 : cnt1 ≤ Maps.size D := by omega
                  go_wp2_with fail
                  go_roundw
                  case rel => exact ⟨_, cnt1, n2, D2, hrgl, hcs1, hownl, hnn, hfin, hbl⟩
                  case measure => rw [hrgl.left_eq, hleq.out]; omega
        · have hqn : q = X.length := by omega
          have hgt : ¬ (q : Int) < (X.length : Int) := by omega
          have hnil : X.drop q = [] := List.drop_eq_nil_of_le (by omega)
          have hC := htab.out.1
          have hBs := htab.out.2
          rw [hnil] at hC hBs
          replace hC := hid hC
          replace hBs := hid hBs
          replace hqn := hid hqn
          replace hnil := hid hnil
          have hVb : 0 ≤ V ∧ V ≤ 1188 := by
            have h1 := vU_nn X a
            have h2 := vU_le X (a := a) (by omega) hXb.out hab
            rw [hV.out]; omega
          go_wp2_with (first
            | (at_range; refine wpList_range_own _ rfl _ 69 rfl 68 3 key3_law Try.underlying69 _ bm n D rfl hown ?_; intro w8 hrg8 hg8 hs8)
            | go_in)
          try go_frame
          have hbmw := hown.lt
          obtain ⟨rI, hrI⟩ : ∃ z, z = wq.heap.size := ⟨_, rfl⟩
          rw [← hrI] at hrg8 hbmw hBq ⊢
          have b8 : Below B w2 w8 := hb.grown hg8 (by omega) (fun k hk => by cases hk)
          have hin8 := hid (show (∀ kl, has D kl = true → has D kl = true) ∧ ∀ s c, RowS a.length s → At D (kk s) c → has D (kk s) = false → (1073741824 : Int) ≤ c from ⟨fun _ h => h, fun s c _ h1 h2 => by rw [h1.1] at h2; cases h2⟩)
          clear hown hg8 hs8
          replace hrI := hid hrI
          go_loopw [19] (fun lv wi => ∃ (left : Lit → Bool) (cnt : Nat) (least : Int), lv = .int .i64 least ∧ wi.ranges Try.prog 68 (plainElem Try.prog 3) bm rI n D left cnt ∧ (V ≤ least ∧ least ≤ 1073741824) ∧
              Hid ((∀ kl, left kl = true → has D kl = true) ∧ ∀ s c, RowS a.length s → At D (kk s) c → left (kk s) = false → least ≤ c) ∧ Below B w2 wi)
            (fun _ wi => wi.rangeLeft bm rI)
          case atStart => exact ⟨_, _, _, rfl, hrg8, by omega, hin8, b8⟩
          case round =>
            clear hrg8 hin8 b8
            obtain ⟨left, cnt, least, rfl, hrg, hlb, hin, hbi⟩ := hrel
            obtain ⟨wi, rfl⟩ : ∃ y : World, y = wr := ⟨_, rfl⟩
            go_upto_region 28 with fail
            go_wp2_with (first
              | (at_next; refine wpList_next_ranges _ rfl _ rfl 68 key3_law (plainElem Try.prog 3) (fun v : Value => v) (Value.int .i64) (fun key kl _ => ⟨key, rfl⟩) (fun v y h => by obtain ⟨c, e, _, _⟩ := plainElem_int_inv Try.underlying3 h; exact ⟨c, e⟩) bm rI n D left cnt rfl hrg ?_ ?_)
              | go_in)
            · intro hc0 hl0
              have hres := hid (show least = lrV a X by
                rw [hs.out, ← hV.out]
                obtain ⟨s, c, h1, h2, h3⟩ := hBs.out
                have h4 := hin.out.2 s c h1 h2 (hl0 _)
                have h5 : vU [] s = 0 := rfl
                omega)
              go_wp2_with fail
              go_ret2
              rw [hS.out, ← hres.out]
              exact ⟨rfl, Ext.trans ew2 (hEx.out _ hbi)⟩
            · intro key c kl y ps w9 cnt1 hkey hlk hR hat hrg9 hlt9 hg9 hs9 hen
              obtain ⟨s, c0, hsr, rfl, hAt, hc0, hc1, hc2⟩ := hC.out _ (hin.out.1 _ hlk)
              obtain ⟨c', hc', hy, hwf⟩ := plainElem_int_inv Try.underlying3 hR
              cases hc'
              have hy1 : y = .lit (.int .i64 c) := congrArg Prod.fst hy
              have hcc : c0 = c := by
                have h1 := hat (.lit (.int .i64 0))
                rw [hAt.2, hy1] at h1
                simpa using h1
              subst hcc
              have h5 : vU [] s = 0 := rfl
              rw [h5] at hc2
              have b9 : Below B w2 w9 := hbi.grown hg9 (hBl.out _ hbi) (fun k hk => by cases hk; omega)
              have hleq := hid hrg.left_eq
              obtain ⟨M, hM⟩ : ∃ z, z = min least c0 := ⟨_, rfl⟩
              have hfin := hid (show (∀ z, (left z && !z.sameKey (kk s)) = true → has D z = true) ∧ ∀ s' c', RowS a.length s' → At D (kk s') c' → (left (kk s') && !(kk s').sameKey (kk s)) = false → M ≤ c' from by
                refine ⟨fun z hz => ?_, fun s' c' h1 h2 h3 => ?_⟩
                · rw [Bool.and_eq_true] at hz
                  exact hin.out.1 z hz.1
                · cases hlf : left (kk s') with
                  | false => have := hin.out.2 s' c' h1 h2 hlf; omega
                  | true =>
                    by_cases he : kk s' = kk s
                    · have e1 := kk_inj h1 hsr hl.2 he
                      subst e1
                      have := h2.uniq hAt
                      omega
                    · rw [hlf, sameKey_ne he] at h3
                      simp at h3)
              have hMb : V ≤ M ∧ M ≤ 1073741824 := by omega
              replace hM := hid hM
              go_wp2_with fail
              rw [← hM.out]
              go_roundw
              case rel => exact ⟨_, cnt1, M, rfl, hrg9, hMb, hfin, b9⟩
              case measure => rw [hrg9.left_eq, hleq.out]; exact hlt9
end Go.Proofs.Ytohjbabjkjcddaa
