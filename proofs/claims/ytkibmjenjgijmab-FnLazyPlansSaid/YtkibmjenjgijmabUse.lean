/- The last earlier and the next later places with the same item: the program's. -/
import Derived.Test.YtkibmjenjgijmabMbP
import Derived.Test.YtkibmjenjgijmabGrG
import Derived.Test.YtkibmjenjgijmabGrA
namespace Go.Proofs.Ytkibmjenjgijmab
open Go.RowKit

def lsUs (X : List Int) (t : Nat) : List Int := (List.range t).map (lsU X)
theorem lsUs_len (X : List Int) (t : Nat) : (lsUs X t).length = t := by simp [lsUs]
theorem lsUs_succ (X : List Int) (t : Nat) : lsUs X (t + 1) = lsUs X t ++ [lsU X t] := by simp [lsUs, List.range_succ]
theorem lsUs_at {X : List Int} {t i : Nat} (h : i < t) : nth (lsUs X t) i = lsU X i := by simp [lsUs, nth, h]

theorem Own.readsN {w : World} {B e n : Nat} {v : Value} {xs : List Int} {R : List Row} (h : Own w B (⟨e, 1, v, n, xs.map (Value.int .i64)⟩ :: R)) (hn : xs.length = n) (hs : n ≤ 1000000) (hi : ∀ x ∈ xs, I64 x) : IsInts w v xs := by
  subst hn
  exact Own.reads (e := e) h (by unfold Short; omega) hi
theorem lsUs_i64 {X : List Int} {t : Nat} (h : t ≤ 1000) : ∀ y ∈ lsUs X t, I64 y := fun y hy => by
  obtain ⟨i, hi, rfl⟩ := List.mem_map.1 hy
  have := lsF_bd X (nth X i) i
  have h2 := List.mem_range.1 hi
  unfold lsU I64
  omega

set_option maxHeartbeats 800000 in
set_option maxRecDepth 100000 in
theorem lastUses_any {v : Value} {X : List Int} {w0 w : World} [Ext w0 w] (hX : IsInts w0 v X) (hl : X.length ≤ 1000) :
    Calls Try.prog 96 #[v] w fun e w' => ∃ d m, e = .returned (.slice d X.length m) ∧ Own w' w.heap.size [⟨3, 1, .slice d X.length m, X.length, (lsUs X X.length).map (Value.int .i64)⟩] ∧ Ext w w' := by
  have hX' := hX
  obtain ⟨da, ma, rfl, la⟩ := hX.form
  obtain ⟨B, hB⟩ : ∃ b, b = w.heap.size := ⟨_, rfl⟩
  have hEx := hid (show ∀ u, Below B w u → Ext w u from fun u h => ⟨by rw [← hB]; exact h⟩)
  have own1 : Own (w.alloc (.cells #[] 3)) B [⟨3, 1, .slice (some ⟨B, 0, none⟩) 0 0, 0, ((lsUs X 0)).map (Value.int .i64)⟩] := by
    rw [hB]
    exact Own.litInts (xs := []) (Nat.le_refl _) rfl rfl (by simp) rfl
  have b1 : Below B w (w.alloc (.cells #[] 3)) := by rw [hB]; exact (Below.refl _ w).alloc (Nat.le_refl _) _
  go_enter Try.func96, Try.ntmps96
  go_upto_region 2 with fail
  rw [← hB]
  replace hB := hid hB
  generalize w.alloc (.cells #[] 3) = w1 at *
  go_wp2_with fail
  go_loopw [3, 10] (fun u i wr => ∃ t : Nat, t ≤ X.length ∧ i = .int .i64 t ∧ Own wr B [⟨3, 1, u, t, (lsUs X t).map (Value.int .i64)⟩] ∧ Below B w wr) (fun _ i _ => X.length - (intOf i).toNat)
  case atStart => exact ⟨0, by omega, rfl, own1, b1⟩
  case round =>
    clear own1 b1
    obtain ⟨t, ht, rfl, own, hb⟩ := hrel
    obtain ⟨wo, rfl⟩ : ∃ y : World, y = wr := ⟨_, rfl⟩
    obtain ⟨dO, mO, hvO⟩ := own.form
    simp only at hvO
    subst hvO
    have eo : Ext w wo := hEx.out _ hb
    have e0 : Ext w0 wo := Ext.trans ‹Ext w0 w› eo
    by_cases hlt : t < X.length
    · obtain ⟨ba, oa, hda, hca⟩ := hX'.at (w' := wo) hlt
      cases hda
      obtain ⟨x, hx⟩ : ∃ x, x = nth X t := ⟨_, rfl⟩
      rw [← hx] at hca
      have hls := hid (show lsU X t = lsF X x t by rw [hx]; rfl)
      replace hx := hid hx
      go_wp2_with fail
      go_loopw [6] (fun q wr => ∃ a : Int, -1 ≤ a ∧ a < t ∧ q = .int .i64 a ∧ Hid (lsF X x (a + 1).toNat = lsF X x t) ∧ Own wr B [⟨3, 1, .slice dO t mO, t, (lsUs X t).map (Value.int .i64)⟩] ∧ Below B w wr) (fun q _ => (intOf q + 1).toNat)
      case atStart => exact ⟨(t : Int) - 1, by omega, by omega, by go_num, hid (by congr 1; omega), own, hb⟩
      case round =>
        clear own hb
        obtain ⟨a, ha1, ha2, rfl, hinv, own, hb⟩ := hrel
        obtain ⟨wq, rfl⟩ : ∃ y : World, y = wr := ⟨_, rfl⟩
        have eq1 : Ext w wq := hEx.out _ hb
        have eq0 : Ext w0 wq := Ext.trans ‹Ext w0 w› eq1
        have hB3 : B ≤ wq.heap.size := by rw [hB.out]; exact eq1.size
        by_cases hneg : a < 0
        · have hsn := hid (show lsUs X (t + 1) = lsUs X t ++ [a] by
            have : lsU X t = a := by
              rw [hls.out, ← hinv.out]
              have : (a + 1).toNat = 0 := by omega
              rw [this]
              show (-1 : Int) = a
              omega
            rw [lsUs_succ, this])
          have hg : decide (a ≥ 0) = false := decide_eq_false (by omega)
          go_wp2_with (at_builtin; refine wpList_append1 rfl _ _ _ rfl elemInt rfl own hB3 rfl rfl (by omega) (by omega) ?_; intro v1 w2 ho hb1)
          go_roundw
          case rel => exact ⟨t + 1, by omega, by go_num, by rw [hsn.out, List.map_append]; exact ho, hb.trans hb1⟩
          case measure => simp [intOf]; omega
        · obtain ⟨q, rfl⟩ := Int.eq_ofNat_of_zero_le (show 0 ≤ a by omega)
          have hqt : q < t := by omega
          obtain ⟨bq, oq, hdq, hcq⟩ := hX'.at (w' := wq) (show q < X.length by omega)
          cases hdq
          have hg : decide ((q : Int) ≥ 0) = true := decide_eq_true (by omega)
          by_cases he : nth X q = x
          · have hsn := hid (show lsUs X (t + 1) = lsUs X t ++ [(q : Int)] by
              have : lsU X t = q := by
                rw [hls.out, ← hinv.out]
                have : ((q : Int) + 1).toNat = q + 1 := by omega
                rw [this]
                unfold lsF
                rw [if_pos he]
              rw [lsUs_succ, this])
            rw [he] at hcq
            have hb0 : (x != x) = false := by simp
            replace he := hid he
            go_wp2_with (at_builtin; refine wpList_append1 rfl _ _ _ rfl elemInt rfl own hB3 rfl rfl (by omega) (by omega) ?_; intro v1 w2 ho hb1)
            go_roundw
            case rel => exact ⟨t + 1, by omega, by go_num, by rw [hsn.out, List.map_append]; exact ho, hb.trans hb1⟩
            case measure => simp [intOf]; omega
          · have hinv2 := hid (show lsF X x ((q : Int) - 1 + 1).toNat = lsF X x t by
              rw [← hinv.out]
              have h1 : ((q : Int) - 1 + 1).toNat = q := by omega
              have h2 : ((q : Int) + 1).toNat = q + 1 := by omega
              rw [h1, h2]
              show lsF X x q = if nth X q = x then (q : Int) else lsF X x q
              rw [if_neg he])
            have hb0 : (nth X q != x) = true := by simpa using he
            replace he := hid he
            go_wp2_with fail
            go_roundw
            case rel => exact ⟨(q : Int) - 1, by omega, by omega, by go_num, hinv2.out, own, hb⟩
            case measure => simp [intOf]
    · have htl : t = X.length := by omega
      rw [htl] at own
      have htl' := hid htl
      rw [hB.out] at own
      clear htl
      go_wp2_with fail
      go_ret
      exact ⟨dO, mO, by rw [htl'.out]; rfl, own, eo⟩

set_option maxHeartbeats 800000 in
set_option maxRecDepth 100000 in
theorem sRepeat0_any {v : Value} {c : Int} {w0 w : World} [Ext w0 w] (hx : IsInts w0 v [c]) :
    Calls Try.prog 95 #[v, .int .i64 0] w fun e w' => ∃ d m, e = .returned (.slice d 0 m) ∧ Own w' w.heap.size [⟨3, 1, .slice d 0 m, 0, ([] : List Int).map (Value.int .i64)⟩] ∧ Ext w w' := by
  obtain ⟨a, cc, rfl, _⟩ := hx.form
  obtain ⟨b, o, rfl, hc⟩ := hx.at (w' := w) (k := 0) (by simp)
  rw [Nat.add_zero] at hc
  have hl1 : ([c] : List Int).length = 1 := rfl
  rw [hl1]
  have hmk := hid (show (w.alloc (.cells #[] 3)).heap[w.heap.size]? = some (.cells #[] 3 (0, 0)) from rep_make w c 0 3)
  have hsz := hid (show (Try.prog.info? 3).map (·.size) = some 1 by kernel_rfl)
  clear hc
  go_enter Try.func95, Try.ntmps95
  go_wp2_with fail
  refine (mulN_any (n := 0) (by omega) _).mono ?_
  rintro e w1 ⟨rfl, rfl⟩
  go_upto_region 7 with (at_make; refine wpList_makeOwn rfl _ _ _ rfl elemInt 0 rfl rfl (by omega) (by omega) rfl ?_; intro hown)
  have eM : Ext w (w.alloc (.cells #[] 3)) := inferInstance
  have hgs : (w.alloc (.cells #[] 3)).heap.size = w.heap.size + 1 := by simp
  generalize w.alloc (.cells #[] 3) = wM at *
  clear hown
  have hbM : Below w.heap.size w wM := eM.below
  have own2 : Own wM w.heap.size [⟨3, 1, .slice (some ⟨w.heap.size, 0, none⟩) 0 0, 0, ([] : List Int).map (Value.int .i64)⟩] := by
    refine ⟨fun r hr => ?_, List.pairwise_singleton _ _⟩
    rw [List.mem_singleton.1 hr]
    exact ⟨rfl, .inr ⟨w.heap.size, 0, #[], rfl, Nat.le_refl _, hmk.out, Nat.le_refl _, by unfold maxLen; omega, rfl, rfl⟩⟩
  go_upto_region 8 with (refine wpList_copy_nothing rfl (.tmp 31) (.tmp 32) 22 22 rfl 3 Try.underlying22 hsz.out _ _ _ _ _ _ rfl rfl rfl ?_)
  go_loopw [8] (fun q wr => q = .int .i64 0 ∧ Ext wM wr) (fun _ _ => 0)
  case atStart => exact ⟨rfl, Ext.refl _⟩
  case round =>
    obtain ⟨rfl, hy⟩ := hrel
    have own3 := own2.ext (e := hy)
    go_wp2_with fail
    go_ret
    exact ⟨_, _, rfl, own3, Ext.trans eM hy⟩

theorem sRepeatM_any {v : Value} {c : Int} {n : Nat} {w0 w : World} [Ext w0 w] (hx : IsInts w0 v [c]) (hn : n ≤ 1000) :
    Calls Try.prog 95 #[v, .int .i64 n] w fun e w' => ∃ d m, e = .returned (.slice d n m) ∧ Own w' w.heap.size [⟨3, 1, .slice d n m, n, (List.replicate n c).map (Value.int .i64)⟩] ∧ Ext w w' := by
  by_cases h : n = 0
  · subst h
    exact sRepeat0_any hx
  · refine (sRepeatN_any hx (by omega) hn).mono ?_
    rintro e w' ⟨d, m, rfl, own, he⟩
    unfold intRowOf at own
    rw [List.length_replicate] at own ⊢
    exact ⟨d, m, rfl, own, he⟩

/-- the next uses as far as they are known ahead of t -/
def nxTs (X : List Int) (t : Nat) : List Int := (List.range X.length).map (nxTo X t)
def nxUs (X : List Int) : List Int := (List.range X.length).map (nxU X)
theorem nxTs_len (X : List Int) (t : Nat) : (nxTs X t).length = X.length := by simp [nxTs]
theorem nxUs_len (X : List Int) : (nxUs X).length = X.length := by simp [nxUs]
theorem nxTs_all (X : List Int) : nxTs X X.length = nxUs X := rfl
theorem nxTs_zero (X : List Int) : nxTs X 0 = List.replicate X.length (-1) := by
  apply List.ext_getElem
  · simp [nxTs]
  · intro _ _ _
    simp [nxTs, nxTo_zero]
theorem nxUs_at {X : List Int} {i : Nat} (h : i < X.length) : nth (nxUs X) i = nxU X i := by simp [nxUs, nth, h]
theorem nxTs_no {X : List Int} {t : Nat} (ht : t < X.length) (h : lsU X t < 0) : nxTs X (t + 1) = nxTs X t :=
  List.map_congr_left fun _ hi => nxTo_no ht h (List.mem_range.1 hi)
theorem nxTs_yes {X : List Int} {t a : Nat} (ht : t < X.length) (h : lsU X t = a) : nxTs X (t + 1) = (nxTs X t).set a t := by
  apply List.ext_getElem
  · simp [nxTs]
  · intro i h1 h2
    have hi : i < X.length := by simpa [nxTs] using h1
    have := nxTo_yes ht h hi
    simp only [nxTs, List.getElem_map, List.getElem_range, List.getElem_set, this]
    by_cases e : a = i
    · rw [if_pos e, if_pos e.symm]
    · rw [if_neg e, if_neg (fun h => e h.symm)]

set_option maxHeartbeats 800000 in
set_option maxRecDepth 100000 in
theorem nextUses_any {v : Value} {X : List Int} {w0 w : World} [Ext w0 w] (hX : IsInts w0 v X) (hl : X.length ≤ 1000) :
    Calls Try.prog 83 #[v] w fun e w' => ∃ d m, e = .returned (.slice d (nxUs X).length m) ∧ IsInts w' (.slice d (nxUs X).length m) (nxUs X) ∧ Ext w w' := by
  have hX' := hX
  obtain ⟨da, ma, rfl, la⟩ := hX.form
  have own1 : Own (w.alloc (.cells #[.int .i64 (-1)] 3)) w.heap.size [intRowOf 3 (.slice (some ⟨w.heap.size, 0, none⟩) ([-1] : List Int).length 1) [-1]] := Own.litInts (xs := [-1]) (Nat.le_refl _) rfl rfl (by simp) rfl
  have hr1 : IsInts (w.alloc (.cells #[.int .i64 (-1)] 3)) (.slice (some ⟨w.heap.size, 0, none⟩) 1 1) [-1] := own1.reads (by unfold Short; simp) (by simp [I64])
  have e1 : Ext w (w.alloc (.cells #[.int .i64 (-1)] 3)) := inferInstance
  have e01 : Ext w0 (w.alloc (.cells #[.int .i64 (-1)] 3)) := Ext.trans ‹Ext w0 w› e1
  clear own1
  go_enter Try.func83, Try.ntmps83
  go_upto_region 1 with fail
  go_wp2_with fail
  with_reducible refine (sRepeatM_any (w0 := w.alloc (.cells #[.int .i64 (-1)] 3)) (w := w.alloc (.cells #[.int .i64 (-1)] 3)) (n := X.length) hr1 hl).mono ?_
  rintro e w2 ⟨d2, m2, rfl, own2, e2⟩
  obtain ⟨B, hB⟩ : ∃ b, b = w.heap.size := ⟨_, rfl⟩
  have e12 : Ext w w2 := Ext.trans e1 e2
  have own3 : Own w2 B [⟨3, 1, .slice d2 X.length m2, X.length, (nxTs X 0).map (Value.int .i64)⟩] := by
    rw [nxTs_zero]
    exact own2.mono (B' := B) (by rw [hB]; exact e1.size)
  have b2 : Below B w w2 := by rw [hB]; exact e12.below
  have hEx := hid (show ∀ u, Below B w u → Ext w u from fun u h => ⟨by rw [← hB]; exact h⟩)
  have hB2 := hid (show ∀ u, Below B w u → B ≤ u.heap.size from fun u h => by rw [hB]; exact h.size)
  have hB3 : B ≤ w2.heap.size := hB2.out _ b2
  replace hB := hid hB
  clear own2 e2 hr1 e1
  have e02 : Ext w0 w2 := Ext.trans ‹Ext w0 w› e12
  go_wp2_with fail
  with_reducible refine (lastUses_any (w0 := w0) (w := w2) hX' hl).mono ?_
  rintro e w3 ⟨d3, m3, rfl, ownL, e3⟩
  have own4 := Own.swap (R := [_]) (S := [_]) (Own.join own3 ownL hB3)
  have b3 : Below B w w3 := b2.trans (e3.below.mono hB3)
  have hat := hid (show ∀ i, i < X.length → nth (lsUs X X.length) i = lsU X i from fun i hi => lsUs_at hi)
  have hi64 := hid (lsUs_i64 (X := X) hl)
  have hl3 := hid (lsUs_len X X.length)
  obtain ⟨U, hU⟩ : ∃ l, l = lsUs X X.length := ⟨_, rfl⟩
  rw [← hU] at own4
  have hat := hid (show ∀ i, i < X.length → nth U i = lsU X i from by rw [hU]; exact hat.out)
  have hi64 := hid (show ∀ y ∈ U, I64 y from by rw [hU]; exact hi64.out)
  have hl3 := hid (show U.length = X.length from by rw [hU]; exact hl3.out)
  replace hU := hid hU
  clear own3 b2 ownL
  go_wp2_with fail
  go_loopw [13] (fun i wr => ∃ t : Nat, t ≤ X.length ∧ i = .int .i64 t ∧ Own wr B [⟨3, 1, .slice d2 X.length m2, X.length, (nxTs X t).map (Value.int .i64)⟩, ⟨3, 1, .slice d3 X.length m3, X.length, U.map (Value.int .i64)⟩] ∧ Below B w wr) (fun i _ => X.length - (intOf i).toNat)
  case atStart => exact ⟨0, by omega, rfl, own4, b3⟩
  case round =>
    clear own4 b3
    obtain ⟨t, ht, rfl, own, hb⟩ := hrel
    obtain ⟨wo, rfl⟩ : ∃ y : World, y = wr := ⟨_, rfl⟩
    have hrL : IsInts wo (.slice d3 X.length m3) U := own.tail.readsN hl3.out (by omega) hi64.out
    by_cases hlt : t < X.length
    · have htU : t < U.length := by rw [hl3.out]; exact hlt
      obtain ⟨bu, ou, hdu, hcu⟩ := hrL.at (w' := wo) htU
      cases hdu
      rw [hat.out t hlt] at hcu
      have hbd := lsF_bd X (nth X t) t
      by_cases hneg : lsU X t < 0
      · have hs := hid (nxTs_no hlt hneg)
        have hg : decide (lsU X t ≥ 0) = false := decide_eq_false (by omega)
        obtain ⟨y, hy⟩ : ∃ y, y = lsU X t := ⟨_, rfl⟩
        rw [← hy] at hcu hg hneg
        replace hy := hid hy
        clear hrL hbd
        go_wp2_with fail
        go_roundw
        case rel => exact ⟨t + 1, by omega, by go_num, by rw [hs.out]; exact own, hb⟩
        case measure => simp [intOf]; omega
      · obtain ⟨a, ha⟩ := Int.eq_ofNat_of_zero_le (show 0 ≤ lsU X t by omega)
        have hat2 : a < t := by unfold lsU at ha; omega
        have hs := hid (nxTs_yes hlt ha)
        rw [ha] at hcu
        have haX : a < X.length := by omega
        obtain ⟨g, rfl⟩ := own.at (j := a) haX
        have hla : a < (nxTs X t).length := by rw [nxTs_len]; exact haX
        replace ha := hid ha
        have c1 : wo.cell? ⟨g, a, none⟩ = some (.int .i64 (nth (nxTs X t) a)) := by
          rw [own.cellAt (w' := wo) haX]; simp [nth, hla]
        have f1 := own.frozenAt a
        have own2 := own.set a (.int .i64 t)
        have b2 : Below B w (wo.setCell ⟨g, a, none⟩ (.int .i64 t)) := hb.setCell own.lt.1 _
        rw [← List.map_set, ← hs.out] at own2
        have hg : decide ((a : Int) ≥ 0) = true := decide_eq_true (by omega)
        clear hrL hbd hneg
        go_wp2_with fail
        go_roundw
        case rel => exact ⟨t + 1, by omega, by go_num, own2, b2⟩
        case measure => simp [intOf]; omega
    · have htl : t = X.length := by omega
      rw [htl, nxTs_all] at own
      have hn := hid (nxUs_len X)
      have hrN : IsInts wo (.slice d2 X.length m2) (nxUs X) := own.readsN hn.out (by omega) (fun y hy => by
        obtain ⟨_, hi, rfl⟩ := List.mem_map.1 hy
        have := nxU_bd (List.mem_range.1 hi)
        unfold I64
        omega)
      replace htl := hid htl
      clear own hrL
      go_wp2_with fail
      go_ret
      refine ⟨d2, m2, by rw [hn.out]; rfl, ?_, hEx.out _ hb⟩
      rw [hn.out]
      exact hrN
end Go.Proofs.Ytkibmjenjgijmab
