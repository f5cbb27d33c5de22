/- Sequences that are made: the program's and the reference's. -/
import Derived.Test.YtdohjmbhgjfcaaaDoorRqk
import Derived.Test.YtdohjmbhgjfcaaaDoorUni
import Derived.Test.YtdohjmbhgjfcaaaDoorStep
import Derived.Test.YtdohjmbhgjfcaaaDoorEndT
namespace Go.Proofs.YtdohjmbhgjfcaaaDoor
open Go.RowKit

def nxS (s : Nat) : Nat := (1021 * s + 12345) % 65536
def stS (s : Nat) : Nat → Nat
  | 0 => s
  | i + 1 => nxS (stS s i)
theorem nxS_lt (s : Nat) : nxS s < 65536 := Nat.mod_lt _ (by omega)
theorem stS_lt {s : Nat} (h : s < 65536) : ∀ i, stS s i < 65536
  | 0 => h
  | _ + 1 => nxS_lt _
def natL (f : Nat → Nat) (l : Nat) : List Int := (List.range l).map fun i => (f i : Int)
theorem natL_len (f : Nat → Nat) (l : Nat) : (natL f l).length = l := by simp [natL]
theorem natL_snoc (f : Nat → Nat) (l : Nat) : natL f (l + 1) = natL f l ++ [(f l : Int)] := by simp [natL, List.range_succ]
theorem natL_mem {f : Nat → Nat} {l : Nat} {x : Int} (h : x ∈ natL f l) : ∃ i, i < l ∧ x = (f i : Int) := by
  obtain ⟨i, hi, rfl⟩ := List.mem_map.1 h
  exact ⟨i, List.mem_range.1 hi, rfl⟩
def neN (n w s : Nat) : Nat → Nat
  | 0 => stS s 1 / 16 % n
  | i + 1 => (neN n w s i + stS s (i + 2) / 16 % w) % n
theorem neN_lt {n w s : Nat} (hn : 0 < n) : ∀ i, neN n w s i < n
  | 0 => Nat.mod_lt _ hn
  | _ + 1 => Nat.mod_lt _ hn
theorem natL_at (f : Nat → Nat) (m : Nat) : ((natL f (m + 1)).map (Value.int .i64)).getD m undef = .int .i64 (f m : Nat) := by
  rw [natL_snoc, List.map_append]
  simp [natL]
theorem wrap_small {x : Nat} (h : x < 65536) : IntKind.i64.wrap (x : Int) = x := by rw [IntKind.wrap_i64]; omega
theorem wrap_add {p a : Nat} (h : p < 8) (h2 : a < 65536) : IntKind.i64.wrap ((p : Int) + (a : Int)) = (p : Int) + (a : Int) := by rw [IntKind.wrap_i64]; omega
theorem wrap64_small {x : Nat} (h : x < 65536) : wrap64 (x : Int) = x := by unfold wrap64; omega
def loB (n k l : Int) : Bool := inB n 1 8 && (inB k 1 n && inB l 0 60)
def loR (n k l : Int) : List Int := if loB n k l then natL (fun i => i % k.toNat) l.toNat else []
def sdB (n l s : Int) : Bool := inB n 1 8 && (inB l 0 60 && inB s 0 9999)
def sdR (n l s : Int) : List Int := if sdB n l s then natL (fun i => stS s.toNat (i + 1) / 16 % n.toNat) l.toNat else []
def nrB (n l w s : Int) : Bool := inB n 1 8 && (inB l 0 60 && (inB w 1 n && inB s 0 9999))
def nrR (n l w s : Int) : List Int := if nrB n l w s then natL (neN n.toNat w.toNat s.toNat) l.toNat else []

theorem nx_int (s : Nat) : (1021 * (s : Int) + 12345).tmod 65536 = ((nxS s : Nat) : Int) := by
  rw [Int.tmod_eq_emod_of_nonneg (by omega)]; unfold nxS; omega
theorem dv_int (s : Nat) : (s : Int).tdiv 16 = ((s / 16 : Nat) : Int) := by
  rw [Int.tdiv_eq_ediv_of_nonneg (by omega)]; omega
theorem md_int (s n : Nat) : (s : Int).tmod (n : Int) = ((s % n : Nat) : Int) := by
  rw [Int.tmod_eq_emod_of_nonneg (by omega)]; omega
theorem isLength_any (n : Int) (w : World) : Calls Tryd.prog 100 #[.int .i64 n] w fun e w' => e = .returned (.bool (inB n 0 60)) ∧ w = w' := by
  go_enter Tryd.func100, Tryd.ntmps100
  go_wp2_with (go_at_call 63; refine (within_any _ _ _ _).mono ?_; rintro e w' ⟨rfl, rfl⟩)
  go_ret
  exact ⟨rfl, rfl⟩
theorem l3Length_any (n : Int) (w : World) : Calls Tryd.prog 101 #[.int .i64 n] w fun e w' => e = .returned (.bool (inB n 0 60)) ∧ w = w' := by
  go_enter Tryd.func101, Tryd.ntmps101
  go_wp2_with (go_at_call 65; refine (l1In_any _ _ _ _).mono ?_; rintro e w' ⟨rfl, rfl⟩)
  go_ret
  exact ⟨rfl, rfl⟩
theorem l3Next_any {s : Nat} (hs : s < 65536) (w : World) : Calls Tryd.prog 103 #[.int .i64 s] w fun e w' => e = .returned (.int .i64 (nxS s)) ∧ w = w' := by
  have h := nx_int s
  obtain ⟨x, hx⟩ : ∃ x, x = nxS s := ⟨_, rfl⟩
  rw [← hx] at h ⊢
  replace hx := hid hx
  go_enter Tryd.func103, Tryd.ntmps103
  go_wp2_with fail
  go_ret
  exact ⟨rfl, rfl⟩
def lenOf : Value → Nat
  | .slice _ n _ => n
  | _ => 0
abbrev chRow (c : Nat) (s : Int) : Row := ⟨106, 1, .slice (some ⟨c, 0, none⟩) 1 1, 1, [.int .i64 s]⟩
set_option maxHeartbeats 800000 in
theorem chBelow_any {w : World} {B c s b : Nat} {R : List Row} (own : Own w B (chRow c s :: R)) (hs : s < 65536) (hb : 0 < b) (hb2 : b ≤ 1000) :
    Calls Tryd.prog 102 #[.pointer (some ⟨c, 0, none⟩), .int .i64 b] w fun e w' => e = .returned (.int .i64 ((nxS s / 16 % b : Nat) : Int)) ∧ Own w' B (chRow c (nxS s) :: R) ∧ Below B w w' ∧ w' = w.setCell ⟨c, 0, none⟩ (.int .i64 (nxS s : Nat)) := by
  have k0 : w.cell? ⟨c, 0, none⟩ = some (.int .i64 s) := ow_cell own (.head _) (j := 0) (by omega)
  have f0 := ow_frozen own (.head _) 0
  have h1 := nx_int s
  have hx1 := nxS_lt s
  obtain ⟨x, hx⟩ : ∃ x, x = nxS s := ⟨_, rfl⟩
  rw [← hx] at h1 hx1 ⊢
  have h2 := dv_int x
  have h3 := md_int (x / 16) b
  obtain ⟨y, hy⟩ : ∃ y, y = x / 16 := ⟨_, rfl⟩
  rw [← hy] at h2 h3 ⊢
  obtain ⟨z, hz⟩ : ∃ z, z = y % b := ⟨_, rfl⟩
  rw [← hz] at h3 ⊢
  have hb0 : ¬ (b : Int) = 0 := by omega
  have hyb : y ≤ 65536 := by rw [hy]; omega
  have hwr : wrap64 (y : Int) = y := by unfold wrap64; omega
  have o2 := ow_set (A := []) own 0 (.int .i64 (x : Int))
  have hl := (ow_lt own).1
  have bl : Below B w (w.setCell ⟨c, 0, none⟩ (.int .i64 (x : Int))) := (Below.refl B w).setCell (p := ⟨c, 0, none⟩) hl _
  replace hx := hid hx
  replace hy := hid hy
  replace hz := hid hz
  replace o2 := hid o2
  replace bl := hid bl
  go_enter Tryd.func102, Tryd.ntmps102
  go_wp2_with fail
  go_ret
  exact ⟨rfl, o2.out, bl.out, rfl⟩

set_option maxHeartbeats 1600000 in
set_option maxRecDepth 100000 in
theorem implLo_any (n k l : Int) (w : World) :
    Calls Tryd.prog 35 #[.int .i64 n, .int .i64 k, .int .i64 l] w fun e w' => ∃ u, e = .returned (.tuple #[u, .bool (loB n k l)]) ∧ IsInts w' u (loR n k l) ∧ Ext w w' := by
  have c1 := fun (u : World) => isItems_any n u
  cases h1 : inB n 1 8 with
  | false =>
    have hb : loB n k l = false := by unfold loB; rw [h1]; rfl
    have hR := hid (show loR n k l = [] by unfold loR; rw [hb]; rfl)
    replace hb := hid hb
    rw [h1] at c1
    replace c1 := hid c1
    replace h1 := hid h1
    go_enter Tryd.func35, Tryd.ntmps35
    go_wp2_with fail
    with_reducible refine (c1.out _).mono ?_
    rintro e w2 ⟨rfl, rfl⟩
    go_wp2_with fail
    go_ret2
    rw [hb.out, hR.out]
    exact ⟨_, rfl, ints_no _ _ _, Ext.refl _⟩
  | true =>
    rw [h1] at c1
    replace c1 := hid c1
    have c2 := fun (u : World) => within_any k 1 n u
    cases h2 : inB k 1 n with
    | false =>
      have hb : loB n k l = false := by unfold loB; rw [h1, h2]; rfl
      have hR := hid (show loR n k l = [] by unfold loR; rw [hb]; rfl)
      replace hb := hid hb
      replace h1 := hid h1
      rw [h2] at c2
      replace c2 := hid c2
      replace h2 := hid h2
      go_enter Tryd.func35, Tryd.ntmps35
      go_wp2_with fail
      with_reducible refine (c1.out _).mono ?_
      rintro e w2 ⟨rfl, rfl⟩
      go_wp2_with fail
      with_reducible refine (c2.out _).mono ?_
      rintro e w2 ⟨rfl, rfl⟩
      go_wp2_with fail
      go_ret2
      rw [hb.out, hR.out]
      exact ⟨_, rfl, ints_no _ _ _, Ext.refl _⟩
    | true =>
      rw [h2] at c2
      replace c2 := hid c2
      have c3 := fun (u : World) => isLength_any l u
      cases h3 : inB l 0 60 with
      | false =>
        have hb : loB n k l = false := by unfold loB; rw [h1, h2, h3]; rfl
        have hR := hid (show loR n k l = [] by unfold loR; rw [hb]; rfl)
        replace hb := hid hb
        replace h1 := hid h1
        replace h2 := hid h2
        rw [h3] at c3
        replace c3 := hid c3
        replace h3 := hid h3
        go_enter Tryd.func35, Tryd.ntmps35
        go_wp2_with fail
        with_reducible refine (c1.out _).mono ?_
        rintro e w2 ⟨rfl, rfl⟩
        go_wp2_with fail
        with_reducible refine (c2.out _).mono ?_
        rintro e w2 ⟨rfl, rfl⟩
        go_wp2_with fail
        with_reducible refine (c3.out _).mono ?_
        rintro e w2 ⟨rfl, rfl⟩
        go_wp2_with fail
        go_ret2
        rw [hb.out, hR.out]
        exact ⟨_, rfl, ints_no _ _ _, Ext.refl _⟩
      | true =>
        rw [h3] at c3
        replace c3 := hid c3
        have hb : loB n k l = true := by unfold loB; rw [h1, h2, h3]; rfl
        have hR0 : loR n k l = natL (fun i => i % k.toNat) l.toNat := by unfold loR; rw [hb]; rfl
        replace hb := hid hb
        rw [inB_true] at h1 h2 h3
        obtain ⟨n, rfl⟩ := Int.eq_ofNat_of_zero_le (show 0 ≤ n by omega)
        obtain ⟨k, rfl⟩ := Int.eq_ofNat_of_zero_le (show 0 ≤ k by omega)
        obtain ⟨l, rfl⟩ := Int.eq_ofNat_of_zero_le (show 0 ≤ l by omega)
        simp only [Int.toNat_natCast] at hR0
        obtain ⟨f, hf⟩ : ∃ f : Nat → Nat, f = fun i => i % k := ⟨_, rfl⟩
        have hR : loR (n : Int) (k : Int) (l : Int) = natL f l := by rw [hR0, hf]
        have hf8 := hid (show ∀ i, f i < 8 from fun i => by rw [hf]; have := Nat.mod_lt i (show 0 < k by omega); show i % k < 8; omega)
        have hfv := hid (show ∀ i, f i = i % k from fun i => by rw [hf])
        have hk0 : ¬ (k : Int) = 0 := by omega
        replace hR := hid hR
        replace hR0 := hid hR0
        replace hf := hid hf
        have own1 : Own (w.alloc (.cells #[] 3)) w.heap.size [intRowOf 3 (.slice (some ⟨w.heap.size, 0, none⟩) 0 0) []] := (Own.nil w w.heap.size).lit 3 1 0 #[] (Nat.le_refl _) (by unfold maxLen; omega) rfl
        have b1 : Below w.heap.size w (w.alloc (.cells #[] 3)) := (Below.refl _ w).alloc (Nat.le_refl _) _
        go_enter Tryd.func35, Tryd.ntmps35
        go_wp2_with fail
        with_reducible refine (c1.out _).mono ?_
        rintro e w2 ⟨rfl, rfl⟩
        go_wp2_with fail
        with_reducible refine (c2.out _).mono ?_
        rintro e w2 ⟨rfl, rfl⟩
        go_wp2_with fail
        with_reducible refine (c3.out _).mono ?_
        rintro e w2 ⟨rfl, rfl⟩
        go_upto_region 4 with fail
        obtain ⟨B, hB0⟩ : ∃ b, b = w.heap.size := ⟨_, rfl⟩
        have hEx := hid (show ∀ u, Below B w u → Ext w u from fun u h => ⟨by rw [← hB0]; exact h⟩)
        have hBs := hid (show ∀ u, Below B w u → B ≤ u.heap.size from fun u h => by rw [hB0]; exact h.size)
        rw [← hB0] at own1 b1 ⊢
        replace hB0 := hid hB0
        generalize w.alloc (.cells #[] 3) = w1 at *
        go_wp2_with fail
        go_loopw [8, 26] (fun u iv wr => ∃ t : Nat, t ≤ l ∧ iv = .int .i64 t ∧ Own wr B [intRowOf 3 u (natL f t)] ∧ Below B w wr) (fun _ iv _ => l - (intOf iv).toNat)
        case atStart => exact ⟨0, by omega, rfl, own1, b1⟩
        case round =>
          clear own1 b1
          obtain ⟨t, htl, rfl, own, hbw⟩ := hrel
          obtain ⟨wo, rfl⟩ : ∃ y : World, y = wr := ⟨_, rfl⟩
          obtain ⟨dO, n0, mO, hvO, hn0⟩ := own_formN own
          subst hvO
          have hBo : B ≤ wo.heap.size := hBs.out _ hbw
          have hn1 : n0 = t := by rw [hn0.out, natL_len]
          subst hn1
          have own6 := own
          unfold intRowOf at own6
          rw [natL_len] at own6
          replace hn0 := hid hn0
          by_cases hlt : n0 < l
          · have hmd := md_int n0 k
            have hfz := hfv.out n0
            obtain ⟨z, hz⟩ : ∃ z, z = n0 % k := ⟨_, rfl⟩
            rw [← hz] at hmd hfz
            replace hz := hid hz
            replace hfz := hid hfz
            clear own
            go_wp2_with (at_builtin; refine wpList_append1 rfl _ _ _ rfl elemInt rfl own6 hBo rfl rfl (by omega) (by omega) ?_; intro v6 w6 ho6 hb6)
            have hR6 : Own w6 B [intRowOf 3 v6 (natL f (n0 + 1))] := by
              rw [natL_snoc, hfz.out]
              have h := ho6
              unfold intRowOf
              rw [List.length_append, natL_len, List.map_append]
              exact h
            go_roundw
            case rel => exact ⟨n0 + 1, by omega, by go_num, hR6, hbw.trans hb6⟩
            case measure => simp [intOf]; omega
          · have hnl : n0 = l := by omega
            subst hnl
            have hr : IsInts wo (.slice dO n0 mO) (natL f n0) := own.reads (by rw [natL_len]; unfold Short; omega) (fun x hx => by
              obtain ⟨i, hi, rfl⟩ := natL_mem hx
              have := hf8.out i
              unfold I64
              omega)
            have eo := hEx.out _ hbw
            go_wp2_with fail
            go_ret2
            rw [hb.out, hR.out]
            exact ⟨_, rfl, hr, eo⟩
set_option maxHeartbeats 1600000 in
set_option maxRecDepth 100000 in
theorem specLo_any (n k l : Int) (w : World) :
    Calls Tryd.prog 36 #[.int .i64 n, .int .i64 k, .int .i64 l] w fun e w' => ∃ u, e = .returned (.tuple #[u, .bool (loB n k l)]) ∧ IsInts w' u (loR n k l) ∧ Ext w w' := by
  have c1 := fun (u : World) => l3Items_any n u
  cases h1 : inB n 1 8 with
  | false =>
    have hb : loB n k l = false := by unfold loB; rw [h1]; rfl
    have hR := hid (show loR n k l = [] by unfold loR; rw [hb]; rfl)
    replace hb := hid hb
    rw [h1] at c1
    replace c1 := hid c1
    replace h1 := hid h1
    go_enter Tryd.func36, Tryd.ntmps36
    go_wp2_with fail
    with_reducible refine (c1.out _).mono ?_
    rintro e w2 ⟨rfl, rfl⟩
    go_wp2_with fail
    go_ret2
    rw [hb.out, hR.out]
    exact ⟨_, rfl, ints_no _ _ _, Ext.allocd _ _⟩
  | true =>
    rw [h1] at c1
    replace c1 := hid c1
    have c2 := fun (u : World) => l1In_any k 1 n u
    cases h2 : inB k 1 n with
    | false =>
      have hb : loB n k l = false := by unfold loB; rw [h1, h2]; rfl
      have hR := hid (show loR n k l = [] by unfold loR; rw [hb]; rfl)
      replace hb := hid hb
      replace h1 := hid h1
      rw [h2] at c2
      replace c2 := hid c2
      replace h2 := hid h2
      go_enter Tryd.func36, Tryd.ntmps36
      go_wp2_with fail
      with_reducible refine (c1.out _).mono ?_
      rintro e w2 ⟨rfl, rfl⟩
      go_wp2_with fail
      with_reducible refine (c2.out _).mono ?_
      rintro e w2 ⟨rfl, rfl⟩
      go_wp2_with fail
      go_ret2
      rw [hb.out, hR.out]
      exact ⟨_, rfl, ints_no _ _ _, Ext.allocd _ _⟩
    | true =>
      rw [h2] at c2
      replace c2 := hid c2
      have c3 := fun (u : World) => l3Length_any l u
      cases h3 : inB l 0 60 with
      | false =>
        have hb : loB n k l = false := by unfold loB; rw [h1, h2, h3]; rfl
        have hR := hid (show loR n k l = [] by unfold loR; rw [hb]; rfl)
        replace hb := hid hb
        replace h1 := hid h1
        replace h2 := hid h2
        rw [h3] at c3
        replace c3 := hid c3
        replace h3 := hid h3
        go_enter Tryd.func36, Tryd.ntmps36
        go_wp2_with fail
        with_reducible refine (c1.out _).mono ?_
        rintro e w2 ⟨rfl, rfl⟩
        go_wp2_with fail
        with_reducible refine (c2.out _).mono ?_
        rintro e w2 ⟨rfl, rfl⟩
        go_wp2_with fail
        with_reducible refine (c3.out _).mono ?_
        rintro e w2 ⟨rfl, rfl⟩
        go_wp2_with fail
        go_ret2
        rw [hb.out, hR.out]
        exact ⟨_, rfl, ints_no _ _ _, Ext.allocd _ _⟩
      | true =>
        rw [h3] at c3
        replace c3 := hid c3
        have hb : loB n k l = true := by unfold loB; rw [h1, h2, h3]; rfl
        have hR0 : loR n k l = natL (fun i => i % k.toNat) l.toNat := by unfold loR; rw [hb]; rfl
        replace hb := hid hb
        rw [inB_true] at h1 h2 h3
        obtain ⟨n, rfl⟩ := Int.eq_ofNat_of_zero_le (show 0 ≤ n by omega)
        obtain ⟨k, rfl⟩ := Int.eq_ofNat_of_zero_le (show 0 ≤ k by omega)
        obtain ⟨l, rfl⟩ := Int.eq_ofNat_of_zero_le (show 0 ≤ l by omega)
        simp only [Int.toNat_natCast] at hR0
        obtain ⟨f, hf⟩ : ∃ f : Nat → Nat, f = fun i => i % k := ⟨_, rfl⟩
        have hR : loR (n : Int) (k : Int) (l : Int) = natL f l := by rw [hR0, hf]
        have hf8 := hid (show ∀ i, f i < 8 from fun i => by rw [hf]; have := Nat.mod_lt i (show 0 < k by omega); show i % k < 8; omega)
        have hfv := hid (show ∀ i, f i = i % k from fun i => by rw [hf])
        have hk0 : ¬ (k : Int) = 0 := by omega
        replace hR := hid hR
        replace hR0 := hid hR0
        replace hf := hid hf
        have own1 : Own (w.alloc (.cells #[] 3)) w.heap.size [intRowOf 3 (.slice (some ⟨w.heap.size, 0, none⟩) 0 0) []] := (Own.nil w w.heap.size).lit 3 1 0 #[] (Nat.le_refl _) (by unfold maxLen; omega) rfl
        have b1 : Below w.heap.size w (w.alloc (.cells #[] 3)) := (Below.refl _ w).alloc (Nat.le_refl _) _
        go_enter Tryd.func36, Tryd.ntmps36
        go_upto_region 2 with fail
        obtain ⟨B, hB0⟩ : ∃ b, b = w.heap.size := ⟨_, rfl⟩
        have hEx := hid (show ∀ u, Below B w u → Ext w u from fun u h => ⟨by rw [← hB0]; exact h⟩)
        have hBs := hid (show ∀ u, Below B w u → B ≤ u.heap.size from fun u h => by rw [hB0]; exact h.size)
        rw [← hB0] at own1 b1 ⊢
        replace hB0 := hid hB0
        generalize w.alloc (.cells #[] 3) = w1 at *
        go_wp2_with fail
        with_reducible refine (c1.out _).mono ?_
        rintro e w2 ⟨rfl, rfl⟩
        go_wp2_with fail
        with_reducible refine (c2.out _).mono ?_
        rintro e w2 ⟨rfl, rfl⟩
        go_wp2_with fail
        with_reducible refine (c3.out _).mono ?_
        rintro e w2 ⟨rfl, rfl⟩
        go_wp2_with fail
        go_loopw [8, 9] (fun u iv wr => ∃ t : Nat, t ≤ l ∧ iv = .int .i64 t ∧ Own wr B [intRowOf 3 u (natL f t)] ∧ Below B w wr) (fun _ iv _ => l - (intOf iv).toNat)
        case atStart => exact ⟨0, by omega, rfl, own1, b1⟩
        case round =>
          clear own1 b1
          obtain ⟨t, htl, rfl, own, hbw⟩ := hrel
          obtain ⟨wo, rfl⟩ : ∃ y : World, y = wr := ⟨_, rfl⟩
          obtain ⟨dO, n0, mO, hvO, hn0⟩ := own_formN own
          subst hvO
          have hBo : B ≤ wo.heap.size := hBs.out _ hbw
          have hn1 : n0 = t := by rw [hn0.out, natL_len]
          subst hn1
          have own6 := own
          unfold intRowOf at own6
          rw [natL_len] at own6
          replace hn0 := hid hn0
          by_cases hlt : n0 < l
          · have hmd := md_int n0 k
            have hfz := hfv.out n0
            obtain ⟨z, hz⟩ : ∃ z, z = n0 % k := ⟨_, rfl⟩
            rw [← hz] at hmd hfz
            replace hz := hid hz
            replace hfz := hid hfz
            clear own
            go_wp2_with (at_builtin; refine wpList_append1 rfl _ _ _ rfl elemInt rfl own6 hBo rfl rfl (by omega) (by omega) ?_; intro v6 w6 ho6 hb6)
            have hR6 : Own w6 B [intRowOf 3 v6 (natL f (n0 + 1))] := by
              rw [natL_snoc, hfz.out]
              have h := ho6
              unfold intRowOf
              rw [List.length_append, natL_len, List.map_append]
              exact h
            go_roundw
            case rel => exact ⟨n0 + 1, by omega, by go_num, hR6, hbw.trans hb6⟩
            case measure => simp [intOf]; omega
          · have hnl : n0 = l := by omega
            subst hnl
            have hr : IsInts wo (.slice dO n0 mO) (natL f n0) := own.reads (by rw [natL_len]; unfold Short; omega) (fun x hx => by
              obtain ⟨i, hi, rfl⟩ := natL_mem hx
              have := hf8.out i
              unfold I64
              omega)
            have eo := hEx.out _ hbw
            go_wp2_with fail
            go_ret2
            rw [hb.out, hR.out]
            exact ⟨_, rfl, hr, eo⟩
set_option maxHeartbeats 1600000 in
set_option maxRecDepth 100000 in
theorem implSd_any (n l s : Int) (w : World) :
    Calls Tryd.prog 38 #[.int .i64 n, .int .i64 l, .int .i64 s] w fun e w' => ∃ u, e = .returned (.tuple #[u, .bool (sdB n l s)]) ∧ IsInts w' u (sdR n l s) ∧ Ext w w' := by
  have c1 := fun (u : World) => isItems_any n u
  cases h1 : inB n 1 8 with
  | false =>
    have hb : sdB n l s = false := by unfold sdB; rw [h1]; rfl
    have hR := hid (show sdR n l s = [] by unfold sdR; rw [hb]; rfl)
    replace hb := hid hb
    rw [h1] at c1
    replace c1 := hid c1
    replace h1 := hid h1
    go_enter Tryd.func38, Tryd.ntmps38
    go_wp2_with fail
    with_reducible refine (c1.out _).mono ?_
    rintro e w2 ⟨rfl, rfl⟩
    go_wp2_with fail
    go_ret2
    rw [hb.out, hR.out]
    exact ⟨_, rfl, ints_no _ _ _, Ext.refl _⟩
  | true =>
    rw [h1] at c1
    replace c1 := hid c1
    have c2 := fun (u : World) => isLength_any l u
    cases h2 : inB l 0 60 with
    | false =>
      have hb : sdB n l s = false := by unfold sdB; rw [h1, h2]; rfl
      have hR := hid (show sdR n l s = [] by unfold sdR; rw [hb]; rfl)
      replace hb := hid hb
      replace h1 := hid h1
      rw [h2] at c2
      replace c2 := hid c2
      replace h2 := hid h2
      go_enter Tryd.func38, Tryd.ntmps38
      go_wp2_with fail
      with_reducible refine (c1.out _).mono ?_
      rintro e w2 ⟨rfl, rfl⟩
      go_wp2_with fail
      with_reducible refine (c2.out _).mono ?_
      rintro e w2 ⟨rfl, rfl⟩
      go_wp2_with fail
      go_ret2
      rw [hb.out, hR.out]
      exact ⟨_, rfl, ints_no _ _ _, Ext.refl _⟩
    | true =>
      rw [h2] at c2
      replace c2 := hid c2
      have c3 := fun (u : World) => within_any s 0 9999 u
      cases h3 : inB s 0 9999 with
      | false =>
        have hb : sdB n l s = false := by unfold sdB; rw [h1, h2, h3]; rfl
        have hR := hid (show sdR n l s = [] by unfold sdR; rw [hb]; rfl)
        replace hb := hid hb
        replace h1 := hid h1
        replace h2 := hid h2
        rw [h3] at c3
        replace c3 := hid c3
        replace h3 := hid h3
        go_enter Tryd.func38, Tryd.ntmps38
        go_wp2_with fail
        with_reducible refine (c1.out _).mono ?_
        rintro e w2 ⟨rfl, rfl⟩
        go_wp2_with fail
        with_reducible refine (c2.out _).mono ?_
        rintro e w2 ⟨rfl, rfl⟩
        go_wp2_with fail
        with_reducible refine (c3.out _).mono ?_
        rintro e w2 ⟨rfl, rfl⟩
        go_wp2_with fail
        go_ret2
        rw [hb.out, hR.out]
        exact ⟨_, rfl, ints_no _ _ _, Ext.refl _⟩
      | true =>
        rw [h3] at c3
        replace c3 := hid c3
        have hb : sdB n l s = true := by unfold sdB; rw [h1, h2, h3]; rfl
        have hR0 : sdR n l s = natL (fun i => stS s.toNat (i + 1) / 16 % n.toNat) l.toNat := by unfold sdR; rw [hb]; rfl
        replace hb := hid hb
        rw [inB_true] at h1 h2 h3
        obtain ⟨n, rfl⟩ := Int.eq_ofNat_of_zero_le (show 0 ≤ n by omega)
        obtain ⟨l, rfl⟩ := Int.eq_ofNat_of_zero_le (show 0 ≤ l by omega)
        obtain ⟨s, rfl⟩ := Int.eq_ofNat_of_zero_le (show 0 ≤ s by omega)
        simp only [Int.toNat_natCast] at hR0
        obtain ⟨f, hf⟩ : ∃ f : Nat → Nat, f = fun i => stS s (i + 1) / 16 % n := ⟨_, rfl⟩
        have hR : sdR (n : Int) (l : Int) (s : Int) = natL f l := by rw [hR0, hf]
        have hf8 := hid (show ∀ i, f i < 8 from fun i => by rw [hf]; have := Nat.mod_lt (stS s (i + 1) / 16) (show 0 < n by omega); show stS s (i + 1) / 16 % n < 8; omega)
        have hfv := hid (show ∀ i, f i = nxS (stS s i) / 16 % n from fun i => by rw [hf]; rfl)
        have hst := hid (fun i => stS_lt (s := s) (by omega) i)
        have hn0 : ¬ (n : Int) = 0 := by omega
        replace hR := hid hR
        replace hR0 := hid hR0
        replace hf := hid hf
        have own0 : Own (w.alloc (.cells #[.int .i64 s] 106)) w.heap.size [chRow w.heap.size s] := (Own.nil w w.heap.size).lit 106 1 1 #[.int .i64 s] (Nat.le_refl _) (by unfold maxLen; omega) rfl
        have b0 : Below w.heap.size w (w.alloc (.cells #[.int .i64 s] 106)) := (Below.refl _ w).alloc (Nat.le_refl _) _
        have own1 : Own ((w.alloc (.cells #[.int .i64 s] 106)).alloc (.cells #[] 3)) w.heap.size (intRowOf 3 (.slice (some ⟨(w.alloc (.cells #[.int .i64 s] 106)).heap.size, 0, none⟩) 0 0) [] :: [chRow w.heap.size s]) := own0.lit 3 1 0 #[] b0.size (by unfold maxLen; omega) rfl
        have b1 : Below w.heap.size w ((w.alloc (.cells #[.int .i64 s] 106)).alloc (.cells #[] 3)) := b0.alloc b0.size _
        rw [show (w.alloc (.cells #[.int .i64 s] 106)).heap.size = w.heap.size + 1 by simp] at own1
        go_enter Tryd.func38, Tryd.ntmps38
        go_wp2_with fail
        with_reducible refine (c1.out _).mono ?_
        rintro e w2 ⟨rfl, rfl⟩
        go_wp2_with fail
        with_reducible refine (c2.out _).mono ?_
        rintro e w2 ⟨rfl, rfl⟩
        go_wp2_with fail
        with_reducible refine (c3.out _).mono ?_
        rintro e w2 ⟨rfl, rfl⟩
        go_upto_region 5 with fail
        obtain ⟨B, hB0⟩ : ∃ b, b = w.heap.size := ⟨_, rfl⟩
        have hEx := hid (show ∀ u, Below B w u → Ext w u from fun u h => ⟨by rw [← hB0]; exact h⟩)
        have hBs := hid (show ∀ u, Below B w u → B ≤ u.heap.size from fun u h => by rw [hB0]; exact h.size)
        rw [← hB0] at own0 own1 b0 b1 ⊢
        replace hB0 := hid hB0
        clear own0 b0
        generalize (w.alloc (.cells #[.int .i64 s] 106)).alloc (.cells #[] 3) = w1 at *
        go_wp2_with fail
        go_loopw [9, 28] (fun u iv wr => ∃ t : Nat, t ≤ l ∧ iv = .int .i64 t ∧ Own wr B (intRowOf 3 u (natL f t) :: [chRow B (stS s t : Nat)]) ∧ Below B w wr) (fun _ iv _ => l - (intOf iv).toNat)
        case atStart => exact ⟨0, by omega, rfl, own1, b1⟩
        case round =>
          clear own1 b1
          obtain ⟨t, htl, rfl, own, hbw⟩ := hrel
          obtain ⟨wo, rfl⟩ : ∃ y : World, y = wr := ⟨_, rfl⟩
          obtain ⟨dO, n0, mO, hvO, hn0⟩ := own_formN own
          subst hvO
          have hBo : B ≤ wo.heap.size := hBs.out _ hbw
          have hn1 : n0 = t := by rw [hn0.out, natL_len]
          subst hn1
          have own6 := own
          unfold intRowOf at own6
          rw [natL_len] at own6
          replace hn0 := hid hn0
          by_cases hlt : n0 < l
          · have hfz := hfv.out n0
            have hs1 := hst.out n0
            have own7 := own6.perm (List.Perm.swap _ _ _)
            have hbl := chBelow_any (b := n) own7 hs1 (by omega) (by omega)
            obtain ⟨z, hz⟩ : ∃ z, z = nxS (stS s n0) / 16 % n := ⟨_, rfl⟩
            rw [← hz] at hfz hbl
            have hs2 : stS s (n0 + 1) = nxS (stS s n0) := rfl
            obtain ⟨y, hy⟩ : ∃ y, y = nxS (stS s n0) := ⟨_, rfl⟩
            rw [← hy] at hs2 hbl
            replace hz := hid hz
            replace hy := hid hy
            replace hs2 := hid hs2
            replace hfz := hid hfz
            replace hbl := hid hbl
            clear own own7 own6
            go_wp2_with fail
            with_reducible refine hbl.out.mono ?_
            rintro e w5 ⟨rfl, own8, b5, hw5⟩
            have own9 := own8.perm (List.Perm.swap _ _ _)
            replace hw5 := hid hw5
            have b5' := hbw.trans b5
            have hB5 := hBs.out _ b5'
            go_wp2_with (at_builtin; refine wpList_append1 rfl _ _ _ rfl elemInt rfl own9 hB5 rfl rfl (by omega) (by omega) ?_; intro v6 w6 ho6 hb6)
            have hR6 : Own w6 B (intRowOf 3 v6 (natL f (n0 + 1)) :: [chRow B (y : Nat)]) := by
              rw [natL_snoc, hfz.out]
              have h := ho6
              unfold intRowOf
              rw [List.length_append, natL_len, List.map_append]
              exact h
            go_roundw
            case rel => exact ⟨n0 + 1, by omega, by go_num, by rw [hs2.out]; exact hR6, b5'.trans hb6⟩
            case measure => simp [intOf]; omega
          · have hnl : n0 = l := by omega
            subst hnl
            have hr : IsInts wo (.slice dO n0 mO) (natL f n0) := own.reads (by rw [natL_len]; unfold Short; omega) (fun x hx => by
              obtain ⟨i, hi, rfl⟩ := natL_mem hx
              have := hf8.out i
              unfold I64
              omega)
            have eo := hEx.out _ hbw
            go_wp2_with fail
            go_ret2
            rw [hb.out, hR.out]
            exact ⟨_, rfl, hr, eo⟩
set_option maxHeartbeats 1600000 in
set_option maxRecDepth 100000 in
theorem specSd_any (n l s : Int) (w : World) :
    Calls Tryd.prog 39 #[.int .i64 n, .int .i64 l, .int .i64 s] w fun e w' => ∃ u, e = .returned (.tuple #[u, .bool (sdB n l s)]) ∧ IsInts w' u (sdR n l s) ∧ Ext w w' := by
  have c1 := fun (u : World) => l3Items_any n u
  cases h1 : inB n 1 8 with
  | false =>
    have hb : sdB n l s = false := by unfold sdB; rw [h1]; rfl
    have hR := hid (show sdR n l s = [] by unfold sdR; rw [hb]; rfl)
    replace hb := hid hb
    rw [h1] at c1
    replace c1 := hid c1
    replace h1 := hid h1
    go_enter Tryd.func39, Tryd.ntmps39
    go_wp2_with fail
    with_reducible refine (c1.out _).mono ?_
    rintro e w2 ⟨rfl, rfl⟩
    go_wp2_with fail
    go_ret2
    rw [hb.out, hR.out]
    exact ⟨_, rfl, ints_no _ _ _, Ext.allocd _ _⟩
  | true =>
    rw [h1] at c1
    replace c1 := hid c1
    have c2 := fun (u : World) => l3Length_any l u
    cases h2 : inB l 0 60 with
    | false =>
      have hb : sdB n l s = false := by unfold sdB; rw [h1, h2]; rfl
      have hR := hid (show sdR n l s = [] by unfold sdR; rw [hb]; rfl)
      replace hb := hid hb
      replace h1 := hid h1
      rw [h2] at c2
      replace c2 := hid c2
      replace h2 := hid h2
      go_enter Tryd.func39, Tryd.ntmps39
      go_wp2_with fail
      with_reducible refine (c1.out _).mono ?_
      rintro e w2 ⟨rfl, rfl⟩
      go_wp2_with fail
      with_reducible refine (c2.out _).mono ?_
      rintro e w2 ⟨rfl, rfl⟩
      go_wp2_with fail
      go_ret2
      rw [hb.out, hR.out]
      exact ⟨_, rfl, ints_no _ _ _, Ext.allocd _ _⟩
    | true =>
      rw [h2] at c2
      replace c2 := hid c2
      have c3 := fun (u : World) => l1In_any s 0 9999 u
      cases h3 : inB s 0 9999 with
      | false =>
        have hb : sdB n l s = false := by unfold sdB; rw [h1, h2, h3]; rfl
        have hR := hid (show sdR n l s = [] by unfold sdR; rw [hb]; rfl)
        replace hb := hid hb
        replace h1 := hid h1
        replace h2 := hid h2
        rw [h3] at c3
        replace c3 := hid c3
        replace h3 := hid h3
        go_enter Tryd.func39, Tryd.ntmps39
        go_wp2_with fail
        with_reducible refine (c1.out _).mono ?_
        rintro e w2 ⟨rfl, rfl⟩
        go_wp2_with fail
        with_reducible refine (c2.out _).mono ?_
        rintro e w2 ⟨rfl, rfl⟩
        go_wp2_with fail
        with_reducible refine (c3.out _).mono ?_
        rintro e w2 ⟨rfl, rfl⟩
        go_wp2_with fail
        go_ret2
        rw [hb.out, hR.out]
        exact ⟨_, rfl, ints_no _ _ _, Ext.allocd _ _⟩
      | true =>
        rw [h3] at c3
        replace c3 := hid c3
        have hb : sdB n l s = true := by unfold sdB; rw [h1, h2, h3]; rfl
        have hR0 : sdR n l s = natL (fun i => stS s.toNat (i + 1) / 16 % n.toNat) l.toNat := by unfold sdR; rw [hb]; rfl
        replace hb := hid hb
        rw [inB_true] at h1 h2 h3
        obtain ⟨n, rfl⟩ := Int.eq_ofNat_of_zero_le (show 0 ≤ n by omega)
        obtain ⟨l, rfl⟩ := Int.eq_ofNat_of_zero_le (show 0 ≤ l by omega)
        obtain ⟨s, rfl⟩ := Int.eq_ofNat_of_zero_le (show 0 ≤ s by omega)
        simp only [Int.toNat_natCast] at hR0
        obtain ⟨f, hf⟩ : ∃ f : Nat → Nat, f = fun i => stS s (i + 1) / 16 % n := ⟨_, rfl⟩
        have hR : sdR (n : Int) (l : Int) (s : Int) = natL f l := by rw [hR0, hf]
        have hf8 := hid (show ∀ i, f i < 8 from fun i => by rw [hf]; have := Nat.mod_lt (stS s (i + 1) / 16) (show 0 < n by omega); show stS s (i + 1) / 16 % n < 8; omega)
        have hfv := hid (show ∀ i, f i = nxS (stS s i) / 16 % n from fun i => by rw [hf]; rfl)
        have hst := hid (fun i => stS_lt (s := s) (by omega) i)
        have hn0 : ¬ (n : Int) = 0 := by omega
        replace hR := hid hR
        replace hR0 := hid hR0
        replace hf := hid hf
        have own1 : Own (w.alloc (.cells #[] 3)) w.heap.size [intRowOf 3 (.slice (some ⟨w.heap.size, 0, none⟩) 0 0) []] := (Own.nil w w.heap.size).lit 3 1 0 #[] (Nat.le_refl _) (by unfold maxLen; omega) rfl
        have b1 : Below w.heap.size w (w.alloc (.cells #[] 3)) := (Below.refl _ w).alloc (Nat.le_refl _) _
        go_enter Tryd.func39, Tryd.ntmps39
        go_upto_region 2 with fail
        obtain ⟨B, hB0⟩ : ∃ b, b = w.heap.size := ⟨_, rfl⟩
        have hEx := hid (show ∀ u, Below B w u → Ext w u from fun u h => ⟨by rw [← hB0]; exact h⟩)
        have hBs := hid (show ∀ u, Below B w u → B ≤ u.heap.size from fun u h => by rw [hB0]; exact h.size)
        rw [← hB0] at own1 b1 ⊢
        replace hB0 := hid hB0
        generalize w.alloc (.cells #[] 3) = w1 at *
        go_wp2_with fail
        with_reducible refine (c1.out _).mono ?_
        rintro e w2 ⟨rfl, rfl⟩
        go_wp2_with fail
        with_reducible refine (c2.out _).mono ?_
        rintro e w2 ⟨rfl, rfl⟩
        go_wp2_with fail
        with_reducible refine (c3.out _).mono ?_
        rintro e w2 ⟨rfl, rfl⟩
        go_wp2_with fail
        go_loopw [8, 9] (fun u sv wr => ∃ t : Nat, t ≤ l ∧ sv = .int .i64 (stS s t : Nat) ∧ Own wr B [intRowOf 3 u (natL f t)] ∧ Below B w wr) (fun u _ _ => l - lenOf u)
        case atStart => exact ⟨0, by omega, rfl, own1, b1⟩
        case round =>
          clear own1 b1
          obtain ⟨t, htl, rfl, own, hbw⟩ := hrel
          obtain ⟨wo, rfl⟩ : ∃ y : World, y = wr := ⟨_, rfl⟩
          obtain ⟨dO, n0, mO, hvO, hn0⟩ := own_formN own
          subst hvO
          have hBo : B ≤ wo.heap.size := hBs.out _ hbw
          have hn1 : n0 = t := by rw [hn0.out, natL_len]
          subst hn1
          have own6 := own
          unfold intRowOf at own6
          rw [natL_len] at own6
          replace hn0 := hid hn0
          by_cases hlt : n0 < l
          · have hfz := hfv.out n0
            have hs1 := hst.out n0
            have hN := fun (u : World) => l3Next_any hs1 u
            have hs2 : stS s (n0 + 1) = nxS (stS s n0) := rfl
            obtain ⟨y, hy⟩ : ∃ y, y = nxS (stS s n0) := ⟨_, rfl⟩
            rw [← hy] at hs2 hN hfz
            have hdv := dv_int y
            have hmd := md_int (y / 16) n
            obtain ⟨x, hx⟩ : ∃ x, x = y / 16 := ⟨_, rfl⟩
            rw [← hx] at hfz hdv hmd
            have hyb : y < 65536 := by rw [hy]; exact nxS_lt _
            have hwr : wrap64 (x : Int) = x := by unfold wrap64; omega
            obtain ⟨z, hz⟩ : ∃ z, z = x % n := ⟨_, rfl⟩
            rw [← hz] at hfz hmd
            replace hz := hid hz
            replace hy := hid hy
            replace hx := hid hx
            replace hs2 := hid hs2
            replace hfz := hid hfz
            replace hN := hid hN
            clear own
            go_wp2_with fail
            with_reducible refine (hN.out _).mono ?_
            rintro e w5 ⟨rfl, rfl⟩
            go_wp2_with (at_builtin; refine wpList_append1 rfl _ _ _ rfl elemInt rfl own6 hBo rfl rfl (by omega) (by omega) ?_; intro v6 w6 ho6 hb6)
            have hf6 := ho6.form
            obtain ⟨d6, m6, hv6⟩ := hf6
            have hv6' : v6 = .slice d6 (n0 + 1) m6 := hv6
            subst hv6'
            have hR6 : Own w6 B [intRowOf 3 (.slice d6 (n0 + 1) m6) (natL f (n0 + 1))] := by
              rw [natL_snoc, hfz.out]
              have h := ho6
              unfold intRowOf
              rw [List.length_append, natL_len, List.map_append]
              exact h
            go_roundw
            case rel => exact ⟨n0 + 1, by omega, by rw [hs2.out], hR6, hbw.trans hb6⟩
            case measure => simp [lenOf]; omega
          · have hnl : n0 = l := by omega
            subst hnl
            have hr : IsInts wo (.slice dO n0 mO) (natL f n0) := own.reads (by rw [natL_len]; unfold Short; omega) (fun x hx => by
              obtain ⟨i, hi, rfl⟩ := natL_mem hx
              have := hf8.out i
              unfold I64
              omega)
            have eo := hEx.out _ hbw
            go_wp2_with fail
            go_ret2
            rw [hb.out, hR.out]
            exact ⟨_, rfl, hr, eo⟩
set_option maxHeartbeats 1600000 in
set_option maxRecDepth 100000 in
theorem implNr_any (n l q s : Int) (w : World) :
    Calls Tryd.prog 41 #[.int .i64 n, .int .i64 l, .int .i64 q, .int .i64 s] w fun e w' => ∃ u, e = .returned (.tuple #[u, .bool (nrB n l q s)]) ∧ IsInts w' u (nrR n l q s) ∧ Ext w w' := by
  have c1 := fun (u : World) => isItems_any n u
  cases h1 : inB n 1 8 with
  | false =>
    have hb : nrB n l q s = false := by unfold nrB; rw [h1]; rfl
    have hR := hid (show nrR n l q s = [] by unfold nrR; rw [hb]; rfl)
    replace hb := hid hb
    rw [h1] at c1
    replace c1 := hid c1
    replace h1 := hid h1
    go_enter Tryd.func41, Tryd.ntmps41
    go_wp2_with fail
    with_reducible refine (c1.out _).mono ?_
    rintro e w2 ⟨rfl, rfl⟩
    go_wp2_with fail
    go_ret2
    rw [hb.out, hR.out]
    exact ⟨_, rfl, ints_no _ _ _, Ext.refl _⟩
  | true =>
    rw [h1] at c1
    replace c1 := hid c1
    have c2 := fun (u : World) => isLength_any l u
    cases h2 : inB l 0 60 with
    | false =>
      have hb : nrB n l q s = false := by unfold nrB; rw [h1, h2]; rfl
      have hR := hid (show nrR n l q s = [] by unfold nrR; rw [hb]; rfl)
      replace hb := hid hb
      replace h1 := hid h1
      rw [h2] at c2
      replace c2 := hid c2
      replace h2 := hid h2
      go_enter Tryd.func41, Tryd.ntmps41
      go_wp2_with fail
      with_reducible refine (c1.out _).mono ?_
      rintro e w2 ⟨rfl, rfl⟩
      go_wp2_with fail
      with_reducible refine (c2.out _).mono ?_
      rintro e w2 ⟨rfl, rfl⟩
      go_wp2_with fail
      go_ret2
      rw [hb.out, hR.out]
      exact ⟨_, rfl, ints_no _ _ _, Ext.refl _⟩
    | true =>
      rw [h2] at c2
      replace c2 := hid c2
      have c3 := fun (u : World) => within_any q 1 n u
      cases h3 : inB q 1 n with
      | false =>
        have hb : nrB n l q s = false := by unfold nrB; rw [h1, h2, h3]; rfl
        have hR := hid (show nrR n l q s = [] by unfold nrR; rw [hb]; rfl)
        replace hb := hid hb
        replace h1 := hid h1
        replace h2 := hid h2
        rw [h3] at c3
        replace c3 := hid c3
        replace h3 := hid h3
        go_enter Tryd.func41, Tryd.ntmps41
        go_wp2_with fail
        with_reducible refine (c1.out _).mono ?_
        rintro e w2 ⟨rfl, rfl⟩
        go_wp2_with fail
        with_reducible refine (c2.out _).mono ?_
        rintro e w2 ⟨rfl, rfl⟩
        go_wp2_with fail
        with_reducible refine (c3.out _).mono ?_
        rintro e w2 ⟨rfl, rfl⟩
        go_wp2_with fail
        go_ret2
        rw [hb.out, hR.out]
        exact ⟨_, rfl, ints_no _ _ _, Ext.refl _⟩
      | true =>
        rw [h3] at c3
        replace c3 := hid c3
        have c4 := fun (u : World) => within_any s 0 9999 u
        cases h4 : inB s 0 9999 with
        | false =>
          have hb : nrB n l q s = false := by unfold nrB; rw [h1, h2, h3, h4]; rfl
          have hR := hid (show nrR n l q s = [] by unfold nrR; rw [hb]; rfl)
          replace hb := hid hb
          replace h1 := hid h1
          replace h2 := hid h2
          replace h3 := hid h3
          rw [h4] at c4
          replace c4 := hid c4
          replace h4 := hid h4
          go_enter Tryd.func41, Tryd.ntmps41
          go_wp2_with fail
          with_reducible refine (c1.out _).mono ?_
          rintro e w2 ⟨rfl, rfl⟩
          go_wp2_with fail
          with_reducible refine (c2.out _).mono ?_
          rintro e w2 ⟨rfl, rfl⟩
          go_wp2_with fail
          with_reducible refine (c3.out _).mono ?_
          rintro e w2 ⟨rfl, rfl⟩
          go_wp2_with fail
          with_reducible refine (c4.out _).mono ?_
          rintro e w2 ⟨rfl, rfl⟩
          go_wp2_with fail
          go_ret2
          rw [hb.out, hR.out]
          exact ⟨_, rfl, ints_no _ _ _, Ext.refl _⟩
        | true =>
          rw [h4] at c4
          replace c4 := hid c4
          have hb : nrB n l q s = true := by unfold nrB; rw [h1, h2, h3, h4]; rfl
          have hR0 : nrR n l q s = natL (neN n.toNat q.toNat s.toNat) l.toNat := by unfold nrR; rw [hb]; rfl
          replace hb := hid hb
          rw [inB_true] at h1 h2 h3 h4
          obtain ⟨n, rfl⟩ := Int.eq_ofNat_of_zero_le (show 0 ≤ n by omega)
          obtain ⟨l, rfl⟩ := Int.eq_ofNat_of_zero_le (show 0 ≤ l by omega)
          obtain ⟨q, rfl⟩ := Int.eq_ofNat_of_zero_le (show 0 ≤ q by omega)
          obtain ⟨s, rfl⟩ := Int.eq_ofNat_of_zero_le (show 0 ≤ s by omega)
          simp only [Int.toNat_natCast] at hR0
          obtain ⟨f, hf⟩ : ∃ f : Nat → Nat, f = neN n q s := ⟨_, rfl⟩
          have hR : nrR (n : Int) (l : Int) (q : Int) (s : Int) = natL f l := by rw [hR0, hf]
          have hf8 := hid (show ∀ i, f i < 8 from fun i => by rw [hf]; have := neN_lt (w := q) (s := s) (show 0 < n by omega) i; omega)
          have hf0 := hid (show f 0 = nxS (stS s 0) / 16 % n by rw [hf]; rfl)
          have hfv := hid (show ∀ i, f (i + 1) = (f i + nxS (stS s (i + 1)) / 16 % q) % n from fun i => by rw [hf]; rfl)
          have hst := hid (fun i => stS_lt (s := s) (by omega) i)
          have hn0' : ¬ (n : Int) = 0 := by omega
          have hq0 : ¬ (q : Int) = 0 := by omega
          have hn0n : ¬ n = 0 := by omega
          have hq0n : ¬ q = 0 := by omega
          replace hR := hid hR
          replace hR0 := hid hR0
          replace hf := hid hf
          have own0 : Own (w.alloc (.cells #[.int .i64 s] 106)) w.heap.size [chRow w.heap.size s] := (Own.nil w w.heap.size).lit 106 1 1 #[.int .i64 s] (Nat.le_refl _) (by unfold maxLen; omega) rfl
          have b0 : Below w.heap.size w (w.alloc (.cells #[.int .i64 s] 106)) := (Below.refl _ w).alloc (Nat.le_refl _) _
          have own1 : Own ((w.alloc (.cells #[.int .i64 s] 106)).alloc (.cells #[] 3)) w.heap.size (intRowOf 3 (.slice (some ⟨(w.alloc (.cells #[.int .i64 s] 106)).heap.size, 0, none⟩) 0 0) [] :: [chRow w.heap.size s]) := own0.lit 3 1 0 #[] b0.size (by unfold maxLen; omega) rfl
          have b1 : Below w.heap.size w ((w.alloc (.cells #[.int .i64 s] 106)).alloc (.cells #[] 3)) := b0.alloc b0.size _
          rw [show (w.alloc (.cells #[.int .i64 s] 106)).heap.size = w.heap.size + 1 by simp] at own1
          go_enter Tryd.func41, Tryd.ntmps41
          go_wp2_with fail
          with_reducible refine (c1.out _).mono ?_
          rintro e w2 ⟨rfl, rfl⟩
          go_wp2_with fail
          with_reducible refine (c2.out _).mono ?_
          rintro e w2 ⟨rfl, rfl⟩
          go_wp2_with fail
          with_reducible refine (c3.out _).mono ?_
          rintro e w2 ⟨rfl, rfl⟩
          go_wp2_with fail
          with_reducible refine (c4.out _).mono ?_
          rintro e w2 ⟨rfl, rfl⟩
          go_upto_region 5 with fail
          obtain ⟨B, hB0⟩ : ∃ b, b = w.heap.size := ⟨_, rfl⟩
          have hEx := hid (show ∀ u, Below B w u → Ext w u from fun u h => ⟨by rw [← hB0]; exact h⟩)
          have hBs := hid (show ∀ u, Below B w u → B ≤ u.heap.size from fun u h => by rw [hB0]; exact h.size)
          rw [← hB0] at own0 own1 b0 b1 ⊢
          replace hB0 := hid hB0
          clear own0 b0
          generalize (w.alloc (.cells #[.int .i64 s] 106)).alloc (.cells #[] 3) = w1 at *
          go_wp2_with fail
          go_loopw [11, 37] (fun u iv wr => ∃ t : Nat, t ≤ l ∧ iv = .int .i64 t ∧ Own wr B (intRowOf 3 u (natL f t) :: [chRow B (stS s t : Nat)]) ∧ Below B w wr) (fun _ iv _ => l - (intOf iv).toNat)
          case atStart => exact ⟨0, by omega, rfl, own1, b1⟩
          case round =>
            clear own1 b1
            obtain ⟨t, htl, rfl, own, hbw⟩ := hrel
            obtain ⟨wo, rfl⟩ : ∃ y : World, y = wr := ⟨_, rfl⟩
            obtain ⟨dO, n0, mO, hvO, hn0⟩ := own_formN own
            subst hvO
            have hBo : B ≤ wo.heap.size := hBs.out _ hbw
            have hn1 : n0 = t := by rw [hn0.out, natL_len]
            subst hn1
            have own6 := own
            unfold intRowOf at own6
            rw [natL_len] at own6
            replace hn0 := hid hn0
            by_cases hlt : n0 < l
            · have hs1 := hst.out n0
              have hs2 : stS s (n0 + 1) = nxS (stS s n0) := rfl
              by_cases hz : n0 = 0
              · have hz0 : ((n0 : Int) == 0) = true := by simp [hz]
                have hfz : f n0 = nxS (stS s n0) / 16 % n := by rw [hz, hf0.out]
                have own7 := own6.perm (List.Perm.swap _ _ _)
                have hbl := chBelow_any (b := n) own7 hs1 (by omega) (by omega)
                obtain ⟨z, hzz⟩ : ∃ z, z = nxS (stS s n0) / 16 % n := ⟨_, rfl⟩
                rw [← hzz] at hfz hbl
                obtain ⟨y, hy⟩ : ∃ y, y = nxS (stS s n0) := ⟨_, rfl⟩
                rw [← hy] at hs2 hbl
                replace hzz := hid hzz
                replace hz := hid hz
                replace hy := hid hy
                replace hs2 := hid hs2
                replace hfz := hid hfz
                replace hbl := hid hbl
                clear own own7 own6
                go_wp2_with fail
                with_reducible refine hbl.out.mono ?_
                rintro e w5 ⟨rfl, own8, b5, hw5⟩
                have own9 := own8.perm (List.Perm.swap _ _ _)
                replace hw5 := hid hw5
                have b5' := hbw.trans b5
                have hB5 := hBs.out _ b5'
                go_wp2_with (at_builtin; refine wpList_append1 rfl _ _ _ rfl elemInt rfl own9 hB5 rfl rfl (by omega) (by omega) ?_; intro v6 w6 ho6 hb6)
                have hR6 : Own w6 B (intRowOf 3 v6 (natL f (n0 + 1)) :: [chRow B (y : Nat)]) := by
                  rw [natL_snoc, hfz.out]
                  have h := ho6
                  unfold intRowOf
                  rw [List.length_append, natL_len, List.map_append]
                  exact h
                go_roundw
                case rel => exact ⟨n0 + 1, by omega, by go_num, by rw [hs2.out]; exact hR6, b5'.trans hb6⟩
                case measure => simp [intOf]; omega
              · skip
                obtain ⟨m, hm⟩ : ∃ m, n0 = m + 1 := ⟨n0 - 1, by omega⟩
                have hsub : (n0 : Int) - 1 = (m : Int) := by omega
                have hmn : m < n0 := by omega
                have hwm : IntKind.i64.wrap (m : Int) = m := by rw [IntKind.wrap_i64]; omega
                have hz0 : ((n0 : Int) == 0) = false := by simp; omega
                obtain ⟨g, rfl⟩ := own6.at (j := 0) (by omega)
                have hat : ∀ (u : World) (L : List Row), Own u B (⟨3, 1, .slice (some ⟨g, 0, none⟩) n0 mO, n0, (natL f n0).map (Value.int .i64)⟩ :: L) → u.cell? ⟨g, m, none⟩ = some (.int .i64 (f m : Nat)) := fun u L h => by
                  rw [h.cellAt (w' := u) (j := m) hmn, hm, natL_at]
                obtain ⟨p, hp⟩ : ∃ p, p = f m := ⟨_, rfl⟩
                have hp8 : p < 8 := by rw [hp]; exact hf8.out m
                rw [← hp] at hat
                replace hat := hid hat
                have hfm := hfv.out m
                rw [← hp, ← hm] at hfm
                replace hm := hid hm
                replace hp := hid hp
                obtain ⟨a, ha⟩ : ∃ a, a = nxS (stS s n0) / 16 % q := ⟨_, rfl⟩
                have ha2 : a < q := by rw [ha]; exact Nat.mod_lt _ (by omega)
                have hmd := md_int (p + a) n
                have hal : a < 65536 := Nat.lt_of_lt_of_le ha2 (by omega)
                have hwpa := wrap_add hp8 hal
                rw [← ha] at hfm
                obtain ⟨z, hzz⟩ : ∃ z, z = (p + a) % n := ⟨_, rfl⟩
                rw [← hzz] at hfm hmd
                have hmd2 : ((p : Int) + (a : Int)).tmod (n : Int) = (z : Int) := by rw [← hmd]; simp
                have hfz : f n0 = z := hfm
                obtain ⟨y, hy⟩ : ∃ y, y = nxS (stS s n0) := ⟨_, rfl⟩
                rw [← hy] at hs2
                replace hzz := hid hzz
                replace hfm := hid hfm
                replace hmd := hid hmd
                replace hfz := hid hfz
                replace hs2 := hid hs2
                have hbe := hid (show ∀ (u : World) (h : Own u B (chRow B (stS s n0 : Nat) :: [⟨3, 1, .slice (some ⟨g, 0, none⟩) n0 mO, n0, (natL f n0).map (Value.int .i64)⟩])), Calls Tryd.prog 102 #[.pointer (some ⟨B, 0, none⟩), .int .i64 q] u fun e w' => e = .returned (.int .i64 (a : Nat)) ∧ Own w' B (chRow B (y : Nat) :: [⟨3, 1, .slice (some ⟨g, 0, none⟩) n0 mO, n0, (natL f n0).map (Value.int .i64)⟩]) ∧ Below B u w' from fun u h => by
                  refine (chBelow_any (b := q) h hs1 (by omega) (by omega)).mono ?_
                  rintro e w' ⟨rfl, h1, h2, _⟩
                  rw [ha, hy]
                  exact ⟨rfl, h1, h2⟩)
                replace ha := hid ha
                replace hy := hid hy
                have own7 := own6.ext (w' := wo.drew)
                have bd : Below B w wo.drew := hbw.trans ((inferInstance : Ext wo wo.drew).below.mono hBo)
                have tb := hat.out _ _ own7
                clear own
                go_upto_region 10 with fail
                refine wp_region_E_drew (X := fun i => i == 13 || i == 14) (S := fun w' => w'.cell? ⟨g, m, none⟩ = some (.int .i64 (p : Nat))) (by kernel_rfl) tb (fun hHeld0 => ?_)
                generalize wo.drew = wd at *
                refine wpAnyE_takeT (i := 0) (v := .slice (some ⟨g, 0, none⟩) n0 mO) rfl (by kernel_rfl) (by kernel_rfl) (by kernel_rfl) (fun _ _ _ h => h) (Or.inl ⟨by rfl, by intro wx hx; go_simp⟩) (by assumption) ?_
                try simp only [List.getElem_toArray, List.getElem_cons_zero, Act.put, List.setIfInBounds_toArray, List.set_cons_zero, List.set_cons_succ]
                refine wpAnyE_takeT (i := 1) (v := .slice (some ⟨g, 0, none⟩) n0 mO) rfl (by kernel_rfl) (by kernel_rfl) (by kernel_rfl) (fun _ _ _ h => h) (Or.inl ⟨by rfl, by intro wx hx; go_simp⟩) (by assumption) ?_
                try simp only [List.getElem_toArray, List.getElem_cons_succ, List.getElem_cons_zero, Act.put, List.setIfInBounds_toArray, List.set_cons_zero, List.set_cons_succ]
                refine wpAnyE_takeT (i := 2) (v := .int .i64 n0) rfl (by kernel_rfl) (by kernel_rfl) (by kernel_rfl) (fun _ _ _ h => h) (Or.inl ⟨by rfl, by intro wx hx; go_simp⟩) (by assumption) ?_
                try simp only [List.getElem_toArray, List.getElem_cons_succ, List.getElem_cons_zero, Act.put, List.setIfInBounds_toArray, List.set_cons_zero, List.set_cons_succ]
                refine wpAnyE_takeT (i := 3) (v := .int .i64 m) rfl (by kernel_rfl) (by kernel_rfl) (by kernel_rfl) (fun _ _ _ h => h) (Or.inl ⟨by rfl, by intro wx hx; go_simp⟩) (by assumption) ?_
                try simp only [List.getElem_toArray, List.getElem_cons_succ, List.getElem_cons_zero, Act.put, List.setIfInBounds_toArray, List.set_cons_zero, List.set_cons_succ]
                refine wpAnyE_takeT (i := 4) (v := .pointer (some ⟨g, m, none⟩)) rfl (by kernel_rfl) (by kernel_rfl) (by kernel_rfl) (fun _ _ _ h => h) (Or.inl ⟨by rfl, by intro wx hx; go_simp⟩) (by assumption) ?_
                try simp only [List.getElem_toArray, List.getElem_cons_succ, List.getElem_cons_zero, Act.put, List.setIfInBounds_toArray, List.set_cons_zero, List.set_cons_succ]
                refine wpAnyE_takeT (i := 5) (v := .int .i64 p) rfl (by kernel_rfl) (by kernel_rfl) (by kernel_rfl) (fun _ _ _ h => h) (Or.inl ⟨by rfl, by intro wx hx; go_simp⟩) (by assumption) ?_
                try simp only [List.getElem_toArray, List.getElem_cons_succ, List.getElem_cons_zero, Act.put, List.setIfInBounds_toArray, List.set_cons_zero, List.set_cons_succ]
                refine wpAnyE_takeT (i := 6) (v := .pointer (some ⟨B, 0, none⟩)) rfl (by kernel_rfl) (by kernel_rfl) (by kernel_rfl) (fun _ _ _ h => h) (Or.inl ⟨by rfl, by intro wx hx; go_simp⟩) (by assumption) ?_
                try simp only [List.getElem_toArray, List.getElem_cons_succ, List.getElem_cons_zero, Act.put, List.setIfInBounds_toArray, List.set_cons_zero, List.set_cons_succ]
                refine wpAnyE_takeT (i := 7) (v := .int .i64 q) rfl (by kernel_rfl) (by kernel_rfl) (by kernel_rfl) (fun _ _ _ h => h) (Or.inl ⟨by rfl, by intro wx hx; go_simp⟩) (by assumption) ?_
                try simp only [List.getElem_toArray, List.getElem_cons_succ, List.getElem_cons_zero, Act.put, List.setIfInBounds_toArray, List.set_cons_zero, List.set_cons_succ]
                refine wpAnyE_takeT (i := 10) (v := .int .i64 n) rfl (by kernel_rfl) (by kernel_rfl) (by kernel_rfl) (fun _ _ _ h => h) (Or.inl ⟨by rfl, by intro wx hx; go_simp⟩) (by assumption) ?_
                try simp only [List.getElem_toArray, List.getElem_cons_succ, List.getElem_cons_zero, Act.put, List.setIfInBounds_toArray, List.set_cons_zero, List.set_cons_succ]
                refine wpAnyE_ready (rs := [8]) (by kernel_rfl) (by simp) ?_
                refine AllReadyE.cons rfl (fun K hK => ?_) AllReadyE.nil
                go_simp
                with_reducible refine (hbe.out _ (own7.perm (List.Perm.swap _ _ _))).mono ?_
                rintro e w5 ⟨rfl, own8, b5⟩
                have own9 := own8.perm (List.Perm.swap _ _ _)
                have b5' := bd.trans b5
                have hB5 := hBs.out _ b5'
                clear own7 own8 tb own6 hHeld0
                refine hK.out _ _ (.inr (hat.out _ _ own9)) (fun _ => ?_)
                clear hK K
                try simp only [List.getElem_toArray, List.getElem_cons_succ, List.getElem_cons_zero, Act.put, List.setIfInBounds_toArray, List.set_cons_zero, List.set_cons_succ]
                have hHeld1 := hat.out _ _ own9
                refine wpAnyE_takeT (i := 9) (v := .int .i64 ((p : Int) + (a : Int))) rfl (by kernel_rfl) (by kernel_rfl) (by kernel_rfl) (fun _ _ _ h => h) (Or.inl ⟨by rfl, by intro wx hx; go_simp⟩) (by assumption) ?_
                try simp only [List.getElem_toArray, List.getElem_cons_succ, List.getElem_cons_zero, Act.put, List.setIfInBounds_toArray, List.set_cons_zero, List.set_cons_succ]
                refine wpAnyE_takeT (i := 11) (v := .int .i64 z) rfl (by kernel_rfl) (by kernel_rfl) (by kernel_rfl) (fun _ _ _ h => h) (Or.inl ⟨by rfl, by intro wx hx; go_simp⟩) (by assumption) ?_
                try simp only [List.getElem_toArray, List.getElem_cons_succ, List.getElem_cons_zero, Act.put, List.setIfInBounds_toArray, List.set_cons_zero, List.set_cons_succ]
                clear hHeld1
                refine wpAnyE_ready (rs := [12]) (by kernel_rfl) (by simp) ?_
                refine AllReadyE.cons rfl (fun K hK => ?_) AllReadyE.nil
                go_simp
                have oL := own9.lit 3 1 1 #[.int .i64 z] hB5 (by unfold maxLen; omega) rfl
                have b6 : Below B w (w5.alloc (.cells #[.int .i64 z] 3)) := b5'.alloc hB5 _
                have c6 : (w5.alloc (.cells #[.int .i64 z] 3)).cell? ⟨w5.heap.size, 0, none⟩ = some (.int .i64 z) := by go_simp
                refine hK.out _ _ (.inr (hat.out _ _ oL.tail)) (fun _ => ?_)
                clear hK K
                try simp only [List.getElem_toArray, List.getElem_cons_succ, List.getElem_cons_zero, Act.put, List.setIfInBounds_toArray, List.set_cons_zero, List.set_cons_succ]
                generalize w5.alloc (.cells #[.int .i64 z] 3) = w6 at *
                generalize w5.heap.size = gl at *
                have hB6 : B ≤ w6.heap.size := hBs.out _ b6
                have o6 := oL.tail
                refine wpAnyE_ready (rs := [13]) (by kernel_rfl) (by simp) ?_
                refine AllReadyE.cons rfl (fun K hK => ?_) AllReadyE.nil
                refine stp_one rfl (.tmp 48) (.tmp 60) 41 rfl elemInt rfl o6 hB6 (us := [.int .i64 z]) rfl rfl ?_ (by intro u hu; simp at hu; subst hu; rfl) (by omega) (by omega) ?_
                · intro jj u hj
                  match jj, hj with
                  | 0, hj => simp at hj; subst hj; exact c6
                intro v7 w7 ho7 hb7
                obtain ⟨d7, m7, hv7⟩ := ho7.form
                have hv7' : v7 = .slice d7 (n0 + 1) m7 := hv7
                subst hv7'
                have b7 := b6.trans hb7
                refine hK.out _ _ (.inl rfl) (fun _ => ?_)
                clear hK K
                try simp only [List.getElem_toArray, List.getElem_cons_succ, List.getElem_cons_zero, Act.put, List.setIfInBounds_toArray, List.set_cons_zero, List.set_cons_succ]
                refine wpAnyE_ready (rs := [14]) (by kernel_rfl) (by simp) ?_
                refine AllReadyE.cons rfl (fun K hK => ?_) AllReadyE.nil
                go_simp
                refine hK.out _ _ (.inl rfl) (fun _ => ?_)
                clear hK K
                try simp only [List.getElem_toArray, List.getElem_cons_succ, List.getElem_cons_zero, Act.put, List.setIfInBounds_toArray, List.set_cons_zero, List.set_cons_succ]
                refine wpAnyE_done (by kernel_rfl) ?_ _
                have hR6 : Own w7 B (intRowOf 3 (.slice d7 (n0 + 1) m7) (natL f (n0 + 1)) :: [chRow B (y : Nat)]) := by
                  rw [natL_snoc, hfz.out]
                  have h := ho7
                  unfold intRowOf
                  rw [List.length_append, natL_len, List.map_append]
                  exact h
                go_wp2_with fail
                go_roundw
                case rel => exact ⟨n0 + 1, by omega, by go_num, by rw [hs2.out]; exact hR6, b7⟩
                case measure => simp [intOf]; omega
            · have hnl : n0 = l := by omega
              subst hnl
              have hr : IsInts wo (.slice dO n0 mO) (natL f n0) := own.reads (by rw [natL_len]; unfold Short; omega) (fun x hx => by
                obtain ⟨i, hi, rfl⟩ := natL_mem hx
                have := hf8.out i
                unfold I64
                omega)
              have eo := hEx.out _ hbw
              go_wp2_with fail
              go_ret2
              rw [hb.out, hR.out]
              exact ⟨_, rfl, hr, eo⟩
set_option maxHeartbeats 1600000 in
set_option maxRecDepth 100000 in
theorem specNr_any (n l q s : Int) (w : World) :
    Calls Tryd.prog 42 #[.int .i64 n, .int .i64 l, .int .i64 q, .int .i64 s] w fun e w' => ∃ u, e = .returned (.tuple #[u, .bool (nrB n l q s)]) ∧ IsInts w' u (nrR n l q s) ∧ Ext w w' := by
  have c1 := fun (u : World) => l3Items_any n u
  cases h1 : inB n 1 8 with
  | false =>
    have hb : nrB n l q s = false := by unfold nrB; rw [h1]; rfl
    have hR := hid (show nrR n l q s = [] by unfold nrR; rw [hb]; rfl)
    replace hb := hid hb
    rw [h1] at c1
    replace c1 := hid c1
    replace h1 := hid h1
    go_enter Tryd.func42, Tryd.ntmps42
    go_wp2_with fail
    with_reducible refine (c1.out _).mono ?_
    rintro e w2 ⟨rfl, rfl⟩
    go_wp2_with fail
    go_ret2
    rw [hb.out, hR.out]
    exact ⟨_, rfl, ints_no _ _ _, Ext.allocd _ _⟩
  | true =>
    rw [h1] at c1
    replace c1 := hid c1
    have c2 := fun (u : World) => l3Length_any l u
    cases h2 : inB l 0 60 with
    | false =>
      have hb : nrB n l q s = false := by unfold nrB; rw [h1, h2]; rfl
      have hR := hid (show nrR n l q s = [] by unfold nrR; rw [hb]; rfl)
      replace hb := hid hb
      replace h1 := hid h1
      rw [h2] at c2
      replace c2 := hid c2
      replace h2 := hid h2
      go_enter Tryd.func42, Tryd.ntmps42
      go_wp2_with fail
      with_reducible refine (c1.out _).mono ?_
      rintro e w2 ⟨rfl, rfl⟩
      go_wp2_with fail
      with_reducible refine (c2.out _).mono ?_
      rintro e w2 ⟨rfl, rfl⟩
      go_wp2_with fail
      go_ret2
      rw [hb.out, hR.out]
      exact ⟨_, rfl, ints_no _ _ _, Ext.allocd _ _⟩
    | true =>
      rw [h2] at c2
      replace c2 := hid c2
      have c3 := fun (u : World) => l1In_any q 1 n u
      cases h3 : inB q 1 n with
      | false =>
        have hb : nrB n l q s = false := by unfold nrB; rw [h1, h2, h3]; rfl
        have hR := hid (show nrR n l q s = [] by unfold nrR; rw [hb]; rfl)
        replace hb := hid hb
        replace h1 := hid h1
        replace h2 := hid h2
        rw [h3] at c3
        replace c3 := hid c3
        replace h3 := hid h3
        go_enter Tryd.func42, Tryd.ntmps42
        go_wp2_with fail
        with_reducible refine (c1.out _).mono ?_
        rintro e w2 ⟨rfl, rfl⟩
        go_wp2_with fail
        with_reducible refine (c2.out _).mono ?_
        rintro e w2 ⟨rfl, rfl⟩
        go_wp2_with fail
        with_reducible refine (c3.out _).mono ?_
        rintro e w2 ⟨rfl, rfl⟩
        go_wp2_with fail
        go_ret2
        rw [hb.out, hR.out]
        exact ⟨_, rfl, ints_no _ _ _, Ext.allocd _ _⟩
      | true =>
        rw [h3] at c3
        replace c3 := hid c3
        have c4 := fun (u : World) => l1In_any s 0 9999 u
        cases h4 : inB s 0 9999 with
        | false =>
          have hb : nrB n l q s = false := by unfold nrB; rw [h1, h2, h3, h4]; rfl
          have hR := hid (show nrR n l q s = [] by unfold nrR; rw [hb]; rfl)
          replace hb := hid hb
          replace h1 := hid h1
          replace h2 := hid h2
          replace h3 := hid h3
          rw [h4] at c4
          replace c4 := hid c4
          replace h4 := hid h4
          go_enter Tryd.func42, Tryd.ntmps42
          go_wp2_with fail
          with_reducible refine (c1.out _).mono ?_
          rintro e w2 ⟨rfl, rfl⟩
          go_wp2_with fail
          with_reducible refine (c2.out _).mono ?_
          rintro e w2 ⟨rfl, rfl⟩
          go_wp2_with fail
          with_reducible refine (c3.out _).mono ?_
          rintro e w2 ⟨rfl, rfl⟩
          go_wp2_with fail
          with_reducible refine (c4.out _).mono ?_
          rintro e w2 ⟨rfl, rfl⟩
          go_wp2_with fail
          go_ret2
          rw [hb.out, hR.out]
          exact ⟨_, rfl, ints_no _ _ _, Ext.allocd _ _⟩
        | true =>
          rw [h4] at c4
          replace c4 := hid c4
          have hb : nrB n l q s = true := by unfold nrB; rw [h1, h2, h3, h4]; rfl
          have hR0 : nrR n l q s = natL (neN n.toNat q.toNat s.toNat) l.toNat := by unfold nrR; rw [hb]; rfl
          replace hb := hid hb
          rw [inB_true] at h1 h2 h3 h4
          obtain ⟨n, rfl⟩ := Int.eq_ofNat_of_zero_le (show 0 ≤ n by omega)
          obtain ⟨l, rfl⟩ := Int.eq_ofNat_of_zero_le (show 0 ≤ l by omega)
          obtain ⟨q, rfl⟩ := Int.eq_ofNat_of_zero_le (show 0 ≤ q by omega)
          obtain ⟨s, rfl⟩ := Int.eq_ofNat_of_zero_le (show 0 ≤ s by omega)
          simp only [Int.toNat_natCast] at hR0
          obtain ⟨f, hf⟩ : ∃ f : Nat → Nat, f = neN n q s := ⟨_, rfl⟩
          have hR : nrR (n : Int) (l : Int) (q : Int) (s : Int) = natL f l := by rw [hR0, hf]
          have hf8 := hid (show ∀ i, f i < 8 from fun i => by rw [hf]; have := neN_lt (w := q) (s := s) (show 0 < n by omega) i; omega)
          have hf0 := hid (show f 0 = nxS (stS s 0) / 16 % n by rw [hf]; rfl)
          have hfv := hid (show ∀ i, f (i + 1) = (f i + nxS (stS s (i + 1)) / 16 % q) % n from fun i => by rw [hf]; rfl)
          have hst := hid (fun i => stS_lt (s := s) (by omega) i)
          have hn0' : ¬ (n : Int) = 0 := by omega
          have hq0 : ¬ (q : Int) = 0 := by omega
          have hn0n : ¬ n = 0 := by omega
          have hq0n : ¬ q = 0 := by omega
          replace hR := hid hR
          replace hR0 := hid hR0
          replace hf := hid hf
          have own1 : Own (w.alloc (.cells #[] 3)) w.heap.size [intRowOf 3 (.slice (some ⟨w.heap.size, 0, none⟩) 0 0) []] := (Own.nil w w.heap.size).lit 3 1 0 #[] (Nat.le_refl _) (by unfold maxLen; omega) rfl
          have b1 : Below w.heap.size w (w.alloc (.cells #[] 3)) := (Below.refl _ w).alloc (Nat.le_refl _) _
          go_enter Tryd.func42, Tryd.ntmps42
          go_upto_region 2 with fail
          obtain ⟨B, hB0⟩ : ∃ b, b = w.heap.size := ⟨_, rfl⟩
          have hEx := hid (show ∀ u, Below B w u → Ext w u from fun u h => ⟨by rw [← hB0]; exact h⟩)
          have hBs := hid (show ∀ u, Below B w u → B ≤ u.heap.size from fun u h => by rw [hB0]; exact h.size)
          rw [← hB0] at own1 b1 ⊢
          replace hB0 := hid hB0
          generalize w.alloc (.cells #[] 3) = w1 at *
          go_wp2_with fail
          with_reducible refine (c1.out _).mono ?_
          rintro e w2 ⟨rfl, rfl⟩
          go_wp2_with fail
          with_reducible refine (c2.out _).mono ?_
          rintro e w2 ⟨rfl, rfl⟩
          go_wp2_with fail
          with_reducible refine (c3.out _).mono ?_
          rintro e w2 ⟨rfl, rfl⟩
          go_wp2_with fail
          with_reducible refine (c4.out _).mono ?_
          rintro e w2 ⟨rfl, rfl⟩
          go_wp2_with fail
          go_loopw [10, 11] (fun u sv wr => ∃ t : Nat, t ≤ l ∧ sv = .int .i64 (stS s t : Nat) ∧ Own wr B [intRowOf 3 u (natL f t)] ∧ Below B w wr) (fun u _ _ => l - lenOf u)
          case atStart => exact ⟨0, by omega, rfl, own1, b1⟩
          case round =>
            clear own1 b1
            obtain ⟨t, htl, rfl, own, hbw⟩ := hrel
            obtain ⟨wo, rfl⟩ : ∃ y : World, y = wr := ⟨_, rfl⟩
            obtain ⟨dO, n0, mO, hvO, hn0⟩ := own_formN own
            subst hvO
            have hBo : B ≤ wo.heap.size := hBs.out _ hbw
            have hn1 : n0 = t := by rw [hn0.out, natL_len]
            subst hn1
            have own6 := own
            unfold intRowOf at own6
            rw [natL_len] at own6
            replace hn0 := hid hn0
            by_cases hlt : n0 < l
            · have hs1 := hst.out n0
              have hs2 : stS s (n0 + 1) = nxS (stS s n0) := rfl
              have hN := fun (u : World) => l3Next_any hs1 u
              by_cases hz : n0 = 0
              · have hz0 : ((n0 : Int) == 0) = true := by simp [hz]
                have hfz : f n0 = nxS (stS s n0) / 16 % n := by rw [hz, hf0.out]
                obtain ⟨y, hy⟩ : ∃ y, y = nxS (stS s n0) := ⟨_, rfl⟩
                rw [← hy] at hs2 hN hfz
                have hdv := dv_int y
                have hmd := md_int (y / 16) n
                obtain ⟨x, hx⟩ : ∃ x, x = y / 16 := ⟨_, rfl⟩
                rw [← hx] at hfz hdv hmd
                have hyb : y < 65536 := by rw [hy]; exact nxS_lt _
                have hxl : x < 65536 := by rw [hx]; exact Nat.lt_of_le_of_lt (Nat.div_le_self _ _) hyb
                have hwr := wrap64_small hxl
                obtain ⟨z, hzz⟩ : ∃ z, z = x % n := ⟨_, rfl⟩
                rw [← hzz] at hfz hmd
                replace hz := hid hz
                replace hzz := hid hzz
                replace hy := hid hy
                replace hx := hid hx
                replace hs2 := hid hs2
                replace hfz := hid hfz
                replace hN := hid hN
                clear own
                go_wp2_with fail
                with_reducible refine (hN.out _).mono ?_
                rintro e w5 ⟨rfl, rfl⟩
                go_wp2_with (at_builtin; refine wpList_append1 rfl _ _ _ rfl elemInt rfl own6 hBo rfl rfl (by omega) (by omega) ?_; intro v6 w6 ho6 hb6)
                obtain ⟨d6, m6, hv6⟩ := ho6.form
                have hv6' : v6 = .slice d6 (n0 + 1) m6 := hv6
                subst hv6'
                have hR6 : Own w6 B [intRowOf 3 (.slice d6 (n0 + 1) m6) (natL f (n0 + 1))] := by
                  rw [natL_snoc, hfz.out]
                  have h := ho6
                  unfold intRowOf
                  rw [List.length_append, natL_len, List.map_append]
                  exact h
                go_roundw
                case rel => exact ⟨n0 + 1, by omega, by rw [hs2.out], hR6, hbw.trans hb6⟩
                case measure => simp [lenOf]; omega
              · skip
                obtain ⟨m, hm⟩ : ∃ m, n0 = m + 1 := ⟨n0 - 1, by omega⟩
                have hsub : (n0 : Int) - 1 = (m : Int) := by omega
                have hmn : m < n0 := by omega
                have hwm : IntKind.i64.wrap (m : Int) = m := by rw [IntKind.wrap_i64]; omega
                have hz0 : ((n0 : Int) == 0) = false := by simp; omega
                obtain ⟨g, rfl⟩ := own6.at (j := 0) (by omega)
                have hat : ∀ (u : World) (L : List Row), Own u B (⟨3, 1, .slice (some ⟨g, 0, none⟩) n0 mO, n0, (natL f n0).map (Value.int .i64)⟩ :: L) → u.cell? ⟨g, m, none⟩ = some (.int .i64 (f m : Nat)) := fun u L h => by
                  rw [h.cellAt (w' := u) (j := m) hmn, hm, natL_at]
                obtain ⟨p, hp⟩ : ∃ p, p = f m := ⟨_, rfl⟩
                have hp8 : p < 8 := by rw [hp]; exact hf8.out m
                rw [← hp] at hat
                replace hat := hid hat
                have hfm := hfv.out m
                rw [← hp, ← hm] at hfm
                replace hm := hid hm
                replace hp := hid hp
                obtain ⟨y, hy⟩ : ∃ y, y = nxS (stS s n0) := ⟨_, rfl⟩
                rw [← hy] at hs2 hN hfm
                have hdv := dv_int y
                have hmdq := md_int (y / 16) q
                obtain ⟨x, hx⟩ : ∃ x, x = y / 16 := ⟨_, rfl⟩
                rw [← hx] at hfm hdv hmdq
                have hyb : y < 65536 := by rw [hy]; exact nxS_lt _
                have hxl : x < 65536 := by rw [hx]; exact Nat.lt_of_le_of_lt (Nat.div_le_self _ _) hyb
                have hwr := wrap64_small hxl
                have hwx := wrap_small hxl
                obtain ⟨a, ha⟩ : ∃ a, a = x % q := ⟨_, rfl⟩
                have ha2 : a < q := by rw [ha]; exact Nat.mod_lt _ (by omega)
                rw [← ha] at hfm hmdq
                have hmd := md_int (p + a) n
                have hal : a < 65536 := Nat.lt_of_lt_of_le ha2 (by omega)
                have hwpa := wrap_add hp8 hal
                obtain ⟨z, hzz⟩ : ∃ z, z = (p + a) % n := ⟨_, rfl⟩
                rw [← hzz] at hfm hmd
                have hmd2 : ((p : Int) + (a : Int)).tmod (n : Int) = (z : Int) := by rw [← hmd]; simp
                have hfz : f n0 = z := hfm
                replace hzz := hid hzz
                replace hfm := hid hfm
                replace hmd := hid hmd
                replace hfz := hid hfz
                replace hs2 := hid hs2
                replace ha := hid ha
                replace hy := hid hy
                replace hx := hid hx
                replace hN := hid hN
                clear own
                go_wp2_with fail
                with_reducible refine (hN.out _).mono ?_
                rintro e w5 ⟨rfl, rfl⟩
                go_upto_region 9 with fail
                have own7 := own6.ext (w' := wo.drew)
                have bd : Below B w wo.drew := hbw.trans ((inferInstance : Ext wo wo.drew).below.mono hBo)
                have tb := hat.out _ _ own7
                have hBd := hBs.out _ bd
                refine wp_region_E_drew (X := fun i => i == 15 || i == 16) (S := fun w' => w'.cell? ⟨g, m, none⟩ = some (.int .i64 (p : Nat))) (by kernel_rfl) tb (fun hHeld0 => ?_)
                generalize wo.drew = wd at *
                refine wpAnyE_takeT (i := 0) (v := .slice (some ⟨g, 0, none⟩) n0 mO) rfl (by kernel_rfl) (by kernel_rfl) (by kernel_rfl) (fun _ _ _ h => h) (Or.inl ⟨by rfl, by intro wx hx; go_simp⟩) (by assumption) ?_
                try simp only [List.getElem_toArray, List.getElem_cons_zero, Act.put, List.setIfInBounds_toArray, List.set_cons_zero, List.set_cons_succ]
                refine wpAnyE_takeT (i := 1) (v := .slice (some ⟨g, 0, none⟩) n0 mO) rfl (by kernel_rfl) (by kernel_rfl) (by kernel_rfl) (fun _ _ _ h => h) (Or.inl ⟨by rfl, by intro wx hx; go_simp⟩) (by assumption) ?_
                try simp only [List.getElem_toArray, List.getElem_cons_succ, List.getElem_cons_zero, Act.put, List.setIfInBounds_toArray, List.set_cons_zero, List.set_cons_succ]
                refine wpAnyE_takeT (i := 2) (v := .slice (some ⟨g, 0, none⟩) n0 mO) rfl (by kernel_rfl) (by kernel_rfl) (by kernel_rfl) (fun _ _ _ h => h) (Or.inl ⟨by rfl, by intro wx hx; go_simp⟩) (by assumption) ?_
                try simp only [List.getElem_toArray, List.getElem_cons_succ, List.getElem_cons_zero, Act.put, List.setIfInBounds_toArray, List.set_cons_zero, List.set_cons_succ]
                refine wpAnyE_takeT (i := 3) (v := .int .i64 n0) rfl (by kernel_rfl) (by kernel_rfl) (by kernel_rfl) (fun _ _ _ h => h) (Or.inl ⟨by rfl, by intro wx hx; go_simp⟩) (by assumption) ?_
                try simp only [List.getElem_toArray, List.getElem_cons_succ, List.getElem_cons_zero, Act.put, List.setIfInBounds_toArray, List.set_cons_zero, List.set_cons_succ]
                refine wpAnyE_takeT (i := 4) (v := .int .i64 m) rfl (by kernel_rfl) (by kernel_rfl) (by kernel_rfl) (fun _ _ _ h => h) (Or.inl ⟨by rfl, by intro wx hx; go_simp⟩) (by assumption) ?_
                try simp only [List.getElem_toArray, List.getElem_cons_succ, List.getElem_cons_zero, Act.put, List.setIfInBounds_toArray, List.set_cons_zero, List.set_cons_succ]
                refine wpAnyE_takeT (i := 5) (v := .pointer (some ⟨g, m, none⟩)) rfl (by kernel_rfl) (by kernel_rfl) (by kernel_rfl) (fun _ _ _ h => h) (Or.inl ⟨by rfl, by intro wx hx; go_simp⟩) (by assumption) ?_
                try simp only [List.getElem_toArray, List.getElem_cons_succ, List.getElem_cons_zero, Act.put, List.setIfInBounds_toArray, List.set_cons_zero, List.set_cons_succ]
                refine wpAnyE_takeT (i := 6) (v := .int .i64 p) rfl (by kernel_rfl) (by kernel_rfl) (by kernel_rfl) (fun _ _ _ h => h) (Or.inl ⟨by rfl, by intro wx hx; go_simp⟩) (by assumption) ?_
                try simp only [List.getElem_toArray, List.getElem_cons_succ, List.getElem_cons_zero, Act.put, List.setIfInBounds_toArray, List.set_cons_zero, List.set_cons_succ]
                refine wpAnyE_takeT (i := 7) (v := .int .i64 y) rfl (by kernel_rfl) (by kernel_rfl) (by kernel_rfl) (fun _ _ _ h => h) (Or.inl ⟨by rfl, by intro wx hx; go_simp⟩) (by assumption) ?_
                try simp only [List.getElem_toArray, List.getElem_cons_succ, List.getElem_cons_zero, Act.put, List.setIfInBounds_toArray, List.set_cons_zero, List.set_cons_succ]
                refine wpAnyE_takeT (i := 8) (v := .int .i64 x) rfl (by kernel_rfl) (by kernel_rfl) (by kernel_rfl) (fun _ _ _ h => h) (Or.inl ⟨by rfl, by intro wx hx; go_simp⟩) (by assumption) ?_
                try simp only [List.getElem_toArray, List.getElem_cons_succ, List.getElem_cons_zero, Act.put, List.setIfInBounds_toArray, List.set_cons_zero, List.set_cons_succ]
                refine wpAnyE_takeT (i := 9) (v := .int .i64 q) rfl (by kernel_rfl) (by kernel_rfl) (by kernel_rfl) (fun _ _ _ h => h) (Or.inl ⟨by rfl, by intro wx hx; go_simp⟩) (by assumption) ?_
                try simp only [List.getElem_toArray, List.getElem_cons_succ, List.getElem_cons_zero, Act.put, List.setIfInBounds_toArray, List.set_cons_zero, List.set_cons_succ]
                refine wpAnyE_takeT (i := 10) (v := .int .i64 a) rfl (by kernel_rfl) (by kernel_rfl) (by kernel_rfl) (fun _ _ _ h => h) (Or.inl ⟨by rfl, by intro wx hx; go_simp⟩) (by assumption) ?_
                try simp only [List.getElem_toArray, List.getElem_cons_succ, List.getElem_cons_zero, Act.put, List.setIfInBounds_toArray, List.set_cons_zero, List.set_cons_succ]
                refine wpAnyE_takeT (i := 11) (v := .int .i64 ((p : Int) + (a : Int))) rfl (by kernel_rfl) (by kernel_rfl) (by kernel_rfl) (fun _ _ _ h => h) (Or.inl ⟨by rfl, by intro wx hx; go_simp⟩) (by assumption) ?_
                try simp only [List.getElem_toArray, List.getElem_cons_succ, List.getElem_cons_zero, Act.put, List.setIfInBounds_toArray, List.set_cons_zero, List.set_cons_succ]
                refine wpAnyE_takeT (i := 12) (v := .int .i64 n) rfl (by kernel_rfl) (by kernel_rfl) (by kernel_rfl) (fun _ _ _ h => h) (Or.inl ⟨by rfl, by intro wx hx; go_simp⟩) (by assumption) ?_
                try simp only [List.getElem_toArray, List.getElem_cons_succ, List.getElem_cons_zero, Act.put, List.setIfInBounds_toArray, List.set_cons_zero, List.set_cons_succ]
                refine wpAnyE_takeT (i := 13) (v := .int .i64 z) rfl (by kernel_rfl) (by kernel_rfl) (by kernel_rfl) (fun _ _ _ h => h) (Or.inl ⟨by rfl, by intro wx hx; go_simp⟩) (by assumption) ?_
                try simp only [List.getElem_toArray, List.getElem_cons_succ, List.getElem_cons_zero, Act.put, List.setIfInBounds_toArray, List.set_cons_zero, List.set_cons_succ]
                clear tb own6 hHeld0
                refine wpAnyE_ready (rs := [14]) (by kernel_rfl) (by simp) ?_
                refine AllReadyE.cons rfl (fun K hK => ?_) AllReadyE.nil
                go_simp
                have oL := own7.lit 3 1 1 #[.int .i64 z] hBd (by unfold maxLen; omega) rfl
                have b6 : Below B w (wd.alloc (.cells #[.int .i64 z] 3)) := bd.alloc hBd _
                have c6 : (wd.alloc (.cells #[.int .i64 z] 3)).cell? ⟨wd.heap.size, 0, none⟩ = some (.int .i64 z) := by go_simp
                refine hK.out _ _ (.inr (hat.out _ _ oL.tail)) (fun _ => ?_)
                clear hK K
                try simp only [List.getElem_toArray, List.getElem_cons_succ, List.getElem_cons_zero, Act.put, List.setIfInBounds_toArray, List.set_cons_zero, List.set_cons_succ]
                generalize wd.alloc (.cells #[.int .i64 z] 3) = w6 at *
                generalize wd.heap.size = gl at *
                have hB6 : B ≤ w6.heap.size := hBs.out _ b6
                have o6 := oL.tail
                refine wpAnyE_ready (rs := [15]) (by kernel_rfl) (by simp) ?_
                refine AllReadyE.cons rfl (fun K hK => ?_) AllReadyE.nil
                refine stp_one rfl (.tmp 50) (.tmp 64) 41 rfl elemInt rfl o6 hB6 (us := [.int .i64 z]) rfl rfl ?_ (by intro u hu; simp at hu; subst hu; rfl) (by omega) (by omega) ?_
                · intro jj u hj
                  match jj, hj with
                  | 0, hj => simp at hj; subst hj; exact c6
                intro v7 w7 ho7 hb7
                obtain ⟨d7, m7, hv7⟩ := ho7.form
                have hv7' : v7 = .slice d7 (n0 + 1) m7 := hv7
                subst hv7'
                have b7 := b6.trans hb7
                refine hK.out _ _ (.inl rfl) (fun _ => ?_)
                clear hK K
                try simp only [List.getElem_toArray, List.getElem_cons_succ, List.getElem_cons_zero, Act.put, List.setIfInBounds_toArray, List.set_cons_zero, List.set_cons_succ]
                refine wpAnyE_ready (rs := [16]) (by kernel_rfl) (by simp) ?_
                refine AllReadyE.cons rfl (fun K hK => ?_) AllReadyE.nil
                go_simp
                refine hK.out _ _ (.inl rfl) (fun _ => ?_)
                clear hK K
                try simp only [List.getElem_toArray, List.getElem_cons_succ, List.getElem_cons_zero, Act.put, List.setIfInBounds_toArray, List.set_cons_zero, List.set_cons_succ]
                refine wpAnyE_done (by kernel_rfl) ?_ _
                have hR6 : Own w7 B [intRowOf 3 (.slice d7 (n0 + 1) m7) (natL f (n0 + 1))] := by
                  rw [natL_snoc, hfz.out]
                  have h := ho7
                  unfold intRowOf
                  rw [List.length_append, natL_len, List.map_append]
                  exact h
                go_wp2_with fail
                go_roundw
                case rel => exact ⟨n0 + 1, by omega, by rw [hs2.out], hR6, b7⟩
                case measure => simp [lenOf]; omega
            · have hnl : n0 = l := by omega
              subst hnl
              have hr : IsInts wo (.slice dO n0 mO) (natL f n0) := own.reads (by rw [natL_len]; unfold Short; omega) (fun x hx => by
                obtain ⟨i, hi, rfl⟩ := natL_mem hx
                have := hf8.out i
                unfold I64
                omega)
              have eo := hEx.out _ hbw
              go_wp2_with fail
              go_ret2
              rw [hb.out, hR.out]
              exact ⟨_, rfl, hr, eo⟩
end Go.Proofs.YtdohjmbhgjfcaaaDoor
