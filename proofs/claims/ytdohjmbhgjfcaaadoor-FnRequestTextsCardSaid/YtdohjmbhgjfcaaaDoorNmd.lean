/- Texts drawn from a code: one among some, and the arguments of FnStrings. -/
import Derived.Test.YtdohjmbhgjfcaaaDoorCkj
import Derived.Test.YtdohjmbhgjfcaaaDoorCur
import Derived.Laws.IdiomStrings
namespace Go.Proofs.YtdohjmbhgjfcaaaDoor
open Go.RowKit

theorem CurAt.sz {w : World} {B c : Nat} {vc : Value} {a : Int} {R : List Row} (h : CurAt w B c vc a R) : B ≤ w.heap.size := by
  obtain ⟨s, h⟩ := h
  have := ow_lt h
  omega
theorem Tryd.infoByte0 : (Tryd.prog.info? 5).map (fun i => (i.zero, i.size, i.bytes)) = some (some (.int .u8 0), 1, 1) := by kernel_rfl
theorem elemByte0 : Elem Tryd.prog 22 5 (.int .u8 0) 1 1 := ⟨Tryd.underlying22, info_parts Tryd.infoByte0, rfl, by decide⟩
def strRow (e : Nat) (v : Value) (S : List (List UInt8)) : Row := ⟨e, 1, v, S.length, strV S⟩
theorem CurAt.litS {w : World} {B c : Nat} {vc : Value} {a : Int} {R : List Row} (h : CurAt w B c vc a R) {e n : Nat} {cs : Array Value} (S : List (List UInt8)) (hB : B ≤ w.heap.size) (hx : cs.toList = strV S) (hn : n = S.length) (hs : S.length ≤ 1000000) :
    CurAt (w.alloc (.cells cs e)) B c vc a (strRow e (.slice (some ⟨w.heap.size, 0, none⟩) n n) S :: R) := by
  obtain ⟨s, h⟩ := h
  subst hn
  have hl : cs.size = S.length * 1 := by rw [← Array.length_toList, hx, strV_len]; simp
  have h1 := h.lit e 1 S.length cs hB (by unfold maxLen; omega) hl
  rw [hx] at h1
  exact ⟨s, h1.perm (List.Perm.swap _ _ _)⟩

set_option maxHeartbeats 1600000 in
set_option maxRecDepth 100000 in
theorem of_any {w0 w : World} [Ext w0 w] {vc : Value} {n : Nat} (hc : IsBytes w0 vc n) {B c : Nat} {a : Int} {e0 : Nat} {v : Value} {S : List (List UInt8)} {R : List Row} (own : CurAt w B c vc a (strRow e0 v S :: R)) (hwB : w0.heap.size ≤ B) (ha : 0 ≤ a) (ha2 : a ≤ 10000000) (hx : 0 < S.length) (hl : S.length ≤ 1000000) :
    Calls Tryd.prog 68 #[.pointer (some ⟨c, 0, none⟩), v] w fun e w' => ∃ (x : List UInt8) (a' : Int), e = .returned (.string (bsOf x)) ∧ x ∈ S ∧ a ≤ a' ∧ a' ≤ a + 2 ∧ CurAt w' B c vc a' (strRow e0 v S :: R) ∧ Below B w w' := by
  obtain ⟨d, m, hv⟩ := own.rows.form
  have hv' : v = .slice d S.length m := hv
  subst hv'
  obtain ⟨g, rfl⟩ := own.rows.at (j := 0) (by show 0 < S.length; omega)
  go_enter Tryd.func68, Tryd.ntmps68
  go_wp2_with fail
  refine (pick_any (w0 := w0) hc own hwB ha ha2).mono ?_
  rintro e w1 ⟨x, a1, rfl, h0, h1, h2, h3, h4, h5, h6⟩
  obtain ⟨x, rfl⟩ := Int.eq_ofNat_of_zero_le h0
  have hlt : x < S.length := by have := h2 (by omega); omega
  have vX : w1.cell? ⟨g, x, none⟩ = some (.string (bsOf S[x])) := by
    rw [h5.rows.cellAt (w' := w1) (j := x) (by show x < S.length; omega)]
    exact congrArg some (strV_at hlt)
  have hm : S[x] ∈ S := List.getElem_mem hlt
  generalize S[x] = L at *
  go_wp2_with fail
  refine bodyPost_ret (v := .string (bsOf L)) (by simp [results, Tryd.results68, go_sem]) rfl ?_
  exact ⟨_, a1, rfl, hm, h3, h4, h5, h6⟩
def anyS : List (List UInt8) := [[], [97], [97, 44, 98], [115, 111, 109, 101, 32, 119, 111, 114, 100, 115], [120, 35, 121], [45, 49, 50], [0, 255], [44, 44], [48]]
set_option maxHeartbeats 1600000 in
theorem any1_any {w0 w : World} [Ext w0 w] {vc : Value} {n : Nat} (hc : IsBytes w0 vc n) {B c : Nat} {a : Int} {R : List Row} (own : CurAt w B c vc a R) (hwB : w0.heap.size ≤ B) (ha : 0 ≤ a) (ha2 : a ≤ 10000000) :
    Calls Tryd.prog 71 #[.pointer (some ⟨c, 0, none⟩)] w fun e w' => ∃ (x : List UInt8) (a' : Int), e = .returned (.string (bsOf x)) ∧ x.length ≤ 10 ∧ a ≤ a' ∧ a' ≤ a + 2 ∧ CurAt w' B c vc a' R ∧ Below B w w' := by
  have hBw := own.sz
  have hQ : ∀ x ∈ anyS, x.length ≤ 10 := by decide
  have oL := own.litS (e := 9) (n := 9) (cs := (strV anyS).toArray) anyS hBw rfl rfl (by decide)
  have bL : Below B w (w.alloc (.cells (strV anyS).toArray 9)) := (Below.refl B w).alloc hBw _
  have hof := of_any (w0 := w0) (w := w.alloc (.cells (strV anyS).toArray 9)) hc oL hwB ha ha2 (by decide) (by decide)
  replace hof := hid hof
  replace oL := hid oL
  replace bL := hid bL
  go_enter Tryd.func71, Tryd.ntmps71
  go_wp2_with fail
  refine hof.out.mono ?_
  rintro e w1 ⟨x, a1, rfl, hx, h3, h4, h5, h6⟩
  have hl := hQ x hx
  go_wp2_with fail
  refine bodyPost_ret (v := .string (bsOf x)) (by simp [results, Tryd.results71, go_sem]) rfl ?_
  exact ⟨_, a1, rfl, hl, h3, h4, h5.drop, bL.out.trans h6⟩
theorem CurAt.begin0 {w : World} {B : Nat} {vc : Value} {R : List Row} (h : Own w B R) (hB : B ≤ w.heap.size) :
    CurAt (w.alloc (.cells #[vc, .int .i64 0, .int .u64 0] 73)) B w.heap.size vc 0 R :=
  ⟨0, h.lit 73 3 1 #[vc, .int .i64 0, .int .u64 0] hB (by unfold maxLen; omega) rfl⟩
set_option maxHeartbeats 1600000 in
theorem drawFm_any {w0 w : World} [Ext w0 w] {vc : Value} {nb : Nat} (hc : IsBytes w0 vc nb) :
    Calls Tryd.prog 8 #[vc] w fun e w' => ∃ x : Int, e = .returned (.int .i64 x) ∧ (-1000000 ≤ x ∧ x ≤ 1000000) ∧ Ext w w' := by
  obtain ⟨ac, cc, rfl⟩ := hc.form
  have hsz : w0.heap.size ≤ w.heap.size := (‹Ext w0 w›).size
  obtain ⟨B, hB⟩ : ∃ B, B = w.heap.size := ⟨_, rfl⟩
  have own1 : CurAt (w.alloc (.cells #[.slice ac nb cc, .int .i64 0, .int .u64 0] 73)) B B (.slice ac nb cc) 0 [] := by
    rw [hB]
    exact CurAt.begin0 (Own.nil w w.heap.size) (Nat.le_refl _)
  have b1 : Below B w (w.alloc (.cells #[.slice ac nb cc, .int .i64 0, .int .u64 0] 73)) := by rw [hB]; exact (Below.refl _ w).alloc (Nat.le_refl _) _
  have hwB : w0.heap.size ≤ B := by omega
  have hE := hid (show ∀ u, Below B w u → Ext w u from fun u h => ⟨by rw [← hB]; exact h⟩)
  go_enter Tryd.func8, Tryd.ntmps8
  go_upto_region 2 with fail
  rw [← hB]
  replace hB := hid hB
  generalize w.alloc (.cells #[.slice ac nb cc, .int .i64 0, .int .u64 0] 73) = w1 at *
  have e1 : Ext w0 w1 := Ext.trans ‹Ext w0 w› (hE.out _ b1)
  go_wp2_with fail
  refine (pick_any (w0 := w0) hc own1 hwB (by omega) (by omega)).mono ?_
  rintro e w2 ⟨x, a2, rfl, hx0, hx1, hx2, h2a, h2b, own2, b2⟩
  have hx3 := hx2 (by omega)
  have b2' := b1.trans b2
  have hw2 := own2.sz
  have oL := own2.lit (e := 3) (n := 9) (cs := #[.int .i64 0, .int .i64 1, .int .i64 (-1), .int .i64 10, .int .i64 999999, .int .i64 (-999999), .int .i64 1000000, .int .i64 (-1000000), .int .i64 (x - 500)]) [0, 1, -1, 10, 999999, -999999, 1000000, -1000000, x - 500] hw2 rfl rfl (by simp)
  have bL := b2'.trans ((Below.refl B w2).alloc hw2 (.cells #[.int .i64 0, .int .i64 1, .int .i64 (-1), .int .i64 10, .int .i64 999999, .int .i64 (-999999), .int .i64 1000000, .int .i64 (-1000000), .int .i64 (x - 500)] 3))
  have eL : Ext w0 (w2.alloc (.cells #[.int .i64 0, .int .i64 1, .int .i64 (-1), .int .i64 10, .int .i64 999999, .int .i64 (-999999), .int .i64 1000000, .int .i64 (-1000000), .int .i64 (x - 500)] 3)) := Ext.trans ‹Ext w0 w› (hE.out _ bL)
  have ham := among_any (w0 := w0) hc oL hwB (by omega) (by omega) (by simp) (by simp)
  replace ham := hid ham
  replace oL := hid oL
  replace bL := hid bL
  go_wp2_with fail
  refine ham.out.mono ?_
  rintro e w4 ⟨y, a4, rfl, hy, h4a, h4b, own4, b4⟩
  have hyb : -1000000 ≤ y ∧ y ≤ 1000000 := by simp at hy; omega
  have bE := hE.out _ (bL.out.trans b4)
  go_wp2_with fail
  go_ret
  exact ⟨y, rfl, hyb, bE⟩
def piS : List (List UInt8) := [[], [45], [45, 48], [48, 48], [48, 49], [45, 45, 49], [49, 120], [57, 57, 57, 57, 57, 57], [49, 48, 48, 48, 48, 48, 48], [45, 57, 57, 57, 57, 57, 57], [49, 56, 52, 52, 54, 55, 52, 52, 48, 55, 51, 55, 48, 57, 53, 53, 49, 54, 49, 55]]
set_option maxHeartbeats 1600000 in
theorem drawPi_any {w0 w : World} [Ext w0 w] {vc : Value} {nb : Nat} (hc : IsBytes w0 vc nb) :
    Calls Tryd.prog 11 #[vc] w fun e w' => ∃ x : List UInt8, e = .returned (.string (bsOf x)) ∧ x.length ≤ 25 ∧ Ext w w' := by
  obtain ⟨ac, cc, rfl⟩ := hc.form
  have hsz : w0.heap.size ≤ w.heap.size := (‹Ext w0 w›).size
  obtain ⟨B, hB⟩ : ∃ B, B = w.heap.size := ⟨_, rfl⟩
  have own1 : CurAt (w.alloc (.cells #[.slice ac nb cc, .int .i64 0, .int .u64 0] 73)) B B (.slice ac nb cc) 0 [] := by
    rw [hB]
    exact CurAt.begin0 (Own.nil w w.heap.size) (Nat.le_refl _)
  have b1 : Below B w (w.alloc (.cells #[.slice ac nb cc, .int .i64 0, .int .u64 0] 73)) := by rw [hB]; exact (Below.refl _ w).alloc (Nat.le_refl _) _
  have hwB : w0.heap.size ≤ B := by omega
  have hE := hid (show ∀ u, Below B w u → Ext w u from fun u h => ⟨by rw [← hB]; exact h⟩)
  go_enter Tryd.func11, Tryd.ntmps11
  go_upto_region 2 with fail
  rw [← hB]
  replace hB := hid hB
  generalize w.alloc (.cells #[.slice ac nb cc, .int .i64 0, .int .u64 0] 73) = w1 at *
  have e1 : Ext w0 w1 := Ext.trans ‹Ext w0 w› (hE.out _ b1)
  go_wp2_with fail
  refine (one_any (w0 := w0) hc own1 hwB (by omega) (by omega)).mono ?_
  rintro e w2 ⟨b, a2, rfl, h2a, h2b, own2, b2⟩
  have b2' := b1.trans b2
  have hw2 := own2.sz
  have e2 : Ext w0 w2 := Ext.trans ‹Ext w0 w› (hE.out _ b2')
  cases b with
  | true =>
    have hQ : ∀ x ∈ piS, x.length ≤ 25 := by decide
    have oL := own2.litS (e := 9) (n := 11) (cs := (strV piS).toArray) piS hw2 rfl rfl (by decide)
    have bL := b2'.trans ((Below.refl B w2).alloc hw2 (.cells (strV piS).toArray 9))
    have eL : Ext w0 (w2.alloc (.cells (strV piS).toArray 9)) := Ext.trans ‹Ext w0 w› (hE.out _ bL)
    have hof := of_any (w0 := w0) (w := w2.alloc (.cells (strV piS).toArray 9)) hc oL hwB (by omega) (by omega) (by decide) (by decide)
    replace hof := hid hof
    replace oL := hid oL
    replace bL := hid bL
    go_wp2_with fail
    refine hof.out.mono ?_
    rintro e w4 ⟨x, a1, rfl, hx, h3, h4, h5, h6⟩
    have hl := hQ x hx
    have bE := hE.out _ (bL.out.trans h6)
    go_wp2_with fail
    refine bodyPost_ret (v := .string (bsOf x)) (by simp [results, Tryd.results11, go_sem]) rfl ?_
    exact ⟨_, rfl, hl, bE⟩
  | false =>
    go_wp2_with fail
    refine (pick_any (w0 := w0) hc own2 hwB (by omega) (by omega)).mono ?_
    rintro e w4 ⟨x, a4, rfl, hx0, hx1, hx2, h4a, h4b, own4, b4⟩
    have hx3 := hx2 (by omega)
    have hN := fun (u : World) => l1Num_any (x - 1000) (by omega) u
    have hl := itoa_len (n := x - 1000) (by omega)
    have bE := hE.out _ (b2'.trans b4)
    obtain ⟨T, hT⟩ : ∃ T, T = Lib.itoa (x - 1000) := ⟨_, rfl⟩
    rw [← hT] at hN hl
    replace hN := hid hN
    replace hT := hid hT
    go_wp2_with fail
    with_reducible refine (hN.out w4).mono ?_
    rintro e w5 ⟨rfl, e5⟩
    go_wp2_with fail
    refine bodyPost_ret (v := .string (bsOf T)) (by simp [results, Tryd.results11, go_sem]) rfl ?_
    exact ⟨_, rfl, by omega, Ext.trans bE e5⟩
theorem zeros_any (w : World) (n : Nat) (hn : n ≤ 100000) :
    ∃ w', (Instr.makeSlice 22 (.int .i64 n) (.int .i64 n)).run Tryd.prog w = .ok (.slice (some ⟨w.heap.size, 0, none⟩) n n) w' ∧ (convert 22 9 (.slice (some ⟨w.heap.size, 0, none⟩) n n)).run Tryd.prog w' = .ok (.string (bsOf (List.replicate n 0))) w' ∧ Ext w w' := by
  obtain ⟨i, hi, hz, hs, hb⟩ := elemByte0.info
  have hbb : (i.bytes : Int) * (n : Int) ≤ 281474976710656 := by rw [hb]; omega
  have hr := run_make (P := Tryd.prog) w 22 5 i (.int .u8 0) Tryd.underlying22 hi hz .i64 .i64 n n (by omega) (Int.le_refl _) hbb (by omega)
  have hm : madeCells (Value.int .u8 0).cells ((n : Int).toNat * i.size) = Array.replicate n (.int .u8 0) := by
    rw [hs, show (Value.int .u8 0).cells = #[.int .u8 0] from rfl]
    apply Array.toList_inj.1
    rw [toList_madeCells_one]
    rw [Array.toList_replicate, Int.toNat_natCast, Nat.mul_one]
  rw [hm] at hr
  have own := (Own.nil w w.heap.size).lit 5 1 n (Array.replicate n (.int .u8 0)) (Nat.le_refl _) (by unfold maxLen; omega) (by rw [Array.size_replicate, Nat.mul_one])
  refine ⟨_, hr, ?_, inferInstance⟩
  have hc := run_convert_bytes_back (P := Tryd.prog) (w.alloc (.cells (Array.replicate n (.int .u8 0)) 5)) 22 9 5 ⟨w.heap.size, 0, none⟩ n (List.replicate n 0) Tryd.underlying22 Tryd.underlying5 Tryd.underlying9 (fun j hj => by
    rw [List.length_replicate] at hj
    rw [show (⟨w.heap.size, 0, none⟩ : Addr).add j = ⟨w.heap.size, j, none⟩ by unfold Addr.add; split <;> simp_all]
    rw [own.cellAt (w' := w.alloc (.cells (Array.replicate n (.int .u8 0)) 5)) (j := j) (by show j < n; omega)]
    simp [hj])
  rw [List.length_replicate] at hc
  exact hc
set_option maxHeartbeats 1600000 in
set_option maxRecDepth 100000 in
theorem drawAp_any {w0 w : World} [Ext w0 w] {vc : Value} {nb : Nat} (hc : IsBytes w0 vc nb) :
    Calls Tryd.prog 14 #[vc] w fun e w' => ∃ x : List UInt8, e = .returned (.string (bsOf x)) ∧ x.length ≤ 5000 ∧ Ext w w' := by
  obtain ⟨ac, cc, rfl⟩ := hc.form
  have hsz : w0.heap.size ≤ w.heap.size := (‹Ext w0 w›).size
  obtain ⟨B, hB⟩ : ∃ B, B = w.heap.size := ⟨_, rfl⟩
  have own1 : CurAt (w.alloc (.cells #[.slice ac nb cc, .int .i64 0, .int .u64 0] 73)) B B (.slice ac nb cc) 0 [] := by
    rw [hB]
    exact CurAt.begin0 (Own.nil w w.heap.size) (Nat.le_refl _)
  have b1 : Below B w (w.alloc (.cells #[.slice ac nb cc, .int .i64 0, .int .u64 0] 73)) := by rw [hB]; exact (Below.refl _ w).alloc (Nat.le_refl _) _
  have hwB : w0.heap.size ≤ B := by omega
  have hE := hid (show ∀ u, Below B w u → Ext w u from fun u h => ⟨by rw [← hB]; exact h⟩)
  go_enter Tryd.func14, Tryd.ntmps14
  go_upto_region 2 with fail
  rw [← hB]
  replace hB := hid hB
  generalize w.alloc (.cells #[.slice ac nb cc, .int .i64 0, .int .u64 0] 73) = w1 at *
  have e1 : Ext w0 w1 := Ext.trans ‹Ext w0 w› (hE.out _ b1)
  go_wp2_with fail
  refine (one_any (w0 := w0) hc own1 hwB (by omega) (by omega)).mono ?_
  rintro e w2 ⟨b, a2, rfl, h2a, h2b, own2, b2⟩
  have b2' := b1.trans b2
  have hw2 := own2.sz
  have e2 : Ext w0 w2 := Ext.trans ‹Ext w0 w› (hE.out _ b2')
  cases b with
  | true =>
    go_wp2_with fail
    refine (pick_any (w0 := w0) hc own2 hwB (by omega) (by omega)).mono ?_
    rintro e w4 ⟨x, a4, rfl, hx0, hx1, hx2, h4a, h4b, own4, b4⟩
    have hx3 := hx2 (by omega)
    obtain ⟨k, rfl⟩ := Int.eq_ofNat_of_zero_le hx0
    have bE := hE.out _ (b2'.trans b4)
    obtain ⟨n, hn⟩ : ∃ n : Nat, n = 3990 + k := ⟨_, rfl⟩
    have hn2 : (3990 : Int) + (k : Int) = n := by omega
    obtain ⟨w5, hmk, hcv, e5⟩ := zeros_any w4 n (by omega)
    have hnl : n ≤ 5000 := by omega
    replace hn := hid hn
    have hmk2 : (Instr.makeSlice 22 (.int .i64 (3990 + (k : Int))) (.int .i64 (3990 + (k : Int)))).run Tryd.prog w4 = .ok (.slice (some ⟨w4.heap.size, 0, none⟩) n n) w5 := by rw [hn2]; exact hmk
    replace hn2 := hid hn2
    replace hmk := hid hmk
    go_wp2_with fail
    refine bodyPost_ret (v := .string (bsOf (List.replicate n 0))) (by simp [results, Tryd.results14, go_sem]) rfl ?_
    exact ⟨_, rfl, by rw [List.length_replicate]; omega, Ext.trans bE e5⟩
  | false =>
    go_wp2_with fail
    refine (any1_any (w0 := w0) hc own2 hwB (by omega) (by omega)).mono ?_
    rintro e w4 ⟨x, a1, rfl, hx, h3, h4, h5, h6⟩
    have bE := hE.out _ (b2'.trans h6)
    go_wp2_with fail
    refine bodyPost_ret (v := .string (bsOf x)) (by simp [results, Tryd.results14, go_sem]) rfl ?_
    exact ⟨_, rfl, by omega, bE⟩
end Go.Proofs.YtdohjmbhgjfcaaaDoor
