/- Texts drawn from a code: one among some, and the arguments of FnStrings. -/
import Derived.Test.YtaphnkgjcmneoaaGreatDoorCkj
import Derived.Test.YtaphnkgjcmneoaaGreatDoorPackB
import Derived.Laws.IdiomStrings
namespace Go.Proofs.YtaphnkgjcmneoaaGreatDoor
open Go.RowKit

theorem CurAt.sz {w : World} {B c : Nat} {vc : Value} {a : Int} {R : List Row} (h : CurAt w B c vc a R) : B ≤ w.heap.size := by
  obtain ⟨s, h⟩ := h
  have := ow_lt h
  omega
theorem Tryz.infoByte0 : (Tryz.prog.info? 5).map (fun i => (i.zero, i.size, i.bytes)) = some (some (.int .u8 0), 1, 1) := by kernel_rfl
theorem elemByte0 : Elem Tryz.prog 22 5 (.int .u8 0) 1 1 := ⟨Tryz.underlying22, info_parts Tryz.infoByte0, rfl, by decide⟩
def strRow (e : Nat) (v : Value) (S : List (List UInt8)) : Row := ⟨e, 1, v, S.length, strV S⟩
theorem CurAt.litS {w : World} {B c : Nat} {vc : Value} {a : Int} {R : List Row} (h : CurAt w B c vc a R) {e n : Nat} {cs : Array Value} (S : List (List UInt8)) (hB : B ≤ w.heap.size) (hx : cs.toList = strV S) (hn : n = S.length) (hs : S.length ≤ 1000000) :
    CurAt (w.alloc (.cells cs e)) B c vc a (strRow e (.slice (some ⟨w.heap.size, 0, none⟩) n n) S :: R) := by
  obtain ⟨s, h⟩ := h
  subst hn
  have hl : cs.size = S.length * 1 := by rw [← Array.length_toList, hx, strV_len]; simp
  have h1 := h.lit e 1 S.length cs hB (by unfold maxLen; omega) hl
  rw [hx] at h1
  exact ⟨s, h1.perm (List.Perm.swap _ _ _)⟩

set_option maxHeartbeats 1600000 in
set_option maxRecDepth 100000 in
theorem of_any {w0 w : World} [Ext w0 w] {vc : Value} {n : Nat} (hc : IsBytes w0 vc n) {B c : Nat} {a : Int} {e0 : Nat} {v : Value} {S : List (List UInt8)} {R : List Row} (own : CurAt w B c vc a (strRow e0 v S :: R)) (hwB : w0.heap.size ≤ B) (ha : 0 ≤ a) (ha2 : a ≤ 10000000) (hx : 0 < S.length) (hl : S.length ≤ 1000000) :
    Calls Tryz.prog 58 #[.pointer (some ⟨c, 0, none⟩), v] w fun e w' => ∃ (x : List UInt8) (a' : Int), e = .returned (.string (bsOf x)) ∧ x ∈ S ∧ a ≤ a' ∧ a' ≤ a + 2 ∧ CurAt w' B c vc a' (strRow e0 v S :: R) ∧ Below B w w' := by
  obtain ⟨d, m, hv⟩ := own.rows.form
  have hv' : v = .slice d S.length m := hv
  subst hv'
  obtain ⟨g, rfl⟩ := own.rows.at (j := 0) (by show 0 < S.length; omega)
  go_enter Tryz.func58, Tryz.ntmps58
  go_wp2_with fail
  refine (pick_any (w0 := w0) hc own hwB ha ha2).mono ?_
  rintro e w1 ⟨x, a1, rfl, h0, h1, h2, h3, h4, h5, h6⟩
  obtain ⟨x, rfl⟩ := Int.eq_ofNat_of_zero_le h0
  have hlt : x < S.length := by have := h2 (by omega); omega
  have vX : w1.cell? ⟨g, x, none⟩ = some (.string (bsOf S[x])) := by
    rw [h5.rows.cellAt (w' := w1) (j := x) (by show x < S.length; omega)]
    exact congrArg some (strV_at hlt)
  have hm : S[x] ∈ S := List.getElem_mem hlt
  generalize S[x] = L at *
  go_wp2_with fail
  refine bodyPost_ret (v := .string (bsOf L)) (by simp [results, Tryz.results58, go_sem]) rfl ?_
  exact ⟨_, a1, rfl, hm, h3, h4, h5, h6⟩
def anyS : List (List UInt8) := [[], [97], [97, 44, 98], [115, 111, 109, 101, 32, 119, 111, 114, 100, 115], [120, 35, 121], [45, 49, 50], [0, 255], [44, 44], [48]]
theorem CurAt.begin0 {w : World} {B : Nat} {vc : Value} {R : List Row} (h : Own w B R) (hB : B ≤ w.heap.size) :
    CurAt (w.alloc (.cells #[vc, .int .i64 0, .int .u64 0] 49)) B w.heap.size vc 0 R :=
  ⟨0, h.lit 49 3 1 #[vc, .int .i64 0, .int .u64 0] hB (by unfold maxLen; omega) rfl⟩
def piS : List (List UInt8) := [[], [45], [45, 48], [48, 48], [48, 49], [45, 45, 49], [49, 120], [57, 57, 57, 57, 57, 57], [49, 48, 48, 48, 48, 48, 48], [45, 57, 57, 57, 57, 57, 57], [49, 56, 52, 52, 54, 55, 52, 52, 48, 55, 51, 55, 48, 57, 53, 53, 49, 54, 49, 55]]
theorem zeros_any (w : World) (n : Nat) (hn : n ≤ 100000) :
    ∃ w', (Instr.makeSlice 22 (.int .i64 n) (.int .i64 n)).run Tryz.prog w = .ok (.slice (some ⟨w.heap.size, 0, none⟩) n n) w' ∧ (convert 22 9 (.slice (some ⟨w.heap.size, 0, none⟩) n n)).run Tryz.prog w' = .ok (.string (bsOf (List.replicate n 0))) w' ∧ Ext w w' := by
  obtain ⟨i, hi, hz, hs, hb⟩ := elemByte0.info
  have hbb : (i.bytes : Int) * (n : Int) ≤ 281474976710656 := by rw [hb]; omega
  have hr := run_make (P := Tryz.prog) w 22 5 i (.int .u8 0) Tryz.underlying22 hi hz .i64 .i64 n n (by omega) (Int.le_refl _) hbb (by omega)
  have hm : madeCells (Value.int .u8 0).cells ((n : Int).toNat * i.size) = Array.replicate n (.int .u8 0) := by
    rw [hs, show (Value.int .u8 0).cells = #[.int .u8 0] from rfl]
    apply Array.toList_inj.1
    rw [toList_madeCells_one]
    rw [Array.toList_replicate, Int.toNat_natCast, Nat.mul_one]
  rw [hm] at hr
  have own := (Own.nil w w.heap.size).lit 5 1 n (Array.replicate n (.int .u8 0)) (Nat.le_refl _) (by unfold maxLen; omega) (by rw [Array.size_replicate, Nat.mul_one])
  refine ⟨_, hr, ?_, inferInstance⟩
  have hc := run_convert_bytes_back (P := Tryz.prog) (w.alloc (.cells (Array.replicate n (.int .u8 0)) 5)) 22 9 5 ⟨w.heap.size, 0, none⟩ n (List.replicate n 0) Tryz.underlying22 Tryz.underlying5 Tryz.underlying9 (fun j hj => by
    rw [List.length_replicate] at hj
    rw [show (⟨w.heap.size, 0, none⟩ : Addr).add j = ⟨w.heap.size, j, none⟩ by unfold Addr.add; split <;> simp_all]
    rw [own.cellAt (w' := w.alloc (.cells (Array.replicate n (.int .u8 0)) 5)) (j := j) (by show j < n; omega)]
    simp [hj])
  rw [List.length_replicate] at hc
  exact hc
end Go.Proofs.YtaphnkgjcmneoaaGreatDoor
