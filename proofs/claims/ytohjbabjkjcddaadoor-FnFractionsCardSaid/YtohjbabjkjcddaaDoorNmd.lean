/- Texts drawn from a code: one among some, and the arguments of FnStrings. -/
import Derived.Test.YtohjbabjkjcddaaDoorCkj
import Derived.Test.YtohjbabjkjcddaaDoorCur
import Derived.Laws.IdiomStrings
namespace Go.Proofs.YtohjbabjkjcddaaDoor
open Go.RowKit

theorem CurAt.sz {w : World} {B c : Nat} {vc : Value} {a : Int} {R : List Row} (h : CurAt w B c vc a R) : B ≤ w.heap.size := by
  obtain ⟨s, h⟩ := h
  have := ow_lt h
  omega
theorem Tryd.infoByte0 : (Tryd.prog.info? 5).map (fun i => (i.zero, i.size, i.bytes)) = some (some (.int .u8 0), 1, 1) := by kernel_rfl
theorem elemByte0 : Elem Tryd.prog 22 5 (.int .u8 0) 1 1 := ⟨Tryd.underlying22, info_parts Tryd.infoByte0, rfl, by decide⟩
def strRow (e : Nat) (v : Value) (S : List (List UInt8)) : Row := ⟨e, 1, v, S.length, strV S⟩
theorem CurAt.litS {w : World} {B c : Nat} {vc : Value} {a : Int} {R : List Row} (h : CurAt w B c vc a R) {e n : Nat} {cs : Array Value} (S : List (List UInt8)) (hB : B ≤ w.heap.size) (hx : cs.toList = strV S) (hn : n = S.length) (hs : S.length ≤ 1000000) :
    CurAt (w.alloc (.cells cs e)) B c vc a (strRow e (.slice (some ⟨w.heap.size, 0, none⟩) n n) S :: R) := by
  obtain ⟨s, h⟩ := h
  subst hn
  have hl : cs.size = S.length * 1 := by rw [← Array.length_toList, hx, strV_len]; simp
  have h1 := h.lit e 1 S.length cs hB (by unfold maxLen; omega) hl
  rw [hx] at h1
  exact ⟨s, h1.perm (List.Perm.swap _ _ _)⟩

def anyS : List (List UInt8) := [[], [97], [97, 44, 98], [115, 111, 109, 101, 32, 119, 111, 114, 100, 115], [120, 35, 121], [45, 49, 50], [0, 255], [44, 44], [48]]
theorem CurAt.begin0 {w : World} {B : Nat} {vc : Value} {R : List Row} (h : Own w B R) (hB : B ≤ w.heap.size) :
    CurAt (w.alloc (.cells #[vc, .int .i64 0, .int .u64 0] 41)) B w.heap.size vc 0 R :=
  ⟨0, h.lit 41 3 1 #[vc, .int .i64 0, .int .u64 0] hB (by unfold maxLen; omega) rfl⟩
def piS : List (List UInt8) := [[], [45], [45, 48], [48, 48], [48, 49], [45, 45, 49], [49, 120], [57, 57, 57, 57, 57, 57], [49, 48, 48, 48, 48, 48, 48], [45, 57, 57, 57, 57, 57, 57], [49, 56, 52, 52, 54, 55, 52, 52, 48, 55, 51, 55, 48, 57, 53, 53, 49, 54, 49, 55]]
theorem zeros_any (w : World) (n : Nat) (hn : n ≤ 100000) :
    ∃ w', (Instr.makeSlice 22 (.int .i64 n) (.int .i64 n)).run Tryd.prog w = .ok (.slice (some ⟨w.heap.size, 0, none⟩) n n) w' ∧ (convert 22 9 (.slice (some ⟨w.heap.size, 0, none⟩) n n)).run Tryd.prog w' = .ok (.string (bsOf (List.replicate n 0))) w' ∧ Ext w w' := by
  obtain ⟨i, hi, hz, hs, hb⟩ := elemByte0.info
  have hbb : (i.bytes : Int) * (n : Int) ≤ 281474976710656 := by rw [hb]; omega
  have hr := run_make (P := Tryd.prog) w 22 5 i (.int .u8 0) Tryd.underlying22 hi hz .i64 .i64 n n (by omega) (Int.le_refl _) hbb (by omega)
  have hm : madeCells (Value.int .u8 0).cells ((n : Int).toNat * i.size) = Array.replicate n (.int .u8 0) := by
    rw [hs, show (Value.int .u8 0).cells = #[.int .u8 0] from rfl]
    apply Array.toList_inj.1
    rw [toList_madeCells_one]
    rw [Array.toList_replicate, Int.toNat_natCast, Nat.mul_one]
  rw [hm] at hr
  have own := (Own.nil w w.heap.size).lit 5 1 n (Array.replicate n (.int .u8 0)) (Nat.le_refl _) (by unfold maxLen; omega) (by rw [Array.size_replicate, Nat.mul_one])
  refine ⟨_, hr, ?_, inferInstance⟩
  have hc := run_convert_bytes_back (P := Tryd.prog) (w.alloc (.cells (Array.replicate n (.int .u8 0)) 5)) 22 9 5 ⟨w.heap.size, 0, none⟩ n (List.replicate n 0) Tryd.underlying22 Tryd.underlying5 Tryd.underlying9 (fun j hj => by
    rw [List.length_replicate] at hj
    rw [show (⟨w.heap.size, 0, none⟩ : Addr).add j = ⟨w.heap.size, j, none⟩ by unfold Addr.add; split <;> simp_all]
    rw [own.cellAt (w' := w.alloc (.cells (Array.replicate n (.int .u8 0)) 5)) (j := j) (by show j < n; omega)]
    simp [hj])
  rw [List.length_replicate] at hc
  exact hc
end Go.Proofs.YtohjbabjkjcddaaDoor
