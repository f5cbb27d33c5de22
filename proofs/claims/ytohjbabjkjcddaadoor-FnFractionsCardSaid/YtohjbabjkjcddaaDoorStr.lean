/- Texts as lists of bytes; the text of a number, the program's and the reference's. -/
import Derived.Test.YtohjbabjkjcddaaDoorShelfT
import Derived.Test.YtohjbabjkjcddaaDoorAppend
import Derived.Test.YtohjbabjkjcddaaDoorSl
import Derived.Test.YtohjbabjkjcddaaDoorStep
import Derived.Lib.ItoaNum
import Derived.Lib.ItoaLen
namespace Go.Proofs.YtohjbabjkjcddaaDoor
open Go.RowKit

/-- a text as a string of the model -/
def bsOf (L : List UInt8) : ByteArray := ⟨L.toArray⟩
theorem bsOf_append (A B : List UInt8) : bsOf A ++ bsOf B = bsOf (A ++ B) := by
  apply ByteArray.ext
  simp [bsOf]
theorem bsOf_size (L : List UInt8) : (bsOf L).size = L.length := by simp [bsOf, ByteArray.size]
theorem bsOf_list (L : List UInt8) : (bsOf L).data.toList = L := by simp [bsOf]
theorem bsOf_inj {A B : List UInt8} (h : bsOf A = bsOf B) : A = B := by
  have := congrArg (fun s => s.data.toList) h
  simpa [bsOf] using this

def dgt (u : Nat) : UInt8 := UInt8.ofNat (48 + u)
/-- the digits as the texts have them -/
def digs : ByteArray := { data := #[48, 49, 50, 51, 52, 53, 54, 55, 56, 57] }
theorem digs_cut {u : Nat} (h : u < 10) : ({ data := #[48, 49, 50, 51, 52, 53, 54, 55, 56, 57] } : ByteArray).extract u (u + 1) = bsOf [dgt u] := by
  have : ∀ i : Fin 10, ({ data := #[48, 49, 50, 51, 52, 53, 54, 55, 56, 57] } : ByteArray).extract i.val (i.val + 1) = bsOf [dgt i.val] := by decide +kernel
  exact this ⟨u, h⟩
theorem dec_more {u : Nat} (h : ¬ u < 10) : Lib.decDigits u = Lib.decDigits (u / 10) ++ [dgt (u % 10)] := by
  conv => lhs; rw [Lib.decDigits, dif_neg h]
  rfl

theorem dec_len {u : Nat} (h : u ≤ 1000000000000000) : (Lib.decDigits u).length ≤ 20 := by
  rw [Lib.decDigits_length]
  exact Lib.nDigits_le20 u (by omega)
theorem itoa_len {n : Int} (h : -1000000000000000 ≤ n ∧ n ≤ 1000000000000000) : (Lib.itoa n).length ≤ 21 := Lib.itoa_length_le n (by omega) (by omega)
theorem tab_ext {w w' : World} {n : String} {k : IntKind} {zs : List Int} (h : Lib.TabIs Tryd.prog w n k zs) [e : Ext w w'] : Lib.TabIs Tryd.prog w' n k zs := by
  unfold Lib.TabIs World.var? at *
  cases hg : Tryd.prog.globalNamed n with
  | none => rw [hg] at h; cases h
  | some g =>
    rw [hg] at h
    have hlt : g < w.heap.size := by
      by_cases hlt : g < w.heap.size
      · exact hlt
      · have hn : w.heap[g]? = none := Array.getElem?_eq_none (by omega)
        simp only [Option.bind_some, hn] at h
        cases h
    simp only [Option.bind_some] at h ⊢
    rw [e.below.block g hlt]
    exact h
/-- the table of powers of ten that the library reads -/
def Tens (w : World) : Prop := Lib.TabIs Tryd.prog w "internal/strconv.uint64pow10" .u64 Lib.pow10Tab
theorem Tens.ext {w w' : World} (h : Tens w) [Ext w w'] : Tens w' := tab_ext h
theorem grow_ext (w : World) (k : Nat) (os : Array Obj) : Ext w (Go.Sort.grow (w.drewN k) os) :=
  Ext.trans (inferInstance : Ext w (w.drewN k)) ⟨⟨rfl, rfl, rfl, by simp [Go.Sort.grow], fun j hj => by show ((w.drewN k).heap ++ os)[j]? = (w.drewN k).heap[j]?; exact Array.getElem?_append_left hj⟩⟩
set_option maxHeartbeats 800000 in
theorem dec_any (n : Int) (_hn : -1000000000000000 ≤ n ∧ n ≤ 1000000000000000) {w : World} (ht : Tens w) :
    Calls Tryd.prog 44 #[.int .i64 n] w fun e w' => e = .returned (.string (bsOf (Lib.itoa n))) ∧ Ext w w' := by
  have ht' : Lib.TabIs Tryd.prog w "internal/strconv.uint64pow10" .u64 Lib.pow10Tab := ht
  replace ht' := hid ht'
  go_enter Tryd.func44, Tryd.ntmps44
  go_wp2_with fail
  with_reducible refine (Tryd.strconv_Itoa n (by omega) (by omega) w ht'.out).mono ?_
  rintro e w2 ⟨rfl, k, os, rfl⟩
  go_wp2_with fail
  go_ret
  exact ⟨rfl, grow_ext _ _ _⟩
end Go.Proofs.YtohjbabjkjcddaaDoor
