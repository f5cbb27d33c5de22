/- Reading and writing a number: the program's and the reference's. -/
import Derived.Test.YtohjbabjkjcddaaDoorNmp
import Derived.Test.YtohjbabjkjcddaaDoorShelfU
import Derived.Test.YtohjbabjkjcddaaDoorSpecA
import Derived.Lib.AtoiErrMem
import Derived.Lib.ItoaLen
namespace Go.Proofs.YtohjbabjkjcddaaDoor
open Go.RowKit

theorem var_ext {w w' : World} {n : String} {cs : Array Value} (h : w.var? Tryd.prog n = some cs) [e : Ext w w'] : w'.var? Tryd.prog n = some cs := by
  unfold World.var? at *
  cases hg : Tryd.prog.globalNamed n with
  | none => rw [hg] at h; cases h
  | some g =>
    rw [hg] at h
    have hlt : g < w.heap.size := by
      by_cases hlt : g < w.heap.size
      · exact hlt
      · have hn : w.heap[g]? = none := Array.getElem?_eq_none (by omega)
        simp only [Option.bind_some, hn] at h
        cases h
    simp only [Option.bind_some] at h ⊢
    rw [e.below.block g hlt]
    exact h
/-- the two errors of the library's that a failed reading bears -/
def Errs (w : World) : Prop := (∃ tp p, w.var? Tryd.prog "strconv.ErrSyntax" = some #[.iface tp p]) ∧ ∃ tp p, w.var? Tryd.prog "strconv.ErrRange" = some #[.iface tp p]
theorem Errs.ext {w w' : World} (h : Errs w) [Ext w w'] : Errs w' := by
  obtain ⟨⟨t1, p1, h1⟩, t2, p2, h2⟩ := h
  exact ⟨⟨t1, p1, var_ext h1⟩, t2, p2, var_ext h2⟩
theorem bytes_ext (w : World) (e : Nat) (s : ByteArray) : Ext w (Lib.bytesWorld w e s) := ⟨Lib.bytesWorld_below w e s⟩
theorem bs_list (A : List UInt8) : (bsOf A).toList = A := by rw [Go.Lib.toList_data]; exact bsOf_list A
theorem bs_beq {A B : List UInt8} (h : A ≠ B) : ((bsOf A).toList == (bsOf B).toList) = false := by
  rw [bs_list, bs_list]
  simpa using h
theorem bs_ne {A B : List UInt8} (h : A ≠ B) : bsOf A ≠ bsOf B := fun e => h (bsOf_inj e)

set_option maxHeartbeats 800000 in
theorem dec64_any (n : Int) (h0 : -9223372036854775808 ≤ n) (h1 : n ≤ 9223372036854775807) {w : World} (ht : Tens w) :
    Calls Tryd.prog 44 #[.int .i64 n] w fun e w' => e = .returned (.string (bsOf (Lib.itoa n))) ∧ Ext w w' := by
  have ht' : Lib.TabIs Tryd.prog w "internal/strconv.uint64pow10" .u64 Lib.pow10Tab := ht
  replace ht' := hid ht'
  go_enter Tryd.func44, Tryd.ntmps44
  go_wp2_with fail
  with_reducible refine (Tryd.strconv_Itoa n h0 h1 w ht'.out).mono ?_
  rintro e w2 ⟨rfl, k, os, rfl⟩
  go_wp2_with fail
  go_ret
  exact ⟨rfl, grow_ext _ _ _⟩
/-- the reading of a text, as a result -/
def optV (o : Option Int) : Value := .tuple #[.int .i64 (o.getD 0), .bool o.isSome]

set_option maxHeartbeats 800000 in
set_option maxRecDepth 100000 in
theorem readDec_any {L : List UInt8} {w : World} (hl : L.length ≤ 1000000) (ht : Tens w) (he : Errs w) :
    Calls Tryd.prog 34 #[.string (bsOf L)] w fun e w' => e = .returned (optV (rdO L)) ∧ Ext w w' := by
  obtain ⟨S, hS⟩ : ∃ S, S = bsOf L := ⟨_, rfl⟩
  have hSl : S.data.toList = L := by rw [hS]; exact bsOf_list L
  have hSz : S.size ≤ 1000000 := by rw [hS, bsOf_size]; exact hl
  rw [← hS]
  replace ht := hid ht
  replace hS := hid hS
  obtain ⟨⟨t1, p1, he1⟩, t2, p2, he2⟩ := he
  replace he1 := hid he1
  replace he2 := hid he2
  cases ha : Lib.atoiAll L with
  | ok v =>
    have hb := Lib.atoiAll_bounds ha
    have hv : ∀ u, Calls Tryd.prog 46 #[.string S] u fun e w' => e = .returned (.tuple #[.int .i64 v, .nilIface]) ∧ Ext u w' := fun u => by
      refine (Tryd.strconv_Atoi_ok S (by omega) v (by rw [hSl]; exact ha) u).mono ?_
      rintro e w' ⟨rfl, h⟩
      refine ⟨rfl, ?_⟩
      rcases h with rfl | ⟨t, rfl⟩
      · exact Ext.refl _
      · exact bytes_ext _ _ _
    replace hv := hid hv
    replace ha := hid ha
    go_enter Tryd.func34, Tryd.ntmps34
    go_wp2_with fail
    with_reducible refine (hv.out w).mono ?_
    rintro e w2 ⟨rfl, e2⟩
    have ht2 := hid (ht.out.ext (w' := w2))
    go_wp2_with fail
    with_reducible refine (dec64_any v hb.1 hb.2 ht2.out).mono ?_
    rintro e w3 ⟨rfl, e3⟩
    obtain ⟨T, hT⟩ : ∃ T, T = bsOf (Lib.itoa v) := ⟨_, rfl⟩
    rw [← hT]
    by_cases hi : Lib.itoa v = L
    · have hr := hid (show rdO L = some v by unfold rdO; rw [ha.out]; simp only; rw [if_pos hi])
      have hTS : T = S := by rw [hT, hS.out, hi]
      subst hTS
      replace hT := hid hT
      replace hi := hid hi
      go_wp2_with fail
      refine bodyPost_ret (v := .tuple #[.int .i64 v, .bool true]) (by simp [results, Tryd.results34, go_sem]) rfl ?_
      exact ⟨by rw [hr.out]; rfl, Ext.trans e2 e3⟩
    · have hr := hid (show rdO L = none by unfold rdO; rw [ha.out]; simp only; rw [if_neg hi])
      have hTS : (T.toList == S.toList) = false := by rw [hT, hS.out]; exact bs_beq hi
      replace hT := hid hT
      replace hi := hid hi
      go_wp2_with fail
      refine bodyPost_ret (v := .tuple #[.int .i64 0, .bool false]) (by simp [results, Tryd.results34, go_sem]) rfl ?_
      exact ⟨by rw [hr.out]; rfl, Ext.trans e2 e3⟩
  | range =>
    have hr := hid (show rdO L = none by unfold rdO; rw [ha])
    have hA := Tryd.strconv_Atoi_range_var S (by omega) (by rw [hSl]; exact ha) t2 p2 w he2.out
    replace hA := hid hA
    replace ha := hid ha
    go_enter Tryd.func34, Tryd.ntmps34
    go_wp2_with fail
    with_reducible refine hA.out.mono ?_
    rintro e w2 ⟨N, rfl, _, _, hb2⟩
    go_wp2_with fail
    refine bodyPost_ret (v := .tuple #[.int .i64 0, .bool false]) (by simp [results, Tryd.results34, go_sem]) rfl ?_
    exact ⟨by rw [hr.out]; rfl, ⟨hb2⟩⟩
  | _ =>
    have hr := hid (show rdO L = none by unfold rdO; rw [ha])
    have hA := Tryd.strconv_Atoi_syntax_var S (by omega) (by rw [hSl]; exact ha) t1 p1 w he1.out
    replace hA := hid hA
    replace ha := hid ha
    go_enter Tryd.func34, Tryd.ntmps34
    go_wp2_with fail
    with_reducible refine hA.out.mono ?_
    rintro e w2 ⟨N, rfl, _, _, hb2⟩
    go_wp2_with fail
    refine bodyPost_ret (v := .tuple #[.int .i64 0, .bool false]) (by simp [results, Tryd.results34, go_sem]) rfl ?_
    exact ⟨by rw [hr.out]; rfl, ⟨hb2⟩⟩

/-- the text of a number in a range, as a result -/
def fmB (n : Int) : Bool := inB n (-999999) 999999
def fmL (n : Int) : List UInt8 := if fmB n then Lib.itoa n else []
theorem bs_get {L : List UInt8} {i : Nat} {b : UInt8} (h : L[i]? = some b) : ∀ hi : i < (bsOf L).size, (bsOf L)[i]'hi = b := fun hi => by
  obtain ⟨h1, h2⟩ := List.getElem?_eq_some_iff.1 h
  rw [← h2]
  rfl
theorem bs_tail (c : UInt8) (r : List UInt8) : (bsOf (c :: r)).extract 1 (bsOf (c :: r)).size = bsOf r := by
  apply ByteArray.ext
  apply Array.ext'
  have h := Go.Lib.extract_toList (bsOf (c :: r)) 1 (bsOf (c :: r)).size
  rw [Go.Lib.toList_data, bsOf_list, bsOf_size] at h
  rw [bsOf_size, h]
  simp [bsOf]
theorem digit_no {l : List UInt8} {i m : Nat} {b : UInt8} (h : Lib.decFrom 0 (l.take i) = some m) (hb : l[i]? = some b) (hd : ¬ (48 ≤ b.toNat ∧ b.toNat ≤ 57)) : Lib.decFrom 0 l = none := by
  obtain ⟨hi, he⟩ := List.getElem?_eq_some_iff.1 hb
  have h1 := decFrom_app (l.take i) (l.drop i) 0 m h
  rw [List.take_append_drop, List.drop_eq_getElem_cons hi, he] at h1
  rw [h1]
  have hv : Lib.digitVal b = none := by unfold Lib.digitVal; rw [if_neg hd]
  simp [Lib.decFrom, hv]
theorem digit_yes {l : List UInt8} {i m : Nat} {b : UInt8} (h : Lib.decFrom 0 (l.take i) = some m) (hb : l[i]? = some b) (hd : 48 ≤ b.toNat ∧ b.toNat ≤ 57) : Lib.decFrom 0 (l.take (i + 1)) = some (m * 10 + (b.toNat - 48)) := by
  refine Lib.decFrom_take l i 0 m b _ h hb ?_
  unfold Lib.digitVal
  rw [if_pos hd]
theorem take_small {l : List UInt8} {i m : Nat} (h : Lib.decFrom 0 (l.take i) = some m) (hi : i ≤ 6) : m < 1000000 := by
  have h1 := Lib.decFrom_lt _ _ _ h
  have h2 : (l.take i).length ≤ 6 := by rw [List.length_take]; omega
  have h3 : (10 : Nat) ^ (l.take i).length ≤ 10 ^ 6 := Nat.pow_le_pow_right (by omega) h2
  omega
end Go.Proofs.YtohjbabjkjcddaaDoor
