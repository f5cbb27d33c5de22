/- Texts as lists of bytes; the text of a number, the program's and the reference's. -/
import Derived.Test.YtdohjmbhgjfcaaaDoorShelfT
import Derived.Test.YtdohjmbhgjfcaaaDoorAppend
import Derived.Test.YtdohjmbhgjfcaaaDoorSl
import Derived.Test.YtdohjmbhgjfcaaaDoorStep
import Derived.Lib.ItoaNum
import Derived.Lib.ItoaLen
namespace Go.Proofs.YtdohjmbhgjfcaaaDoor
open Go.RowKit

/-- a text as a string of the model -/
def bsOf (L : List UInt8) : ByteArray := ⟨L.toArray⟩
theorem bsOf_append (A B : List UInt8) : bsOf A ++ bsOf B = bsOf (A ++ B) := by
  apply ByteArray.ext
  simp [bsOf]
theorem bsOf_size (L : List UInt8) : (bsOf L).size = L.length := by simp [bsOf, ByteArray.size]
theorem bsOf_list (L : List UInt8) : (bsOf L).data.toList = L := by simp [bsOf]
theorem bsOf_inj {A B : List UInt8} (h : bsOf A = bsOf B) : A = B := by
  have := congrArg (fun s => s.data.toList) h
  simpa [bsOf] using this

def dgt (u : Nat) : UInt8 := UInt8.ofNat (48 + u)
/-- the digits as the texts have them -/
def digs : ByteArray := { data := #[48, 49, 50, 51, 52, 53, 54, 55, 56, 57] }
theorem digs_cut {u : Nat} (h : u < 10) : ({ data := #[48, 49, 50, 51, 52, 53, 54, 55, 56, 57] } : ByteArray).extract u (u + 1) = bsOf [dgt u] := by
  have : ∀ i : Fin 10, ({ data := #[48, 49, 50, 51, 52, 53, 54, 55, 56, 57] } : ByteArray).extract i.val (i.val + 1) = bsOf [dgt i.val] := by decide +kernel
  exact this ⟨u, h⟩
theorem dec_more {u : Nat} (h : ¬ u < 10) : Lib.decDigits u = Lib.decDigits (u / 10) ++ [dgt (u % 10)] := by
  conv => lhs; rw [Lib.decDigits, dif_neg h]
  rfl

set_option maxHeartbeats 800000 in
set_option maxRecDepth 100000 in
theorem l1NumP_any : ∀ (u : Nat), u ≤ 1000000000000000 → ∀ (w : World),
    Calls Tryd.prog 66 #[.int .i64 u] w fun e w' => e = .returned (.string (bsOf (Lib.decDigits u))) ∧ Ext w w' := by
  intro u
  induction u using Nat.strongRecOn with
  | _ u ih =>
  intro hu w
  by_cases h10 : u < 10
  · have hd := hid (show ({ data := #[48, 49, 50, 51, 52, 53, 54, 55, 56, 57] } : ByteArray).extract u (u + 1) = bsOf (Lib.decDigits u) by rw [digs_cut h10, Lib.decDigits_one h10]; rfl)
    go_enter Tryd.func66, Tryd.ntmps66
    go_wp2_with fail
    refine bodyPost_ret (v := .string (bsOf (Lib.decDigits u))) (by simp [results, Tryd.results66, go_sem, hd.out]) rfl ?_
    exact ⟨rfl, Ext.refl _⟩
  · obtain ⟨q, hq⟩ : ∃ q, q = u / 10 := ⟨_, rfl⟩
    obtain ⟨r, hr⟩ : ∃ r, r = u % 10 := ⟨_, rfl⟩
    have hq1 : (u : Int).tdiv 10 = (q : Int) := by rw [Int.tdiv_eq_ediv_of_nonneg (by omega)]; omega
    have hr1 : (u : Int).tmod 10 = (r : Int) := by rw [Int.tmod_eq_emod_of_nonneg (by omega)]; omega
    have hr9 : r < 10 := by omega
    have hq9 : q ≤ 100000000000000 := by omega
    have hcut := digs_cut hr9
    have hfin := hid (show bsOf (Lib.decDigits q) ++ bsOf [dgt r] = bsOf (Lib.decDigits u) by rw [bsOf_append, dec_more h10, ← hq, ← hr])
    have hih := hid (ih q (by omega) (by omega))
    obtain ⟨S1, hS1⟩ : ∃ s, s = bsOf (Lib.decDigits q) := ⟨_, rfl⟩
    obtain ⟨S2, hS2⟩ : ∃ s, s = bsOf [dgt r] := ⟨_, rfl⟩
    have hs1 : S1.size ≤ 20 := by rw [hS1, bsOf_size, Lib.decDigits_length]; exact Lib.nDigits_le20 q (by omega)
    have hs2 : S2.size = 1 := by rw [hS2, bsOf_size]; rfl
    rw [← hS1, ← hS2] at hfin
    rw [← hS2] at hcut
    rw [← hS1] at hih
    replace hS1 := hid hS1
    replace hS2 := hid hS2
    have hsz : ¬ 9223372036854775807 < S1.size + S2.size := by omega
    replace hq := hid hq
    replace hr := hid hr
    replace h10 : ¬ u < 10 := h10
    clear ih
    go_enter Tryd.func66, Tryd.ntmps66
    go_upto_region 5 with fail
    refine region_held_from (w0 := w) (S := fun u => True) (by kernel_rfl) (fun _ _ => trivial) (fun wd ed hHeld0 => ?_)
    refine wpAnyH_take (i := 0) (v := .int .i64 u) rfl (by kernel_rfl) (by kernel_rfl) (by kernel_rfl) (fun _ _ _ h => h) (Or.inl ⟨by rfl, by intro wx hx; go_simp⟩) (by assumption) ?_
    try simp only [List.getElem_toArray, List.getElem_cons_zero, Act.put, List.setIfInBounds_toArray, List.set_cons_zero, List.set_cons_succ]
    refine wpAnyH_take (i := 1) (v := .int .i64 q) rfl (by kernel_rfl) (by kernel_rfl) (by kernel_rfl) (fun _ _ _ h => h) (Or.inl ⟨by rfl, by intro wx hx; (go_simp; exact IntWalk.i64_in _ (by omega))⟩) (by assumption) ?_
    try simp only [List.getElem_toArray, List.getElem_cons_succ, List.getElem_cons_zero, Act.put, List.setIfInBounds_toArray, List.set_cons_zero, List.set_cons_succ]
    refine wpAnyH_take (i := 3) (v := .int .i64 u) rfl (by kernel_rfl) (by kernel_rfl) (by kernel_rfl) (fun _ _ _ h => h) (Or.inl ⟨by rfl, by intro wx hx; go_simp⟩) (by assumption) ?_
    try simp only [List.getElem_toArray, List.getElem_cons_succ, List.getElem_cons_zero, Act.put, List.setIfInBounds_toArray, List.set_cons_zero, List.set_cons_succ]
    refine wpAnyH_take (i := 4) (v := .int .i64 r) rfl (by kernel_rfl) (by kernel_rfl) (by kernel_rfl) (fun _ _ _ h => h) (Or.inl ⟨by rfl, by intro wx hx; (go_simp)⟩) (by assumption) ?_
    try simp only [List.getElem_toArray, List.getElem_cons_succ, List.getElem_cons_zero, Act.put, List.setIfInBounds_toArray, List.set_cons_zero, List.set_cons_succ]
    refine wpAnyH_take (i := 5) (v := .int .i64 u) rfl (by kernel_rfl) (by kernel_rfl) (by kernel_rfl) (fun _ _ _ h => h) (Or.inl ⟨by rfl, by intro wx hx; go_simp⟩) (by assumption) ?_
    try simp only [List.getElem_toArray, List.getElem_cons_succ, List.getElem_cons_zero, Act.put, List.setIfInBounds_toArray, List.set_cons_zero, List.set_cons_succ]
    refine wpAnyH_take (i := 6) (v := .int .i64 r) rfl (by kernel_rfl) (by kernel_rfl) (by kernel_rfl) (fun _ _ _ h => h) (Or.inl ⟨by rfl, by intro wx hx; (go_simp)⟩) (by assumption) ?_
    try simp only [List.getElem_toArray, List.getElem_cons_succ, List.getElem_cons_zero, Act.put, List.setIfInBounds_toArray, List.set_cons_zero, List.set_cons_succ]
    refine wpAnyH_take (i := 7) (v := .int .i64 ((r : Int) + 1)) rfl (by kernel_rfl) (by kernel_rfl) (by kernel_rfl) (fun _ _ _ h => h) (Or.inl ⟨by rfl, by intro wx hx; (go_simp; exact IntWalk.i64_in _ (by omega))⟩) (by assumption) ?_
    try simp only [List.getElem_toArray, List.getElem_cons_succ, List.getElem_cons_zero, Act.put, List.setIfInBounds_toArray, List.set_cons_zero, List.set_cons_succ]
    refine wpAnyH_take (i := 8) (v := .string S2) rfl (by kernel_rfl) (by kernel_rfl) (by kernel_rfl) (fun _ _ _ h => h) (Or.inl ⟨by rfl, by intro wx hx; (go_simp; rw [if_pos (by omega), if_pos (by omega)])⟩) (by assumption) ?_
    try simp only [List.getElem_toArray, List.getElem_cons_succ, List.getElem_cons_zero, Act.put, List.setIfInBounds_toArray, List.set_cons_zero, List.set_cons_succ]
    refine wpAnyH_ready (rs := [2]) (by kernel_rfl) (by simp) ?_
    refine AllReadyH.cons rfl (fun K hK => ?_) AllReadyH.nil
    go_simp
    with_reducible refine (hih.out wd).mono ?_
    rintro e w2 ⟨rfl, e2⟩
    refine hK.out _ _ trivial (fun _ => ?_)
    clear hK K
    try simp only [List.getElem_toArray, List.getElem_cons_succ, List.getElem_cons_zero, Act.put, List.setIfInBounds_toArray, List.set_cons_zero, List.set_cons_succ]
    refine wpAnyH_take (i := 9) (v := .string (bsOf (Lib.decDigits u))) rfl (by kernel_rfl) (by kernel_rfl) (by kernel_rfl) (fun _ _ _ h => h) (Or.inl ⟨by rfl, by intro wx hx; (go_simp; rw [if_neg (by omega), hfin.out])⟩) (by assumption) ?_
    try simp only [List.getElem_toArray, List.getElem_cons_succ, List.getElem_cons_zero, Act.put, List.setIfInBounds_toArray, List.set_cons_zero, List.set_cons_succ]
    refine wpAnyH_take (i := 10) (v := .string (bsOf (Lib.decDigits u))) rfl (by kernel_rfl) (by kernel_rfl) (by kernel_rfl) (fun _ _ _ h => h) (Or.inl ⟨by rfl, by intro wx hx; go_simp⟩) (by assumption) ?_
    try simp only [List.getElem_toArray, List.getElem_cons_succ, List.getElem_cons_zero, Act.put, List.setIfInBounds_toArray, List.set_cons_zero, List.set_cons_succ]
    refine wpAnyH_done (by kernel_rfl) ?_ _
    go_wp2_with fail
    go_ret
    exact ⟨rfl, Ext.trans ed e2⟩

theorem dec_len {u : Nat} (h : u ≤ 1000000000000000) : (Lib.decDigits u).length ≤ 20 := by
  rw [Lib.decDigits_length]
  exact Lib.nDigits_le20 u (by omega)
theorem itoa_len {n : Int} (h : -1000000000000000 ≤ n ∧ n ≤ 1000000000000000) : (Lib.itoa n).length ≤ 21 := Lib.itoa_length_le n (by omega) (by omega)
set_option maxHeartbeats 800000 in
theorem l1Num_any (n : Int) (hn : -1000000000000000 ≤ n ∧ n ≤ 1000000000000000) (w : World) :
    Calls Tryd.prog 66 #[.int .i64 n] w fun e w' => e = .returned (.string (bsOf (Lib.itoa n))) ∧ Ext w w' := by
  by_cases h0 : n < 0
  · obtain ⟨u, hu⟩ : ∃ u : Nat, -n = u := ⟨(-n).toNat, by omega⟩
    have hih := hid (l1NumP_any u (by omega))
    obtain ⟨S1, hS1⟩ : ∃ s, s = bsOf (Lib.decDigits u) := ⟨_, rfl⟩
    have hs1 : S1.size ≤ 20 := by rw [hS1, bsOf_size]; exact dec_len (by omega)
    have hit : Lib.itoa n = 45 :: Lib.decDigits u := by unfold Lib.itoa; rw [if_pos h0]; congr 2; omega
    have hfin := hid (show ({ data := #[45] } : ByteArray) ++ S1 = bsOf (Lib.itoa n) by rw [hS1, hit, show ({ data := #[45] } : ByteArray) = bsOf [45] from rfl, bsOf_append]; rfl)
    rw [← hS1] at hih
    replace hS1 := hid hS1
    replace hit := hid hit
    have hg : decide (n < 0) = true := decide_eq_true h0
    go_enter Tryd.func66, Tryd.ntmps66
    go_wp2_with fail
    with_reducible refine (hih.out w).mono ?_
    rintro e w2 ⟨rfl, e2⟩
    have hsz : ¬ 9223372036854775807 < 1 + S1.size := by omega
    go_wp2_with fail
    refine bodyPost_ret (v := .string (bsOf (Lib.itoa n))) (by simp [results, Tryd.results66, go_sem, hfin.out]) rfl ?_
    exact ⟨rfl, e2⟩
  · obtain ⟨u, rfl⟩ := Int.eq_ofNat_of_zero_le (show 0 ≤ n by omega)
    have hit : Lib.itoa (u : Int) = Lib.decDigits u := by unfold Lib.itoa; rw [if_neg h0]; rfl
    rw [hit]
    exact l1NumP_any u (by omega) w

theorem tab_ext {w w' : World} {n : String} {k : IntKind} {zs : List Int} (h : Lib.TabIs Tryd.prog w n k zs) [e : Ext w w'] : Lib.TabIs Tryd.prog w' n k zs := by
  unfold Lib.TabIs World.var? at *
  cases hg : Tryd.prog.globalNamed n with
  | none => rw [hg] at h; cases h
  | some g =>
    rw [hg] at h
    have hlt : g < w.heap.size := by
      by_cases hlt : g < w.heap.size
      · exact hlt
      · have hn : w.heap[g]? = none := Array.getElem?_eq_none (by omega)
        simp only [Option.bind_some, hn] at h
        cases h
    simp only [Option.bind_some] at h ⊢
    rw [e.below.block g hlt]
    exact h
/-- the table of powers of ten that the library reads -/
def Tens (w : World) : Prop := Lib.TabIs Tryd.prog w "internal/strconv.uint64pow10" .u64 Lib.pow10Tab
theorem Tens.ext {w w' : World} (h : Tens w) [Ext w w'] : Tens w' := tab_ext h
theorem grow_ext (w : World) (k : Nat) (os : Array Obj) : Ext w (Go.Sort.grow (w.drewN k) os) :=
  Ext.trans (inferInstance : Ext w (w.drewN k)) ⟨⟨rfl, rfl, rfl, by simp [Go.Sort.grow], fun j hj => by show ((w.drewN k).heap ++ os)[j]? = (w.drewN k).heap[j]?; exact Array.getElem?_append_left hj⟩⟩
set_option maxHeartbeats 800000 in
theorem dec_any (n : Int) (_hn : -1000000000000000 ≤ n ∧ n ≤ 1000000000000000) {w : World} (ht : Tens w) :
    Calls Tryd.prog 64 #[.int .i64 n] w fun e w' => e = .returned (.string (bsOf (Lib.itoa n))) ∧ Ext w w' := by
  have ht' : Lib.TabIs Tryd.prog w "internal/strconv.uint64pow10" .u64 Lib.pow10Tab := ht
  replace ht' := hid ht'
  go_enter Tryd.func64, Tryd.ntmps64
  go_wp2_with fail
  with_reducible refine (Tryd.strconv_Itoa n (by omega) (by omega) w ht'.out).mono ?_
  rintro e w2 ⟨rfl, k, os, rfl⟩
  go_wp2_with fail
  go_ret
  exact ⟨rfl, grow_ext _ _ _⟩
end Go.Proofs.YtdohjmbhgjfcaaaDoor
