/- Several texts in one: the last ones and the statement. -/
import Derived.Test.YtohjbabjkjcddaaLawC
import Derived.ProofKit
import Derived.OpenShut
import Derived.SizedLaws
import Derived.Lib.SmallJoins
import Derived.Deep.Matrix
import Derived.Test.YtohjbabjkjcddaaProg
import Derived.Test.YtohjbabjkjcddaaAppend
import Derived.WalkKit
import Derived.WalkSpells
import Derived.WalkLawsBesides
import Derived.Deep.QuietTactic
import Derived.BigQuiet
import Derived.Deep.RegionHeld3
import Derived.Deep.Cut
import Derived.Deep.CutRange
import Derived.IntWalk
import Derived.Laws.Bits64b
import Derived.Test.YtohjbabjkjcddaaRows
import Derived.JoinedOf
import Derived.KernelRfl
import Derived.Test.YtohjbabjkjcddaaDcI
import Derived.Test.YtohjbabjkjcddaaLawB
import Derived.Test.YtohjbabjkjcddaaMark
import Derived.Test.YtohjbabjkjcddaaSpecA
import Derived.Test.YtohjbabjkjcddaaSl
import Derived.Test.YtohjbabjkjcddaaStep
import Derived.Test.YtohjbabjkjcddaaSrs
import Derived.Test.YtohjbabjkjcddaaMin
import Derived.Deep.RegionLaw
import Derived.StillTailTactics
import Derived.Test.YtohjbabjkjcddaaRun
import Derived.Test.YtohjbabjkjcddaaReads
import Derived.Deep.RegionWith
/- Arguments that came in, read as lists of ints, as rows of ints, as a problem. -/
namespace Go.Proofs.Ytohjbabjkjcddaa
open Go.ChangeShapes Go.WideShapes Go.ChangeAt Go.RowKit Go.Deep Go.Joins

theorem Try.cellsInts : Try.prog.cellsOf 24 = 1 := by kernel_rfl
theorem Try.cellsInt : Try.prog.cellsOf 3 = 1 := by kernel_rfl
theorem Try.bytesInts : Try.prog.bytesOf 24 = 24 := by kernel_rfl
theorem Try.bytesInt : Try.prog.bytesOf 3 = 8 := by kernel_rfl

theorem i64_of_wf {n : Int} (h : (Lit.int .i64 n).wf = true) : I64 n := by
  have := bounds_i64 h
  unfold I64
  omega

theorem addr_add_nil {b o j : Nat} : (⟨b, o, none⟩ : Addr).add j = ⟨b, o + j, none⟩ := by
  unfold Addr.add; split <;> simp_all

theorem spot_of_cell {w : World} {a : Addr} {u : Value} (h : w.cell? (a.add 0) = some u) : ∃ b o, a = ⟨b, o, none⟩ := by
  obtain ⟨b, o, s⟩ := a
  have hs := World.cell?_spot h
  simp [Addr.add] at hs
  subst hs
  exact ⟨b, o, rfl⟩

/-- A row as open_int_rows tells it. -/
theorem isInts_of_row {w : World} {A : Option Addr} {L C : Nat} {Z : List Int} (h1 : L ≤ C) (h2 : Z.length = C) (h3 : ∀ n ∈ Z, (Lit.int .i64 n).wf = true) (h4 : A = none → C = 0)
    (h5 : ∀ a', A = some a' → ∀ c, c < C → w.cell? (a'.add c) = some (.int .i64 (Z.getD c 0))) (hs : Short C) : IsInts w (.slice A L C) (Z.take L) := by
  have hl : (Z.take L).length = L := by simp; omega
  refine ⟨A, C, by rw [hl], ⟨by rw [hl]; exact Nat.le_trans h1 hs, by rw [hl]; exact h1⟩, fun x hx => i64_of_wf (h3 x (List.mem_of_mem_take hx)), fun j hj => ?_⟩
  rw [hl] at hj
  cases A with
  | none => have := h4 rfl; omega
  | some a =>
    have hc := h5 a rfl j (by omega)
    obtain ⟨b, o, rfl⟩ := spot_of_cell (h5 a rfl 0 (by omega))
    refine ⟨b, o, rfl, ?_⟩
    rw [addr_add_nil] at hc
    rw [hc]
    simp [nth, List.getD_eq_getElem?_getD, hj]

section
variable {H : Type} {enc : TypeId × Value → H} {w : World}

theorem isInts_of_trod {fuel : Nat} {v : Value} {x : DataW H × List MemPlace} (h : DataW.trod enc Try.prog w 0 (fun _ => true) true fuel 24 [v] = some x)
    (hw : ∀ n ∈ x.1.weights Try.prog 24, n ≤ reachBytes) : ∃ xs, IsInts w v xs := by
  rcases open_ints Try.underlying24 Try.underlying3 Try.cellsInt h with ⟨hcs, _⟩ | ⟨a, l, c, zs, hcs, _, hl, hm, hz, hx, hcell, hwz⟩
  · simp only [List.cons.injEq, and_true] at hcs
    subst hcs
    exact ⟨[], IsInts.nil w⟩
  · simp only [List.cons.injEq, and_true] at hcs
    subst hcs
    have hz' : zs.length = c := by simpa using hz
    subst hx
    have hb := hw ((zs.take l).length * 1 * 8 + (zs.drop l).length * 8) (by
      simp only [DataW.weights, Try.underlying24, Try.bytesInt, List.mem_cons]
      left
      simp [lits]
      omega)
    simp only [reachBytes, List.length_take, List.length_drop] at hb
    refine ⟨zs.take l, isInts_of_row hl hz' hwz (fun h => by cases h) (fun a' ha c' hc' => ?_) (by unfold Short; omega)⟩
    cases ha
    exact hcell c' (by omega)

theorem isRows_of_trod {fuel : Nat} {v : Value} {x : DataW H × List MemPlace} (h : DataW.trod enc Try.prog w 0 (fun _ => true) true fuel 29 [v] = some x)
    (hw : ∀ n ∈ x.1.weights Try.prog 29, n ≤ reachBytes) : ∃ M, IsRows w v M := by
  rcases open_int_rows Try.underlying29 Try.underlying24 Try.underlying3 Try.cellsInts Try.cellsInt h with ⟨hcs, _⟩ | ⟨a, len, cap, A, L, C, Z, hcs, _, hl, hm, hx, hrow⟩
  · simp only [List.cons.injEq, and_true] at hcs
    subst hcs
    exact ⟨[], IsRows.nil w⟩
  · simp only [List.cons.injEq, and_true] at hcs
    subst hcs
    subst hx
    have hb := hw (cap * 24) (by
      simp only [DataW.weights, Try.underlying29, Try.bytesInts, List.mem_cons]
      left
      simp
      omega)
    simp only [reachBytes] at hb
    have hlen : ((List.range len).map fun r => (Z r).take (L r)).length = len := by simp
    refine ⟨(List.range len).map fun r => (Z r).take (L r), some a, cap, by rw [hlen], by rw [hlen]; unfold ShortRows; omega, fun j hj => ?_⟩
    rw [hlen] at hj
    obtain ⟨hc, h1, _, h3, h4, h5, h6⟩ := hrow j (by omega)
    obtain ⟨b, o, rfl⟩ := spot_of_cell (hrow 0 (by omega)).1
    rw [addr_add_nil] at hc
    have hr : row ((List.range len).map fun r => (Z r).take (L r)) j = (Z j).take (L j) := by simp [row, hj]
    refine ⟨b, o, _, rfl, hc, ?_⟩
    rw [hr]
    refine isInts_of_row h1 h3 h4 h5 (fun a' ha c hc' => (h6 a' ha).2 c hc') ?_
    cases hA : A j with
    | none => rw [h5 hA]; unfold Short; omega
    | some a' =>
      have hb2 := hw (C j * 8) (by
        simp only [DataW.weights, Try.underlying29, List.mem_cons, List.mem_append]
        right; left
        have hmem : (intRow .i64 (A j) (L j) (Z j) : DataW H) ∈ (List.range len).map fun r => intRow .i64 (A r) (L r) (Z r) := List.mem_map.2 ⟨j, List.mem_range.2 hj, rfl⟩
        have hin : C j * 8 ∈ (intRow .i64 (A j) (L j) (Z j) : DataW H).weights Try.prog 24 := by
          rw [hA]
          simp only [intRow, DataW.weights, Try.underlying24, Try.bytesInt, List.mem_cons]
          left
          simp [lits]
          omega
        generalize (List.range len).map (fun r => (intRow .i64 (A r) (L r) (Z r) : DataW H)) = l at hmem
        clear hw h
        induction l with
        | nil => cases hmem
        | cons d l ih =>
          simp only [DataW.weightsAll, List.mem_append]
          rcases List.mem_cons.1 hmem with rfl | hmem
          · exact .inl hin
          · exact .inr (ih hmem))
      simp only [reachBytes] at hb2
      unfold Short
      omega

theorem weights_of {ts : List TypeId} {ds : List (DataW H)} (h : (DataW.weightsEach Try.prog ts ds).all (· ≤ reachBytes) = true) {j : Nat} {t : TypeId} {d : DataW H} (ht : ts[j]? = some t) (hd : ds[j]? = some d) :
    ∀ n ∈ d.weights Try.prog t, n ≤ reachBytes := fun n hn => by
  simpa using List.all_eq_true.1 h _ (DataW.weights_mem_each ht hd n hn)
end
end Go.Proofs.Ytohjbabjkjcddaa

/- The cursor that reads choices from bytes: what it returns lies in its bounds, and nothing else changes. -/
namespace Go.Proofs.Ytohjbabjkjcddaa
open Go.RowKit

theorem ow_pull {w : World} {B : Nat} {A L : List Row} {r : Row} (h : Own w B (A ++ (r :: L))) : Own w B (r :: (A ++ L)) := h.perm List.perm_middle.symm
theorem ow_push {w : World} {B : Nat} {A L : List Row} {r : Row} (h : Own w B (r :: (A ++ L))) : Own w B (A ++ (r :: L)) := h.perm List.perm_middle
theorem ow_cell {w : World} {B e z g n c : Nat} {cs : List Value} {R : List Row} (h : Own w B R) (hr : (⟨e, z, .slice (some ⟨g, 0, none⟩) n c, n, cs⟩ : Row) ∈ R) {j : Nat} (hj : j < n * z) : w.cell? ⟨g, j, none⟩ = some (cs.getD j undef) := by
  have ho := h.1 _ hr
  have h1 := ho.cellAt j hj
  have h2 : cs.length = n * z := ho.1
  rw [h1]
  have h3 : j < cs.length := by omega
  simp [h3]
theorem ow_frozen {w : World} {B e z g n c : Nat} {cs : List Value} {R : List Row} (h : Own w B R) (hr : (⟨e, z, .slice (some ⟨g, 0, none⟩) n c, n, cs⟩ : Row) ∈ R) (j : Nat) : w.frozen? ⟨g, j, none⟩ = false := (h.1 _ hr).frozenAt j
theorem ow_set {w : World} {B e z g n c : Nat} {cs : List Value} {A L : List Row} (h : Own w B (A ++ (⟨e, z, .slice (some ⟨g, 0, none⟩) n c, n, cs⟩ :: L))) (j : Nat) (u : Value) :
    Own (w.setCell ⟨g, j, none⟩ u) B (A ++ (⟨e, z, .slice (some ⟨g, 0, none⟩) n c, n, cs.set j u⟩ :: L)) := by
  have h' := ow_pull h
  exact ow_push (h'.turn (h'.head.stored j u).1 (h'.head.stored j u).2 (.inl rfl))
theorem ow_lt {w : World} {B e z g n c : Nat} {cs : List Value} {R : List Row} (h : Own w B (⟨e, z, .slice (some ⟨g, 0, none⟩) n c, n, cs⟩ :: R)) : B ≤ g ∧ g < w.heap.size :=
  h.head.lt g rfl

/-- the value reads as n bytes -/
def IsBytes (w : World) (v : Value) (n : Nat) : Prop := ∃ a c, v = .slice a n c ∧ ∀ j, j < n → ∃ b o x, a = some ⟨b, o, none⟩ ∧ w.cell? ⟨b, o + j, none⟩ = some (.int .u8 x) ∧ 0 ≤ x ∧ x ≤ 255
theorem IsBytes.form {w : World} {v : Value} {n : Nat} (h : IsBytes w v n) : ∃ a c, v = .slice a n c := by
  obtain ⟨a, c, h, _⟩ := h
  exact ⟨a, c, h⟩
theorem IsBytes.at {w w' : World} {a : Option Addr} {n c : Nat} (h : IsBytes w (.slice a n c) n) [e : Ext w w'] {k : Nat} (hk : k < n) : ∃ b o x, a = some ⟨b, o, none⟩ ∧ w'.cell? ⟨b, o + k, none⟩ = some (.int .u8 x) ∧ 0 ≤ x ∧ x ≤ 255 := by
  obtain ⟨a', c', h1, h2⟩ := h
  cases h1
  obtain ⟨b, o, x, h3, h4, h5⟩ := h2 k hk
  exact ⟨b, o, x, h3, e.cell h4, h5⟩
/-- the cursor lies in block c -/
abbrev curRow (c : Nat) (vc : Value) (a s : Int) : Row := ⟨61, 3, .slice (some ⟨c, 0, none⟩) 1 1, 1, [vc, .int .i64 a, .int .u64 s]⟩

theorem low_byte (y : Int) : 0 ≤ wrap64 (bits BinOp.and IntKind.u64 (IntKind.u64.wrap y / 1099511627776) 255) ∧ wrap64 (bits BinOp.and IntKind.u64 (IntKind.u64.wrap y / 1099511627776) 255) ≤ 255 := by
  have h1 : 0 ≤ IntKind.u64.wrap y ∧ IntKind.u64.wrap y < 18446744073709551616 := by
    simp only [IntKind.wrap, IntKind.bits, IntKind.signed]
    simp
    omega
  obtain ⟨m, hm⟩ := Int.eq_ofNat_of_zero_le h1.1
  rw [hm] at h1 ⊢
  have e : ((m : Int) / 1099511627776) = ((m / 1099511627776 : Nat) : Int) := by omega
  have h2 := bits_and_u64_nat (m / 1099511627776) 255 (by omega) (by omega)
  have h3 : (m / 1099511627776) &&& 255 ≤ 255 := Nat.and_le_right
  rw [e]
  have h2' : bits BinOp.and IntKind.u64 ((m / 1099511627776 : Nat) : Int) 255 = (((m / 1099511627776) &&& 255 : Nat) : Int) := h2
  rw [h2']
  generalize (m / 1099511627776) &&& 255 = q at *
  unfold wrap64
  omega
theorem cur_put {w : World} {B c : Nat} {vc : Value} {a s : Int} {R : List Row} (own : Own w B (curRow c vc a s :: R)) (m k : Nat) (a' s' : Int) :
    Own ((((w.drewN m).setCell ⟨c, 1, none⟩ (.int .i64 a')).setCell ⟨c, 2, none⟩ (.int .u64 s')).drewN k) B (curRow c vc a' s' :: R) ∧ Below B w ((((w.drewN m).setCell ⟨c, 1, none⟩ (.int .i64 a')).setCell ⟨c, 2, none⟩ (.int .u64 s')).drewN k) := by
  have o1 : Own (w.drewN m) B (curRow c vc a s :: R) := own.ext
  have o2 := ow_set (A := []) o1 1 (.int .i64 a')
  have o3 := ow_set (A := []) o2 2 (.int .u64 s')
  have hl := (ow_lt own).1
  refine ⟨o3.ext, ?_⟩
  have h1 : Below B w (w.drewN m) := ⟨rfl, rfl, rfl, Nat.le_refl _, fun _ _ => rfl⟩
  have h2 : Below B w (((w.drewN m).setCell ⟨c, 1, none⟩ (.int .i64 a')).setCell ⟨c, 2, none⟩ (.int .u64 s')) := (h1.setCell hl _).setCell hl _
  exact ⟨h2.os, h2.tape, h2.output, h2.size, h2.block⟩

set_option maxHeartbeats 1600000 in
set_option maxRecDepth 100000 in
theorem next_any {w0 w : World} [Ext w0 w] {vc : Value} {n : Nat} (hc : IsBytes w0 vc n) {B c : Nat} {a s : Int} {R : List Row} (own : Own w B (curRow c vc a s :: R)) (ha : 0 ≤ a) (ha2 : a ≤ 100000000) :
    Calls Try.prog 89 #[.pointer (some ⟨c, 0, none⟩)] w fun e w' => ∃ x s' : Int, e = .returned (.int .i64 x) ∧ 0 ≤ x ∧ x ≤ 255 ∧ Own w' B (curRow c vc (a + 1) s' :: R) ∧ Below B w w' := by
  obtain ⟨ac, cc, rfl⟩ := hc.form
  have k0 : w.cell? ⟨c, 0, none⟩ = some (.slice ac n cc) := ow_cell own (.head _) (j := 0) (by omega)
  have k1 : w.cell? ⟨c, 1, none⟩ = some (.int .i64 a) := ow_cell own (.head _) (j := 1) (by omega)
  have k2 : w.cell? ⟨c, 2, none⟩ = some (.int .u64 s) := ow_cell own (.head _) (j := 2) (by omega)
  have f1 := ow_frozen own (.head _) 1
  have f2 := ow_frozen own (.head _) 2
  obtain ⟨a, rfl⟩ := Int.eq_ofNat_of_zero_le ha
  by_cases hlt : a < n
  · obtain ⟨b, o, x, rfl, hcx, hx0, hx1⟩ := hc.at (w' := w) hlt
    go_enter Try.func89, Try.ntmps89
    go_wp2_with (go_quiet (fail))
    · go_ret
      exact ⟨x, _, rfl, hx0, hx1, (cur_put own _ _ _ _).1, (cur_put own _ _ _ _).2⟩
  · go_enter Try.func89, Try.ntmps89
    go_wp2_with (go_quiet (fail))
    go_ret
    exact ⟨_, _, rfl, (low_byte _).1, (low_byte _).2, (cur_put own _ _ _ _).1, (cur_put own _ _ _ _).2⟩

theorem mod_in {x N : Int} (hx : 0 ≤ x) (hN : 0 < N) : 0 ≤ x % N ∧ x % N < N ∧ x % N ≤ x := by
  have h1 := Int.emod_nonneg x (b := N) (by omega)
  have h2 := Int.emod_lt_of_pos x hN
  refine ⟨h1, h2, ?_⟩
  by_cases h : x < N
  · rw [Int.emod_eq_of_lt hx h]; omega
  · omega
/-- the cursor lies in block c, has read a steps, and the rows R are owned beside it -/
def CurAt (w : World) (B c : Nat) (vc : Value) (a : Int) (R : List Row) : Prop := ∃ s, Own w B (curRow c vc a s :: R)
theorem CurAt.ext {w w' : World} {B c : Nat} {vc : Value} {a : Int} {R : List Row} (h : CurAt w B c vc a R) [e : Ext w w'] : CurAt w' B c vc a R := by
  obtain ⟨s, h⟩ := h
  exact ⟨s, h.ext⟩
theorem CurAt.rows {w : World} {B c : Nat} {vc : Value} {a : Int} {R : List Row} (h : CurAt w B c vc a R) : Own w B R := by
  obtain ⟨s, h⟩ := h
  exact h.tail
theorem CurAt.perm {w : World} {B c : Nat} {vc : Value} {a : Int} {R R' : List Row} (h : CurAt w B c vc a R) (p : R'.Perm R) : CurAt w B c vc a R' := by
  obtain ⟨s, h⟩ := h
  exact ⟨s, h.perm (p.cons _)⟩
theorem CurAt.sub {w : World} {B c : Nat} {vc : Value} {a : Int} {R R' : List Row} (h : CurAt w B c vc a R) (p : R'.Sublist R) : CurAt w B c vc a R' := by
  obtain ⟨s, h⟩ := h
  exact ⟨s, h.sub (p.cons_cons _)⟩
theorem CurAt.drop {w : World} {B c : Nat} {vc : Value} {a : Int} {r : Row} {R : List Row} (h : CurAt w B c vc a (r :: R)) : CurAt w B c vc a R := h.sub (List.sublist_cons_self _ _)
/-- a fresh list of ints joins -/
theorem CurAt.lit {w : World} {B c : Nat} {vc : Value} {a : Int} {R : List Row} (h : CurAt w B c vc a R) {e n : Nat} {cs : Array Value} (xs : List Int) (hB : B ≤ w.heap.size) (hx : cs.toList = xs.map (Value.int .i64)) (hn : n = xs.length) (hs : xs.length ≤ 1000000) :
    CurAt (w.alloc (.cells cs e)) B c vc a (intRowOf e (.slice (some ⟨w.heap.size, 0, none⟩) n n) xs :: R) := by
  obtain ⟨s, h⟩ := h
  subst hn
  have hl : cs.size = xs.length * 1 := by rw [← Array.length_toList, hx]; simp
  have h1 := h.lit e 1 xs.length cs hB (by unfold maxLen; omega) hl
  rw [hx] at h1
  exact ⟨s, h1.perm (List.Perm.swap _ _ _)⟩
/-- a row that another list of rows was made into -/
theorem CurAt.of {w : World} {B c : Nat} {vc : Value} {a s : Int} {R : List Row} (h : Own w B (curRow c vc a s :: R)) : CurAt w B c vc a R := ⟨s, h⟩

set_option maxHeartbeats 1600000 in
set_option maxRecDepth 100000 in
theorem pick_any {w0 w : World} [Ext w0 w] {vc : Value} {n : Nat} (hc : IsBytes w0 vc n) {B c : Nat} {a N : Int} {R : List Row} (own : CurAt w B c vc a R) (hwB : w0.heap.size ≤ B) (ha : 0 ≤ a) (ha2 : a ≤ 10000000) :
    Calls Try.prog 38 #[.pointer (some ⟨c, 0, none⟩), .int .i64 N] w fun e w' => ∃ x a' : Int, e = .returned (.int .i64 x) ∧ 0 ≤ x ∧ x ≤ 65535 ∧ (0 < N → x < N) ∧ a ≤ a' ∧ a' ≤ a + 2 ∧ CurAt w' B c vc a' R ∧ Below B w w' := by
  obtain ⟨s, own⟩ := own
  by_cases hN : N ≤ 1
  · go_enter Try.func38, Try.ntmps38
    go_wp2
    go_ret
    exact ⟨0, a, rfl, by omega, by omega, fun h => by omega, by omega, by omega, ⟨s, own⟩, Below.refl _ _⟩
  · go_enter Try.func38, Try.ntmps38
    go_wp2_with fail
    refine (next_any (w0 := w0) hc own ha (by omega)).mono ?_
    rintro e w1 ⟨x, s1, rfl, hx0, hx1, own1, hb1⟩
    by_cases h200 : 200 < N
    · have e1 : Ext w0 w1 := ⟨(‹Ext w0 w›).below.trans (hb1.mono hwB)⟩
      go_wp2_with fail
      refine (next_any (w0 := w0) hc own1 (by omega) (by omega)).mono ?_
      rintro e w2 ⟨y, s2, rfl, hy0, hy1, own2, hb2⟩
      have hm := hid (mod_in (x := x * 256 + y) (N := N) (by omega) (by omega))
      go_wp2_with fail
      go_ret
      exact ⟨_, a + 1 + 1, rfl, hm.out.1, Int.le_trans hm.out.2.2 (by omega), fun _ => hm.out.2.1, by omega, by omega, ⟨s2, own2⟩, hb1.trans hb2⟩
    · have hm := hid (mod_in (x := x) (N := N) (by omega) (by omega))
      go_wp2_with fail
      go_ret
      exact ⟨_, a + 1, rfl, hm.out.1, Int.le_trans hm.out.2.2 (by omega), fun _ => hm.out.2.1, by omega, by omega, ⟨s1, own1⟩, hb1⟩

set_option maxHeartbeats 400000 in
theorem one_any {w0 w : World} [Ext w0 w] {vc : Value} {n : Nat} (hc : IsBytes w0 vc n) {B c : Nat} {a N : Int} {R : List Row} (own : CurAt w B c vc a R) (hwB : w0.heap.size ≤ B) (ha : 0 ≤ a) (ha2 : a ≤ 10000000) :
    Calls Try.prog 40 #[.pointer (some ⟨c, 0, none⟩), .int .i64 N] w fun e w' => ∃ (b : Bool) (a' : Int), e = .returned (.bool b) ∧ a ≤ a' ∧ a' ≤ a + 2 ∧ CurAt w' B c vc a' R ∧ Below B w w' := by
  go_enter Try.func40, Try.ntmps40
  go_wp2_with fail
  refine (pick_any (w0 := w0) hc own hwB ha ha2).mono ?_
  rintro e w1 ⟨x, a1, rfl, h0, h1, h2, h3, h4, h5, h6⟩
  go_wp2_with fail
  go_ret
  exact ⟨_, a1, rfl, h3, h4, h5, h6⟩

set_option maxHeartbeats 400000 in
theorem among_any {w0 w : World} [Ext w0 w] {vc : Value} {n : Nat} (hc : IsBytes w0 vc n) {B c : Nat} {a : Int} {e0 : Nat} {v : Value} {xs : List Int} {R : List Row} (own : CurAt w B c vc a (intRowOf e0 v xs :: R)) (hwB : w0.heap.size ≤ B) (ha : 0 ≤ a) (ha2 : a ≤ 10000000) (hx : 0 < xs.length) (hl : xs.length ≤ 1000000) :
    Calls Try.prog 41 #[.pointer (some ⟨c, 0, none⟩), v] w fun e w' => ∃ x a' : Int, e = .returned (.int .i64 x) ∧ x ∈ xs ∧ a ≤ a' ∧ a' ≤ a + 2 ∧ CurAt w' B c vc a' (intRowOf e0 v xs :: R) ∧ Below B w w' := by
  obtain ⟨d, m, hv⟩ := own.rows.form
  have hv' : v = .slice d xs.length m := hv
  subst hv'
  obtain ⟨g, rfl⟩ := own.rows.at (j := 0) hx
  go_enter Try.func41, Try.ntmps41
  go_wp2_with fail
  refine (pick_any (w0 := w0) hc own hwB ha ha2).mono ?_
  rintro e w1 ⟨x, a1, rfl, h0, h1, h2, h3, h4, h5, h6⟩
  obtain ⟨x, rfl⟩ := Int.eq_ofNat_of_zero_le h0
  have hlt : x < xs.length := by have := h2 (by omega); omega
  have vX : w1.cell? ⟨g, x, none⟩ = some (.int .i64 (nth xs x)) := by
    rw [h5.rows.cellAt (w' := w1) (j := x) hlt]
    simp [nth, hlt]
  go_wp2_with fail
  go_ret
  exact ⟨_, a1, rfl, nth_mem hlt, h3, h4, h5, h6⟩
end Go.Proofs.Ytohjbabjkjcddaa

/- Closed facts of the program that every row asks: each by itself. -/
namespace Go.Proofs.Ytohjbabjkjcddaa

/-- the letters of the program's head -/
def headSigns : List Char := [Char.ofNat 104, Char.ofNat 97, Char.ofNat 114, Char.ofNat 110, Char.ofNat 101, Char.ofNat 115, Char.ofNat 115, Char.ofNat 32, Char.ofNat 56, Char.ofNat 98, Char.ofNat 99, Char.ofNat 53, Char.ofNat 55, Char.ofNat 101, Char.ofNat 49, Char.ofNat 55, Char.ofNat 100, Char.ofNat 48, Char.ofNat 57, Char.ofNat 100, Char.ofNat 52, Char.ofNat 55, Char.ofNat 57, Char.ofNat 54, Char.ofNat 49, Char.ofNat 54, Char.ofNat 49, Char.ofNat 102, Char.ofNat 52, Char.ofNat 53, Char.ofNat 55, Char.ofNat 55, Char.ofNat 49, Char.ofNat 49, Char.ofNat 56, Char.ofNat 51, Char.ofNat 51, Char.ofNat 100, Char.ofNat 98, Char.ofNat 56, Char.ofNat 53, Char.ofNat 51, Char.ofNat 53, Char.ofNat 53, Char.ofNat 50, Char.ofNat 97, Char.ofNat 50, Char.ofNat 53, Char.ofNat 97, Char.ofNat 97, Char.ofNat 101, Char.ofNat 97, Char.ofNat 101, Char.ofNat 52, Char.ofNat 99, Char.ofNat 49, Char.ofNat 101, Char.ofNat 98, Char.ofNat 54, Char.ofNat 51, Char.ofNat 50, Char.ofNat 51, Char.ofNat 51, Char.ofNat 48, Char.ofNat 99, Char.ofNat 55, Char.ofNat 55, Char.ofNat 54, Char.ofNat 53, Char.ofNat 99, Char.ofNat 97, Char.ofNat 48, Char.ofNat 32, Char.ofNat 99, Char.ofNat 117, Char.ofNat 116, Char.ofNat 32, Char.ofNat 97, Char.ofNat 116, Char.ofNat 32, Char.ofNat 108, Char.ofNat 111, Char.ofNat 111, Char.ofNat 112, Char.ofNat 46, Char.ofNat 101, Char.ofNat 120, Char.ofNat 97, Char.ofNat 109, Char.ofNat 112, Char.ofNat 108, Char.ofNat 101, Char.ofNat 47, Char.ofNat 103, Char.ofNat 48, Char.ofNat 49, Char.ofNat 48, Char.ofNat 56, Char.ofNat 55, Char.ofNat 47, Char.ofNat 108, Char.ofNat 97, Char.ofNat 119, Char.ofNat 115, Char.ofNat 46, Char.ofNat 70, Char.ofNat 110, Char.ofNat 68, Char.ofNat 111, Char.ofNat 117, Char.ofNat 98, Char.ofNat 108, Char.ofNat 101, Char.ofNat 67, Char.ofNat 111, Char.ofNat 118, Char.ofNat 101, Char.ofNat 114, Char.ofNat 97, Char.ofNat 103, Char.ofNat 101, Char.ofNat 32, Char.ofNat 108, Char.ofNat 111, Char.ofNat 111, Char.ofNat 112, Char.ofNat 46, Char.ofNat 101, Char.ofNat 120, Char.ofNat 97, Char.ofNat 109, Char.ofNat 112, Char.ofNat 108, Char.ofNat 101, Char.ofNat 47, Char.ofNat 103, Char.ofNat 48, Char.ofNat 49, Char.ofNat 48, Char.ofNat 56, Char.ofNat 55, Char.ofNat 47, Char.ofNat 108, Char.ofNat 97, Char.ofNat 119, Char.ofNat 115, Char.ofNat 46, Char.ofNat 70, Char.ofNat 110, Char.ofNat 80, Char.ofNat 114, Char.ofNat 105, Char.ofNat 99, Char.ofNat 101, Char.ofNat 115, Char.ofNat 32, Char.ofNat 108, Char.ofNat 111, Char.ofNat 111, Char.ofNat 112, Char.ofNat 46, Char.ofNat 101, Char.ofNat 120, Char.ofNat 97, Char.ofNat 109, Char.ofNat 112, Char.ofNat 108, Char.ofNat 101, Char.ofNat 47, Char.ofNat 103, Char.ofNat 48, Char.ofNat 49, Char.ofNat 48, Char.ofNat 56, Char.ofNat 55, Char.ofNat 47, Char.ofNat 108, Char.ofNat 97, Char.ofNat 119, Char.ofNat 115, Char.ofNat 46, Char.ofNat 70, Char.ofNat 110, Char.ofNat 84, Char.ofNat 114, Char.ofNat 101, Char.ofNat 101, Char.ofNat 115]

set_option maxRecDepth 100000 in
theorem factHead : Try.prog.initOrder = String.ofList headSigns := by kernel_rfl
theorem factSigns : Try.prog.initOrder.toList = headSigns := by rw [factHead, String.toList_ofList]
theorem factLaid : laidOutB Try.prog = true := by kernel_rfl
theorem factMaps : mapsRowed Try.prog = true := by kernel_rfl
theorem factStops : (Try.prog.stops == []) = true := by kernel_rfl
theorem factKnobs : (Try.prog.stopKnobs == []) = true := by kernel_rfl
theorem factKeys : Try.prog.plainKeys = false := by kernel_rfl
theorem factOwn : ownKnob Try.prog.godebug = none := by kernel_rfl
theorem headFirst : (behindMainWord (wordsSigns headSigns)).head? = some "cut".toList := by kernel_rfl
theorem factHeard : Try.prog.stopsHeard = true := by kernel_rfl
theorem factLater : Try.prog.laysLater = false := by kernel_rfl
theorem factReflect : Try.prog.bearsReflect = false := by kernel_rfl
theorem factDoor : Try.prog.doorFits [] = true := by kernel_rfl

theorem factStrip (rest : List (List Char)) : stripLifts liftWords ("cut".toList :: rest) = ([], "cut".toList :: rest) := by rfl
theorem make_of {P : Program} {L : List Char} (h : P.initOrder.toList = L) (h0 : (behindMainWord (wordsSigns L)).head? = some "cut".toList) : P.make = some .cut := by
  unfold Program.make
  rw [h]
  generalize behindMainWord (wordsSigns L) = l at h0
  cases l with
  | nil => cases h0
  | cons c rest =>
    have hc : c = "cut".toList := Option.some.inj h0
    subst hc
    rfl
theorem lifts_of {P : Program} {L : List Char} (h : P.initOrder.toList = L) (h0 : (behindMainWord (wordsSigns L)).head? = some "cut".toList) : P.liftsFinal = false := by
  unfold Program.liftsFinal Program.headLifts
  rw [h]
  generalize behindMainWord (wordsSigns L) = l at h0
  cases l with
  | nil => cases h0
  | cons c rest =>
    have hc : c = "cut".toList := Option.some.inj h0
    subst hc
    simp only [factStrip]
    rfl
theorem enter_of {P : Program} {L : List Char} (h : P.initOrder.toList = L) (h0 : (behindMainWord (wordsSigns L)).head? = some "cut".toList) (h1 : P.laysLater = false) (h2 : P.bearsReflect = false) (h3 : P.doorFits [] = true) : P.mayEnter = true := by
  unfold Program.mayEnter
  rw [h]
  generalize behindMainWord (wordsSigns L) = l at h0
  cases l with
  | nil => cases h0
  | cons c rest =>
    have hc : c = "cut".toList := Option.some.inj h0
    subst hc
    simp only [factStrip, h1, h2, h3]
    rfl
theorem factMake : Try.prog.make = some .cut := make_of factSigns headFirst
theorem factLifts : Try.prog.liftsFinal = false := lifts_of factSigns headFirst
theorem factEnter : Try.prog.mayEnter = true := enter_of factSigns headFirst factLater factReflect factDoor

/-- What a row asks besides the program's own facts. -/
def lawFacts (P : Program) (f : FuncId) (fn : Func) (s : ChangeSpec) (c : OpenClaim) : Bool :=
  c.wf (OpenSpec.ofChange s) && fn.params.all (P.readableRec ·) && namedTie P c.named s.vars && (c.stops == []) && (c.knobs == []) &&
  (c.inPlace == P.inPlace f) && (c.unfollowed == P.unfollowed f) && (c.recurses == P.recurses f) && (c.named == P.varsNamed f) &&
  (c.maps == (fn.params.toList ++ s.plain.varTypes P).any (P.mapsRec ·)) && (c.ifaces == (fn.params.toList ++ s.plain.varTypes P).any (P.ifacesRec ·)) && (c.mapsOut == P.mapsAmong fn.resultTypes.toList) &&
  (c.loops == (fn.params.toList ++ s.plain.varTypes P).any (P.loopsFrom ·)) && (c.wideKeys == (fn.params.toList ++ s.plain.varTypes P ++ fn.resultTypes.toList).any (P.wideKeysFrom ·)) &&
  s.vars.all (P.varReadable ·) && fn.resultTypes.all (fun t => P.readableRec t && decide (t < P.types.size)) && (c.ifacesOut == fn.resultTypes.toList.any (P.ifacesRec ·)) && (c.loopsOut == fn.resultTypes.toList.any (P.loopsFrom ·)) && (c.plainKeys == false) && c.shortTexts.isNone && (c.lifted == false) && (some Make.cut == some c.make) && (c.kinds == (if c.domain.isEmpty then [] else fn.params.toList.map fun t => match P.underlying t with | some (.int k) => some k | _ => none)) && (c.pinned == c.pinnedBy) &&
  (c.veiled == (fn.params.toList ++ s.plain.varTypes P ++ fn.resultTypes.toList).any (P.veiledRec ·)) && c.veiledFits P fn.params.toList (fn.params.toList ++ s.plain.varTypes P ++ fn.resultTypes.toList)

theorem joined_of {P : Program} {f : FuncId} {fn : Func} {s : ChangeSpec} {c : OpenClaim} (h1 : laidOutB P = true) (h2 : mapsRowed P = true) (h3 : (P.stops == []) = true) (h4 : (P.stopKnobs == []) = true)
    (h5 : P.stopsHeard = true) (h6 : P.mayEnter = true) (h7 : P.liftsFinal = false) (h8 : P.make = some .cut) (h9 : P.plainKeys = false) (h : lawFacts P f fn s c = true) : joinedFacts P f fn s c = true := by
  unfold joinedFacts
  rw [h1, h2, h3, h4, h5, h6, h7, h8, h9]
  unfold lawFacts at h
  simp only [Bool.and_eq_true] at h ⊢
  obtain ⟨⟨⟨⟨⟨⟨⟨⟨⟨⟨⟨⟨⟨⟨⟨⟨⟨⟨⟨⟨⟨⟨⟨⟨⟨k1, k2⟩, k3⟩, k4⟩, k5⟩, k6⟩, k7⟩, k8⟩, k9⟩, k10⟩, k11⟩, k12⟩, k13⟩, k14⟩, k15⟩, k16⟩, k17⟩, k18⟩, k19⟩, k20⟩, k21⟩, k22⟩, k23⟩, k24⟩, k25⟩, k26⟩ := h
  simp only [k1, k2, k3, k4, k5, k6, k7, k8, k9, k10, k11, k12, k13, k14, k15, k16, k17, k18, k19, k20, k21, k22, k24, k25, k26, and_self]
  exact ⟨⟨⟨⟨trivial, k23⟩, trivial⟩, trivial⟩, trivial⟩

theorem joined_here {f : FuncId} {fn : Func} {s : ChangeSpec} {c : OpenClaim} (h : lawFacts Try.prog f fn s c = true) : joinedFacts Try.prog f fn s c = true :=
  joined_of factLaid factMaps factStops factKnobs factHeard factEnter factLifts factMake factKeys h

end Go.Proofs.Ytohjbabjkjcddaa

/- Double coverage walked: the least cost of the reference, from the first request on. -/
namespace Go.Proofs.Ytohjbabjkjcddaa
open Go.RowKit

theorem lrB_eq (a X : List Int) : lrB a X = (rowB a && (decide ((X.length : Int) ≤ 12) && belowB 100 X)) := rfl
set_option maxHeartbeats 800000 in
theorem specLr_any {va vX : Value} {a X : List Int} {w0 w : World} [Ext w0 w] (ha : IsInts w0 va a) (hXi : IsInts w0 vX X) :
    Calls Try.prog 9 #[va, vX] w fun e w' => e = .returned (.tuple #[.int .i64 (lrV a X), .bool (lrB a X)]) ∧ Ext w w' := by
  have ha' := ha
  have hX' := hXi
  obtain ⟨da, ca, rfl, la⟩ := ha.form
  obtain ⟨dX, cX, rfl, lX⟩ := hXi.form
  cases hB1 : rowB a with
  | false =>
    have hS := hid (show lrB a X = false by rw [lrB, hB1]; rfl)
    have hs := hid (show lrV a X = 0 by rw [lrV, hS.out]; rfl)
    go_enter Try.func9, Try.ntmps9
    go_wp2_with fail
    refine (l6Row_any (w0 := w0) ha').mono ?_
    rw [hB1]
    rintro e w1 ⟨rfl, e1⟩
    go_wp2_with fail
    go_ret2
    rw [hS.out, hs.out]
    exact ⟨rfl, e1⟩
  | true =>
    by_cases hl : X.length ≤ 12
    · have hl' : ¬ (12 : Int) < (X.length : Int) := by omega
      cases hB3 : belowB 100 X with
      | false =>
        have hS := hid (show lrB a X = false by rw [lrB, hB1, plcB, hB3, decide_eq_true (by omega)]; rfl)
        have hs := hid (show lrV a X = 0 by rw [lrV, hS.out]; rfl)
        go_enter Try.func9, Try.ntmps9
        go_wp2_with fail
        refine (l6Row_any (w0 := w0) ha').mono ?_
        rw [hB1]
        rintro e w1 ⟨rfl, e1⟩
        have e01 : Ext w0 w1 := Ext.trans ‹Ext w0 w› e1
        go_wp2_with fail
        refine (l6Places_any (w0 := w0) hX').mono ?_
        rw [hB3]
        rintro e w2 ⟨rfl, e2⟩
        go_wp2_with fail
        go_ret2
        rw [hS.out, hs.out]
        exact ⟨rfl, Ext.trans e1 e2⟩
      | true =>
        have hS := hid (show lrB a X = true by rw [lrB, hB1, plcB, hB3, decide_eq_true (by omega)]; rfl)
        have hs := hid (show lrV a X = vU (X.drop 0) a by rw [lrV, hS.out]; rfl)
        have hXb : ∀ x ∈ X, 0 ≤ x ∧ x ≤ 99 := fun x hx => by
          have h := hB3
          unfold belowB at h
          rw [decide_eq_true_eq] at h
          have := inB_true.1 (h x hx); omega
        obtain ⟨h1, h2, _⟩ := rowB_iff.1 hB1
        have hL := fun (u : World) (_ : Ext w0 u) => l6Least_any (vX := .slice dX X.length cX) hXb (by omega) X.length 0 (by omega) w0 u (.slice da a.length ca) a hX' ha' h1 h2
        rw [← hs.out] at hL
        replace hL := hid hL
        go_enter Try.func9, Try.ntmps9
        go_wp2_with fail
        refine (l6Row_any (w0 := w0) ha').mono ?_
        rw [hB1]
        rintro e w1 ⟨rfl, e1⟩
        have e01 : Ext w0 w1 := Ext.trans ‹Ext w0 w› e1
        go_wp2_with fail
        refine (l6Places_any (w0 := w0) hX').mono ?_
        rw [hB3]
        rintro e w2 ⟨rfl, e2⟩
        have e02 : Ext w0 w2 := Ext.trans e01 e2
        go_wp2_with fail
        refine (hL.out w2 e02).mono ?_
        rintro e w3 ⟨rfl, e3⟩
        go_wp2_with fail
        go_ret2
        rw [hS.out]
        exact ⟨rfl, Ext.trans e1 (Ext.trans e2 e3)⟩
    · have hl' : (12 : Int) < (X.length : Int) := by omega
      have hS := hid (show lrB a X = false by rw [lrB, hB1, plcB, decide_eq_false (by omega)]; rfl)
      have hs := hid (show lrV a X = 0 by rw [lrV, hS.out]; rfl)
      go_enter Try.func9, Try.ntmps9
      go_wp2_with fail
      refine (l6Row_any (w0 := w0) ha').mono ?_
      rw [hB1]
      rintro e w1 ⟨rfl, e1⟩
      go_wp2_with fail
      go_ret2
      rw [hS.out, hs.out]
      exact ⟨rfl, e1⟩
end Go.Proofs.Ytohjbabjkjcddaa

/- Metrics that draws make: uniform ones and lines. -/
namespace Go.Proofs.Ytohjbabjkjcddaa
open Go.RowKit

/-- rows: their list comes to the front -/
theorem rw_out {w : World} {B e1 e2 : Nat} {v : Value} {vs : List Value} {M : List (List Int)} {W : Row} {A R : List Row} (h : Own w B (W :: (A ++ (rowsOf e1 e2 v vs M ++ R)))) :
    Own w B (⟨e1, 1, v, vs.length, vs⟩ :: (W :: (A ++ (List.zipWith (intRowOf e2) vs M ++ R)))) :=
  ow_pull (A := W :: A) (L := List.zipWith (intRowOf e2) vs M ++ R) h
/-- and goes back with a new row -/
theorem rw_in {w : World} {B e1 e2 : Nat} {v rv : Value} {vs : List Value} {M : List (List Int)} {xs : List Int} {A R : List Row} (h : Own w B (⟨e1, 1, v, vs.length + 1, vs ++ [rv]⟩ :: (intRowOf e2 rv xs :: (A ++ (List.zipWith (intRowOf e2) vs M ++ R))))) (hl : vs.length = M.length) :
    Own w B (A ++ (rowsOf e1 e2 v (vs ++ [rv]) (M ++ [xs]) ++ R)) := by
  have e : rowsOf e1 e2 v (vs ++ [rv]) (M ++ [xs]) ++ R = (⟨e1, 1, v, vs.length + 1, vs ++ [rv]⟩ : Row) :: (List.zipWith (intRowOf e2) vs M ++ (intRowOf e2 rv xs :: R)) := by
    unfold rowsOf valRowOf
    rw [List.zipWith_append hl, List.length_append]
    simp
  rw [e]
  refine ow_push (h.perm ?_)
  refine List.Perm.cons _ ?_
  have p := List.perm_middle (a := intRowOf e2 rv xs) (l₁ := A ++ List.zipWith (intRowOf e2) vs M) (l₂ := R)
  simpa only [List.append_assoc] using p
theorem ow_front {w : World} {B : Nat} {A T R : List Row} (h : Own w B (A ++ (T ++ R))) : Own w B (T ++ (A ++ R)) := by
  refine h.perm ?_
  rw [← List.append_assoc, ← List.append_assoc]
  exact List.perm_append_comm.append_right R
/-- a table at the front: its cells -/
theorem rw_cell {w : World} {B e1 e2 g n c : Nat} {vs : List Value} {M : List (List Int)} {R : List Row} (h : Own w B (rowsOf e1 e2 (.slice (some ⟨g, 0, none⟩) n c) vs M ++ R)) (hn : vs.length = n) {j : Nat} {u : Value} (hu : vs[j]? = some u) :
    w.cell? ⟨g, j, none⟩ = some u ∧ w.frozen? ⟨g, j, none⟩ = false := by
  subst hn
  have h1 : Own w B (⟨e1, 1, .slice (some ⟨g, 0, none⟩) vs.length c, vs.length, vs⟩ :: (List.zipWith (intRowOf e2) vs M ++ R)) := h
  have hj : j < vs.length := (List.getElem?_eq_some_iff.1 hu).1
  refine ⟨?_, h1.frozenAt j⟩
  rw [h1.cellAt (w' := w) hj, List.getD_eq_getElem?_getD, hu]; rfl
/-- a row of it -/
theorem rw_row {w : World} {B e1 e2 : Nat} {v : Value} {vs : List Value} {M : List (List Int)} {R : List Row} (h : Own w B (rowsOf e1 e2 v vs M ++ R)) {j : Nat} (hj : j < M.length) {u : Value} (hu : vs[j]? = some u) :
    Own w B (intRowOf e2 u (row M j) :: (rowsOf e1 e2 v vs M ++ R).eraseIdx (j + 1)) := by
  have hr : M[j]? = some (row M j) := by simp [row, hj]
  exact h.pick (h.rowAt hr hu)
theorem rw_form {w : World} {B e1 e2 : Nat} {v : Value} {vs : List Value} {M : List (List Int)} {R : List Row} (h : Own w B (rowsOf e1 e2 v vs M ++ R)) (hl : vs.length = M.length) {j : Nat} (hj : j < M.length) (h0 : 0 < (row M j).length) :
    ∃ g m, vs[j]? = some (.slice (some ⟨g, 0, none⟩) (row M j).length m) ∧ B ≤ g := by
  obtain ⟨u, hu⟩ : ∃ u, vs[j]? = some u := ⟨_, List.getElem?_eq_getElem (by omega)⟩
  have hpick := rw_row h hj hu
  obtain ⟨d, m, hd⟩ := hpick.form
  have hd' : u = .slice d (row M j).length m := hd
  subst hd'
  obtain ⟨g, rfl⟩ := hpick.at h0
  exact ⟨g, m, hu, hpick.lt.1⟩
theorem rw_at {w : World} {B e1 e2 g l m : Nat} {v : Value} {vs : List Value} {M : List (List Int)} {R : List Row} (h : Own w B (rowsOf e1 e2 v vs M ++ R)) {j : Nat} (hj : j < M.length) (hu : vs[j]? = some (.slice (some ⟨g, 0, none⟩) l m)) (hl : (row M j).length = l) {q : Nat} (hq : q < l) :
    w.cell? ⟨g, q, none⟩ = some (.int .i64 (nth (row M j) q)) ∧ w.frozen? ⟨g, q, none⟩ = false := by
  subst hl
  have hpick := rw_row h hj hu
  refine ⟨?_, hpick.frozenAt q⟩
  rw [hpick.cellAt (w' := w) hq]
  simp [nth, hq]
/-- a cell of a row of it is written -/
theorem rw_put {w : World} {B e1 e2 g l m : Nat} {v : Value} {vs : List Value} {M : List (List Int)} {R : List Row} (h : Own w B (rowsOf e1 e2 v vs M ++ R)) (hv : vs.length = M.length) {j : Nat} (hj : j < M.length) (hu : vs[j]? = some (.slice (some ⟨g, 0, none⟩) l m)) (hl : (row M j).length = l) (q : Nat) (x : Int) :
    Own (w.setCell ⟨g, q, none⟩ (.int .i64 x)) B (rowsOf e1 e2 v vs (M.set j ((row M j).set q x)) ++ R) := by
  subst hl
  have hpick := (rw_row h hj hu).set q (.int .i64 x)
  rw [← List.map_set] at hpick
  have e : (⟨e2, 1, .slice (some ⟨g, 0, none⟩) (row M j).length m, (row M j).length, ((row M j).set q x).map (Value.int .i64)⟩ : Row) = intRowOf e2 (.slice (some ⟨g, 0, none⟩) (row M j).length m) ((row M j).set q x) := by
    unfold intRowOf
    rw [List.length_set]
  rw [e] at hpick
  have h' := hpick.put (by unfold rowsOf; simp; omega)
  rw [rowsOf_set (by omega) hu] at h'
  exact h'

theorem ow_ints {w : World} {B e : Nat} {v : Value} {xs : List Int} {R : List Row} (h : Own w B (intRowOf e v xs :: R)) : ∃ d m, v = .slice d xs.length m := h.form
theorem ow_snoc {w : World} {B e : Nat} {v : Value} {xs : List Int} {x : Int} {n : Nat} {R : List Row} (h : Own w B (⟨e, 1, v, n + 1, xs.map (Value.int .i64) ++ [.int .i64 x]⟩ :: R)) (hn : n = xs.length) : Own w B (intRowOf e v (xs ++ [x]) :: R) := by
  subst hn
  unfold intRowOf
  rw [List.length_append, List.map_append]
  exact h
def uniRow (f : Nat → Nat → Int) (x m : Nat) : List Int := (List.range m).map (f x)
def uniTab (f : Nat → Nat → Int) (m n : Nat) : List (List Int) := (List.range n).map fun x => uniRow f x m
theorem uniRow_succ (f : Nat → Nat → Int) (x m : Nat) : uniRow f x (m + 1) = uniRow f x m ++ [f x m] := by simp [uniRow, List.range_succ]
theorem uniTab_succ (f : Nat → Nat → Int) (m n : Nat) : uniTab f m (n + 1) = uniTab f m n ++ [uniRow f n m] := by simp [uniTab, List.range_succ]
theorem uniRow_length (f : Nat → Nat → Int) (x m : Nat) : (uniRow f x m).length = m := by simp [uniRow]
theorem uniTab_length (f : Nat → Nat → Int) (m n : Nat) : (uniTab f m n).length = n := by simp [uniTab]
theorem uniTab_row {f : Nat → Nat → Int} {m n : Nat} {r : List Int} (h : r ∈ uniTab f m n) : ∃ x, x < n ∧ r = uniRow f x m := by
  obtain ⟨x, hx, rfl⟩ := List.mem_map.1 h
  exact ⟨x, List.mem_range.1 hx, rfl⟩
abbrev boxRow (e z b : Nat) (cs : List Value) : Row := ⟨e, z, .slice (some ⟨b, 0, none⟩) 1 1, 1, cs⟩

set_option maxHeartbeats 1600000 in
set_option maxRecDepth 100000 in
theorem l6Uniform_any {n : Nat} {d : Int} (hn : n ≤ 1000) (w : World) :
    Calls Try.prog 73 #[.int .i64 n, .int .i64 d] w fun e w' => ∃ d0 m0 vs, e = .returned (.agg #[.slice d0 n m0]) ∧ vs.length = n ∧
      Own w' w.heap.size (rowsOf 24 3 (.slice d0 n m0) vs (uniTab (fun x y => if x = y then 0 else d) n n)) ∧ Ext w w' := by
  obtain ⟨f, hf⟩ : ∃ f : Nat → Nat → Int, f = fun x y => if x = y then 0 else d := ⟨_, rfl⟩
  rw [← hf]
  replace hf := hid hf
  go_enter Try.func73, Try.ntmps73
  go_upto_region 2 with fail
  generalize hW : ((w.alloc (.cells #[.slice none 0 0] 34)).alloc (.cells #[] 24)).alloc (.cells #[.slice (some ⟨w.heap.size + 1, 0, none⟩) 0 0] 34) = W
  have eW : Ext w W := hW ▸ inferInstance
  have x0 : W.cell? ⟨w.heap.size, 0, none⟩ = some (.slice none 0 0) := by subst hW; go_simp
  have xf : W.frozen? ⟨w.heap.size, 0, none⟩ = false := by subst hW; go_simp
  obtain ⟨b, hb⟩ : ∃ b, b = w.heap.size + 1 + 1 := ⟨_, rfl⟩
  rw [← hb]
  have own0 : Own W (w.heap.size + 1) (boxRow 34 1 b [.slice (some ⟨w.heap.size + 1, 0, none⟩) 0 0] :: (rowsOf 24 3 (.slice (some ⟨w.heap.size + 1, 0, none⟩) 0 0) [] [] ++ [])) := by
    subst hW
    have h := (Own.nil (w.alloc (.cells #[.slice none 0 0] 34)) (w.heap.size + 1)).lit 24 1 0 #[] (by simp) (by unfold maxLen; omega) rfl
    rw [show (w.alloc (.cells #[.slice none 0 0] 34)).heap.size = w.heap.size + 1 by simp] at h
    have h2 := h.lit 34 1 1 #[.slice (some ⟨w.heap.size + 1, 0, none⟩) 0 0] (by simp) (by unfold maxLen; omega) rfl
    rw [show ((w.alloc (.cells #[.slice none 0 0] 34)).alloc (.cells #[] 24)).heap.size = b by simp; omega] at h2
    exact h2
  have hBW : w.heap.size + 1 ≤ W.heap.size := by subst hW; simp
  clear hW
  replace hb := hid hb
  go_wp2
  go_loopw [6] (fun i wr => ∃ x : Nat, x ≤ n ∧ i = .int .i64 x ∧ Below (w.heap.size + 1) W wr ∧ ∃ d0 m0 vs, vs.length = x ∧ Own wr (w.heap.size + 1) (boxRow 34 1 b [.slice d0 x m0] :: (rowsOf 24 3 (.slice d0 x m0) vs (uniTab f n x) ++ []))) (fun i _ => n - (intOf i).toNat)
  case atStart => exact ⟨0, by omega, rfl, Below.refl _ _, _, _, [], rfl, own0⟩
  case round =>
    obtain ⟨x, hx, rfl, hb0, d0, m0, vs, hvs, hown⟩ := hrel
    obtain ⟨wo, rfl⟩ : ∃ y : World, y = wr := ⟨_, rfl⟩
    have hBo : w.heap.size + 1 ≤ wo.heap.size := Nat.le_trans hBW hb0.size
    by_cases hlt : x < n
    · go_upto_region 6 with fail
      have own1 : Own (wo.alloc (.cells #[] 3)) (w.heap.size + 1) (intRowOf 3 (.slice (some ⟨wo.heap.size, 0, none⟩) 0 0) (uniRow f x 0) :: (boxRow 34 1 b [.slice d0 x m0] :: (rowsOf 24 3 (.slice d0 x m0) vs (uniTab f n x) ++ []))) := by
        have h := hown.lit 3 1 0 #[] hBo (by unfold maxLen; omega) rfl
        exact h
      have hb1 : Below (w.heap.size + 1) W (wo.alloc (.cells #[] 3)) := hb0.alloc hBo _
      generalize wo.alloc (.cells #[] 3) = w1 at *
      replace hvs := hid hvs
      go_wp2
      go_loopw [7, 8] (fun v j wr => ∃ y : Nat, y ≤ n ∧ j = .int .i64 y ∧ Below (w.heap.size + 1) W wr ∧ Own wr (w.heap.size + 1) (intRowOf 3 v (uniRow f x y) :: (boxRow 34 1 b [.slice d0 x m0] :: (rowsOf 24 3 (.slice d0 x m0) vs (uniTab f n x) ++ [])))) (fun _ j _ => n - (intOf j).toNat)
      case atStart => exact ⟨0, by omega, rfl, hb1, own1⟩
      case round =>
        obtain ⟨y, hy, rfl, hb2, hown2⟩ := hrel
        obtain ⟨vd, vm, rfl⟩ := ow_ints hown2
        obtain ⟨wq, rfl⟩ : ∃ y : World, y = wr := ⟨_, rfl⟩
        have hBq : w.heap.size + 1 ≤ wq.heap.size := Nat.le_trans hBW hb2.size
        have hly := hid (uniRow_length f x y)
        have hys := hid (uniRow_succ f x y)
        by_cases hlty : y < n
        · by_cases hxy : x = y
          · have hfv := hid (show f x y = 0 by rw [hf.out, hxy]; simp)
            have hcc : ((x : Int) == (y : Int)) = true := by rw [hxy]; simp
            replace hxy := hid hxy
            go_wp2_with (at_builtin; refine wpList_append1 rfl _ _ _ rfl elemInt rfl hown2 hBq rfl rfl (by have := hly.out; omega) (by have := hly.out; omega) ?_; intro v1 w5 ho hb5)
            go_roundw
            case rel => exact ⟨y + 1, by omega, by go_num, hb2.trans hb5, by rw [hys.out, hfv.out]; exact ow_snoc ho rfl⟩
            case measure => simp [intOf]; omega
          · have hfv := hid (show f x y = d by rw [hf.out]; simp [hxy])
            go_wp2_with (at_builtin; refine wpList_append1 rfl _ _ _ rfl elemInt rfl hown2 hBq rfl rfl (by have := hly.out; omega) (by have := hly.out; omega) ?_; intro v1 w5 ho hb5)
            go_roundw
            case rel => exact ⟨y + 1, by omega, by go_num, hb2.trans hb5, by rw [hys.out, hfv.out]; exact ow_snoc ho rfl⟩
            case measure => simp [intOf]; omega
        · have hyn : y = n := by omega
          have hts := hid (show uniTab f n (x + 1) = uniTab f n x ++ [uniRow f x y] by rw [uniTab_succ, hyn])
          have hlt' := hid (uniTab_length f n x)
          replace hyn := hid hyn
          have hout := rw_out (A := [_]) hown2
          rw [hvs.out] at hout
          have tb : wq.cell? ⟨b, 0, none⟩ = some (.slice d0 x m0) := ow_cell hown2 (.tail _ (.head _)) (j := 0) (by omega)
          go_wp2_with (at_builtin; refine wpList_append1 rfl _ _ _ rfl elemInts rfl hout hBq rfl rfl (by omega) (by omega) ?_; intro v1 w5 ho hb5; obtain ⟨vd1, vm1, hv1⟩ := ho.form; (obtain rfl : v1 = .slice vd1 (x + 1) vm1 := hv1); (have tc : w5.cell? ⟨b, 0, none⟩ = some (.slice d0 x m0) := ow_cell ho (.tail _ (.tail _ (.head _))) (j := 0) (by omega)); have tf := ow_frozen ho (.tail _ (.tail _ (.head _))) 0)
          have hoS := ow_set (A := [_, _]) ho 0 (.slice vd1 (x + 1) vm1)
          have hbB := ((ho.1 _ (.tail _ (.tail _ (.head _)))).lt b rfl).1
          rw [← hvs.out] at hoS
          have hin := rw_in (A := [_]) hoS (by rw [hvs.out, hlt'.out])
          rw [hvs.out] at hin
          go_roundw
          case rel => exact ⟨x + 1, by omega, by go_num, (hb2.trans hb5).setCell hbB _, vd1, vm1, vs ++ [.slice vd (uniRow f x y).length vm], by rw [List.length_append, hvs.out]; rfl, by rw [hts.out]; exact hin⟩
          case measure => simp [intOf]; omega
    · have hxn : x = n := by omega
      subst hxn
      have tb : wo.cell? ⟨b, 0, none⟩ = some (.slice d0 x m0) := ow_cell hown (.head _) (j := 0) (by omega)
      have xr : wo.cell? ⟨w.heap.size, 0, none⟩ = some (.slice none 0 0) := (hb0.cell (p := ⟨w.heap.size, 0, none⟩) (Nat.lt_succ_self _)).trans x0
      have xrf : wo.frozen? ⟨w.heap.size, 0, none⟩ = false := (hb0.frozen (p := ⟨w.heap.size, 0, none⟩) (Nat.lt_succ_self _)).trans xf
      have hset : (wo.setCell ⟨w.heap.size, 0, none⟩ (.slice d0 x m0)).cell? ⟨w.heap.size, 0, none⟩ = some (.slice d0 x m0) := by go_simp
      have hownR := hown.tail.setBelow (p := ⟨w.heap.size, 0, none⟩) (Nat.lt_succ_self _) (.slice d0 x m0)
      have hown3 := hownR.mono (Nat.le_succ _)
      have eF : Ext w (wo.setCell ⟨w.heap.size, 0, none⟩ (.slice d0 x m0)) := ⟨eW.below.trans ((hb0.mono (Nat.le_succ _)).setCell (Nat.le_refl _) _)⟩
      go_wp2
      refine bodyPost_ret (v := .agg #[.slice d0 x m0]) (by simp [results, Try.results73, go_sem, hset]) rfl ?_
      rw [List.append_nil] at hown3
      exact ⟨_, _, vs, rfl, hvs, hown3, eF⟩
end Go.Proofs.Ytohjbabjkjcddaa

/- Metrics of places on a line, as draws make them. -/
namespace Go.Proofs.Ytohjbabjkjcddaa
open Go.RowKit

theorem l1Most_any (a b : Int) (w : World) :
    Calls Try.prog 59 #[.int .i64 a, .int .i64 b] w fun e w' => e = .returned (.int .i64 (max a b)) ∧ w = w' := by
  by_cases h : a > b
  · have hr := hid (show max a b = a by omega)
    have h' : decide (b < a) = true := by simpa using h
    go_enter Try.func59, Try.ntmps59
    go_wp2
    go_ret
    exact ⟨ret_int hr.out.symm, rfl⟩
  · have hr := hid (show max a b = b by omega)
    have h' : decide (b < a) = false := by simpa using h
    go_enter Try.func59, Try.ntmps59
    go_wp2
    go_ret
    exact ⟨ret_int hr.out.symm, rfl⟩
/-- n rows of n numbers each, all small -/
def TabOk (M : List (List Int)) (n : Nat) : Prop := M.length = n ∧ ∀ j, j < n → (row M j).length = n ∧ ∀ q, q < n → -100000 ≤ cell M j q ∧ cell M j q ≤ 100000
theorem TabOk.set {M : List (List Int)} {n : Nat} (h : TabOk M n) {j : Nat} (q : Nat) {x : Int} (hj : j < n) (hx : -100000 ≤ x ∧ x ≤ 100000) : TabOk (M.set j ((row M j).set q x)) n := by
  obtain ⟨h1, h2⟩ := h
  refine ⟨by rw [List.length_set, h1], fun i hi => ?_⟩
  by_cases e : i = j
  · subst e
    have er : row (M.set i ((row M i).set q x)) i = (row M i).set q x := by
      unfold row
      rw [List.getD_eq_getElem?_getD, List.getElem?_set_self (by omega)]
      rfl
    refine ⟨by rw [er, List.length_set]; exact (h2 i hi).1, fun p hp => ?_⟩
    unfold cell
    rw [er]
    by_cases e2 : p = q
    · subst e2
      have : nth ((row M i).set p x) p = x := by
        unfold nth
        rw [List.getD_eq_getElem?_getD, List.getElem?_set_self (by rw [(h2 i hi).1]; exact hp)]
        rfl
      rw [this]; exact hx
    · have : nth ((row M i).set q x) p = nth (row M i) p := by
        unfold nth
        rw [List.getD_eq_getElem?_getD, List.getElem?_set_ne (Ne.symm e2), List.getD_eq_getElem?_getD]
      rw [this]
      exact (h2 i hi).2 p hp
  · have er : row (M.set j ((row M j).set q x)) i = row M i := by
      unfold row
      rw [List.getD_eq_getElem?_getD, List.getElem?_set_ne (Ne.symm e), List.getD_eq_getElem?_getD]
    unfold cell
    rw [er]
    exact h2 i hi
theorem TabOk.uni {n : Nat} {d : Int} (hd : -100000 ≤ d ∧ d ≤ 100000) : TabOk (uniTab (fun x y => if x = y then 0 else d) n n) n := by
  refine ⟨uniTab_length _ _ _, fun j hj => ?_⟩
  have er : row (uniTab (fun x y => if x = y then 0 else d) n n) j = uniRow (fun x y => if x = y then 0 else d) j n := by simp [row, uniTab, hj]
  refine ⟨by rw [er, uniRow_length], fun q hq => ?_⟩
  unfold cell
  rw [er]
  have : nth (uniRow (fun x y => if x = y then 0 else d) j n) q = if j = q then 0 else d := by simp [nth, uniRow, hq]
  rw [this]
  split <;> omega

set_option maxHeartbeats 3200000 in
set_option maxRecDepth 100000 in
theorem l6Line_any {v : Value} {P : List Int} {w0 w : World} [Ext w0 w] (hP : IsInts w0 v P) (hl : P.length ≤ 1000) (hb : ∀ j, j < P.length → 0 ≤ nth P j ∧ nth P j ≤ 100000) :
    Calls Try.prog 120 #[v] w fun e w' => ∃ d0 m0 vs M, e = .returned (.agg #[.slice d0 P.length m0]) ∧ vs.length = P.length ∧ TabOk M P.length ∧
      Own w' w.heap.size (rowsOf 24 3 (.slice d0 P.length m0) vs M) ∧ Ext w w' := by
  obtain ⟨aP, cP, rfl, lP⟩ := hP.form
  replace hb := hid hb
  have hPc := hid (show ∀ x, x < P.length → (∃ b o, aP = some ⟨b, o, none⟩ ∧ w0.cell? ⟨b, o + x, none⟩ = some (.int .i64 (nth P x))) from fun x hx => by
    obtain ⟨b, o, h1, h2⟩ := hP.at (w' := w0) hx
    exact ⟨b, o, h1, h2⟩)
  go_enter Try.func120, Try.ntmps120
  go_upto_region 1 with fail
  have ez : Ext w (w.alloc (.cells #[.slice none 0 0] 34)) := inferInstance
  have z0 : (w.alloc (.cells #[.slice none 0 0] 34)).cell? ⟨w.heap.size, 0, none⟩ = some (.slice none 0 0) := by go_simp
  have zf : (w.alloc (.cells #[.slice none 0 0] 34)).frozen? ⟨w.heap.size, 0, none⟩ = false := by go_simp
  have zs : (w.alloc (.cells #[.slice none 0 0] 34)).heap.size = w.heap.size + 1 := by simp
  generalize w.alloc (.cells #[.slice none 0 0] 34) = wa at *
  replace zs := hid zs
  go_wp2_with fail
  refine (l6Uniform_any (n := P.length) (d := 0) hl wa).mono ?_
  rintro e w1 ⟨d0, m0, vs, rfl, hvs, hown, he1⟩
  rw [zs.out] at hown
  have hM0 : TabOk (uniTab (fun x y => if x = y then 0 else (0 : Int)) P.length P.length) P.length := TabOk.uni (by omega)
  generalize uniTab (fun x y => if x = y then 0 else (0 : Int)) P.length P.length = M0 at *
  have hB1 : w.heap.size + 1 ≤ w1.heap.size := by have := he1.size; have := zs.out; omega
  have own0 : Own (w1.alloc (.cells #[.slice d0 P.length m0] 34)) (w.heap.size + 1) (rowsOf 24 3 (.slice d0 P.length m0) vs M0 ++ [boxRow 34 1 w1.heap.size [.slice d0 P.length m0]]) := by
    have h2 := hown.lit 34 1 1 #[.slice d0 P.length m0] hB1 (by unfold maxLen; omega) rfl
    exact h2.perm (List.perm_append_comm (l₁ := rowsOf _ _ _ _ _) (l₂ := [_]))
  have eW : Ext w (w1.alloc (.cells #[.slice d0 P.length m0] 34)) := Ext.trans ez (Ext.trans he1 inferInstance)
  have x0 : (w1.alloc (.cells #[.slice d0 P.length m0] 34)).cell? ⟨w.heap.size, 0, none⟩ = some (.slice none 0 0) := Ext.cell (a := w1) inferInstance (he1.cell z0)
  have xf : (w1.alloc (.cells #[.slice d0 P.length m0] 34)).frozen? ⟨w.heap.size, 0, none⟩ = false := Ext.frozen (a := w1) inferInstance (he1.cell z0) (he1.frozen z0 zf)
  have hBW : w.heap.size + 1 ≤ (w1.alloc (.cells #[.slice d0 P.length m0] 34)).heap.size := Nat.le_trans hB1 (Ext.size (a := w1) inferInstance)
  clear z0 zf hown
  obtain ⟨b, hbb⟩ : ∃ b, b = w1.heap.size := ⟨_, rfl⟩
  rw [← hbb] at own0
  go_upto_region 2 with fail
  generalize w1.alloc (.cells #[.slice d0 P.length m0] 34) = W at *
  rw [← hbb]
  replace hbb := hid hbb
  replace hvs := hid hvs
  replace hM0 := hid hM0
  go_wp2
  go_loopw [4] (fun i wr => ∃ x : Nat, x ≤ P.length ∧ i = .int .i64 x ∧ Below (w.heap.size + 1) W wr ∧ ∃ M, TabOk M P.length ∧ Own wr (w.heap.size + 1) (rowsOf 24 3 (.slice d0 P.length m0) vs M ++ [boxRow 34 1 b [.slice d0 P.length m0]])) (fun i _ => P.length - (intOf i).toNat)
  case atStart => exact ⟨0, by omega, rfl, Below.refl _ _, _, hM0.out, own0⟩
  case round =>
    obtain ⟨x, hx, rfl, hb0, M, hM, hown⟩ := hrel
    obtain ⟨wo, rfl⟩ : ∃ y : World, y = wr := ⟨_, rfl⟩
    by_cases hlt : x < P.length
    · replace hM := hid hM
      go_wp2
      go_loopw [5] (fun j wr => ∃ y : Nat, y ≤ P.length ∧ j = .int .i64 y ∧ Below (w.heap.size + 1) W wr ∧ ∃ M, TabOk M P.length ∧ Own wr (w.heap.size + 1) (rowsOf 24 3 (.slice d0 P.length m0) vs M ++ [boxRow 34 1 b [.slice d0 P.length m0]])) (fun j _ => P.length - (intOf j).toNat)
      case atStart => exact ⟨0, by omega, rfl, hb0, M, hM.out, hown⟩
      case round =>
        obtain ⟨y, hy, rfl, hb1, M1, hM1, hown1⟩ := hrel
        obtain ⟨wq, rfl⟩ : ∃ y : World, y = wr := ⟨_, rfl⟩
        by_cases hlty : y < P.length
        · have eq : Ext w wq := ⟨eW.below.trans (hb1.mono (Nat.le_succ _))⟩
          have e0q : Ext w0 wq := Ext.trans ‹Ext w0 w› eq
          obtain ⟨bp, op, rfl, hcx⟩ := hP.at (w' := wq) hlt
          obtain ⟨bp2, op2, hpp, hcy⟩ := hP.at (w' := wq) hlty
          cases hpp
          have hbx := hb.out x hlt
          have hby := hb.out y hlty
          obtain ⟨gr, mr, hu, hBg⟩ := rw_form hown1 (by rw [hvs.out, hM1.1]) (j := x) (by rw [hM1.1]; exact hlt) (by rw [(hM1.2 x hlt).1]; omega)
          rw [(hM1.2 x hlt).1] at hu
          have hdd : ∃ gd, d0 = some ⟨gd, 0, none⟩ := by
            have h1 : Own wq (w.heap.size + 1) (⟨24, 1, .slice d0 P.length m0, vs.length, vs⟩ :: (List.zipWith (intRowOf 3) vs M1 ++ [boxRow 34 1 b [.slice d0 P.length m0]])) := hown1
            rw [hvs.out] at h1
            exact h1.at (j := 0) (by omega)
          obtain ⟨gd, rfl⟩ := hdd
          have tb : wq.cell? ⟨b, 0, none⟩ = some (.slice (some ⟨gd, 0, none⟩) P.length m0) := ow_cell hown1 (List.mem_append_right _ (List.Mem.head _)) (j := 0) (by omega)
          have tg := (rw_cell hown1 hvs.out hu).1
          have tq := (rw_at hown1 (by rw [hM1.1]; exact hlt) hu (hM1.2 x hlt).1 hlty)
          have hnew := rw_put hown1 (by rw [hvs.out, hM1.1]) (by rw [hM1.1]; exact hlt) hu (hM1.2 x hlt).1 y (max (nth P x - nth P y) (nth P y - nth P x))
          have hMn := hid (hM1.set y (x := max (nth P x - nth P y) (nth P y - nth P x)) hlt (by omega))
          obtain ⟨px, hpx⟩ : ∃ q, q = nth P x := ⟨_, rfl⟩
          obtain ⟨py, hpy⟩ : ∃ q, q = nth P y := ⟨_, rfl⟩
          rw [← hpx] at hcx hbx
          rw [← hpy] at hcy hby
          rw [← hpx, ← hpy] at hnew hMn
          clear hpx hpy
          obtain ⟨mx, hmx⟩ : ∃ q, q = max (px - py) (py - px) := ⟨_, rfl⟩
          rw [← hmx] at hnew hMn
          have hmxi := hid hmx.symm
          clear hmx
          have hMx1 := hid hM1
          clear hM1
          go_upto_region 8 with fail
          have ed : Ext wq wq.drew := inferInstance
          have tb' := ed.cell tb
          have tg' := ed.cell tg
          have cx' := ed.cell hcx
          have cy' := ed.cell hcy
          have tq' := ed.cell tq.1
          have tqf' := ed.frozen tq.1 tq.2
          have hbd : Below (w.heap.size + 1) W wq.drew := hb1.drew
          have hnew' : Own (wq.drew.setCell ⟨gr, y, none⟩ (.int .i64 mx)) (w.heap.size + 1) (rowsOf 24 3 (.slice (some ⟨gd, 0, none⟩) P.length m0) vs (M1.set x ((row M1 x).set y mx)) ++ [boxRow 34 1 b [.slice (some ⟨gd, 0, none⟩) P.length m0]]) := hnew
          clear tb tg hcx hcy hnew ed hb1
          refine wp_region_held_drew (S := fun w' => Below (w.heap.size + 1) W w' ∧ w'.cell? ⟨b, 0, none⟩ = some (.slice (some ⟨gd, 0, none⟩) P.length m0) ∧ w'.cell? ⟨gd, x, none⟩ = some (.slice (some ⟨gr, 0, none⟩) P.length mr) ∧ w'.cell? ⟨bp, op + x, none⟩ = some (.int .i64 px) ∧ w'.cell? ⟨bp, op + y, none⟩ = some (.int .i64 py)) (by kernel_rfl) ⟨hbd, tb', tg', cx', cy'⟩ (fun hHeld0 => ?_)
          generalize wq.drew = wd at *
          have hcu := (hu)
          replace hu := hid hu
          have hbW : Below (w.heap.size + 1) W (wd.setCell ⟨gr, y, none⟩ (.int .i64 mx)) := hbd.setCell hBg _
          have hSf : (wd.setCell ⟨gr, y, none⟩ (.int .i64 mx)).cell? ⟨b, 0, none⟩ = some (.slice (some ⟨gd, 0, none⟩) P.length m0) ∧ (wd.setCell ⟨gr, y, none⟩ (.int .i64 mx)).cell? ⟨gd, x, none⟩ = some (.slice (some ⟨gr, 0, none⟩) P.length mr) ∧ (wd.setCell ⟨gr, y, none⟩ (.int .i64 mx)).cell? ⟨bp, op + x, none⟩ = some (.int .i64 px) ∧ (wd.setCell ⟨gr, y, none⟩ (.int .i64 mx)).cell? ⟨bp, op + y, none⟩ = some (.int .i64 py) := by
            have hne : bp ≠ gr := by
              obtain ⟨b1, o1, h4, h5⟩ := hPc.out x hlt
              cases h4
              have h1 := World.block_lt_of_cell? w0 _ h5
              have h2 := (‹Ext w0 w›).size
              intro e
              subst e
              simp at h1
              omega
            refine ⟨ow_cell hnew' (List.mem_append_right _ (List.Mem.head _)) (j := 0) (by omega), (rw_cell hnew' hvs.out hcu).1, ?_, ?_⟩
            · rw [World.cell?_setCell_far _ _ _ _ hne.symm]; exact cx'
            · rw [World.cell?_setCell_far _ _ _ _ hne.symm]; exact cy'
          replace hSf := hid hSf
          clear hcu
          refine wpAnyH_take (i := 0) (v := .pointer (some ⟨b, 0, none⟩)) rfl (by kernel_rfl) (by kernel_rfl) (by kernel_rfl) (fun _ _ _ h => h) (Or.inl ⟨by rfl, by intro wx hx; go_simp⟩) (by assumption) ?_
          try simp only [List.getElem_toArray, List.getElem_cons_zero, Act.put, List.setIfInBounds_toArray, List.set_cons_zero, List.set_cons_succ]
          refine wpAnyH_take (i := 1) (v := .slice (some ⟨gd, 0, none⟩) P.length m0) rfl (by kernel_rfl) (by kernel_rfl) (by kernel_rfl) (fun _ _ _ h => h) (Or.inl ⟨by rfl, by intro wx hx; obtain ⟨_, _, _, _, _⟩ := hx; go_simp⟩) (by assumption) ?_
          try simp only [List.getElem_toArray, List.getElem_cons_succ, List.getElem_cons_zero, Act.put, List.setIfInBounds_toArray, List.set_cons_zero, List.set_cons_succ]
          refine wpAnyH_take (i := 2) (v := .int .i64 x) rfl (by kernel_rfl) (by kernel_rfl) (by kernel_rfl) (fun _ _ _ h => h) (Or.inl ⟨by rfl, by intro wx hx; go_simp⟩) (by assumption) ?_
          try simp only [List.getElem_toArray, List.getElem_cons_succ, List.getElem_cons_zero, Act.put, List.setIfInBounds_toArray, List.set_cons_zero, List.set_cons_succ]
          refine wpAnyH_take (i := 3) (v := .pointer (some ⟨gd, x, none⟩)) rfl (by kernel_rfl) (by kernel_rfl) (by kernel_rfl) (fun _ _ _ h => h) (Or.inl ⟨by rfl, by intro wx hx; go_simp⟩) (by assumption) ?_
          try simp only [List.getElem_toArray, List.getElem_cons_succ, List.getElem_cons_zero, Act.put, List.setIfInBounds_toArray, List.set_cons_zero, List.set_cons_succ]
          refine wpAnyH_take (i := 4) (v := .slice (some ⟨gr, 0, none⟩) P.length mr) rfl (by kernel_rfl) (by kernel_rfl) (by kernel_rfl) (fun _ _ _ h => h) (Or.inl ⟨by rfl, by intro wx hx; obtain ⟨_, _, _, _, _⟩ := hx; go_simp⟩) (by assumption) ?_
          try simp only [List.getElem_toArray, List.getElem_cons_succ, List.getElem_cons_zero, Act.put, List.setIfInBounds_toArray, List.set_cons_zero, List.set_cons_succ]
          refine wpAnyH_take (i := 5) (v := .int .i64 y) rfl (by kernel_rfl) (by kernel_rfl) (by kernel_rfl) (fun _ _ _ h => h) (Or.inl ⟨by rfl, by intro wx hx; go_simp⟩) (by assumption) ?_
          try simp only [List.getElem_toArray, List.getElem_cons_succ, List.getElem_cons_zero, Act.put, List.setIfInBounds_toArray, List.set_cons_zero, List.set_cons_succ]
          refine wpAnyH_take (i := 6) (v := .slice (some ⟨bp, op, none⟩) P.length cP) rfl (by kernel_rfl) (by kernel_rfl) (by kernel_rfl) (fun _ _ _ h => h) (Or.inl ⟨by rfl, by intro wx hx; go_simp⟩) (by assumption) ?_
          try simp only [List.getElem_toArray, List.getElem_cons_succ, List.getElem_cons_zero, Act.put, List.setIfInBounds_toArray, List.set_cons_zero, List.set_cons_succ]
          refine wpAnyH_take (i := 7) (v := .int .i64 x) rfl (by kernel_rfl) (by kernel_rfl) (by kernel_rfl) (fun _ _ _ h => h) (Or.inl ⟨by rfl, by intro wx hx; go_simp⟩) (by assumption) ?_
          try simp only [List.getElem_toArray, List.getElem_cons_succ, List.getElem_cons_zero, Act.put, List.setIfInBounds_toArray, List.set_cons_zero, List.set_cons_succ]
          refine wpAnyH_take (i := 8) (v := .pointer (some ⟨bp, op + x, none⟩)) rfl (by kernel_rfl) (by kernel_rfl) (by kernel_rfl) (fun _ _ _ h => h) (Or.inl ⟨by rfl, by intro wx hx; go_simp⟩) (by assumption) ?_
          try simp only [List.getElem_toArray, List.getElem_cons_succ, List.getElem_cons_zero, Act.put, List.setIfInBounds_toArray, List.set_cons_zero, List.set_cons_succ]
          refine wpAnyH_take (i := 9) (v := .int .i64 px) rfl (by kernel_rfl) (by kernel_rfl) (by kernel_rfl) (fun _ _ _ h => h) (Or.inl ⟨by rfl, by intro wx hx; obtain ⟨_, _, _, _, _⟩ := hx; go_simp⟩) (by assumption) ?_
          try simp only [List.getElem_toArray, List.getElem_cons_succ, List.getElem_cons_zero, Act.put, List.setIfInBounds_toArray, List.set_cons_zero, List.set_cons_succ]
          refine wpAnyH_take (i := 10) (v := .slice (some ⟨bp, op, none⟩) P.length cP) rfl (by kernel_rfl) (by kernel_rfl) (by kernel_rfl) (fun _ _ _ h => h) (Or.inl ⟨by rfl, by intro wx hx; go_simp⟩) (by assumption) ?_
          try simp only [List.getElem_toArray, List.getElem_cons_succ, List.getElem_cons_zero, Act.put, List.setIfInBounds_toArray, List.set_cons_zero, List.set_cons_succ]
          refine wpAnyH_take (i := 11) (v := .int .i64 y) rfl (by kernel_rfl) (by kernel_rfl) (by kernel_rfl) (fun _ _ _ h => h) (Or.inl ⟨by rfl, by intro wx hx; go_simp⟩) (by assumption) ?_
          try simp only [List.getElem_toArray, List.getElem_cons_succ, List.getElem_cons_zero, Act.put, List.setIfInBounds_toArray, List.set_cons_zero, List.set_cons_succ]
          refine wpAnyH_take (i := 12) (v := .pointer (some ⟨bp, op + y, none⟩)) rfl (by kernel_rfl) (by kernel_rfl) (by kernel_rfl) (fun _ _ _ h => h) (Or.inl ⟨by rfl, by intro wx hx; go_simp⟩) (by assumption) ?_
          try simp only [List.getElem_toArray, List.getElem_cons_succ, List.getElem_cons_zero, Act.put, List.setIfInBounds_toArray, List.set_cons_zero, List.set_cons_succ]
          refine wpAnyH_take (i := 13) (v := .int .i64 py) rfl (by kernel_rfl) (by kernel_rfl) (by kernel_rfl) (fun _ _ _ h => h) (Or.inl ⟨by rfl, by intro wx hx; obtain ⟨_, _, _, _, _⟩ := hx; go_simp⟩) (by assumption) ?_
          try simp only [List.getElem_toArray, List.getElem_cons_succ, List.getElem_cons_zero, Act.put, List.setIfInBounds_toArray, List.set_cons_zero, List.set_cons_succ]
          refine wpAnyH_take (i := 14) (v := .int .i64 (px - py)) rfl (by kernel_rfl) (by kernel_rfl) (by kernel_rfl) (fun _ _ _ h => h) (Or.inl ⟨by rfl, by intro wx hx; go_simp; exact IntWalk.i64_in _ (by omega)⟩) (by assumption) ?_
          try simp only [List.getElem_toArray, List.getElem_cons_succ, List.getElem_cons_zero, Act.put, List.setIfInBounds_toArray, List.set_cons_zero, List.set_cons_succ]
          refine wpAnyH_take (i := 15) (v := .slice (some ⟨bp, op, none⟩) P.length cP) rfl (by kernel_rfl) (by kernel_rfl) (by kernel_rfl) (fun _ _ _ h => h) (Or.inl ⟨by rfl, by intro wx hx; go_simp⟩) (by assumption) ?_
          try simp only [List.getElem_toArray, List.getElem_cons_succ, List.getElem_cons_zero, Act.put, List.setIfInBounds_toArray, List.set_cons_zero, List.set_cons_succ]
          refine wpAnyH_take (i := 16) (v := .int .i64 y) rfl (by kernel_rfl) (by kernel_rfl) (by kernel_rfl) (fun _ _ _ h => h) (Or.inl ⟨by rfl, by intro wx hx; go_simp⟩) (by assumption) ?_
          try simp only [List.getElem_toArray, List.getElem_cons_succ, List.getElem_cons_zero, Act.put, List.setIfInBounds_toArray, List.set_cons_zero, List.set_cons_succ]
          refine wpAnyH_take (i := 17) (v := .pointer (some ⟨bp, op + y, none⟩)) rfl (by kernel_rfl) (by kernel_rfl) (by kernel_rfl) (fun _ _ _ h => h) (Or.inl ⟨by rfl, by intro wx hx; go_simp⟩) (by assumption) ?_
          try simp only [List.getElem_toArray, List.getElem_cons_succ, List.getElem_cons_zero, Act.put, List.setIfInBounds_toArray, List.set_cons_zero, List.set_cons_succ]
          refine wpAnyH_take (i := 18) (v := .int .i64 py) rfl (by kernel_rfl) (by kernel_rfl) (by kernel_rfl) (fun _ _ _ h => h) (Or.inl ⟨by rfl, by intro wx hx; obtain ⟨_, _, _, _, _⟩ := hx; go_simp⟩) (by assumption) ?_
          try simp only [List.getElem_toArray, List.getElem_cons_succ, List.getElem_cons_zero, Act.put, List.setIfInBounds_toArray, List.set_cons_zero, List.set_cons_succ]
          refine wpAnyH_take (i := 19) (v := .slice (some ⟨bp, op, none⟩) P.length cP) rfl (by kernel_rfl) (by kernel_rfl) (by kernel_rfl) (fun _ _ _ h => h) (Or.inl ⟨by rfl, by intro wx hx; go_simp⟩) (by assumption) ?_
          try simp only [List.getElem_toArray, List.getElem_cons_succ, List.getElem_cons_zero, Act.put, List.setIfInBounds_toArray, List.set_cons_zero, List.set_cons_succ]
          refine wpAnyH_take (i := 20) (v := .int .i64 x) rfl (by kernel_rfl) (by kernel_rfl) (by kernel_rfl) (fun _ _ _ h => h) (Or.inl ⟨by rfl, by intro wx hx; go_simp⟩) (by assumption) ?_
          try simp only [List.getElem_toArray, List.getElem_cons_succ, List.getElem_cons_zero, Act.put, List.setIfInBounds_toArray, List.set_cons_zero, List.set_cons_succ]
          refine wpAnyH_take (i := 21) (v := .pointer (some ⟨bp, op + x, none⟩)) rfl (by kernel_rfl) (by kernel_rfl) (by kernel_rfl) (fun _ _ _ h => h) (Or.inl ⟨by rfl, by intro wx hx; go_simp⟩) (by assumption) ?_
          try simp only [List.getElem_toArray, List.getElem_cons_succ, List.getElem_cons_zero, Act.put, List.setIfInBounds_toArray, List.set_cons_zero, List.set_cons_succ]
          refine wpAnyH_take (i := 22) (v := .int .i64 px) rfl (by kernel_rfl) (by kernel_rfl) (by kernel_rfl) (fun _ _ _ h => h) (Or.inl ⟨by rfl, by intro wx hx; obtain ⟨_, _, _, _, _⟩ := hx; go_simp⟩) (by assumption) ?_
          try simp only [List.getElem_toArray, List.getElem_cons_succ, List.getElem_cons_zero, Act.put, List.setIfInBounds_toArray, List.set_cons_zero, List.set_cons_succ]
          refine wpAnyH_take (i := 23) (v := .int .i64 (py - px)) rfl (by kernel_rfl) (by kernel_rfl) (by kernel_rfl) (fun _ _ _ h => h) (Or.inl ⟨by rfl, by intro wx hx; go_simp; exact IntWalk.i64_in _ (by omega)⟩) (by assumption) ?_
          try simp only [List.getElem_toArray, List.getElem_cons_succ, List.getElem_cons_zero, Act.put, List.setIfInBounds_toArray, List.set_cons_zero, List.set_cons_succ]
          refine wpAnyH_ready (rs := [24]) (by kernel_rfl) (by simp) ?_
          refine AllReadyH.cons rfl (fun K hK => ?_) AllReadyH.nil
          go_simp
          go_at_call 59
          refine (l1Most_any _ _ _).mono ?_
          rw [hmxi.out]
          rintro e w8 ⟨rfl, rfl⟩
          go_wp2_with fail
          refine hK.out _ _ hHeld0 (fun _ => ?_)
          clear hK K
          try simp only [List.getElem_toArray, List.getElem_cons_succ, List.getElem_cons_zero, Act.put, List.setIfInBounds_toArray, List.set_cons_zero, List.set_cons_succ]
          refine wpAnyH_take (i := 25) (v := .pointer (some ⟨gr, y, none⟩)) rfl (by kernel_rfl) (by kernel_rfl) (by kernel_rfl) (fun _ _ _ h => h) (Or.inl ⟨by rfl, by intro wx hx; go_simp⟩) (by assumption) ?_
          try simp only [List.getElem_toArray, List.getElem_cons_succ, List.getElem_cons_zero, Act.put, List.setIfInBounds_toArray, List.set_cons_zero, List.set_cons_succ]
          refine wpAnyH_ready (rs := [26]) (by kernel_rfl) (by simp) ?_
          refine AllReadyH.cons rfl (fun K hK => ?_) AllReadyH.nil
          go_simp
          refine hK.out _ _ ⟨hbW, hSf.out⟩ (fun _ => ?_)
          clear hK K
          try simp only [List.getElem_toArray, List.getElem_cons_succ, List.getElem_cons_zero, Act.put, List.setIfInBounds_toArray, List.set_cons_zero, List.set_cons_succ]
          refine wpAnyH_done (by kernel_rfl) ?_ _
          go_wp2_with fail
          go_roundw
          case rel => exact ⟨y + 1, by omega, by go_num, hbW, _, hMn.out, hnew'⟩
          case measure => simp [intOf]; omega
        · have hyn : y = P.length := by omega
          replace hyn := hid hyn
          go_wp2
          go_roundw
          case rel => exact ⟨x + 1, by omega, by go_num, hb1, M1, hM1, hown1⟩
          case measure => simp [intOf]; omega
    · have hxn : x = P.length := by omega
      replace hxn := hid hxn
      have tb : wo.cell? ⟨b, 0, none⟩ = some (.slice d0 P.length m0) := ow_cell hown (List.mem_append_right _ (List.Mem.head _)) (j := 0) (by omega)
      have xr : wo.cell? ⟨w.heap.size, 0, none⟩ = some (.slice none 0 0) := (hb0.cell (p := ⟨w.heap.size, 0, none⟩) (Nat.lt_succ_self _)).trans x0
      have xrf : wo.frozen? ⟨w.heap.size, 0, none⟩ = false := (hb0.frozen (p := ⟨w.heap.size, 0, none⟩) (Nat.lt_succ_self _)).trans xf
      have hset : (wo.setCell ⟨w.heap.size, 0, none⟩ (.slice d0 P.length m0)).cell? ⟨w.heap.size, 0, none⟩ = some (.slice d0 P.length m0) := by go_simp
      have hown3 := (hown.left.setBelow (p := ⟨w.heap.size, 0, none⟩) (Nat.lt_succ_self _) (.slice d0 P.length m0)).mono (Nat.le_succ _)
      have eF : Ext w (wo.setCell ⟨w.heap.size, 0, none⟩ (.slice d0 P.length m0)) := ⟨eW.below.trans ((hb0.mono (Nat.le_succ _)).setCell (Nat.le_refl _) _)⟩
      go_wp2
      refine bodyPost_ret (v := .agg #[.slice d0 P.length m0]) (by simp [results, Try.results120, go_sem, hset]) rfl ?_
      exact ⟨_, _, vs, M, rfl, hvs.out, hM, hown3, eF⟩
end Go.Proofs.Ytohjbabjkjcddaa

/- A sequence of requests that a draw makes. -/
namespace Go.Proofs.Ytohjbabjkjcddaa
open Go.RowKit

theorem CurAt.low {w : World} {B c : Nat} {vc : Value} {a : Int} {R : List Row} (h : CurAt w B c vc a R) : B ≤ w.heap.size := by
  obtain ⟨s, h⟩ := h
  have := ow_lt h
  omega

theorem bd_snoc {X : List Int} {l h y : Int} (hX : ∀ x ∈ X, l ≤ x ∧ x ≤ h) (hy : l ≤ y ∧ y ≤ h) : ∀ x ∈ X ++ [y], l ≤ x ∧ x ≤ h := fun x hx => by
  rcases List.mem_append.1 hx with h1 | h1
  · exact hX x h1
  · rw [List.mem_singleton.1 h1]; exact hy
theorem bd_set {X : List Int} {l h y : Int} {j : Nat} (hX : ∀ x ∈ X, l ≤ x ∧ x ≤ h) (hy : l ≤ y ∧ y ≤ h) : ∀ x ∈ X.set j y, l ≤ x ∧ x ≤ h := fun x hx => by
  rcases List.mem_or_eq_of_mem_set hx with h1 | h1
  · exact hX x h1
  · rw [h1]; exact hy
/-- the cursor behind a list that grows -/
def RqAt (w : World) (B c : Nat) (vc : Value) (a : Int) (v : Value) (X : List Int) (R : List Row) : Prop := ∃ s, Own w B (intRowOf 3 v X :: curRow c vc a s :: R)
theorem RqAt.of {w : World} {B c : Nat} {vc : Value} {a : Int} {v : Value} {X : List Int} {R : List Row} (h : CurAt w B c vc a (intRowOf 3 v X :: R)) : ∃ s, Own w B (intRowOf 3 v X :: curRow c vc a s :: R) := by
  obtain ⟨s, h⟩ := h
  exact ⟨s, h.perm (List.Perm.swap _ _ _)⟩
theorem cur_back {w : World} {B c : Nat} {vc : Value} {a s : Int} {r : Row} {R : List Row} (h : Own w B (r :: curRow c vc a s :: R)) : CurAt w B c vc a (r :: R) := ⟨s, h.perm (List.Perm.swap _ _ _)⟩
theorem emod_in {x m : Int} (_hx : 0 ≤ x) (hm : 1 ≤ m) : 0 ≤ x % m ∧ x % m ≤ m - 1 := by
  have h1 := Int.emod_nonneg x (show m ≠ 0 by omega)
  have h2 := Int.emod_lt_of_pos x (show 0 < m by omega)
  omega

end Go.Proofs.Ytohjbabjkjcddaa

/- Rows and places that a draw makes. -/
namespace Go.Proofs.Ytohjbabjkjcddaa
open Go.RowKit

theorem CurAt.join1 {w w' : World} {B c : Nat} {vc : Value} {a : Int} {R : List Row} {r : Row} (h : CurAt w B c vc a R) (hn : Own w' w.heap.size [r]) [e : Ext w w'] (hB : B ≤ w.heap.size) : CurAt w' B c vc a (r :: R) := by
  obtain ⟨s, h⟩ := h
  have h2 := Own.join h hn (hB := hB)
  exact ⟨s, h2.perm (List.Perm.swap _ _ _)⟩
def RwPost (w : World) (B c : Nat) (vc : Value) (a : Int) (R : List Row) (lo hi : Int) (n : Nat) (e : Ending) (w' : World) : Prop :=
  ∃ v X a', e = .returned v ∧ X.length ≤ n ∧ (∀ x ∈ X, lo ≤ x ∧ x ≤ hi) ∧ a ≤ a' ∧ a' ≤ a + 200 ∧ CurAt w' B c vc a' (intRowOf 3 v X :: R) ∧ Below B w w'
set_option maxHeartbeats 3200000 in
set_option maxRecDepth 100000 in
theorem row_any {w0 w : World} [Ext w0 w] {vc : Value} {nb : Nat} (hc : IsBytes w0 vc nb) {B c : Nat} {a : Int} {R : List Row} (own : CurAt w B c vc a R) (hwB : w0.heap.size ≤ B) (ha : 0 ≤ a) (ha2 : a ≤ 2000000) {k : Int} (hk : 1 ≤ k ∧ k ≤ 3) :
    Calls Try.prog 37 #[.pointer (some ⟨c, 0, none⟩), .int .i64 k] w fun e w' => RwPost w B c vc a R (-1) 100 4 e w' := by
  have hBw := own.low
  have hE : ∀ u, Below B w u → Ext w0 u := fun u h => ⟨(‹Ext w0 w›).below.trans (h.mono hwB)⟩
  replace hE := hid hE
  go_enter Try.func37, Try.ntmps37
  have own2 := own.lit (e := 3) (n := 0) (cs := #[]) [] own.low rfl rfl (by simp)
  have b2 : Below B w (w.alloc (.cells #[] 3)) := (Below.refl B w).alloc hBw _
  go_upto_region 2 with fail
  generalize w.alloc (.cells #[] 3) = w2 at *
  generalize w.heap.size = gw at *
  go_wp2_with fail
  go_loopw [5, 6] (fun v i wr => ∃ (X : List Int) (ay : Int), i = .int .i64 X.length ∧ (X.length : Int) ≤ k ∧ (∀ x ∈ X, 0 ≤ x ∧ x ≤ 99) ∧ a ≤ ay ∧ ay ≤ a + 8 * (X.length : Int) ∧ Below B w wr ∧ CurAt wr B c vc ay (intRowOf 3 v X :: R)) (fun _ i _ => 4 - (intOf i).toNat)
  case atStart => exact ⟨[], a, rfl, by simp; omega, (fun x hx => by cases hx), by omega, by simp, b2, own2⟩
  case round =>
    clear own2 b2
    obtain ⟨X, ay, rfl, hX, hXb, hya, hyb', bq, ownq⟩ := hrel
    obtain ⟨wq, rfl⟩ : ∃ y : World, y = wr := ⟨_, rfl⟩
    obtain ⟨dv, mv, hv⟩ := ownq.rows.form
    have hv' : u5 = .slice dv X.length mv := hv
    subst hv'
    have eq := hE.out _ bq
    by_cases hlt : (X.length : Int) < k
    · skip
      go_wp2_with fail
      refine (pick_any (w0 := w0) hc ownq hwB (by omega) (by omega)).mono ?_
      rintro e u1 ⟨p1, c1, rfl, p1a, p1b, p1c, c1a, c1b, o1, d1⟩
      have p1d := p1c (by omega)
      have f1 := bq.trans d1
      have g1 := hE.out _ f1
      clear p1c d1
      go_wp2_with fail
      refine (pick_any (w0 := w0) hc o1 hwB (by omega) (by omega)).mono ?_
      rintro e u2 ⟨p2, c2, rfl, p2a, p2b, p2c, c2a, c2b, o2, d2⟩
      have p2d := p2c (by omega)
      have f2 := f1.trans d2
      have g2 := hE.out _ f2
      clear p2c d2 o1 f1
      go_wp2_with fail
      refine (pick_any (w0 := w0) hc o2 hwB (by omega) (by omega)).mono ?_
      rintro e u3 ⟨p3, c3, rfl, p3a, p3b, p3c, c3a, c3b, o3, d3⟩
      have p3d := p3c (by omega)
      have f3 := f2.trans d3
      have g3 := hE.out _ f3
      clear p3c d3 o2 f2
      have oL := o3.lit (e := 3) (n := 6) (cs := #[.int .i64 0, .int .i64 99, .int .i64 50, .int .i64 p1, .int .i64 p2, .int .i64 p3]) [0, 99, 50, p1, p2, p3] o3.low rfl rfl (by simp)
      have fL := f3.trans ((Below.refl B u3).alloc o3.low (.cells #[.int .i64 0, .int .i64 99, .int .i64 50, .int .i64 p1, .int .i64 p2, .int .i64 p3] 3))
      have gL := hE.out _ fL
      have ham := among_any (w0 := w0) hc oL hwB (by omega) (by omega) (by simp) (by simp)
      replace ham := hid ham
      replace fL := hid fL
      clear oL
      go_wp2_with fail
      refine ham.out.mono ?_
      rintro e u4 ⟨y, c4, rfl, hy, c4a, c4b, o4, d4⟩
      have hyb : 0 ≤ y ∧ y ≤ 99 := by simp at hy; omega
      have o5 := o4.drop
      have f4 := fL.out.trans d4
      have hB4 := o5.low
      obtain ⟨s5, h5⟩ := RqAt.of o5
      clear hy o4 d4 ham o3 f3 o5
      go_wp2_with (at_builtin; refine wpList_append1 rfl _ _ _ rfl elemInt rfl h5 hB4 rfl rfl (by omega) (by omega) ?_; intro v7 w7 ho7 hb7; obtain ⟨d7, m7, hv7⟩ := ho7.form; (obtain rfl : v7 = .slice d7 (X.length + 1) m7 := hv7))
      go_roundw
      case rel => exact ⟨X ++ [y], c4, by simp, by simp; omega, bd_snoc hXb (by omega), by omega, by simp; omega, f4.trans hb7, cur_back (own_grow1 ho7 rfl)⟩
      case measure => simp [intOf]; omega
    · have hXl : X.length ≤ 3 := by omega
      have hi := ownq.rows.reads (by unfold Short; omega) (fun x hx => by have := hXb x hx; unfold I64; omega)
      have hBq := ownq.low
      go_wp2_with fail
      refine (l6Sort_any (w0 := wq) (w := wq) hi (by omega)).mono ?_
      rintro e w5 ⟨v5, rfl, own5, e5⟩
      have ow5 := ownq.drop.join1 own5 hBq
      have b5 : Below B w w5 := bq.trans (e5.below.mono hBq)
      have e05 := hE.out _ b5
      have hsl : (sortL X).length ≤ 3 := by rw [sortL_len]; exact hXl
      have hsb : ∀ x ∈ sortL X, 0 ≤ x ∧ x ≤ 99 := fun x hx => hXb x ((sortL_perm X).mem_iff.1 hx)
      obtain ⟨d5, m5, hv5⟩ := ow5.rows.form
      have hv5' : v5 = .slice d5 (sortL X).length m5 := hv5
      subst hv5'
      generalize sortL X = Y at *
      clear own5 hi
      go_wp2_with fail
      refine (pick_any (w0 := w0) hc ow5 hwB (by omega) (by omega)).mono ?_
      rintro e w6 ⟨z, a6, rfl, hz0, hz1, hz2, h6a, h6b, ow6, b6'⟩
      have hz3 := hz2 (by omega)
      have b6 := b5.trans b6'
      have e06 := hE.out _ b6
      have hB6 := ow6.low
      clear ow5 b6' hz2
      obtain ⟨s6, h6⟩ := RqAt.of ow6
      by_cases hz : z = 0
      · subst hz
        go_wp2_with (at_builtin; refine wpList_append1 rfl _ _ _ rfl elemInt rfl h6 hB6 rfl rfl (by omega) (by omega) ?_; intro v7 w7 ho7 hb7; obtain ⟨d7, m7, hv7⟩ := ho7.form; (obtain rfl : v7 = .slice d7 (Y.length + 1) m7 := hv7))
        go_ret
        exact ⟨_, Y ++ [100], a6, rfl, by simp; omega, bd_snoc (fun x hx => by have := hsb x hx; omega) (by omega), by omega, by omega, cur_back (own_grow1 ho7 rfl), b6.trans hb7⟩
      · have hz' : (z == 0) = false := beq_eq_false_iff_ne.2 hz
        by_cases hz1' : z = 1
        · subst hz1'
          have owL := ow6.lit (e := 3) (n := 1) (cs := #[.int .i64 (-1)]) [-1] hB6 rfl rfl (by simp)
          have hBL : B ≤ (w6.alloc (.cells #[.int .i64 (-1)] 3)).heap.size := owL.low
          have hYi : IsInts w6 (.slice d5 Y.length m5) Y := ow6.rows.reads (by unfold Short; omega) (fun x hx => by have := hsb x hx; unfold I64; omega)
          have hYi2 := hYi.ext (w' := w6.alloc (.cells #[.int .i64 (-1)] 3))
          have bL : Below B w (w6.alloc (.cells #[.int .i64 (-1)] 3)) := b6.alloc hB6 _
          obtain ⟨sL, hL⟩ := RqAt.of owL
          clear hYi
          go_wp2_with (at_builtin; refine wpList_appendInts rfl _ _ _ rfl elemInt rfl hL hBL rfl hYi2 (by simp; omega) ?_; intro v7 w7 ho7 hb7)
          have ho8 : Own w7 B (intRowOf 3 v7 (-1 :: Y) :: curRow c vc a6 sL :: (intRowOf 3 (.slice d5 Y.length m5) Y :: R)) := by
            have e : intRowOf 3 v7 (-1 :: Y) = ⟨3, 1, v7, [(-1 : Int)].length + Y.length, [(-1 : Int)].map (Value.int .i64) ++ Y.map (Value.int .i64)⟩ := by
              unfold intRowOf
              simp [Nat.add_comm]
            rw [e]; exact ho7
          have ow8 := (cur_back ho8).sub (List.Sublist.cons_cons _ (List.sublist_cons_self _ _))
          go_ret
          exact ⟨_, -1 :: Y, a6, rfl, by simp; omega, (fun x hx => by
            rcases List.mem_cons.1 hx with h | h
            · omega
            · have := hsb x h; omega), by omega, by omega, ow8, bL.trans hb7⟩
        · have hz1'' : (z == 1) = false := beq_eq_false_iff_ne.2 hz1'
          by_cases hz2' : z = 2
          · subst hz2'
            go_wp2_with (at_builtin; refine wpList_append1 rfl _ _ _ rfl elemInt rfl h6 hB6 rfl rfl (by omega) (by omega) ?_; intro v7 w7 ho7 hb7; obtain ⟨d7, m7, hv7⟩ := ho7.form; (obtain rfl : v7 = .slice d7 (Y.length + 1) m7 := hv7))
            go_ret
            exact ⟨_, Y ++ [0], a6, rfl, by simp; omega, bd_snoc (fun x hx => by have := hsb x hx; omega) (by omega), by omega, by omega, cur_back (own_grow1 ho7 rfl), b6.trans hb7⟩
          · have hz2'' : (z == 2) = false := beq_eq_false_iff_ne.2 hz2'
            go_wp2_with fail
            go_ret
            exact ⟨_, Y, a6, rfl, by omega, (fun x hx => by have := hsb x hx; omega), by omega, by omega, ow6, b6⟩
set_option maxHeartbeats 3200000 in
set_option maxRecDepth 100000 in
theorem places_any {w0 w : World} [Ext w0 w] {vc : Value} {nb : Nat} (hc : IsBytes w0 vc nb) {B c : Nat} {a : Int} {R : List Row} (own : CurAt w B c vc a R) (hwB : w0.heap.size ≤ B) (ha : 0 ≤ a) (ha2 : a ≤ 2000000) :
    Calls Try.prog 39 #[.pointer (some ⟨c, 0, none⟩), .int .i64 7] w fun e w' => RwPost w B c vc a R (-1) 4611686018427387904 8 e w' := by
  have hBw := own.low
  have hE : ∀ u, Below B w u → Ext w0 u := fun u h => ⟨(‹Ext w0 w›).below.trans (h.mono hwB)⟩
  replace hE := hid hE
  go_enter Try.func39, Try.ntmps39
  have own2 := own.lit (e := 3) (n := 0) (cs := #[]) [] own.low rfl rfl (by simp)
  have b2 : Below B w (w.alloc (.cells #[] 3)) := (Below.refl B w).alloc hBw _
  go_upto_region 2 with fail
  generalize w.alloc (.cells #[] 3) = w2 at *
  generalize w.heap.size = gw at *
  have e02 := hE.out _ b2
  go_wp2_with fail
  refine (pick_any (w0 := w0) hc own2 hwB (by omega) (by omega)).mono ?_
  rintro e w3 ⟨z0, a3, rfl, hz0, hz1, hz2, h3a, h3b, own3, b3'⟩
  have hz3 := hz2 (by omega)
  have b3 := b2.trans b3'
  clear own2 b2 b3' hz2 e02
  go_wp2_with fail
  go_loopw [5, 6] (fun v i wr => ∃ (X : List Int) (ay z : Int), i = .int .i64 z ∧ 0 ≤ z ∧ (X.length : Int) + z ≤ 7 ∧ (∀ x ∈ X, 0 ≤ x ∧ x ≤ 99) ∧ a ≤ ay ∧ ay ≤ a + 2 + 8 * (X.length : Int) ∧ Below B w wr ∧ CurAt wr B c vc ay (intRowOf 3 v X :: R)) (fun _ i _ => (intOf i).toNat)
  case atStart => exact ⟨[], a3, z0, rfl, by omega, by simp; omega, (fun x hx => by cases hx), by omega, by simp; omega, b3, own3⟩
  case round =>
    clear own3 b3
    obtain ⟨X, ay, z, rfl, hz0', hX, hXb, hya, hyb', bq, ownq⟩ := hrel
    obtain ⟨wq, rfl⟩ : ∃ y : World, y = wr := ⟨_, rfl⟩
    obtain ⟨dv, mv, hv⟩ := ownq.rows.form
    have hv' : u5 = .slice dv X.length mv := hv
    subst hv'
    have eq := hE.out _ bq
    by_cases hlt : 0 < z
    · skip
      go_wp2_with fail
      refine (pick_any (w0 := w0) hc ownq hwB (by omega) (by omega)).mono ?_
      rintro e u1 ⟨p1, c1, rfl, p1a, p1b, p1c, c1a, c1b, o1, d1⟩
      have p1d := p1c (by omega)
      have f1 := bq.trans d1
      have g1 := hE.out _ f1
      clear p1c d1
      go_wp2_with fail
      refine (pick_any (w0 := w0) hc o1 hwB (by omega) (by omega)).mono ?_
      rintro e u2 ⟨p2, c2, rfl, p2a, p2b, p2c, c2a, c2b, o2, d2⟩
      have p2d := p2c (by omega)
      have f2 := f1.trans d2
      have g2 := hE.out _ f2
      clear p2c d2 o1 f1
      go_wp2_with fail
      refine (pick_any (w0 := w0) hc o2 hwB (by omega) (by omega)).mono ?_
      rintro e u3 ⟨p3, c3, rfl, p3a, p3b, p3c, c3a, c3b, o3, d3⟩
      have p3d := p3c (by omega)
      have f3 := f2.trans d3
      have g3 := hE.out _ f3
      clear p3c d3 o2 f2
      have oL := o3.lit (e := 3) (n := 6) (cs := #[.int .i64 0, .int .i64 99, .int .i64 50, .int .i64 p1, .int .i64 p2, .int .i64 p3]) [0, 99, 50, p1, p2, p3] o3.low rfl rfl (by simp)
      have fL := f3.trans ((Below.refl B u3).alloc o3.low (.cells #[.int .i64 0, .int .i64 99, .int .i64 50, .int .i64 p1, .int .i64 p2, .int .i64 p3] 3))
      have gL := hE.out _ fL
      have ham := among_any (w0 := w0) hc oL hwB (by omega) (by omega) (by simp) (by simp)
      replace ham := hid ham
      replace fL := hid fL
      clear oL
      go_wp2_with fail
      refine ham.out.mono ?_
      rintro e u4 ⟨y, c4, rfl, hy, c4a, c4b, o4, d4⟩
      have hyb : 0 ≤ y ∧ y ≤ 99 := by simp at hy; omega
      have o5 := o4.drop
      have f4 := fL.out.trans d4
      have hB4 := o5.low
      obtain ⟨s5, h5⟩ := RqAt.of o5
      clear hy o4 d4 ham o3 f3 o5
      go_wp2_with (at_builtin; refine wpList_append1 rfl _ _ _ rfl elemInt rfl h5 hB4 rfl rfl (by omega) (by omega) ?_; intro v7 w7 ho7 hb7; obtain ⟨d7, m7, hv7⟩ := ho7.form; (obtain rfl : v7 = .slice d7 (X.length + 1) m7 := hv7))
      go_roundw
      case rel => exact ⟨X ++ [y], c4, z - 1, rfl, by omega, by simp; omega, bd_snoc hXb (by omega), by omega, by simp; omega, f4.trans hb7, cur_back (own_grow1 ho7 rfl)⟩
      case measure => simp [intOf]; omega
    · have hXl : X.length ≤ 7 := by omega
      go_wp2_with fail
      refine (one_any (w0 := w0) hc ownq hwB (by omega) (by omega)).mono ?_
      rintro e w6 ⟨bo, a6, rfl, h6a, h6b, ow6, b6'⟩
      have b6 := bq.trans b6'
      have e06 := hE.out _ b6
      cases bo with
      | false =>
        go_wp2_with fail
        go_ret
        exact ⟨_, X, a6, rfl, by omega, (fun x hx => by have := hXb x hx; omega), by omega, by omega, ow6, b6⟩
      | true =>
        have oL := ow6.lit (e := 3) (n := 3) (cs := #[.int .i64 (-1), .int .i64 100, .int .i64 4611686018427387904]) [-1, 100, 4611686018427387904] ow6.low rfl rfl (by simp)
        have fL := b6.trans ((Below.refl B w6).alloc ow6.low (.cells #[.int .i64 (-1), .int .i64 100, .int .i64 4611686018427387904] 3))
        have gL := hE.out _ fL
        have ham := among_any (w0 := w0) hc oL hwB (by omega) (by omega) (by simp) (by simp)
        replace ham := hid ham
        replace fL := hid fL
        clear oL
        go_wp2_with fail
        refine ham.out.mono ?_
        rintro e u4 ⟨y, c4, rfl, hy, c4a, c4b, o4, d4⟩
        have hyb : -1 ≤ y ∧ y ≤ 4611686018427387904 := by simp at hy; omega
        have o5 := o4.drop
        have f4 := fL.out.trans d4
        have hB4 := o5.low
        obtain ⟨s5, h5⟩ := RqAt.of o5
        clear hy o4 d4 ham o5
        go_wp2_with (at_builtin; refine wpList_append1 rfl _ _ _ rfl elemInt rfl h5 hB4 rfl rfl (by omega) (by omega) ?_; intro v7 w7 ho7 hb7; obtain ⟨d7, m7, hv7⟩ := ho7.form; (obtain rfl : v7 = .slice d7 (X.length + 1) m7 := hv7))
        go_ret
        exact ⟨_, X ++ [y], c4, rfl, by simp; omega, bd_snoc (fun x hx => by have := hXb x hx; omega) hyb, by omega, by omega, cur_back (own_grow1 ho7 rfl), f4.trans hb7⟩
def lenV : Value → Nat | .slice _ n _ => n | _ => 0
def LrPost (w : World) (e : Ending) (w' : World) : Prop :=
  ∃ v u A X, e = .returned (.tuple #[v, u]) ∧ A.length ≤ 4 ∧ X.length ≤ 14 ∧ IsInts w' v A ∧ IsInts w' u X ∧ Ext w w'
theorem CurAt.first {w : World} {B : Nat} {vc : Value} {R : List Row} (h : Own w B R) (hB : B ≤ w.heap.size) : CurAt (w.alloc (.cells #[vc, .int .i64 0, .int .u64 0] 61)) B w.heap.size vc 0 R :=
  ⟨0, h.lit 61 3 1 #[vc, .int .i64 0, .int .u64 0] hB (by unfold maxLen; omega) rfl⟩
set_option maxHeartbeats 3200000 in
set_option maxRecDepth 100000 in
theorem drawLr_any {w0 w : World} [Ext w0 w] {vc : Value} {nb : Nat} (hc : IsBytes w0 vc nb) :
    Calls Try.prog 7 #[vc] w fun e w' => LrPost w e w' := by
  obtain ⟨ac, cc, rfl⟩ := hc.form
  have hsz : w0.heap.size ≤ w.heap.size := (‹Ext w0 w›).size
  obtain ⟨B, hB⟩ : ∃ B, B = w.heap.size := ⟨_, rfl⟩
  have own1 : CurAt (w.alloc (.cells #[.slice ac nb cc, .int .i64 0, .int .u64 0] 61)) B B (.slice ac nb cc) 0 [] := by
    rw [hB]
    exact CurAt.first (Own.nil w w.heap.size) (Nat.le_refl _)
  have b1 : Below B w (w.alloc (.cells #[.slice ac nb cc, .int .i64 0, .int .u64 0] 61)) := by rw [hB]; exact (Below.refl _ w).alloc (Nat.le_refl _) _
  have hwB : w0.heap.size ≤ B := by omega
  have hE := hid (show ∀ u, Below B w u → Ext w u from fun u h => ⟨by rw [← hB]; exact h⟩)
  go_enter Try.func7, Try.ntmps7
  go_upto_region 2 with fail
  rw [← hB]
  replace hB := hid hB
  generalize w.alloc (.cells #[.slice ac nb cc, .int .i64 0, .int .u64 0] 61) = w1 at *
  have e1 : Ext w0 w1 := Ext.trans ‹Ext w0 w› (hE.out _ b1)
  go_wp2_with fail
  refine (pick_any (w0 := w0) hc own1 hwB (by omega) (by omega)).mono ?_
  rintro e w2 ⟨x, a2, rfl, hx0, hx1, hx2, h2a, h2b, own2, b2'⟩
  have hx3 := hx2 (by omega)
  have b2 := b1.trans b2'
  have e2 : Ext w0 w2 := Ext.trans ‹Ext w0 w› (hE.out _ b2)
  clear own1 b1 b2' hx2
  go_wp2_with fail
  refine (row_any (w0 := w0) hc own2 hwB (by omega) (by omega) (k := 1 + x) (by omega)).mono ?_
  rintro e w3 ⟨v3, A, a3, rfl, hA1, hA2, h3a, h3b, own3, b3'⟩
  have b3 := b2.trans b3'
  have e3 : Ext w0 w3 := Ext.trans ‹Ext w0 w› (hE.out _ b3)
  clear own2 b2 b3'
  go_wp2_with fail
  refine (places_any (w0 := w0) hc own3 hwB (by omega) (by omega)).mono ?_
  rintro e w4 ⟨v4, X0, a4, rfl, hX1, hX2, h4a, h4b, own4, b4'⟩
  have b4 := b3.trans b4'
  have e4 : Ext w0 w4 := Ext.trans ‹Ext w0 w› (hE.out _ b4)
  clear own3 b3 b4'
  go_wp2_with fail
  refine (one_any (w0 := w0) hc own4 hwB (by omega) (by omega)).mono ?_
  rintro e w5 ⟨bo, a5, rfl, h5a, h5b, own5, b5'⟩
  have b5 := b4.trans b5'
  have e5 : Ext w0 w5 := Ext.trans ‹Ext w0 w› (hE.out _ b5)
  clear own4 b4 b5'
  cases bo with
  | false =>
    have i1 := own5.rows.reads (by unfold Short; omega) (fun x hx => by have := hX2 x hx; unfold I64; omega)
    have i2 := own5.drop.rows.reads (by unfold Short; omega) (fun x hx => by have := hA2 x hx; unfold I64; omega)
    go_wp2_with fail
    go_ret2
    exact ⟨_, _, A, X0, rfl, hA1, by omega, i2, i1, hE.out _ b5⟩
  | true =>
    go_wp2_with fail
    refine (pick_any (w0 := w0) hc own5 hwB (by omega) (by omega)).mono ?_
    rintro e w6 ⟨z, a6, rfl, hz0, hz1, hz2, h6a, h6b, own6, b6'⟩
    have hz3 := hz2 (by omega)
    have b6 := b5.trans b6'
    clear own5 b5 b6' hz2
    go_wp2_with fail
    go_loopw [6] (fun v wr => ∃ (X : List Int) (ay : Int), X.length ≤ 13 ∧ (∀ x ∈ X, -1 ≤ x ∧ x ≤ 4611686018427387904) ∧ a6 ≤ ay ∧ ay ≤ a6 + 8 * (X.length : Int) ∧ Below B w wr ∧ CurAt wr B B (.slice ac nb cc) ay (intRowOf 3 v X :: intRowOf 3 v3 A :: [])) (fun v _ => 14 - (lenV v))
    case atStart => exact ⟨X0, a6, by omega, hX2, by omega, by omega, b6, own6⟩
    case round =>
      clear own6 b6
      obtain ⟨X, ay, hX, hXb, hya, hyb', bq, ownq⟩ := hrel
      obtain ⟨wq, rfl⟩ : ∃ y : World, y = wr := ⟨_, rfl⟩
      obtain ⟨dv, mv, hv⟩ := ownq.rows.form
      have hv' : u6 = .slice dv X.length mv := hv
      subst hv'
      have eq : Ext w0 wq := Ext.trans ‹Ext w0 w› (hE.out _ bq)
      by_cases hlt : (X.length : Int) < 11 + z
      · have oL := ownq.lit (e := 3) (n := 3) (cs := #[.int .i64 0, .int .i64 60, .int .i64 99]) [0, 60, 99] ownq.low rfl rfl (by simp)
        have fL := bq.trans ((Below.refl B wq).alloc ownq.low (.cells #[.int .i64 0, .int .i64 60, .int .i64 99] 3))
        have gL : Ext w0 (wq.alloc (.cells #[.int .i64 0, .int .i64 60, .int .i64 99] 3)) := Ext.trans ‹Ext w0 w› (hE.out _ fL)
        have ham := among_any (w0 := w0) hc oL hwB (by omega) (by omega) (by simp) (by simp)
        replace ham := hid ham
        replace fL := hid fL
        clear oL
        go_wp2_with fail
        refine ham.out.mono ?_
        rintro e u4 ⟨y, c4, rfl, hy, c4a, c4b, o4, d4⟩
        have hyb : -1 ≤ y ∧ y ≤ 4611686018427387904 := by simp at hy; omega
        have o5 := o4.drop
        have f4 := fL.out.trans d4
        have hB4 := o5.low
        obtain ⟨s5, h5⟩ := RqAt.of o5
        clear hy o4 d4 ham o5
        go_wp2_with (at_builtin; refine wpList_append1 rfl _ _ _ rfl elemInt rfl h5 hB4 rfl rfl (by omega) (by omega) ?_; intro v7 w7 ho7 hb7; obtain ⟨d7, m7, hv7⟩ := ho7.form; (obtain rfl : v7 = .slice d7 (X.length + 1) m7 := hv7))
        go_roundw
        case rel => exact ⟨X ++ [y], c4, by simp; omega, bd_snoc hXb hyb, by omega, by simp; omega, f4.trans hb7, cur_back (own_grow1 ho7 rfl)⟩
        case measure => simp [lenV]; omega
      · have i1 := ownq.rows.reads (by unfold Short; omega) (fun x hx => by have := hXb x hx; unfold I64; omega)
        have i2 := ownq.drop.rows.reads (by unfold Short; omega) (fun x hx => by have := hA2 x hx; unfold I64; omega)
        go_wp2_with fail
        go_ret2
        exact ⟨_, _, A, X, rfl, hA1, by omega, i2, i1, hE.out _ bq⟩
end Go.Proofs.Ytohjbabjkjcddaa

/- Work functions as lists: their bounds, the least cost, the best schedule. -/
namespace Go.Proofs.Ytohjbabjkjcddaa
open Go.RowKit

theorem probB_sq {M S : List (List Int)} (h : probB M S = true) {x : Nat} (hx : x < M.length) : (row M x).length = M.length := square_row (tableB_square (probB_table h)) hx
theorem probB_diag {M S : List (List Int)} (h : probB M S = true) {x : Nat} (hx : x < M.length) : cell M x x = 0 := by
  have h' := probB_table h
  simp only [tableB, Bool.and_eq_true, cellsOk, decide_eq_true_eq] at h'
  have h1 := h'.2 x hx x hx
  simp only [cellOk, Bool.and_eq_true, decide_eq_true_eq, if_pos] at h1
  exact h1.2
--PURE
theorem wsum_in {M S : List (List Int)} (hp : probB M S = true) {w : List Int} {B : Int} (hw : wOk M w B) {r t : Nat} (hr : r < S.length) (ht : t < M.length) {s : Int} (hs : s ∈ servedL (row S r)) :
    0 ≤ wsum M S w r t s ∧ wsum M S w r t s ≤ B + 119 := by
  obtain ⟨h0, h1, h2⟩ := servedL_lt hs
  rw [(probB_row hp hr).1] at h1
  have a := hw.2 s.toNat h1
  have b := probB_serve hp hr h1
  have c := probB_move hp h1 ht
  have h2' : 0 ≤ cell S r s.toNat := h2
  unfold wsum
  omega
theorem nextAt_min {M S : List (List Int)} (hp : probB M S = true) {w : List Int} {B : Int} (hw : wOk M w B) (hB : B ≤ 100000) {r t : Nat} (hr : r < S.length) (ht : t < M.length) :
    IsMin (nextAt M S w r t) (servedL (row S r)) (wsum M S w r t) :=
  foldB_min (servedL_ne (probB_row hp hr).2.2) fun s hs => by have := wsum_in hp hw hr ht hs; omega
theorem nextAt_A {M S : List (List Int)} (hp : probB M S = true) {w : List Int} {B : Int} (hw : wOk M w B) (hB : B ≤ 100000) {r t : Nat} (hr : r < S.length) (ht : t < M.length) :
    (servedL (row S r)).foldl (minA (wsum M S w r t)) (-1) = nextAt M S w r t :=
  foldA_eq (servedL_ne (probB_row hp hr).2.2) (fun s hs => (wsum_in hp hw hr ht hs).1) fun s hs => by have := wsum_in hp hw hr ht hs; omega
theorem nextL_ok {M S : List (List Int)} (hp : probB M S = true) {w : List Int} {B : Int} (hw : wOk M w B) (hB : B ≤ 100000) {r : Nat} (hr : r < S.length) : wOk M (nextL M S w r) (B + 119) := by
  refine ⟨by rw [nextL_length, hw.1], fun t ht => ?_⟩
  rw [nth_nextL (by rw [hw.1]; exact ht)]
  obtain ⟨⟨s, hs, e⟩, _⟩ := nextAt_min hp hw hB hr ht
  rw [e]
  exact wsum_in hp hw hr ht hs

def workTo (M S : List (List Int)) (w : List Int) (X : List Int) : Nat → List Int
  | 0 => w
  | k + 1 => nextL M S (workTo M S w X k) (nth X k).toNat
theorem workTo_ok {M S : List (List Int)} (hp : probB M S = true) {w X : List Int} {B : Int} (hw : wOk M w B) (hX : ∀ k, k < X.length → (nth X k).toNat < S.length) :
    ∀ {k : Nat}, k ≤ X.length → B + 119 * k ≤ 100000 → wOk M (workTo M S w X k) (B + 119 * k)
  | 0, _, _ => by
    have : B + 119 * ((0 : Nat) : Int) = B := by omega
    rw [this]; exact hw
  | k + 1, hk, hb => by
    have ih := workTo_ok hp hw hX (k := k) (by omega) (by omega)
    have := nextL_ok hp ih (by omega) (hX k (by omega))
    have e : B + 119 * ((k + 1 : Nat) : Int) = B + 119 * (k : Int) + 119 := by omega
    rw [e]
    exact this
theorem workTo_cons (M S : List (List Int)) (w : List Int) (r : Int) (X : List Int) : ∀ k, workTo M S w (r :: X) (k + 1) = workTo M S (nextL M S w r.toNat) X k
  | 0 => rfl
  | k + 1 => by rw [workTo, workTo_cons M S w r X k]; rfl
def workL (M S : List (List Int)) (w X : List Int) : List Int := workTo M S w X X.length
theorem workL_cons (M S : List (List Int)) (w : List Int) (r : Int) (X : List Int) : workL M S w (r :: X) = workL M S (nextL M S w r.toNat) X := workTo_cons M S w r X X.length
theorem row_ok {M S : List (List Int)} (hp : probB M S = true) {s : Nat} (hs : s < M.length) : wOk M (row M s) 99 := ⟨probB_sq hp hs, fun _ ht => probB_move hp hs ht⟩
def optL (M S : List (List Int)) (w X : List Int) : Int := leastL (workL M S w X)
theorem optL_nil {M S : List (List Int)} (hp : probB M S = true) {s : Nat} (hs : s < M.length) : optL M S (row M s) [] = 0 := by
  have hl := probB_sq hp hs
  have hne : row M s ≠ [] := by
    intro e
    rw [e] at hl
    have := (probB_len hp).1
    simp at hl
    omega
  have hm := leastL_min hne
  obtain ⟨⟨t, ht, e⟩, h⟩ := hm
  have h0 := h (cell M s s) (nth_mem (by rw [hl]; exact hs))
  rw [probB_diag hp hs] at h0
  obtain ⟨k, hk, rfl⟩ := mem_iff_nth.1 ht
  have h1 : 0 ≤ cell M s k := (probB_move hp hs (by rw [hl] at hk; exact hk)).1
  have e' : leastL (row M s) = cell M s k := e
  have h2 : leastL (row M s) ≤ 0 := h0
  show leastL (row M s) = 0
  omega

/-- least values of least values -/
theorem IsMin.lin {M S : List (List Int)} (hp : probB M S = true) {l : List Int} {a : Int → Int} {v : Int → List Int} :
    ∀ (X : List Int) (w : List Int) (B : Int), wOk M w B → (∀ s ∈ l, wOk M (v s) B) → B + 119 * X.length ≤ 100000 → (∀ x ∈ X, 0 ≤ x ∧ x < S.length) → (∀ x, x < M.length → IsMin (nth w x) l fun s => a s + nth (v s) x) →
      IsMin (optL M S w X) l fun s => a s + optL M S (v s) X
  | [], w, B, hw, hv, _, _, h => by
    have hn := probB_len hp
    have ne : ∀ u : List Int, u.length = M.length → u ≠ [] := by
      intro u hu e
      rw [e] at hu
      simp at hu
      omega
    obtain ⟨⟨c, hc, e1⟩, h1⟩ := leastL_min (ne w hw.1)
    obtain ⟨k, hk, rfl⟩ := mem_iff_nth.1 hc
    rw [hw.1] at hk
    obtain ⟨⟨s, hs, e2⟩, h2⟩ := h k hk
    have e1' : leastL w = nth w k := e1
    have hle : ∀ t ∈ l, leastL w ≤ a t + leastL (v t) := by
      intro t ht
      obtain ⟨⟨d, hd, e3⟩, h3⟩ := leastL_min (ne (v t) (hv t ht).1)
      obtain ⟨j, hj, rfl⟩ := mem_iff_nth.1 hd
      rw [(hv t ht).1] at hj
      have q1 := (h j hj).2 t ht
      have q2 := h1 (nth w j) (nth_mem (by rw [hw.1]; exact hj))
      have e3' : leastL (v t) = nth (v t) j := e3
      have q2' : leastL w ≤ nth w j := q2
      have q1' : nth w j ≤ a t + nth (v t) j := q1
      omega
    refine ⟨⟨s, hs, ?_⟩, hle⟩
    have q := hle s hs
    have q2 : leastL (v s) ≤ nth (v s) k := (leastL_min (ne (v s) (hv s hs).1)).2 _ (nth_mem (by rw [(hv s hs).1]; exact hk))
    have e2' : nth w k = a s + nth (v s) k := e2
    show leastL w = a s + leastL (v s)
    omega
  | r :: X, w, B, hw, hv, hB, hX, h => by
    have hl : B + 119 * ((X.length + 1 : Nat) : Int) ≤ 100000 := by simpa using hB
    have hr := hX r (by simp)
    have hrn : r.toNat < S.length := by omega
    have hg : (fun s => a s + optL M S (v s) (r :: X)) = fun s => a s + optL M S (nextL M S (v s) r.toNat) X := by
      funext s
      rw [optL, workL_cons]; rfl
    have hw' : optL M S w (r :: X) = optL M S (nextL M S w r.toNat) X := by rw [optL, workL_cons]; rfl
    rw [hg, hw']
    refine IsMin.lin hp X (nextL M S w r.toNat) (B + 119) (nextL_ok hp hw (by omega) hrn) (fun s hs => nextL_ok hp (hv s hs) (by omega) hrn) (by omega) (fun x hx => hX x (by simp [hx])) ?_
    intro t ht
    rw [nth_nextL (by rw [hw.1]; exact ht)]
    obtain ⟨⟨q, hq, e1⟩, h1⟩ := nextAt_min hp hw (by omega) hrn ht
    have hqs := servedL_lt hq
    rw [(probB_row hp hrn).1] at hqs
    obtain ⟨⟨s, hs, e2⟩, h2⟩ := h q.toNat hqs.2.1
    have e2' : nth w q.toNat = a s + nth (v s) q.toNat := e2
    have hle : ∀ u ∈ l, nextAt M S w r.toNat t ≤ a u + nextAt M S (v u) r.toNat t := by
      intro u hu
      obtain ⟨⟨p, hpq, e3⟩, h3⟩ := nextAt_min hp (hv u hu) (by omega) hrn ht
      have hps := servedL_lt hpq
      rw [(probB_row hp hrn).1] at hps
      have q1 : nth w p.toNat ≤ a u + nth (v u) p.toNat := (h p.toNat hps.2.1).2 u hu
      have q2 := h1 p hpq
      unfold wsum at q2 e3
      omega
    refine ⟨⟨s, hs, ?_⟩, fun u hu => ?_⟩
    · have q1 := hle s hs
      have q2 := (nextAt_min hp (hv s hs) (by omega) hrn ht).2 q hq
      show _ = a s + nth (nextL M S (v s) r.toNat) t
      rw [nth_nextL (by rw [(hv s hs).1]; exact ht)]
      unfold wsum at q2 e1
      omega
    · have := hle u hu
      show _ ≤ a u + nth (nextL M S (v u) r.toNat) t
      rwa [nth_nextL (by rw [(hv u hu).1]; exact ht)]

/-- the least cost of a sequence, by the state of its first request -/
theorem opt_step {M S : List (List Int)} (hp : probB M S = true) {X : List Int} {r : Int} {s : Nat} (hs : s < M.length) (hr : 0 ≤ r ∧ r < S.length) (hX : ∀ x ∈ X, 0 ≤ x ∧ x < S.length) (hl : X.length ≤ 60) :
    IsMin (optL M S (row M s) (r :: X)) (servedL (row S r.toNat)) fun t => stepC M S r s t + optL M S (row M t.toNat) X := by
  have hrn : r.toNat < S.length := by omega
  have hw' : optL M S (row M s) (r :: X) = optL M S (nextL M S (row M s) r.toNat) X := by rw [optL, workL_cons]; rfl
  rw [hw']
  have hok := row_ok hp hs
  refine IsMin.lin hp (a := fun t => stepC M S r s t) (v := fun t => row M t.toNat) X _ 218 (nextL_ok hp hok (by omega) hrn) (fun t ht => ?_) (by omega) hX ?_
  · have h := servedL_lt ht
    rw [(probB_row hp hrn).1] at h
    have h2 := row_ok hp h.2.1
    exact ⟨h2.1, fun x hx => by have := h2.2 x hx; omega⟩
  · intro x hx
    rw [nth_nextL (by rw [hok.1]; exact hx)]
    have h := nextAt_min hp hok (by omega) hrn hx
    have e : (wsum M S (row M s) r.toNat x) = fun t => stepC M S r s t + nth (row M t.toNat) x := by
      funext t
      unfold wsum stepC cell
      rw [Int.toNat_natCast]
    rwa [e] at h

end Go.Proofs.Ytohjbabjkjcddaa

/- The work function after one more request, as the reference makes it. -/
namespace Go.Proofs.Ytohjbabjkjcddaa
open Go.RowKit

def nextTo (M S : List (List Int)) (w : List Int) (r t : Nat) : List Int := (List.range t).map fun t => nextAt M S w r t
theorem nextTo_succ (M S : List (List Int)) (w : List Int) (r t : Nat) : nextTo M S w r (t + 1) = nextTo M S w r t ++ [nextAt M S w r t] := by simp [nextTo, List.range_succ]
theorem nextTo_length (M S : List (List Int)) (w : List Int) (r t : Nat) : (nextTo M S w r t).length = t := by simp [nextTo]
theorem nextTo_all (M S : List (List Int)) (w : List Int) (r : Nat) : nextTo M S w r w.length = nextL M S w r := rfl

end Go.Proofs.Ytohjbabjkjcddaa

/- slices.Repeat of one int. -/
namespace Go.Proofs.Ytohjbabjkjcddaa
open Go.RowKit

theorem mul64_1 {n : Nat} (h : n ≤ 4) (w : World) :
    Calls Try.prog 140 #[.int .u64 1, .int .u64 n] w fun e w' => e = .returned (.tuple #[.int .u64 0, .int .u64 n]) ∧ w = w' := by
  have hn : n = 0 ∨ n = 1 ∨ n = 2 ∨ n = 3 ∨ n = 4 := by omega
  rcases hn with rfl | rfl | rfl | rfl | rfl
  all_goals
    go_enter Try.func140, Try.ntmps140
    go_wp2
    go_ret2
    exact ⟨rfl, rfl⟩

theorem mul_1 {n : Nat} (h : n ≤ 4) (w : World) :
    Calls Try.prog 111 #[.int .u64 1, .int .u64 n] w fun e w' => e = .returned (.tuple #[.int .u64 0, .int .u64 n]) ∧ w = w' := by
  go_enter Try.func111, Try.ntmps111
  go_wp2_with fail
  refine (mul64_1 h _).mono ?_
  rintro e w1 ⟨rfl, rfl⟩
  go_wp2_with fail
  go_ret2
  exact ⟨rfl, rfl⟩

/-- the row of a Repeat when k of its n cells are laid -/
def repL (c : Int) (n k : Nat) : List Value := (List.replicate k c ++ List.replicate (n - k) 0).map (Value.int .i64)
theorem repL_length {c : Int} {n k : Nat} (h : k ≤ n) : (repL c n k).length = n := by simp [repL]; omega
theorem rep_make (w : World) (c : Int) (n : Nat) (t : TypeId) : (w.alloc (.cells (Array.replicate n (.int .i64 0)) t)).heap[w.heap.size]? = some (.cells (repL c n 0).toArray t (0, 0)) := by
  have e : (repL c n 0).toArray = Array.replicate n (.int .i64 0) := by
    apply Array.toList_inj.1
    simp [repL]
  rw [e]
  exact Array.getElem?_push_size
theorem rep_splice {c : Int} {n k m : Nat} (_h : k + m ≤ n) : splice (repL c n k) k (List.replicate m (Value.int .i64 c)) = repL c n (k + m) := by
  have e1 : (repL c n k).take k = List.replicate k (Value.int .i64 c) := by
    rw [repL, List.map_append, List.take_append_of_le_length (by simp)]
    simp
  have e2 : (repL c n k).drop (k + m) = List.replicate (n - (k + m)) (Value.int .i64 0) := by
    rw [repL, List.map_append, List.drop_append]
    simp
    omega
  rw [splice, e1, List.length_replicate, e2, repL, List.map_append, List.map_replicate, List.map_replicate, ← List.append_assoc, List.replicate_append_replicate]
theorem rep_cell {w : World} {g n k j : Nat} {c : Int} {t : TypeId} (h : w.heap[g]? = some (.cells (repL c n k).toArray t (0, 0))) (hj : j < k) (hk : k ≤ n) : w.cell? ⟨g, j, none⟩ = some (.int .i64 c) := by
  have hl := repL_length (c := c) hk
  have : (repL c n k)[j]? = some (.int .i64 c) := by
    rw [repL, List.getElem?_map, List.getElem?_append_left (by simpa using hj)]
    simp [hj]
  simp [World.cell?, h, this]
theorem rep_own {w : World} {B g n : Nat} {c : Int} {t : TypeId} (h : w.heap[g]? = some (.cells (repL c n n).toArray t (0, 0))) (hB : B ≤ g) (hn : n ≤ 4) : Own w B [intRowOf t (.slice (some ⟨g, 0, none⟩) (List.replicate n c).length n) (List.replicate n c)] := by
  refine ⟨fun r hr => ?_, List.pairwise_singleton _ _⟩
  rw [List.mem_singleton.1 hr]
  have e : repL c n n = (List.replicate n c).map (Value.int .i64) := by simp [repL]
  refine ⟨by simp, .inr ⟨g, n, (repL c n n).toArray, rfl, hB, h, by simp, by unfold maxLen; omega, by simp [repL_length], by simp [e]⟩⟩

set_option maxHeartbeats 800000 in
set_option maxRecDepth 100000 in
theorem sRepeat_any {v : Value} {c : Int} {n : Nat} {w0 w : World} [Ext w0 w] (hx : IsInts w0 v [c]) (h1 : 1 ≤ n) (h4 : n ≤ 4) :
    Calls Try.prog 69 #[v, .int .i64 n] w fun e w' => ∃ d m, e = .returned (.slice d (List.replicate n c).length m) ∧ Own w' w.heap.size [intRowOf 3 (.slice d (List.replicate n c).length m) (List.replicate n c)] ∧ Ext w w' := by
  obtain ⟨a, cc, rfl, _⟩ := hx.form
  obtain ⟨b, o, rfl, hc⟩ := hx.at (w' := w) (k := 0) (by simp)
  rw [Nat.add_zero] at hc
  have hl1 : ([c] : List Int).length = 1 := rfl
  rw [hl1]
  have hmk := hid (rep_make w c n 3)
  have hsz := hid (show (Try.prog.info? 3).map (·.size) = some 1 by kernel_rfl)
  have hc' : w.cell? ⟨b, o, none⟩ = some (.int .i64 c) := hc
  clear hc
  go_enter Try.func69, Try.ntmps69
  go_wp2_with fail
  refine (mul_1 h4 _).mono ?_
  rintro e w1 ⟨rfl, rfl⟩
  go_upto_region 7 with (at_make; refine wpList_makeOwn rfl _ _ _ rfl elemInt n rfl rfl (by omega) (by omega) rfl ?_; intro hown)
  have eM : Ext w (w.alloc (.cells (Array.replicate n (.int .i64 0)) 3)) := inferInstance
  have hcM := eM.cell hc'
  have hblt : b < w.heap.size := World.block_lt_of_cell? w _ hc'
  have hgs : (w.alloc (.cells (Array.replicate n (.int .i64 0)) 3)).heap.size = w.heap.size + 1 := by simp
  generalize w.alloc (.cells (Array.replicate n (.int .i64 0)) 3) = wM at *
  clear hown
  have hs1 := hid (show ∀ j v, ([.int .i64 c] : List Value)[j]? = some v → wM.cell? ((⟨b, o, none⟩ : Addr).add j) = some v by
    intro j v hj
    match j, hj with
    | 0, hj => simp at hj; subst hj; simpa [Addr.add] using hcM)
  have hbM : Below w.heap.size w wM := eM.below
  have hn1 := hid (show ([.int .i64 c] : List Value).length = Nat.min 1 n from (Nat.min_eq_left h1).symm)
  have hpos := hid (show 0 < ([.int .i64 c] : List Value).length → (some ⟨w.heap.size, 0, none⟩ : Option Addr) = some ⟨w.heap.size, 0, none⟩ ∧ ∃ ad, (some ⟨b, o, none⟩ : Option Addr) = some ad ∧ ∀ j v, ([.int .i64 c] : List Value)[j]? = some v → wM.cell? (ad.add j) = some v from fun _ => ⟨rfl, _, rfl, hs1.out⟩)
  have hfit := hid (show 0 + ([.int .i64 c] : List Value).length ≤ (repL c n 0).length by rw [repL_length (Nat.zero_le _)]; exact h1)
  have hone := hid (show ∀ v ∈ ([.int .i64 c] : List Value), v.oneCell' = true by intro v hv; simp at hv; subst hv; rfl)
  go_upto_region 8 with (with_reducible refine wpList_copy_splice rfl (.tmp 31) (.tmp 32) 24 24 rfl 3 Try.underlying24 hsz.out _ _ _ _ _ _ rfl rfl w.heap.size 0 (repL c n 0) 3 hmk.out [.int .i64 c] hn1.out hpos.out hfit.out hone.out w.heap.size w hbM (Nat.le_refl _) ?_; intro w2 hg2 hb2)
  rw [show (splice (repL c n 0) 0 [Value.int .i64 c]) = repL c n 1 from rep_splice (m := 1) (by omega)] at hg2
  go_loopw [8] (fun q wr => ∃ k : Nat, 1 ≤ k ∧ k ≤ n ∧ q = .int .i64 k ∧ Hid (wr.heap[w.heap.size]? = some (.cells (repL c n k).toArray 3 (0, 0))) ∧ Below w.heap.size w wr) (fun q _ => n - (intOf q).toNat)
  case atStart => exact ⟨1, by omega, by omega, rfl, hg2, hb2⟩
  case round =>
    obtain ⟨k, hk1, hkn, rfl, hg, hb⟩ := hrel
    by_cases hlt : k < n
    · obtain ⟨m, hm⟩ : ∃ m, m = Nat.min k (n - k) := ⟨_, rfl⟩
      have hm2 : m ≤ k ∧ m ≤ n - k ∧ 1 ≤ m := by
        have h5 : m ≤ k := hm ▸ Nat.min_le_left k (n - k)
        have h6 : m ≤ n - k := hm ▸ Nat.min_le_right k (n - k)
        have h7 : 1 ≤ m := hm ▸ Nat.le_min.2 ⟨hk1, by omega⟩
        exact ⟨h5, h6, h7⟩
      have hgd : Hid (wr.drew.heap[w.heap.size]? = some (.cells (repL c n k).toArray 3 (0, 0))) := hg
      have hbd : Below w.heap.size w wr.drew := hb.drew
      have hs2 := hid (show ∀ j v, (List.replicate m (Value.int .i64 c))[j]? = some v → wr.drew.cell? ((⟨w.heap.size, 0, none⟩ : Addr).add j) = some v by
        intro j v hj
        obtain ⟨h8, h9⟩ := List.getElem?_eq_some_iff.1 hj
        rw [List.length_replicate] at h8
        rw [List.getElem_replicate] at h9
        subst h9
        have := rep_cell hgd.out (j := j) (by omega) hkn
        rw [← this]
        congr 1
        unfold Addr.add
        split <;> simp_all)
      have hn2 := hid (show (List.replicate m (Value.int .i64 c)).length = Nat.min k (n - k) by rw [List.length_replicate]; exact hm)
      have hpos2 := hid (show 0 < (List.replicate m (Value.int .i64 c)).length → (some ⟨w.heap.size, k, none⟩ : Option Addr) = some ⟨w.heap.size, k, none⟩ ∧ ∃ ad, (some ⟨w.heap.size, 0, none⟩ : Option Addr) = some ad ∧ ∀ j v, (List.replicate m (Value.int .i64 c))[j]? = some v → wr.drew.cell? (ad.add j) = some v from fun _ => ⟨rfl, _, rfl, hs2.out⟩)
      have hfit2 := hid (show k + (List.replicate m (Value.int .i64 c)).length ≤ (repL c n k).length by rw [repL_length hkn, List.length_replicate]; omega)
      have hone2 := hid (show ∀ v ∈ (List.replicate m (Value.int .i64 c)), v.oneCell' = true by intro v hv; rw [List.eq_of_mem_replicate hv]; rfl)
      have hlen2 := hid (show (List.replicate m (Value.int .i64 c)).length = m from List.length_replicate)
      have hsp := hid (rep_splice (c := c) (n := n) (k := k) (m := m) (by omega))
      generalize List.replicate m (Value.int .i64 c) = cs at *
      replace hm := hid hm
      go_upto_region 9 with fail
      refine wp_region_held_drew (S := fun w' => Below w.heap.size w w') (by kernel_rfl) hbd (fun hHeld => ?_)
      refine wpAnyH_take (i := 0) (v := .int .i64 k) rfl (by kernel_rfl) (by kernel_rfl) (by kernel_rfl) (fun _ _ _ h => h) (Or.inl ⟨by rfl, by intro wx hx; go_simp⟩) (by assumption) ?_
      try simp only [List.getElem_toArray, List.getElem_cons_zero, Act.put, List.setIfInBounds_toArray, List.set_cons_zero, List.set_cons_succ]
      refine wpAnyH_take (i := 1) (v := .slice (some ⟨w.heap.size, 0, none⟩) n n) rfl (by kernel_rfl) (by kernel_rfl) (by kernel_rfl) (fun _ _ _ h => h) (Or.inl ⟨by rfl, by intro wx hx; go_simp⟩) (by assumption) ?_
      try simp only [List.getElem_toArray, List.getElem_cons_succ, List.getElem_cons_zero, Act.put, List.setIfInBounds_toArray, List.set_cons_zero, List.set_cons_succ]
      refine wpAnyH_take (i := 2) (v := .int .i64 k) rfl (by kernel_rfl) (by kernel_rfl) (by kernel_rfl) (fun _ _ _ h => h) (Or.inl ⟨by rfl, by intro wx hx; go_simp⟩) (by assumption) ?_
      try simp only [List.getElem_toArray, List.getElem_cons_succ, List.getElem_cons_zero, Act.put, List.setIfInBounds_toArray, List.set_cons_zero, List.set_cons_succ]
      refine wpAnyH_take (i := 3) (v := .slice (some ⟨w.heap.size, k, none⟩) (n - k) (n - k)) rfl (by kernel_rfl) (by kernel_rfl) (by kernel_rfl) (fun _ _ _ h => h) (Or.inl ⟨by rfl, by intro wx hx; go_simp; omega⟩) (by assumption) ?_
      try simp only [List.getElem_toArray, List.getElem_cons_succ, List.getElem_cons_zero, Act.put, List.setIfInBounds_toArray, List.set_cons_zero, List.set_cons_succ]
      refine wpAnyH_take (i := 4) (v := .slice (some ⟨w.heap.size, 0, none⟩) n n) rfl (by kernel_rfl) (by kernel_rfl) (by kernel_rfl) (fun _ _ _ h => h) (Or.inl ⟨by rfl, by intro wx hx; go_simp⟩) (by assumption) ?_
      try simp only [List.getElem_toArray, List.getElem_cons_succ, List.getElem_cons_zero, Act.put, List.setIfInBounds_toArray, List.set_cons_zero, List.set_cons_succ]
      refine wpAnyH_take (i := 5) (v := .int .i64 k) rfl (by kernel_rfl) (by kernel_rfl) (by kernel_rfl) (fun _ _ _ h => h) (Or.inl ⟨by rfl, by intro wx hx; go_simp⟩) (by assumption) ?_
      try simp only [List.getElem_toArray, List.getElem_cons_succ, List.getElem_cons_zero, Act.put, List.setIfInBounds_toArray, List.set_cons_zero, List.set_cons_succ]
      refine wpAnyH_take (i := 6) (v := .slice (some ⟨w.heap.size, 0, none⟩) k n) rfl (by kernel_rfl) (by kernel_rfl) (by kernel_rfl) (fun _ _ _ h => h) (Or.inl ⟨by rfl, by intro wx hx; go_simp⟩) (by assumption) ?_
      try simp only [List.getElem_toArray, List.getElem_cons_succ, List.getElem_cons_zero, Act.put, List.setIfInBounds_toArray, List.set_cons_zero, List.set_cons_succ]
      refine wpAnyH_ready (rs := [7]) (by kernel_rfl) (by simp) ?_
      refine AllReadyH.cons rfl (fun K hK => ?_) AllReadyH.nil
      refine step_copy_splice rfl (.tmp 41) (.tmp 44) 24 24 rfl 3 Try.underlying24 hsz.out _ _ _ _ _ _ rfl rfl w.heap.size k (repL c n k) 3 hgd.out cs hn2.out hpos2.out hfit2.out hone2.out w.heap.size w hbd (Nat.le_refl _) ?_
      intro w4 hg4 hb4
      rw [hsp.out] at hg4
      rw [hlen2.out]
      refine hK.out _ _ hb4 (fun hHeld2 => ?_)
      clear hK K hHeld
      try simp only [List.getElem_toArray, List.getElem_cons_succ, List.getElem_cons_zero, Act.put, List.setIfInBounds_toArray, List.set_cons_zero, List.set_cons_succ]
      refine wpAnyH_take (i := 8) (v := .int .i64 ((k : Int) + (m : Int))) rfl (by kernel_rfl) (by kernel_rfl) (by kernel_rfl) (fun _ _ _ h => h) (Or.inl ⟨by rfl, by intro wx hx; go_simp; exact IntWalk.i64_in _ (by omega)⟩) (by assumption) ?_
      try simp only [List.getElem_toArray, List.getElem_cons_succ, List.getElem_cons_zero, Act.put, List.setIfInBounds_toArray, List.set_cons_zero, List.set_cons_succ]
      refine wpAnyH_take (i := 9) (v := .int .i64 ((k : Int) + (m : Int))) rfl (by kernel_rfl) (by kernel_rfl) (by kernel_rfl) (fun _ _ _ h => h) (Or.inl ⟨by rfl, by intro wx hx; go_simp⟩) (by assumption) ?_
      try simp only [List.getElem_toArray, List.getElem_cons_succ, List.getElem_cons_zero, Act.put, List.setIfInBounds_toArray, List.set_cons_zero, List.set_cons_succ]
      refine wpAnyH_done (by kernel_rfl) ?_ _
      go_wp2_with fail
      go_roundw
      case rel => exact ⟨k + m, by omega, by omega, by go_num, hg4, hb4⟩
      case measure => simp [intOf]; omega
    · have : k = n := by omega
      subst this
      go_wp2
      go_ret
      exact ⟨some ⟨w.heap.size, 0, none⟩, k, by rw [List.length_replicate]; rfl, rep_own hg.out (Nat.le_refl _) h4, ⟨hb⟩⟩

end Go.Proofs.Ytohjbabjkjcddaa

/- The work function after one more request, as the program makes it. -/
namespace Go.Proofs.Ytohjbabjkjcddaa
open Go.RowKit

/-- the list when j served states are done, and x places of the next one -/
def mixAt (M S : List (List Int)) (w : List Int) (r j y : Nat) : Int := ((servedL (row S r)).take j).foldl (minB (wsum M S w r y)) 1073741824
def mixL (M S : List (List Int)) (w : List Int) (r j x : Nat) : List Int := (List.range w.length).map fun y => mixAt M S w r (if y < x then j + 1 else j) y
theorem mixL_length (M S : List (List Int)) (w : List Int) (r j x : Nat) : (mixL M S w r j x).length = w.length := by simp [mixL]
theorem nth_mixL {M S : List (List Int)} {w : List Int} {r j x y : Nat} (h : y < w.length) : nth (mixL M S w r j x) y = mixAt M S w r (if y < x then j + 1 else j) y := by simp [mixL, nth, h]
theorem mixL_zero (M S : List (List Int)) (w : List Int) (r : Nat) : mixL M S w r 0 0 = List.replicate w.length 1073741824 := by
  refine eq_of_nth (by rw [mixL_length, List.length_replicate]) fun y hy => ?_
  rw [mixL_length] at hy
  rw [nth_mixL hy]
  simp [mixAt, nth, hy]
theorem mixL_full (M S : List (List Int)) (w : List Int) (r j : Nat) : mixL M S w r j w.length = mixL M S w r (j + 1) 0 := by
  refine eq_of_nth (by rw [mixL_length, mixL_length]) fun y hy => ?_
  rw [mixL_length] at hy
  rw [nth_mixL hy, nth_mixL hy, if_pos hy, if_neg (by omega)]
theorem mixL_all (M S : List (List Int)) (w : List Int) (r : Nat) : mixL M S w r (servedL (row S r)).length 0 = nextL M S w r := by
  refine eq_of_nth (by rw [mixL_length, nextL_length]) fun y hy => ?_
  rw [mixL_length] at hy
  rw [nth_mixL hy, nth_nextL hy, if_neg (by omega), mixAt, List.take_length]
  rfl
theorem mixL_set {M S : List (List Int)} {w : List Int} {r j x : Nat} (hx : x < w.length) : ((mixL M S w r j x).map (Value.int .i64)).set x (.int .i64 (mixAt M S w r (j + 1) x)) = (mixL M S w r j (x + 1)).map (Value.int .i64) := by
  rw [← List.map_set]
  congr 1
  refine eq_of_nth (by rw [List.length_set, mixL_length, mixL_length]) fun y hy => ?_
  rw [List.length_set, mixL_length] at hy
  rw [nth_mixL hy]
  by_cases h : y = x
  · subst h
    simp [nth, mixL_length, hy]
  · have e : nth ((mixL M S w r j x).set x (mixAt M S w r (j + 1) x)) y = nth (mixL M S w r j x) y := by
      simp [nth, Ne.symm h]
    rw [e, nth_mixL hy]
    by_cases h2 : y < x
    · rw [if_pos h2, if_pos (by omega)]
    · rw [if_neg h2, if_neg (by omega)]
theorem mixAt_succ {M S : List (List Int)} {w : List Int} {r j y : Nat} (hj : j < (servedL (row S r)).length) : mixAt M S w r (j + 1) y = minB (wsum M S w r y) (mixAt M S w r j y) (nth (servedL (row S r)) j) := foldTake _ _ hj
theorem mixAt_in {M S : List (List Int)} (hp : probB M S = true) {w : List Int} {B : Int} (hw : wOk M w B) {r y : Nat} (hr : r < S.length) (hy : y < M.length) (j : Nat) : 0 ≤ mixAt M S w r j y ∧ mixAt M S w r j y ≤ 1073741824 := by
  obtain ⟨h1, _, h3⟩ := foldB_le (f := wsum M S w r y) ((servedL (row S r)).take j) 1073741824
  refine ⟨?_, h1⟩
  rcases h3 with h3 | ⟨t, ht, h3⟩
  · unfold mixAt; omega
  · have := wsum_in hp hw hr hy (List.mem_of_mem_take ht)
    unfold mixAt; omega

end Go.Proofs.Ytohjbabjkjcddaa

/- The run of an algorithm: the reference's states and cost, the program's run. -/
namespace Go.Proofs.Ytohjbabjkjcddaa
open Go.RowKit

end Go.Proofs.Ytohjbabjkjcddaa

/- AlgorithmStates and AlgorithmCost of the reference and of the program. Written by algs.py. -/
namespace Go.Proofs.Ytohjbabjkjcddaa
open Go.RowKit

theorem isInts_zero (w : World) (d : Option Addr) (c : Nat) : IsInts w (.slice d ([] : List Int).length c) [] := ⟨d, c, rfl, ⟨Nat.zero_le _, Nat.zero_le _⟩, by simp, fun j hj => by simp at hj⟩
theorem isRows_zero (w : World) (d : Option Addr) (c : Nat) : IsRows w (.slice d ([] : List (List Int)).length c) [] := ⟨d, c, rfl, Nat.zero_le _, fun j hj => by simp at hj⟩
theorem own_nils_i (w : World) (B : Nat) : Own w B [intRowOf 3 (.slice none ([] : List Int).length 0) []] := (Own.nil w B).cons_nil _ _
theorem own_nils_r (w : World) (B : Nat) : Own w B (rowsOf 24 3 (.slice none ([] : List (List Int)).length 0) [] []) := (Own.nil w B).cons_nil _ _
theorem own_nils_rr (w : World) (B : Nat) : Own w B (rowsOf 24 3 (.slice none ([] : List (List Int)).length 0) [] [] ++ rowsOf 24 3 (.slice none ([] : List (List Int)).length 0) [] []) := ((Own.nil w B).cons_nil _ _).cons_nil _ _

end Go.Proofs.Ytohjbabjkjcddaa

/- Work functions and least costs walked, the reference's and the program's. -/
namespace Go.Proofs.Ytohjbabjkjcddaa
open Go.RowKit

theorem wOk_i64 {M : List (List Int)} {w : List Int} {B : Int} (h : wOk M w B) (hB : B ≤ 1000000) : ∀ x ∈ w, I64 x := by
  intro x hx
  obtain ⟨k, hk, rfl⟩ := mem_iff_nth.1 hx
  have := h.2 k (by rw [← h.1]; exact hk)
  unfold I64
  omega
theorem start_work {M S : List (List Int)} {s : Int} {X : List Int} (h : startB M S s X = true) {k : Nat} (hk : k ≤ X.length) : wOk M (workTo M S (row M s.toNat) X k) 10000 := by
  have hs := startB_state h
  have hl := startB_len h
  have := workTo_ok (startB_prob h) (row_ok (startB_prob h) (s := s.toNat) (by omega)) (X := X) (fun j hj => by have := startB_req h hj; omega) hk (by omega)
  exact ⟨this.1, fun t ht => by have h2 := this.2 t ht; omega⟩
theorem start_workL {M S : List (List Int)} {s : Int} {X : List Int} (h : startB M S s X = true) : wOk M (workL M S (row M s.toNat) X) 10000 := start_work h (Nat.le_refl _)

end Go.Proofs.Ytohjbabjkjcddaa

/- WorkFunction and LeastCost of the reference and of the program. Written by works.py. -/
namespace Go.Proofs.Ytohjbabjkjcddaa
open Go.RowKit

def wfR (M S : List (List Int)) (s : Int) (X : List Int) : List Int := if startB M S s X = true then workL M S (row M s.toNat) X else []
def lcR (M S : List (List Int)) (s : Int) (X : List Int) : Int := if startB M S s X = true then optL M S (row M s.toNat) X else 0
theorem wfR_false {M S : List (List Int)} {s : Int} {X : List Int} (h : startB M S s X = false) : wfR M S s X = [] := by simp [wfR, h]
theorem wfR_true {M S : List (List Int)} {s : Int} {X : List Int} (h : startB M S s X = true) : wfR M S s X = workL M S (row M s.toNat) X := by simp [wfR, h]
theorem lcR_false {M S : List (List Int)} {s : Int} {X : List Int} (h : startB M S s X = false) : lcR M S s X = 0 := by simp [lcR, h]
theorem lcR_true {M S : List (List Int)} {s : Int} {X : List Int} (h : startB M S s X = true) : lcR M S s X = optL M S (row M s.toNat) X := by simp [lcR, h]
theorem wfR_len {M S : List (List Int)} {s : Int} {X : List Int} : (wfR M S s X).length ≤ 4000000 := by
  unfold wfR
  split
  · rename_i h
    have h1 := (start_workL h).1
    have h2 := probB_len (startB_prob h)
    omega
  · simp

end Go.Proofs.Ytohjbabjkjcddaa

/- What the laws compare with, where both sides are equal. -/
namespace Go.Proofs.Ytohjbabjkjcddaa
open Go.RowKit

set_option maxHeartbeats 400000 in
theorem rBig_any {v : Value} {n : Nat} {w : World} (hv : IsBytes w v n) :
    Calls Try.prog 6 #[v] w fun e w' => e = .returned (.bool (decide (65536 < n))) ∧ w = w' := by
  obtain ⟨a, c, rfl⟩ := hv.form
  by_cases h : 65536 < n
  · go_enter Try.func6, Try.ntmps6
    go_wp2
    go_ret
    exact ⟨ret_bool (decide_eq_decide.2 (by omega)), rfl⟩
  · go_enter Try.func6, Try.ntmps6
    go_wp2
    go_ret
    exact ⟨ret_bool (decide_eq_decide.2 (by omega)), rfl⟩

set_option maxHeartbeats 800000 in
set_option maxRecDepth 100000 in
theorem rInts_eq {v u : Value} {X : List Int} {w0 w : World} [Ext w0 w] (hv : IsInts w0 v X) (hu : IsInts w0 u X) :
    Calls Try.prog 54 #[v, u] w fun e w' => e = .returned (.bool true) ∧ Ext w w' := by
  obtain ⟨a1, c1, rfl, l1⟩ := hv.form
  obtain ⟨a2, c2, rfl, l2⟩ := hu.form
  go_enter Try.func54, Try.ntmps54
  go_wp2
  go_loopw [5] (fun i wr => ∃ k : Nat, k ≤ X.length ∧ i = .int .i64 k ∧ Drew w wr) (fun i _ => X.length - (intOf i).toNat)
  case atStart => exact ⟨0, by omega, rfl, Drew.refl _⟩
  case round =>
    obtain ⟨k, hk, rfl, hd⟩ := hrel
    have e2 : Ext w wr := hd.ext
    have e0 : Ext w0 wr := Ext.trans ‹Ext w0 w› e2
    by_cases hlt : k < X.length
    · obtain ⟨b1, o1, rfl, hc1⟩ := hv.at (w' := wr) hlt
      obtain ⟨b2, o2, rfl, hc2⟩ := hu.at (w' := wr) hlt
      go_wp2_with (go_quiet (fail))
      go_roundw
      case rel => exact ⟨k + 1, by omega, by go_num, hd.step _⟩
      case measure => simp [intOf]; omega
    · go_wp2
      go_ret
      exact ⟨rfl, hd.ext⟩

set_option maxHeartbeats 1600000 in
set_option maxRecDepth 100000 in
theorem rTable_eq {v u : Value} {M : List (List Int)} {w0 w : World} [Ext w0 w] (hv : IsRows w0 v M) (hu : IsRows w0 u M) :
    Calls Try.prog 12 #[v, u] w fun e w' => e = .returned (.bool true) ∧ Ext w w' := by
  obtain ⟨a1, c1, rfl, l1⟩ := hv.form
  obtain ⟨a2, c2, rfl, l2⟩ := hu.form
  go_enter Try.func12, Try.ntmps12
  go_wp2
  go_loopw [5] (fun i wr => ∃ k : Nat, k ≤ M.length ∧ i = .int .i64 k ∧ Ext w wr) (fun i _ => M.length - (intOf i).toNat)
  case atStart => exact ⟨0, by omega, rfl, Ext.refl _⟩
  case round =>
    obtain ⟨k, hk, rfl, e2⟩ := hrel
    obtain ⟨wq, rfl⟩ : ∃ y : World, y = wr := ⟨_, rfl⟩
    have e0 : Ext w0 wq := Ext.trans ‹Ext w0 w› e2
    by_cases hlt : k < M.length
    · obtain ⟨b1, o1, d1, m1, rfl, hc1, hr1, _⟩ := hv.at (w' := wq) hlt
      obtain ⟨b2, o2, d2, m2, rfl, hc2, hr2, _⟩ := hu.at (w' := wq) hlt
      go_upto_region 6 with fail
      have ed : Ext wq (wq).drew := inferInstance
      refine wp_region_held_drew (S := fun w' => Ext wq w' ∧ w'.cell? ⟨b1, o1 + k, none⟩ = some (.slice d1 (row M k).length m1) ∧ w'.cell? ⟨b2, o2 + k, none⟩ = some (.slice d2 (row M k).length m2)) (by kernel_rfl) ⟨ed, ed.cell hc1, ed.cell hc2⟩ (fun hHeld0 => ?_)
      refine wpAnyH_take (i := 0) (v := .slice (some ⟨b1, o1, none⟩) M.length c1) rfl (by kernel_rfl) (by kernel_rfl) (by kernel_rfl) (fun _ _ _ h => h) (Or.inl ⟨by rfl, by intro wx hx; go_simp⟩) (by assumption) ?_
      try simp only [List.getElem_toArray, List.getElem_cons_zero, Act.put, List.setIfInBounds_toArray, List.set_cons_zero, List.set_cons_succ]
      refine wpAnyH_take (i := 1) (v := .int .i64 k) rfl (by kernel_rfl) (by kernel_rfl) (by kernel_rfl) (fun _ _ _ h => h) (Or.inl ⟨by rfl, by intro wx hx; go_simp⟩) (by assumption) ?_
      try simp only [List.getElem_toArray, List.getElem_cons_succ, List.getElem_cons_zero, Act.put, List.setIfInBounds_toArray, List.set_cons_zero, List.set_cons_succ]
      refine wpAnyH_take (i := 2) (v := .pointer (some ⟨b1, o1 + k, none⟩)) rfl (by kernel_rfl) (by kernel_rfl) (by kernel_rfl) (fun _ _ _ h => h) (Or.inl ⟨by rfl, by intro wx hx; go_simp⟩) (by assumption) ?_
      try simp only [List.getElem_toArray, List.getElem_cons_succ, List.getElem_cons_zero, Act.put, List.setIfInBounds_toArray, List.set_cons_zero, List.set_cons_succ]
      refine wpAnyH_take (i := 3) (v := .slice d1 (row M k).length m1) rfl (by kernel_rfl) (by kernel_rfl) (by kernel_rfl) (fun _ _ _ h => h) (Or.inl ⟨by rfl, by intro wx hx; obtain ⟨_, _, _⟩ := hx; go_simp⟩) (by assumption) ?_
      try simp only [List.getElem_toArray, List.getElem_cons_succ, List.getElem_cons_zero, Act.put, List.setIfInBounds_toArray, List.set_cons_zero, List.set_cons_succ]
      refine wpAnyH_take (i := 4) (v := .slice (some ⟨b2, o2, none⟩) M.length c2) rfl (by kernel_rfl) (by kernel_rfl) (by kernel_rfl) (fun _ _ _ h => h) (Or.inl ⟨by rfl, by intro wx hx; go_simp⟩) (by assumption) ?_
      try simp only [List.getElem_toArray, List.getElem_cons_succ, List.getElem_cons_zero, Act.put, List.setIfInBounds_toArray, List.set_cons_zero, List.set_cons_succ]
      refine wpAnyH_take (i := 5) (v := .int .i64 k) rfl (by kernel_rfl) (by kernel_rfl) (by kernel_rfl) (fun _ _ _ h => h) (Or.inl ⟨by rfl, by intro wx hx; go_simp⟩) (by assumption) ?_
      try simp only [List.getElem_toArray, List.getElem_cons_succ, List.getElem_cons_zero, Act.put, List.setIfInBounds_toArray, List.set_cons_zero, List.set_cons_succ]
      refine wpAnyH_take (i := 6) (v := .pointer (some ⟨b2, o2 + k, none⟩)) rfl (by kernel_rfl) (by kernel_rfl) (by kernel_rfl) (fun _ _ _ h => h) (Or.inl ⟨by rfl, by intro wx hx; go_simp⟩) (by assumption) ?_
      try simp only [List.getElem_toArray, List.getElem_cons_succ, List.getElem_cons_zero, Act.put, List.setIfInBounds_toArray, List.set_cons_zero, List.set_cons_succ]
      refine wpAnyH_take (i := 7) (v := .slice d2 (row M k).length m2) rfl (by kernel_rfl) (by kernel_rfl) (by kernel_rfl) (fun _ _ _ h => h) (Or.inl ⟨by rfl, by intro wx hx; obtain ⟨_, _, _⟩ := hx; go_simp⟩) (by assumption) ?_
      try simp only [List.getElem_toArray, List.getElem_cons_succ, List.getElem_cons_zero, Act.put, List.setIfInBounds_toArray, List.set_cons_zero, List.set_cons_succ]
      refine wpAnyH_ready (rs := [8]) (by kernel_rfl) (by simp) ?_
      refine AllReadyH.cons rfl (fun K hK => ?_) AllReadyH.nil
      go_simp
      go_at_call 54
      have e0d : Ext w0 wq.drew := Ext.trans e0 ed
      refine (rInts_eq (w0 := w0) (w := wq.drew) hr1 hr2).mono ?_
      rintro e w5 ⟨rfl, hb5⟩
      go_wp2_with fail
      have er1 : Ext wq w5 := Ext.trans ed hb5
      refine hK.out _ _ ⟨er1, er1.cell hc1, er1.cell hc2⟩ (fun hHeld1 => ?_)
      clear hK K hHeld0
      try simp only [List.getElem_toArray, List.getElem_cons_succ, List.getElem_cons_zero, Act.put, List.setIfInBounds_toArray, List.set_cons_zero, List.set_cons_succ]
      refine wpAnyH_take (i := 9) (v := .bool false) rfl (by kernel_rfl) (by kernel_rfl) (by kernel_rfl) (fun _ _ _ h => h) (Or.inl ⟨by rfl, by intro wx hx; go_simp⟩) (by assumption) ?_
      try simp only [List.getElem_toArray, List.getElem_cons_succ, List.getElem_cons_zero, Act.put, List.setIfInBounds_toArray, List.set_cons_zero, List.set_cons_succ]
      refine wpAnyH_done (by kernel_rfl) ?_ _
      go_wp2_with fail
      go_roundw
      case rel => exact ⟨k + 1, by omega, by go_num, Ext.trans e2 er1⟩
      case measure => simp [intOf]; omega
    · go_wp2
      go_ret
      exact ⟨rfl, e2⟩

end Go.Proofs.Ytohjbabjkjcddaa

/- 'laws.FnDoubleCoverage': for every code the law returns true. -/
namespace Go.Proofs.Ytohjbabjkjcddaa
open Go.RowKit

set_option maxHeartbeats 3200000 in
set_option maxRecDepth 100000 in
theorem lawFnDoubleCoverage_any {v : Value} {nb : Nat} {w : World} (hc : IsBytes w v nb) :
    Calls Try.prog 3 #[v] w fun e w' => e = .returned (.bool true) ∧ Ext w w' := by
  have hc' := hc
  obtain ⟨ac, cc, rfl⟩ := hc.form
  by_cases hbig : 65536 < nb
  · have hd := hid (decide_eq_true hbig)
    go_enter Try.func3, Try.ntmps3
    go_wp2_with fail
    refine (rBig_any hc').mono ?_
    rw [hd.out]
    rintro e w1 ⟨rfl, rfl⟩
    go_wp2_with fail
    go_ret
    exact ⟨rfl, Ext.refl _⟩
  · have hd := hid (decide_eq_false hbig)
    go_enter Try.func3, Try.ntmps3
    go_wp2_with fail
    refine (rBig_any hc').mono ?_
    rw [hd.out]
    rintro e wz ⟨rfl, rfl⟩
    go_wp2_with fail
    refine (drawLr_any (w0 := w) (w := w) hc').mono ?_
    rintro e w1 ⟨va, vX, A, X, rfl, hAl, hXl, hA, hX, e1⟩
    have hA' := hA
    have hX' := hX
    obtain ⟨dA, cA, rfl, lA⟩ := hA.form
    obtain ⟨dX, cX, rfl, lX⟩ := hX.form
    have h1 := fun (u : World) (_ : Ext w1 u) => implLr_any (w0 := w1) (w := u) hA' hX'
    have h2 := fun (u : World) (_ : Ext w1 u) => specLr_any (w0 := w1) (w := u) hA' hX'
    have h3 := fun (u : World) (_ : Ext w1 u) => implCr_any (w0 := w1) (w := u) hA' hX'
    have h4 := fun (u : World) (_ : Ext w1 u) => specCr_any (w0 := w1) (w := u) hA' hX'
    unfold CrPost at h3 h4
    obtain ⟨L, hL⟩ : ∃ z, z = lrV A X := ⟨_, rfl⟩
    obtain ⟨ok, hok⟩ : ∃ z, z = lrB A X := ⟨_, rfl⟩
    obtain ⟨S, hS⟩ : ∃ z, z = drS A X := ⟨_, rfl⟩
    obtain ⟨one, hone⟩ : ∃ z, z = drB A X := ⟨_, rfl⟩
    rw [← hL, ← hok] at h1 h2
    rw [← hS, ← hone] at h3 h4
    replace hL := hid hL
    replace hok := hid hok
    replace hS := hid hS
    replace hone := hid hone
    replace h1 := hid h1
    replace h2 := hid h2
    replace h3 := hid h3
    replace h4 := hid h4
    go_wp2_with fail
    refine (h1.out w1 (Ext.refl _)).mono ?_
    rintro e w2 ⟨rfl, e2⟩
    go_wp2_with fail
    refine (h2.out w2 e2).mono ?_
    rintro e w3 ⟨rfl, e3'⟩
    have e3 : Ext w1 w3 := Ext.trans e2 e3'
    clear e2 e3'
    go_wp2_with fail
    refine (h3.out w3 e3).mono ?_
    rintro e w4 ⟨u4, rfl, hT4, e4'⟩
    have e4 : Ext w1 w4 := Ext.trans e3 e4'
    obtain ⟨d4, c4, rfl, l4⟩ := hT4.form
    go_wp2_with fail
    refine (h4.out w4 e4).mono ?_
    rintro e w5 ⟨u5, rfl, hT5, e5'⟩
    have e5 : Ext w1 w5 := Ext.trans e4 e5'
    have hT45 := hT4.ext (w' := w5)
    obtain ⟨d5, c5, rfl, l5⟩ := hT5.form
    obtain ⟨n, hn⟩ : ∃ z, z = (drT A X).length := ⟨_, rfl⟩
    have hR := fun (u : World) (_ : Ext w5 u) => rTable_eq (w0 := w5) (w := u) hT45 hT5
    rw [← hn] at hR ⊢
    replace hn := hid hn
    replace hR := hid hR
    clear e3 e4 e4' e5' hT4 hT45 hT5
    go_wp2_with fail
    refine (hR.out w5 (Ext.refl _)).mono ?_
    rintro e w6 ⟨rfl, e6⟩
    have e16 : Ext w1 w6 := Ext.trans e5 e6
    have ew6 : Ext w w6 := Ext.trans e1 e16
    clear e6 e5 hR h1 h2 h3 h4
    go_upto_region 12 with fail
    cases ok with
    | false =>
      go_wp2_with fail
      go_ret
      exact ⟨rfl, ew6⟩
    | true =>
      cases one with
      | false =>
        go_wp2_with fail
        go_ret
        exact ⟨rfl, ew6⟩
      | true =>
        have hB := hone.out.symm
        obtain ⟨hrow, hX60, hXb⟩ := drB_iff hB
        obtain ⟨hl, hab, hasc⟩ := rowB_iff.1 hrow
        have hL2 : L = vU X A := by rw [hL.out, lrV, ← hok.out, if_pos rfl]
        have hS2 : S = dcC X A := by rw [hS.out, drS, ← hone.out, if_pos rfl, dcS_all]
        have hn2 : n = X.length := by rw [hn.out, drT, ← hone.out, if_pos rfl, dcT_len]
        obtain ⟨k1, k2⟩ := dc_law (rs := X) hasc (by omega) hl.2
        have k3 := vU_nn X A
        have k4 := vU_le X (a := A) (by omega) hXb hab
        have k5 := spO_in hab hl.2 A.length (Nat.le_refl _)
        have k6 := dcS_in hrow hXb X.length (Nat.le_refl _)
        rw [dcS_all, ← hS2] at k6
        rw [← hL2, ← hS2] at k1 k2
        rw [← hL2] at k3 k4
        obtain ⟨P, hP⟩ : ∃ z, z = spr A := ⟨_, rfl⟩
        have k5' : -900 ≤ P ∧ P ≤ 900 := by rw [hP]; unfold spr; omega
        rw [← hP] at k2
        have hm : 0 ≤ (A.length : Int) * L ∧ (A.length : Int) * L ≤ 20000 := by
          refine ⟨Int.mul_nonneg (by omega) k3, ?_⟩
          have h1 : (A.length : Int) * L ≤ 3 * L := Int.mul_le_mul_of_nonneg_right (by omega) k3
          omega
        have hC := implCp_any (w0 := w1) (w := w6) hA' hrow
        rw [← hP] at hC
        have hlen : ((n : Int) == (X.length : Int)) = true := beq_iff_eq.2 (by omega)
        replace hC := hid hC
        replace hP := hid hP
        replace hn2 := hid hn2
        replace hL2 := hid hL2
        replace hS2 := hid hS2
        replace hasc := hid hasc
        go_wp2_with fail
        refine hC.out.mono ?_
        rintro e w7 ⟨rfl, e7⟩
        go_wp2_with fail
        go_ret
        exact ⟨rfl, Ext.trans ew6 e7⟩
end Go.Proofs.Ytohjbabjkjcddaa

/- Several texts in one (merge.py). -/
namespace Go.Proofs.Ytohjbabjkjcddaa
open Go.RowKit
/- An argument that came in, read as bytes. -/
open Go.ChangeShapes Go.WideShapes Go.ChangeAt Go.RowKit Go.Deep Go.Joins

theorem Try.cellsByte : Try.prog.cellsOf 5 = 1 := by kernel_rfl
theorem isBytes_of_trod {H : Type} {enc : TypeId × Value → H} {w : World} {fuel : Nat} {v : Value} {x : DataW H × List MemPlace} (h : DataW.trod enc Try.prog w 0 (fun _ => true) true fuel 22 [v] = some x) : ∃ n, IsBytes w v n := by
  rcases open_ints Try.underlying22 Try.underlying5 Try.cellsByte h with ⟨hcs, _⟩ | ⟨a, l, c, zs, hcs, _, hl, hm, hz, hx, hcell, hwz⟩
  · simp only [List.cons.injEq, and_true] at hcs
    subst hcs
    exact ⟨0, none, 0, rfl, fun j hj => by omega⟩
  · simp only [List.cons.injEq, and_true] at hcs
    subst hcs
    have hz' : zs.length = c := by simpa using hz
    refine ⟨l, some a, c, rfl, fun j hj => ?_⟩
    have hc := hcell j (by omega)
    obtain ⟨b, o, rfl⟩ := spot_of_cell (hcell 0 (by omega))
    rw [addr_add_nil] at hc
    have hmem : zs.getD j 0 ∈ zs := by
      rw [List.getD_eq_getElem?_getD, List.getElem?_eq_getElem (by omega)]
      exact List.getElem_mem _
    have hwf := hwz _ hmem
    refine ⟨b, o, zs.getD j 0, rfl, hc, ?_⟩
    simp [Lit.wf] at hwf
    have h1 : IntKind.u8.min = 0 := by decide
    have h2 : IntKind.u8.max = 255 := by decide
    rw [h1, h2] at hwf
    rw [List.getD_eq_getElem?_getD]
    omega

/- The given statement of 'laws.FnDoubleCoverage', proved: for every input the law returns true, and each argument reads behind the call as it read before. -/
open Go.ChangeShapes Go.WideShapes Go.ChangeAt Go.RowKit

theorem closedFnDoubleCoverage : lawFacts Try.prog 3 Try.f3 Rows.fnDoubleCoverageSpec Rows.fnDoubleCoverageRow = true := by kernel_rfl

set_option maxRecDepth 100000 in
theorem liftedFnDoubleCoverage (os : Os) (started : os.Started) (H : Type) (enc : TypeId × Value → H) :
    ReturnsInHanded {} Try.checked os 3 .any (Rows.fnDoubleCoverageSpec.pre6 enc Try.prog Try.f3 Rows.fnDoubleCoverageRow.domain false) (Rows.fnDoubleCoverageSpec.post enc Try.prog Try.f3 false true false false) := by
  refine returnsInHanded_of_change_sized (C := Try.checked) factOwn started (by kernel_rfl) Try.func3
    (ChangeSpec.witness6 (enc := enc) (C := Try.checked) false ⟨#[], #[.slice none 0 0], []⟩ 8 (by kernel_rfl) (by kernel_rfl) (by kernel_rfl) (by kernel_rfl)) ?_
  intro W base args ds gs before hval0 hW hcnd hsz0 _
  have hval : ∀ (j : Nat) t v, Try.f3.params[j]? = some t → args[j]? = some v → Value.okWide Try.prog W .any base t v := hval0
  have hsz : (DataW.weightsEach Try.prog (Try.f3.params.toList ++ Rows.fnDoubleCoverageSpec.plain.varTypes Try.prog) (ds ++ gs)).all (· ≤ reachBytes) = true := hsz0
  have hW' := hW
  obtain ⟨p, q, hA0, hV, rfl, hfz, hnd⟩ := hW
  have hA : DataW.TrodAll enc Try.prog W 0 (fun _ => true) true Try.f3.params.toList args.toList ds p := hA0
  rw [Try.params3] at hA hval hsz
  obtain ⟨v0, vs0, d0, ds0, p0, q0, hargs, rfl, rfl, h0, r0⟩ := trodAll_cons hA
  obtain ⟨rfl, rfl, rfl⟩ := trodAll_nil r0
  obtain rfl : args = #[v0] := by cases args; simp_all
  obtain ⟨rfl, rfl⟩ := trodVars_none hV
  have k0 := h0
  have lt0 : ∀ x ∈ p0, x.block < W.heap.size := by obtain ⟨m, hm⟩ := k0; exact DataW.trod_lt m _ _ _ hm
  have hw0 := weights_of hsz (j := 0) (t := 22) (d := d0) rfl rfl
  obtain ⟨a, l, c, rfl⟩ := okWide_slice Try.underlying22 (hval 0 22 v0 rfl rfl)
  obtain ⟨x0, a0⟩ : ∃ x, IsBytes W (.slice a l c) x := by
    obtain ⟨fuel, hf⟩ := h0
    exact isBytes_of_trod hf
  clear hA0 hval0 hsz0
  refine (lawFnDoubleCoverage_any a0).mono fun e W' ⟨he, hext⟩ => ?_
  subst he
  have bel := hext.below
  exact ⟨_, rfl, _, _, _, [], _, [], hW', trodAll_mk1 (shut_bool Try.underlying4 _), (trodAll_cons_mk (Below.trod factLaid (by kernel_rfl) (of_decide_eq_true (by kernel_rfl)) k0 bel lt0) trodAll_mk0), rfl, bel.frame _, fun h => by cases h⟩

theorem holdsFnDoubleCoverage : Rows.FnDoubleCoverageSaid :=
  OpenClaim.holds_of_wide 3 Try.f3 rfl rfl rfl rfl rfl rfl rfl ⟨rfl, rfl, rfl, rfl, rfl⟩ rfl rfl rfl rfl rfl (by kernel_rfl) Try.func3 (joined_here closedFnDoubleCoverage)
    (of_decide_eq_true (by kernel_rfl)) (by unfold Func.isWrapper; first | (rw [if_pos (by decide +kernel)]; kernel_rfl) | (rw [if_neg (by decide +kernel)]; exact ⟨rfl, rfl⟩))
    (fun os started H enc _ => liftedFnDoubleCoverage os started H enc)

#print axioms holdsFnDoubleCoverage

end Go.Proofs.Ytohjbabjkjcddaa

