/- Several texts in one: Cur Uni Line End Greedy Made Flat OffsA FlatW AppN Prob Draw8. -/
import Derived.Test.YtllfchcocgdcjaaGreatProg
import Derived.Test.YtllfchcocgdcjaaGreatGrA
import Derived.WalkKit
import Derived.WalkSpells
import Derived.WalkLawsBesides
import Derived.Deep.QuietTactic
import Derived.BigQuiet
import Derived.Deep.RegionHeld3
import Derived.Deep.Cut
import Derived.Deep.CutRange
import Derived.IntWalk
import Derived.Laws.Bits64b
import Derived.Test.YtllfchcocgdcjaaGreatGrB
import Derived.Test.YtllfchcocgdcjaaGreatGrC
import Derived.Laws.StructEq
import Derived.Deep.DeepCutAuto
/- The cursor that reads choices from bytes: what it returns lies in its bounds, and nothing else changes. -/
namespace Go.Proofs.YtllfchcocgdcjaaGreat
open Go.RowKit

theorem ow_pull {w : World} {B : Nat} {A L : List Row} {r : Row} (h : Own w B (A ++ (r :: L))) : Own w B (r :: (A ++ L)) := h.perm List.perm_middle.symm
theorem ow_push {w : World} {B : Nat} {A L : List Row} {r : Row} (h : Own w B (r :: (A ++ L))) : Own w B (A ++ (r :: L)) := h.perm List.perm_middle
theorem ow_cell {w : World} {B e z g n c : Nat} {cs : List Value} {R : List Row} (h : Own w B R) (hr : (⟨e, z, .slice (some ⟨g, 0, none⟩) n c, n, cs⟩ : Row) ∈ R) {j : Nat} (hj : j < n * z) : w.cell? ⟨g, j, none⟩ = some (cs.getD j undef) := by
  have ho := h.1 _ hr
  have h1 := ho.cellAt j hj
  have h2 : cs.length = n * z := ho.1
  rw [h1]
  have h3 : j < cs.length := by omega
  simp [h3]
theorem ow_frozen {w : World} {B e z g n c : Nat} {cs : List Value} {R : List Row} (h : Own w B R) (hr : (⟨e, z, .slice (some ⟨g, 0, none⟩) n c, n, cs⟩ : Row) ∈ R) (j : Nat) : w.frozen? ⟨g, j, none⟩ = false := (h.1 _ hr).frozenAt j
theorem ow_set {w : World} {B e z g n c : Nat} {cs : List Value} {A L : List Row} (h : Own w B (A ++ (⟨e, z, .slice (some ⟨g, 0, none⟩) n c, n, cs⟩ :: L))) (j : Nat) (u : Value) :
    Own (w.setCell ⟨g, j, none⟩ u) B (A ++ (⟨e, z, .slice (some ⟨g, 0, none⟩) n c, n, cs.set j u⟩ :: L)) := by
  have h' := ow_pull h
  exact ow_push (h'.turn (h'.head.stored j u).1 (h'.head.stored j u).2 (.inl rfl))
theorem ow_lt {w : World} {B e z g n c : Nat} {cs : List Value} {R : List Row} (h : Own w B (⟨e, z, .slice (some ⟨g, 0, none⟩) n c, n, cs⟩ :: R)) : B ≤ g ∧ g < w.heap.size :=
  h.head.lt g rfl

/-- the value reads as n bytes -/
def IsBytes (w : World) (v : Value) (n : Nat) : Prop := ∃ a c, v = .slice a n c ∧ ∀ j, j < n → ∃ b o x, a = some ⟨b, o, none⟩ ∧ w.cell? ⟨b, o + j, none⟩ = some (.int .u8 x) ∧ 0 ≤ x ∧ x ≤ 255
theorem IsBytes.form {w : World} {v : Value} {n : Nat} (h : IsBytes w v n) : ∃ a c, v = .slice a n c := by
  obtain ⟨a, c, h, _⟩ := h
  exact ⟨a, c, h⟩
theorem IsBytes.at {w w' : World} {a : Option Addr} {n c : Nat} (h : IsBytes w (.slice a n c) n) [e : Ext w w'] {k : Nat} (hk : k < n) : ∃ b o x, a = some ⟨b, o, none⟩ ∧ w'.cell? ⟨b, o + k, none⟩ = some (.int .u8 x) ∧ 0 ≤ x ∧ x ≤ 255 := by
  obtain ⟨a', c', h1, h2⟩ := h
  cases h1
  obtain ⟨b, o, x, h3, h4, h5⟩ := h2 k hk
  exact ⟨b, o, x, h3, e.cell h4, h5⟩
/-- the cursor lies in block c -/
abbrev curRow (c : Nat) (vc : Value) (a s : Int) : Row := ⟨39, 3, .slice (some ⟨c, 0, none⟩) 1 1, 1, [vc, .int .i64 a, .int .u64 s]⟩

theorem low_byte (y : Int) : 0 ≤ wrap64 (bits BinOp.and IntKind.u64 (IntKind.u64.wrap y / 1099511627776) 255) ∧ wrap64 (bits BinOp.and IntKind.u64 (IntKind.u64.wrap y / 1099511627776) 255) ≤ 255 := by
  have h1 : 0 ≤ IntKind.u64.wrap y ∧ IntKind.u64.wrap y < 18446744073709551616 := by
    simp only [IntKind.wrap, IntKind.bits, IntKind.signed]
    simp
    omega
  obtain ⟨m, hm⟩ := Int.eq_ofNat_of_zero_le h1.1
  rw [hm] at h1 ⊢
  have e : ((m : Int) / 1099511627776) = ((m / 1099511627776 : Nat) : Int) := by omega
  have h2 := bits_and_u64_nat (m / 1099511627776) 255 (by omega) (by omega)
  have h3 : (m / 1099511627776) &&& 255 ≤ 255 := Nat.and_le_right
  rw [e]
  have h2' : bits BinOp.and IntKind.u64 ((m / 1099511627776 : Nat) : Int) 255 = (((m / 1099511627776) &&& 255 : Nat) : Int) := h2
  rw [h2']
  generalize (m / 1099511627776) &&& 255 = q at *
  unfold wrap64
  omega
theorem cur_put {w : World} {B c : Nat} {vc : Value} {a s : Int} {R : List Row} (own : Own w B (curRow c vc a s :: R)) (m k : Nat) (a' s' : Int) :
    Own ((((w.drewN m).setCell ⟨c, 1, none⟩ (.int .i64 a')).setCell ⟨c, 2, none⟩ (.int .u64 s')).drewN k) B (curRow c vc a' s' :: R) ∧ Below B w ((((w.drewN m).setCell ⟨c, 1, none⟩ (.int .i64 a')).setCell ⟨c, 2, none⟩ (.int .u64 s')).drewN k) := by
  have o1 : Own (w.drewN m) B (curRow c vc a s :: R) := own.ext
  have o2 := ow_set (A := []) o1 1 (.int .i64 a')
  have o3 := ow_set (A := []) o2 2 (.int .u64 s')
  have hl := (ow_lt own).1
  refine ⟨o3.ext, ?_⟩
  have h1 : Below B w (w.drewN m) := ⟨rfl, rfl, rfl, Nat.le_refl _, fun _ _ => rfl⟩
  have h2 : Below B w (((w.drewN m).setCell ⟨c, 1, none⟩ (.int .i64 a')).setCell ⟨c, 2, none⟩ (.int .u64 s')) := (h1.setCell hl _).setCell hl _
  exact ⟨h2.os, h2.tape, h2.output, h2.size, h2.block⟩

set_option maxHeartbeats 1600000 in
set_option maxRecDepth 100000 in
theorem next_any {w0 w : World} [Ext w0 w] {vc : Value} {n : Nat} (hc : IsBytes w0 vc n) {B c : Nat} {a s : Int} {R : List Row} (own : Own w B (curRow c vc a s :: R)) (ha : 0 ≤ a) (ha2 : a ≤ 100000000) :
    Calls Tryz.prog 37 #[.pointer (some ⟨c, 0, none⟩)] w fun e w' => ∃ x s' : Int, e = .returned (.int .i64 x) ∧ 0 ≤ x ∧ x ≤ 255 ∧ Own w' B (curRow c vc (a + 1) s' :: R) ∧ Below B w w' := by
  obtain ⟨ac, cc, rfl⟩ := hc.form
  have k0 : w.cell? ⟨c, 0, none⟩ = some (.slice ac n cc) := ow_cell own (.head _) (j := 0) (by omega)
  have k1 : w.cell? ⟨c, 1, none⟩ = some (.int .i64 a) := ow_cell own (.head _) (j := 1) (by omega)
  have k2 : w.cell? ⟨c, 2, none⟩ = some (.int .u64 s) := ow_cell own (.head _) (j := 2) (by omega)
  have f1 := ow_frozen own (.head _) 1
  have f2 := ow_frozen own (.head _) 2
  obtain ⟨a, rfl⟩ := Int.eq_ofNat_of_zero_le ha
  by_cases hlt : a < n
  · obtain ⟨b, o, x, rfl, hcx, hx0, hx1⟩ := hc.at (w' := w) hlt
    go_enter Tryz.func37, Tryz.ntmps37
    go_wp2_with (go_quiet (fail))
    · go_ret
      exact ⟨x, _, rfl, hx0, hx1, (cur_put own _ _ _ _).1, (cur_put own _ _ _ _).2⟩
  · go_enter Tryz.func37, Tryz.ntmps37
    go_wp2_with (go_quiet (fail))
    go_ret
    exact ⟨_, _, rfl, (low_byte _).1, (low_byte _).2, (cur_put own _ _ _ _).1, (cur_put own _ _ _ _).2⟩

theorem mod_in {x N : Int} (hx : 0 ≤ x) (hN : 0 < N) : 0 ≤ x % N ∧ x % N < N ∧ x % N ≤ x := by
  have h1 := Int.emod_nonneg x (b := N) (by omega)
  have h2 := Int.emod_lt_of_pos x hN
  refine ⟨h1, h2, ?_⟩
  by_cases h : x < N
  · rw [Int.emod_eq_of_lt hx h]; omega
  · omega
/-- the cursor lies in block c, has read a steps, and the rows R are owned beside it -/
def CurAt (w : World) (B c : Nat) (vc : Value) (a : Int) (R : List Row) : Prop := ∃ s, Own w B (curRow c vc a s :: R)
theorem CurAt.ext {w w' : World} {B c : Nat} {vc : Value} {a : Int} {R : List Row} (h : CurAt w B c vc a R) [e : Ext w w'] : CurAt w' B c vc a R := by
  obtain ⟨s, h⟩ := h
  exact ⟨s, h.ext⟩
theorem CurAt.rows {w : World} {B c : Nat} {vc : Value} {a : Int} {R : List Row} (h : CurAt w B c vc a R) : Own w B R := by
  obtain ⟨s, h⟩ := h
  exact h.tail
theorem CurAt.perm {w : World} {B c : Nat} {vc : Value} {a : Int} {R R' : List Row} (h : CurAt w B c vc a R) (p : R'.Perm R) : CurAt w B c vc a R' := by
  obtain ⟨s, h⟩ := h
  exact ⟨s, h.perm (p.cons _)⟩
theorem CurAt.sub {w : World} {B c : Nat} {vc : Value} {a : Int} {R R' : List Row} (h : CurAt w B c vc a R) (p : R'.Sublist R) : CurAt w B c vc a R' := by
  obtain ⟨s, h⟩ := h
  exact ⟨s, h.sub (p.cons_cons _)⟩
theorem CurAt.drop {w : World} {B c : Nat} {vc : Value} {a : Int} {r : Row} {R : List Row} (h : CurAt w B c vc a (r :: R)) : CurAt w B c vc a R := h.sub (List.sublist_cons_self _ _)
/-- a fresh list of ints joins -/
theorem CurAt.lit {w : World} {B c : Nat} {vc : Value} {a : Int} {R : List Row} (h : CurAt w B c vc a R) {e n : Nat} {cs : Array Value} (xs : List Int) (hB : B ≤ w.heap.size) (hx : cs.toList = xs.map (Value.int .i64)) (hn : n = xs.length) (hs : xs.length ≤ 1000000) :
    CurAt (w.alloc (.cells cs e)) B c vc a (intRowOf e (.slice (some ⟨w.heap.size, 0, none⟩) n n) xs :: R) := by
  obtain ⟨s, h⟩ := h
  subst hn
  have hl : cs.size = xs.length * 1 := by rw [← Array.length_toList, hx]; simp
  have h1 := h.lit e 1 xs.length cs hB (by unfold maxLen; omega) hl
  rw [hx] at h1
  exact ⟨s, h1.perm (List.Perm.swap _ _ _)⟩
/-- a row that another list of rows was made into -/
theorem CurAt.of {w : World} {B c : Nat} {vc : Value} {a s : Int} {R : List Row} (h : Own w B (curRow c vc a s :: R)) : CurAt w B c vc a R := ⟨s, h⟩

set_option maxHeartbeats 1600000 in
set_option maxRecDepth 100000 in
theorem pick_any {w0 w : World} [Ext w0 w] {vc : Value} {n : Nat} (hc : IsBytes w0 vc n) {B c : Nat} {a N : Int} {R : List Row} (own : CurAt w B c vc a R) (hwB : w0.heap.size ≤ B) (ha : 0 ≤ a) (ha2 : a ≤ 10000000) :
    Calls Tryz.prog 17 #[.pointer (some ⟨c, 0, none⟩), .int .i64 N] w fun e w' => ∃ x a' : Int, e = .returned (.int .i64 x) ∧ 0 ≤ x ∧ x ≤ 65535 ∧ (0 < N → x < N) ∧ a ≤ a' ∧ a' ≤ a + 2 ∧ CurAt w' B c vc a' R ∧ Below B w w' := by
  obtain ⟨s, own⟩ := own
  by_cases hN : N ≤ 1
  · go_enter Tryz.func17, Tryz.ntmps17
    go_wp2
    go_ret
    exact ⟨0, a, rfl, by omega, by omega, fun h => by omega, by omega, by omega, ⟨s, own⟩, Below.refl _ _⟩
  · go_enter Tryz.func17, Tryz.ntmps17
    go_wp2_with fail
    refine (next_any (w0 := w0) hc own ha (by omega)).mono ?_
    rintro e w1 ⟨x, s1, rfl, hx0, hx1, own1, hb1⟩
    by_cases h200 : 200 < N
    · have e1 : Ext w0 w1 := ⟨(‹Ext w0 w›).below.trans (hb1.mono hwB)⟩
      go_wp2_with fail
      refine (next_any (w0 := w0) hc own1 (by omega) (by omega)).mono ?_
      rintro e w2 ⟨y, s2, rfl, hy0, hy1, own2, hb2⟩
      have hm := hid (mod_in (x := x * 256 + y) (N := N) (by omega) (by omega))
      go_wp2_with fail
      go_ret
      exact ⟨_, a + 1 + 1, rfl, hm.out.1, Int.le_trans hm.out.2.2 (by omega), fun _ => hm.out.2.1, by omega, by omega, ⟨s2, own2⟩, hb1.trans hb2⟩
    · have hm := hid (mod_in (x := x) (N := N) (by omega) (by omega))
      go_wp2_with fail
      go_ret
      exact ⟨_, a + 1, rfl, hm.out.1, Int.le_trans hm.out.2.2 (by omega), fun _ => hm.out.2.1, by omega, by omega, ⟨s1, own1⟩, hb1⟩

set_option maxHeartbeats 400000 in
theorem one_any {w0 w : World} [Ext w0 w] {vc : Value} {n : Nat} (hc : IsBytes w0 vc n) {B c : Nat} {a N : Int} {R : List Row} (own : CurAt w B c vc a R) (hwB : w0.heap.size ≤ B) (ha : 0 ≤ a) (ha2 : a ≤ 10000000) :
    Calls Tryz.prog 66 #[.pointer (some ⟨c, 0, none⟩), .int .i64 N] w fun e w' => ∃ (b : Bool) (a' : Int), e = .returned (.bool b) ∧ a ≤ a' ∧ a' ≤ a + 2 ∧ CurAt w' B c vc a' R ∧ Below B w w' := by
  go_enter Tryz.func66, Tryz.ntmps66
  go_wp2_with fail
  refine (pick_any (w0 := w0) hc own hwB ha ha2).mono ?_
  rintro e w1 ⟨x, a1, rfl, h0, h1, h2, h3, h4, h5, h6⟩
  go_wp2_with fail
  go_ret
  exact ⟨_, a1, rfl, h3, h4, h5, h6⟩

set_option maxHeartbeats 400000 in
theorem among_any {w0 w : World} [Ext w0 w] {vc : Value} {n : Nat} (hc : IsBytes w0 vc n) {B c : Nat} {a : Int} {e0 : Nat} {v : Value} {xs : List Int} {R : List Row} (own : CurAt w B c vc a (intRowOf e0 v xs :: R)) (hwB : w0.heap.size ≤ B) (ha : 0 ≤ a) (ha2 : a ≤ 10000000) (hx : 0 < xs.length) (hl : xs.length ≤ 1000000) :
    Calls Tryz.prog 16 #[.pointer (some ⟨c, 0, none⟩), v] w fun e w' => ∃ x a' : Int, e = .returned (.int .i64 x) ∧ x ∈ xs ∧ a ≤ a' ∧ a' ≤ a + 2 ∧ CurAt w' B c vc a' (intRowOf e0 v xs :: R) ∧ Below B w w' := by
  obtain ⟨d, m, hv⟩ := own.rows.form
  have hv' : v = .slice d xs.length m := hv
  subst hv'
  obtain ⟨g, rfl⟩ := own.rows.at (j := 0) hx
  go_enter Tryz.func16, Tryz.ntmps16
  go_wp2_with fail
  refine (pick_any (w0 := w0) hc own hwB ha ha2).mono ?_
  rintro e w1 ⟨x, a1, rfl, h0, h1, h2, h3, h4, h5, h6⟩
  obtain ⟨x, rfl⟩ := Int.eq_ofNat_of_zero_le h0
  have hlt : x < xs.length := by have := h2 (by omega); omega
  have vX : w1.cell? ⟨g, x, none⟩ = some (.int .i64 (nth xs x)) := by
    rw [h5.rows.cellAt (w' := w1) (j := x) hlt]
    simp [nth, hlt]
  go_wp2_with fail
  go_ret
  exact ⟨_, a1, rfl, nth_mem hlt, h3, h4, h5, h6⟩
end Go.Proofs.YtllfchcocgdcjaaGreat

/- Metrics that draws make: uniform ones and lines. -/
namespace Go.Proofs.YtllfchcocgdcjaaGreat
open Go.RowKit

/-- rows: their list comes to the front -/
theorem rw_out {w : World} {B e1 e2 : Nat} {v : Value} {vs : List Value} {M : List (List Int)} {W : Row} {A R : List Row} (h : Own w B (W :: (A ++ (rowsOf e1 e2 v vs M ++ R)))) :
    Own w B (⟨e1, 1, v, vs.length, vs⟩ :: (W :: (A ++ (List.zipWith (intRowOf e2) vs M ++ R)))) :=
  ow_pull (A := W :: A) (L := List.zipWith (intRowOf e2) vs M ++ R) h
/-- and goes back with a new row -/
theorem rw_in {w : World} {B e1 e2 : Nat} {v rv : Value} {vs : List Value} {M : List (List Int)} {xs : List Int} {A R : List Row} (h : Own w B (⟨e1, 1, v, vs.length + 1, vs ++ [rv]⟩ :: (intRowOf e2 rv xs :: (A ++ (List.zipWith (intRowOf e2) vs M ++ R))))) (hl : vs.length = M.length) :
    Own w B (A ++ (rowsOf e1 e2 v (vs ++ [rv]) (M ++ [xs]) ++ R)) := by
  have e : rowsOf e1 e2 v (vs ++ [rv]) (M ++ [xs]) ++ R = (⟨e1, 1, v, vs.length + 1, vs ++ [rv]⟩ : Row) :: (List.zipWith (intRowOf e2) vs M ++ (intRowOf e2 rv xs :: R)) := by
    unfold rowsOf valRowOf
    rw [List.zipWith_append hl, List.length_append]
    simp
  rw [e]
  refine ow_push (h.perm ?_)
  refine List.Perm.cons _ ?_
  have p := List.perm_middle (a := intRowOf e2 rv xs) (l₁ := A ++ List.zipWith (intRowOf e2) vs M) (l₂ := R)
  simpa only [List.append_assoc] using p
theorem ow_front {w : World} {B : Nat} {A T R : List Row} (h : Own w B (A ++ (T ++ R))) : Own w B (T ++ (A ++ R)) := by
  refine h.perm ?_
  rw [← List.append_assoc, ← List.append_assoc]
  exact List.perm_append_comm.append_right R
/-- a table at the front: its cells -/
theorem rw_cell {w : World} {B e1 e2 g n c : Nat} {vs : List Value} {M : List (List Int)} {R : List Row} (h : Own w B (rowsOf e1 e2 (.slice (some ⟨g, 0, none⟩) n c) vs M ++ R)) (hn : vs.length = n) {j : Nat} {u : Value} (hu : vs[j]? = some u) :
    w.cell? ⟨g, j, none⟩ = some u ∧ w.frozen? ⟨g, j, none⟩ = false := by
  subst hn
  have h1 : Own w B (⟨e1, 1, .slice (some ⟨g, 0, none⟩) vs.length c, vs.length, vs⟩ :: (List.zipWith (intRowOf e2) vs M ++ R)) := h
  have hj : j < vs.length := (List.getElem?_eq_some_iff.1 hu).1
  refine ⟨?_, h1.frozenAt j⟩
  rw [h1.cellAt (w' := w) hj, List.getD_eq_getElem?_getD, hu]; rfl
/-- a row of it -/
theorem rw_row {w : World} {B e1 e2 : Nat} {v : Value} {vs : List Value} {M : List (List Int)} {R : List Row} (h : Own w B (rowsOf e1 e2 v vs M ++ R)) {j : Nat} (hj : j < M.length) {u : Value} (hu : vs[j]? = some u) :
    Own w B (intRowOf e2 u (row M j) :: (rowsOf e1 e2 v vs M ++ R).eraseIdx (j + 1)) := by
  have hr : M[j]? = some (row M j) := by simp [row, hj]
  exact h.pick (h.rowAt hr hu)
theorem rw_form {w : World} {B e1 e2 : Nat} {v : Value} {vs : List Value} {M : List (List Int)} {R : List Row} (h : Own w B (rowsOf e1 e2 v vs M ++ R)) (hl : vs.length = M.length) {j : Nat} (hj : j < M.length) (h0 : 0 < (row M j).length) :
    ∃ g m, vs[j]? = some (.slice (some ⟨g, 0, none⟩) (row M j).length m) ∧ B ≤ g := by
  obtain ⟨u, hu⟩ : ∃ u, vs[j]? = some u := ⟨_, List.getElem?_eq_getElem (by omega)⟩
  have hpick := rw_row h hj hu
  obtain ⟨d, m, hd⟩ := hpick.form
  have hd' : u = .slice d (row M j).length m := hd
  subst hd'
  obtain ⟨g, rfl⟩ := hpick.at h0
  exact ⟨g, m, hu, hpick.lt.1⟩
theorem rw_at {w : World} {B e1 e2 g l m : Nat} {v : Value} {vs : List Value} {M : List (List Int)} {R : List Row} (h : Own w B (rowsOf e1 e2 v vs M ++ R)) {j : Nat} (hj : j < M.length) (hu : vs[j]? = some (.slice (some ⟨g, 0, none⟩) l m)) (hl : (row M j).length = l) {q : Nat} (hq : q < l) :
    w.cell? ⟨g, q, none⟩ = some (.int .i64 (nth (row M j) q)) ∧ w.frozen? ⟨g, q, none⟩ = false := by
  subst hl
  have hpick := rw_row h hj hu
  refine ⟨?_, hpick.frozenAt q⟩
  rw [hpick.cellAt (w' := w) hq]
  simp [nth, hq]
/-- a cell of a row of it is written -/
theorem rw_put {w : World} {B e1 e2 g l m : Nat} {v : Value} {vs : List Value} {M : List (List Int)} {R : List Row} (h : Own w B (rowsOf e1 e2 v vs M ++ R)) (hv : vs.length = M.length) {j : Nat} (hj : j < M.length) (hu : vs[j]? = some (.slice (some ⟨g, 0, none⟩) l m)) (hl : (row M j).length = l) (q : Nat) (x : Int) :
    Own (w.setCell ⟨g, q, none⟩ (.int .i64 x)) B (rowsOf e1 e2 v vs (M.set j ((row M j).set q x)) ++ R) := by
  subst hl
  have hpick := (rw_row h hj hu).set q (.int .i64 x)
  rw [← List.map_set] at hpick
  have e : (⟨e2, 1, .slice (some ⟨g, 0, none⟩) (row M j).length m, (row M j).length, ((row M j).set q x).map (Value.int .i64)⟩ : Row) = intRowOf e2 (.slice (some ⟨g, 0, none⟩) (row M j).length m) ((row M j).set q x) := by
    unfold intRowOf
    rw [List.length_set]
  rw [e] at hpick
  have h' := hpick.put (by unfold rowsOf; simp; omega)
  rw [rowsOf_set (by omega) hu] at h'
  exact h'

theorem ow_ints {w : World} {B e : Nat} {v : Value} {xs : List Int} {R : List Row} (h : Own w B (intRowOf e v xs :: R)) : ∃ d m, v = .slice d xs.length m := h.form
theorem ow_snoc {w : World} {B e : Nat} {v : Value} {xs : List Int} {x : Int} {n : Nat} {R : List Row} (h : Own w B (⟨e, 1, v, n + 1, xs.map (Value.int .i64) ++ [.int .i64 x]⟩ :: R)) (hn : n = xs.length) : Own w B (intRowOf e v (xs ++ [x]) :: R) := by
  subst hn
  unfold intRowOf
  rw [List.length_append, List.map_append]
  exact h
def uniRow (f : Nat → Nat → Int) (x m : Nat) : List Int := (List.range m).map (f x)
def uniTab (f : Nat → Nat → Int) (m n : Nat) : List (List Int) := (List.range n).map fun x => uniRow f x m
theorem uniRow_succ (f : Nat → Nat → Int) (x m : Nat) : uniRow f x (m + 1) = uniRow f x m ++ [f x m] := by simp [uniRow, List.range_succ]
theorem uniTab_succ (f : Nat → Nat → Int) (m n : Nat) : uniTab f m (n + 1) = uniTab f m n ++ [uniRow f n m] := by simp [uniTab, List.range_succ]
theorem uniRow_length (f : Nat → Nat → Int) (x m : Nat) : (uniRow f x m).length = m := by simp [uniRow]
theorem uniTab_length (f : Nat → Nat → Int) (m n : Nat) : (uniTab f m n).length = n := by simp [uniTab]
theorem uniTab_row {f : Nat → Nat → Int} {m n : Nat} {r : List Int} (h : r ∈ uniTab f m n) : ∃ x, x < n ∧ r = uniRow f x m := by
  obtain ⟨x, hx, rfl⟩ := List.mem_map.1 h
  exact ⟨x, List.mem_range.1 hx, rfl⟩
abbrev boxRow (e z b : Nat) (cs : List Value) : Row := ⟨e, z, .slice (some ⟨b, 0, none⟩) 1 1, 1, cs⟩

set_option maxHeartbeats 1600000 in
set_option maxRecDepth 100000 in
theorem l6Uniform_any {n : Nat} {d : Int} (hn : n ≤ 1000) (w : World) :
    Calls Tryz.prog 61 #[.int .i64 n, .int .i64 d] w fun e w' => ∃ d0 m0 vs, e = .returned (.agg #[.slice d0 n m0]) ∧ vs.length = n ∧
      Own w' w.heap.size (rowsOf 27 3 (.slice d0 n m0) vs (uniTab (fun x y => if x = y then 0 else d) n n)) ∧ Ext w w' := by
  obtain ⟨f, hf⟩ : ∃ f : Nat → Nat → Int, f = fun x y => if x = y then 0 else d := ⟨_, rfl⟩
  rw [← hf]
  replace hf := hid hf
  go_enter Tryz.func61, Tryz.ntmps61
  go_upto_region 2 with fail
  generalize hW : ((w.alloc (.cells #[.slice none 0 0] 26)).alloc (.cells #[] 27)).alloc (.cells #[.slice (some ⟨w.heap.size + 1, 0, none⟩) 0 0] 26) = W
  have eW : Ext w W := hW ▸ inferInstance
  have x0 : W.cell? ⟨w.heap.size, 0, none⟩ = some (.slice none 0 0) := by subst hW; go_simp
  have xf : W.frozen? ⟨w.heap.size, 0, none⟩ = false := by subst hW; go_simp
  obtain ⟨b, hb⟩ : ∃ b, b = w.heap.size + 1 + 1 := ⟨_, rfl⟩
  rw [← hb]
  have own0 : Own W (w.heap.size + 1) (boxRow 26 1 b [.slice (some ⟨w.heap.size + 1, 0, none⟩) 0 0] :: (rowsOf 27 3 (.slice (some ⟨w.heap.size + 1, 0, none⟩) 0 0) [] [] ++ [])) := by
    subst hW
    have h := (Own.nil (w.alloc (.cells #[.slice none 0 0] 26)) (w.heap.size + 1)).lit 27 1 0 #[] (by simp) (by unfold maxLen; omega) rfl
    rw [show (w.alloc (.cells #[.slice none 0 0] 26)).heap.size = w.heap.size + 1 by simp] at h
    have h2 := h.lit 26 1 1 #[.slice (some ⟨w.heap.size + 1, 0, none⟩) 0 0] (by simp) (by unfold maxLen; omega) rfl
    rw [show ((w.alloc (.cells #[.slice none 0 0] 26)).alloc (.cells #[] 27)).heap.size = b by simp; omega] at h2
    exact h2
  have hBW : w.heap.size + 1 ≤ W.heap.size := by subst hW; simp
  clear hW
  replace hb := hid hb
  go_wp2
  go_loopw [6] (fun i wr => ∃ x : Nat, x ≤ n ∧ i = .int .i64 x ∧ Below (w.heap.size + 1) W wr ∧ ∃ d0 m0 vs, vs.length = x ∧ Own wr (w.heap.size + 1) (boxRow 26 1 b [.slice d0 x m0] :: (rowsOf 27 3 (.slice d0 x m0) vs (uniTab f n x) ++ []))) (fun i _ => n - (intOf i).toNat)
  case atStart => exact ⟨0, by omega, rfl, Below.refl _ _, _, _, [], rfl, own0⟩
  case round =>
    obtain ⟨x, hx, rfl, hb0, d0, m0, vs, hvs, hown⟩ := hrel
    obtain ⟨wo, rfl⟩ : ∃ y : World, y = wr := ⟨_, rfl⟩
    have hBo : w.heap.size + 1 ≤ wo.heap.size := Nat.le_trans hBW hb0.size
    by_cases hlt : x < n
    · go_upto_region 6 with fail
      have own1 : Own (wo.alloc (.cells #[] 3)) (w.heap.size + 1) (intRowOf 3 (.slice (some ⟨wo.heap.size, 0, none⟩) 0 0) (uniRow f x 0) :: (boxRow 26 1 b [.slice d0 x m0] :: (rowsOf 27 3 (.slice d0 x m0) vs (uniTab f n x) ++ []))) := by
        have h := hown.lit 3 1 0 #[] hBo (by unfold maxLen; omega) rfl
        exact h
      have hb1 : Below (w.heap.size + 1) W (wo.alloc (.cells #[] 3)) := hb0.alloc hBo _
      generalize wo.alloc (.cells #[] 3) = w1 at *
      replace hvs := hid hvs
      go_wp2
      go_loopw [7, 8] (fun v j wr => ∃ y : Nat, y ≤ n ∧ j = .int .i64 y ∧ Below (w.heap.size + 1) W wr ∧ Own wr (w.heap.size + 1) (intRowOf 3 v (uniRow f x y) :: (boxRow 26 1 b [.slice d0 x m0] :: (rowsOf 27 3 (.slice d0 x m0) vs (uniTab f n x) ++ [])))) (fun _ j _ => n - (intOf j).toNat)
      case atStart => exact ⟨0, by omega, rfl, hb1, own1⟩
      case round =>
        obtain ⟨y, hy, rfl, hb2, hown2⟩ := hrel
        obtain ⟨vd, vm, rfl⟩ := ow_ints hown2
        obtain ⟨wq, rfl⟩ : ∃ y : World, y = wr := ⟨_, rfl⟩
        have hBq : w.heap.size + 1 ≤ wq.heap.size := Nat.le_trans hBW hb2.size
        have hly := hid (uniRow_length f x y)
        have hys := hid (uniRow_succ f x y)
        by_cases hlty : y < n
        · by_cases hxy : x = y
          · have hfv := hid (show f x y = 0 by rw [hf.out, hxy]; simp)
            have hcc : ((x : Int) == (y : Int)) = true := by rw [hxy]; simp
            replace hxy := hid hxy
            go_wp2_with (at_builtin; refine wpList_append1 rfl _ _ _ rfl elemInt rfl hown2 hBq rfl rfl (by have := hly.out; omega) (by have := hly.out; omega) ?_; intro v1 w5 ho hb5)
            go_roundw
            case rel => exact ⟨y + 1, by omega, by go_num, hb2.trans hb5, by rw [hys.out, hfv.out]; exact ow_snoc ho rfl⟩
            case measure => simp [intOf]; omega
          · have hfv := hid (show f x y = d by rw [hf.out]; simp [hxy])
            go_wp2_with (at_builtin; refine wpList_append1 rfl _ _ _ rfl elemInt rfl hown2 hBq rfl rfl (by have := hly.out; omega) (by have := hly.out; omega) ?_; intro v1 w5 ho hb5)
            go_roundw
            case rel => exact ⟨y + 1, by omega, by go_num, hb2.trans hb5, by rw [hys.out, hfv.out]; exact ow_snoc ho rfl⟩
            case measure => simp [intOf]; omega
        · have hyn : y = n := by omega
          have hts := hid (show uniTab f n (x + 1) = uniTab f n x ++ [uniRow f x y] by rw [uniTab_succ, hyn])
          have hlt' := hid (uniTab_length f n x)
          replace hyn := hid hyn
          have hout := rw_out (A := [_]) hown2
          rw [hvs.out] at hout
          have tb : wq.cell? ⟨b, 0, none⟩ = some (.slice d0 x m0) := ow_cell hown2 (.tail _ (.head _)) (j := 0) (by omega)
          go_wp2_with (at_builtin; refine wpList_append1 rfl _ _ _ rfl elemInts rfl hout hBq rfl rfl (by omega) (by omega) ?_; intro v1 w5 ho hb5; obtain ⟨vd1, vm1, hv1⟩ := ho.form; (obtain rfl : v1 = .slice vd1 (x + 1) vm1 := hv1); (have tc : w5.cell? ⟨b, 0, none⟩ = some (.slice d0 x m0) := ow_cell ho (.tail _ (.tail _ (.head _))) (j := 0) (by omega)); have tf := ow_frozen ho (.tail _ (.tail _ (.head _))) 0)
          have hoS := ow_set (A := [_, _]) ho 0 (.slice vd1 (x + 1) vm1)
          have hbB := ((ho.1 _ (.tail _ (.tail _ (.head _)))).lt b rfl).1
          rw [← hvs.out] at hoS
          have hin := rw_in (A := [_]) hoS (by rw [hvs.out, hlt'.out])
          rw [hvs.out] at hin
          go_roundw
          case rel => exact ⟨x + 1, by omega, by go_num, (hb2.trans hb5).setCell hbB _, vd1, vm1, vs ++ [.slice vd (uniRow f x y).length vm], by rw [List.length_append, hvs.out]; rfl, by rw [hts.out]; exact hin⟩
          case measure => simp [intOf]; omega
    · have hxn : x = n := by omega
      subst hxn
      have tb : wo.cell? ⟨b, 0, none⟩ = some (.slice d0 x m0) := ow_cell hown (.head _) (j := 0) (by omega)
      have xr : wo.cell? ⟨w.heap.size, 0, none⟩ = some (.slice none 0 0) := (hb0.cell (p := ⟨w.heap.size, 0, none⟩) (Nat.lt_succ_self _)).trans x0
      have xrf : wo.frozen? ⟨w.heap.size, 0, none⟩ = false := (hb0.frozen (p := ⟨w.heap.size, 0, none⟩) (Nat.lt_succ_self _)).trans xf
      have hset : (wo.setCell ⟨w.heap.size, 0, none⟩ (.slice d0 x m0)).cell? ⟨w.heap.size, 0, none⟩ = some (.slice d0 x m0) := by go_simp
      have hownR := hown.tail.setBelow (p := ⟨w.heap.size, 0, none⟩) (Nat.lt_succ_self _) (.slice d0 x m0)
      have hown3 := hownR.mono (Nat.le_succ _)
      have eF : Ext w (wo.setCell ⟨w.heap.size, 0, none⟩ (.slice d0 x m0)) := ⟨eW.below.trans ((hb0.mono (Nat.le_succ _)).setCell (Nat.le_refl _) _)⟩
      go_wp2
      refine bodyPost_ret (v := .agg #[.slice d0 x m0]) (by simp [results, Tryz.results61, go_sem, hset]) rfl ?_
      rw [List.append_nil] at hown3
      exact ⟨_, _, vs, rfl, hvs, hown3, eF⟩
end Go.Proofs.YtllfchcocgdcjaaGreat

/- Metrics of places on a line, as draws make them. -/
namespace Go.Proofs.YtllfchcocgdcjaaGreat
open Go.RowKit

theorem l1Most_any (a b : Int) (w : World) :
    Calls Tryz.prog 87 #[.int .i64 a, .int .i64 b] w fun e w' => e = .returned (.int .i64 (max a b)) ∧ w = w' := by
  by_cases h : a > b
  · have hr := hid (show max a b = a by omega)
    have h' : decide (b < a) = true := by simpa using h
    go_enter Tryz.func87, Tryz.ntmps87
    go_wp2
    go_ret
    exact ⟨ret_int hr.out.symm, rfl⟩
  · have hr := hid (show max a b = b by omega)
    have h' : decide (b < a) = false := by simpa using h
    go_enter Tryz.func87, Tryz.ntmps87
    go_wp2
    go_ret
    exact ⟨ret_int hr.out.symm, rfl⟩
/-- n rows of n numbers each, all small -/
def TabOk (M : List (List Int)) (n : Nat) : Prop := M.length = n ∧ ∀ j, j < n → (row M j).length = n ∧ ∀ q, q < n → -100000 ≤ cell M j q ∧ cell M j q ≤ 100000
theorem TabOk.set {M : List (List Int)} {n : Nat} (h : TabOk M n) {j : Nat} (q : Nat) {x : Int} (hj : j < n) (hx : -100000 ≤ x ∧ x ≤ 100000) : TabOk (M.set j ((row M j).set q x)) n := by
  obtain ⟨h1, h2⟩ := h
  refine ⟨by rw [List.length_set, h1], fun i hi => ?_⟩
  by_cases e : i = j
  · subst e
    have er : row (M.set i ((row M i).set q x)) i = (row M i).set q x := by
      unfold row
      rw [List.getD_eq_getElem?_getD, List.getElem?_set_self (by omega)]
      rfl
    refine ⟨by rw [er, List.length_set]; exact (h2 i hi).1, fun p hp => ?_⟩
    unfold cell
    rw [er]
    by_cases e2 : p = q
    · subst e2
      have : nth ((row M i).set p x) p = x := by
        unfold nth
        rw [List.getD_eq_getElem?_getD, List.getElem?_set_self (by rw [(h2 i hi).1]; exact hp)]
        rfl
      rw [this]; exact hx
    · have : nth ((row M i).set q x) p = nth (row M i) p := by
        unfold nth
        rw [List.getD_eq_getElem?_getD, List.getElem?_set_ne (Ne.symm e2), List.getD_eq_getElem?_getD]
      rw [this]
      exact (h2 i hi).2 p hp
  · have er : row (M.set j ((row M j).set q x)) i = row M i := by
      unfold row
      rw [List.getD_eq_getElem?_getD, List.getElem?_set_ne (Ne.symm e), List.getD_eq_getElem?_getD]
    unfold cell
    rw [er]
    exact h2 i hi
theorem TabOk.uni {n : Nat} {d : Int} (hd : -100000 ≤ d ∧ d ≤ 100000) : TabOk (uniTab (fun x y => if x = y then 0 else d) n n) n := by
  refine ⟨uniTab_length _ _ _, fun j hj => ?_⟩
  have er : row (uniTab (fun x y => if x = y then 0 else d) n n) j = uniRow (fun x y => if x = y then 0 else d) j n := by simp [row, uniTab, hj]
  refine ⟨by rw [er, uniRow_length], fun q hq => ?_⟩
  unfold cell
  rw [er]
  have : nth (uniRow (fun x y => if x = y then 0 else d) j n) q = if j = q then 0 else d := by simp [nth, uniRow, hq]
  rw [this]
  split <;> omega

set_option maxHeartbeats 3200000 in
set_option maxRecDepth 100000 in
theorem l6Line_any {v : Value} {P : List Int} {w0 w : World} [Ext w0 w] (hP : IsInts w0 v P) (hl : P.length ≤ 1000) (hb : ∀ j, j < P.length → 0 ≤ nth P j ∧ nth P j ≤ 100000) :
    Calls Tryz.prog 60 #[v] w fun e w' => ∃ d0 m0 vs M, e = .returned (.agg #[.slice d0 P.length m0]) ∧ vs.length = P.length ∧ TabOk M P.length ∧
      Own w' w.heap.size (rowsOf 27 3 (.slice d0 P.length m0) vs M) ∧ Ext w w' := by
  obtain ⟨aP, cP, rfl, lP⟩ := hP.form
  replace hb := hid hb
  have hPc := hid (show ∀ x, x < P.length → (∃ b o, aP = some ⟨b, o, none⟩ ∧ w0.cell? ⟨b, o + x, none⟩ = some (.int .i64 (nth P x))) from fun x hx => by
    obtain ⟨b, o, h1, h2⟩ := hP.at (w' := w0) hx
    exact ⟨b, o, h1, h2⟩)
  go_enter Tryz.func60, Tryz.ntmps60
  go_upto_region 1 with fail
  have ez : Ext w (w.alloc (.cells #[.slice none 0 0] 26)) := inferInstance
  have z0 : (w.alloc (.cells #[.slice none 0 0] 26)).cell? ⟨w.heap.size, 0, none⟩ = some (.slice none 0 0) := by go_simp
  have zf : (w.alloc (.cells #[.slice none 0 0] 26)).frozen? ⟨w.heap.size, 0, none⟩ = false := by go_simp
  have zs : (w.alloc (.cells #[.slice none 0 0] 26)).heap.size = w.heap.size + 1 := by simp
  generalize w.alloc (.cells #[.slice none 0 0] 26) = wa at *
  replace zs := hid zs
  go_wp2_with fail
  refine (l6Uniform_any (n := P.length) (d := 0) hl wa).mono ?_
  rintro e w1 ⟨d0, m0, vs, rfl, hvs, hown, he1⟩
  rw [zs.out] at hown
  have hM0 : TabOk (uniTab (fun x y => if x = y then 0 else (0 : Int)) P.length P.length) P.length := TabOk.uni (by omega)
  generalize uniTab (fun x y => if x = y then 0 else (0 : Int)) P.length P.length = M0 at *
  have hB1 : w.heap.size + 1 ≤ w1.heap.size := by have := he1.size; have := zs.out; omega
  have own0 : Own (w1.alloc (.cells #[.slice d0 P.length m0] 26)) (w.heap.size + 1) (rowsOf 27 3 (.slice d0 P.length m0) vs M0 ++ [boxRow 26 1 w1.heap.size [.slice d0 P.length m0]]) := by
    have h2 := hown.lit 26 1 1 #[.slice d0 P.length m0] hB1 (by unfold maxLen; omega) rfl
    exact h2.perm (List.perm_append_comm (l₁ := rowsOf _ _ _ _ _) (l₂ := [_]))
  have eW : Ext w (w1.alloc (.cells #[.slice d0 P.length m0] 26)) := Ext.trans ez (Ext.trans he1 inferInstance)
  have x0 : (w1.alloc (.cells #[.slice d0 P.length m0] 26)).cell? ⟨w.heap.size, 0, none⟩ = some (.slice none 0 0) := Ext.cell (a := w1) inferInstance (he1.cell z0)
  have xf : (w1.alloc (.cells #[.slice d0 P.length m0] 26)).frozen? ⟨w.heap.size, 0, none⟩ = false := Ext.frozen (a := w1) inferInstance (he1.cell z0) (he1.frozen z0 zf)
  have hBW : w.heap.size + 1 ≤ (w1.alloc (.cells #[.slice d0 P.length m0] 26)).heap.size := Nat.le_trans hB1 (Ext.size (a := w1) inferInstance)
  clear z0 zf hown
  obtain ⟨b, hbb⟩ : ∃ b, b = w1.heap.size := ⟨_, rfl⟩
  rw [← hbb] at own0
  go_upto_region 2 with fail
  generalize w1.alloc (.cells #[.slice d0 P.length m0] 26) = W at *
  rw [← hbb]
  replace hbb := hid hbb
  replace hvs := hid hvs
  replace hM0 := hid hM0
  go_wp2
  go_loopw [4] (fun i wr => ∃ x : Nat, x ≤ P.length ∧ i = .int .i64 x ∧ Below (w.heap.size + 1) W wr ∧ ∃ M, TabOk M P.length ∧ Own wr (w.heap.size + 1) (rowsOf 27 3 (.slice d0 P.length m0) vs M ++ [boxRow 26 1 b [.slice d0 P.length m0]])) (fun i _ => P.length - (intOf i).toNat)
  case atStart => exact ⟨0, by omega, rfl, Below.refl _ _, _, hM0.out, own0⟩
  case round =>
    obtain ⟨x, hx, rfl, hb0, M, hM, hown⟩ := hrel
    obtain ⟨wo, rfl⟩ : ∃ y : World, y = wr := ⟨_, rfl⟩
    by_cases hlt : x < P.length
    · replace hM := hid hM
      go_wp2
      go_loopw [5] (fun j wr => ∃ y : Nat, y ≤ P.length ∧ j = .int .i64 y ∧ Below (w.heap.size + 1) W wr ∧ ∃ M, TabOk M P.length ∧ Own wr (w.heap.size + 1) (rowsOf 27 3 (.slice d0 P.length m0) vs M ++ [boxRow 26 1 b [.slice d0 P.length m0]])) (fun j _ => P.length - (intOf j).toNat)
      case atStart => exact ⟨0, by omega, rfl, hb0, M, hM.out, hown⟩
      case round =>
        obtain ⟨y, hy, rfl, hb1, M1, hM1, hown1⟩ := hrel
        obtain ⟨wq, rfl⟩ : ∃ y : World, y = wr := ⟨_, rfl⟩
        by_cases hlty : y < P.length
        · have eq : Ext w wq := ⟨eW.below.trans (hb1.mono (Nat.le_succ _))⟩
          have e0q : Ext w0 wq := Ext.trans ‹Ext w0 w› eq
          obtain ⟨bp, op, rfl, hcx⟩ := hP.at (w' := wq) hlt
          obtain ⟨bp2, op2, hpp, hcy⟩ := hP.at (w' := wq) hlty
          cases hpp
          have hbx := hb.out x hlt
          have hby := hb.out y hlty
          obtain ⟨gr, mr, hu, hBg⟩ := rw_form hown1 (by rw [hvs.out, hM1.1]) (j := x) (by rw [hM1.1]; exact hlt) (by rw [(hM1.2 x hlt).1]; omega)
          rw [(hM1.2 x hlt).1] at hu
          have hdd : ∃ gd, d0 = some ⟨gd, 0, none⟩ := by
            have h1 : Own wq (w.heap.size + 1) (⟨27, 1, .slice d0 P.length m0, vs.length, vs⟩ :: (List.zipWith (intRowOf 3) vs M1 ++ [boxRow 26 1 b [.slice d0 P.length m0]])) := hown1
            rw [hvs.out] at h1
            exact h1.at (j := 0) (by omega)
          obtain ⟨gd, rfl⟩ := hdd
          have tb : wq.cell? ⟨b, 0, none⟩ = some (.slice (some ⟨gd, 0, none⟩) P.length m0) := ow_cell hown1 (List.mem_append_right _ (List.Mem.head _)) (j := 0) (by omega)
          have tg := (rw_cell hown1 hvs.out hu).1
          have tq := (rw_at hown1 (by rw [hM1.1]; exact hlt) hu (hM1.2 x hlt).1 hlty)
          have hnew := rw_put hown1 (by rw [hvs.out, hM1.1]) (by rw [hM1.1]; exact hlt) hu (hM1.2 x hlt).1 y (max (nth P x - nth P y) (nth P y - nth P x))
          have hMn := hid (hM1.set y (x := max (nth P x - nth P y) (nth P y - nth P x)) hlt (by omega))
          obtain ⟨px, hpx⟩ : ∃ q, q = nth P x := ⟨_, rfl⟩
          obtain ⟨py, hpy⟩ : ∃ q, q = nth P y := ⟨_, rfl⟩
          rw [← hpx] at hcx hbx
          rw [← hpy] at hcy hby
          rw [← hpx, ← hpy] at hnew hMn
          clear hpx hpy
          obtain ⟨mx, hmx⟩ : ∃ q, q = max (px - py) (py - px) := ⟨_, rfl⟩
          rw [← hmx] at hnew hMn
          have hmxi := hid hmx.symm
          clear hmx
          have hMx1 := hid hM1
          clear hM1
          go_upto_region 8 with fail
          have ed : Ext wq wq.drew := inferInstance
          have tb' := ed.cell tb
          have tg' := ed.cell tg
          have cx' := ed.cell hcx
          have cy' := ed.cell hcy
          have tq' := ed.cell tq.1
          have tqf' := ed.frozen tq.1 tq.2
          have hbd : Below (w.heap.size + 1) W wq.drew := hb1.drew
          have hnew' : Own (wq.drew.setCell ⟨gr, y, none⟩ (.int .i64 mx)) (w.heap.size + 1) (rowsOf 27 3 (.slice (some ⟨gd, 0, none⟩) P.length m0) vs (M1.set x ((row M1 x).set y mx)) ++ [boxRow 26 1 b [.slice (some ⟨gd, 0, none⟩) P.length m0]]) := hnew
          clear tb tg hcx hcy hnew ed hb1
          refine wp_region_held_drew (S := fun w' => Below (w.heap.size + 1) W w' ∧ w'.cell? ⟨b, 0, none⟩ = some (.slice (some ⟨gd, 0, none⟩) P.length m0) ∧ w'.cell? ⟨gd, x, none⟩ = some (.slice (some ⟨gr, 0, none⟩) P.length mr) ∧ w'.cell? ⟨bp, op + x, none⟩ = some (.int .i64 px) ∧ w'.cell? ⟨bp, op + y, none⟩ = some (.int .i64 py)) (by kernel_rfl) ⟨hbd, tb', tg', cx', cy'⟩ (fun hHeld0 => ?_)
          generalize wq.drew = wd at *
          have hcu := (hu)
          replace hu := hid hu
          have hbW : Below (w.heap.size + 1) W (wd.setCell ⟨gr, y, none⟩ (.int .i64 mx)) := hbd.setCell hBg _
          have hSf : (wd.setCell ⟨gr, y, none⟩ (.int .i64 mx)).cell? ⟨b, 0, none⟩ = some (.slice (some ⟨gd, 0, none⟩) P.length m0) ∧ (wd.setCell ⟨gr, y, none⟩ (.int .i64 mx)).cell? ⟨gd, x, none⟩ = some (.slice (some ⟨gr, 0, none⟩) P.length mr) ∧ (wd.setCell ⟨gr, y, none⟩ (.int .i64 mx)).cell? ⟨bp, op + x, none⟩ = some (.int .i64 px) ∧ (wd.setCell ⟨gr, y, none⟩ (.int .i64 mx)).cell? ⟨bp, op + y, none⟩ = some (.int .i64 py) := by
            have hne : bp ≠ gr := by
              obtain ⟨b1, o1, h4, h5⟩ := hPc.out x hlt
              cases h4
              have h1 := World.block_lt_of_cell? w0 _ h5
              have h2 := (‹Ext w0 w›).size
              intro e
              subst e
              simp at h1
              omega
            refine ⟨ow_cell hnew' (List.mem_append_right _ (List.Mem.head _)) (j := 0) (by omega), (rw_cell hnew' hvs.out hcu).1, ?_, ?_⟩
            · rw [World.cell?_setCell_far _ _ _ _ hne.symm]; exact cx'
            · rw [World.cell?_setCell_far _ _ _ _ hne.symm]; exact cy'
          replace hSf := hid hSf
          clear hcu
          refine wpAnyH_take (i := 0) (v := .pointer (some ⟨b, 0, none⟩)) rfl (by kernel_rfl) (by kernel_rfl) (by kernel_rfl) (fun _ _ _ h => h) (Or.inl ⟨by rfl, by intro wx hx; go_simp⟩) (by assumption) ?_
          try simp only [List.getElem_toArray, List.getElem_cons_zero, Act.put, List.setIfInBounds_toArray, List.set_cons_zero, List.set_cons_succ]
          refine wpAnyH_take (i := 1) (v := .slice (some ⟨gd, 0, none⟩) P.length m0) rfl (by kernel_rfl) (by kernel_rfl) (by kernel_rfl) (fun _ _ _ h => h) (Or.inl ⟨by rfl, by intro wx hx; obtain ⟨_, _, _, _, _⟩ := hx; go_simp⟩) (by assumption) ?_
          try simp only [List.getElem_toArray, List.getElem_cons_succ, List.getElem_cons_zero, Act.put, List.setIfInBounds_toArray, List.set_cons_zero, List.set_cons_succ]
          refine wpAnyH_take (i := 2) (v := .int .i64 x) rfl (by kernel_rfl) (by kernel_rfl) (by kernel_rfl) (fun _ _ _ h => h) (Or.inl ⟨by rfl, by intro wx hx; go_simp⟩) (by assumption) ?_
          try simp only [List.getElem_toArray, List.getElem_cons_succ, List.getElem_cons_zero, Act.put, List.setIfInBounds_toArray, List.set_cons_zero, List.set_cons_succ]
          refine wpAnyH_take (i := 3) (v := .pointer (some ⟨gd, x, none⟩)) rfl (by kernel_rfl) (by kernel_rfl) (by kernel_rfl) (fun _ _ _ h => h) (Or.inl ⟨by rfl, by intro wx hx; go_simp⟩) (by assumption) ?_
          try simp only [List.getElem_toArray, List.getElem_cons_succ, List.getElem_cons_zero, Act.put, List.setIfInBounds_toArray, List.set_cons_zero, List.set_cons_succ]
          refine wpAnyH_take (i := 4) (v := .slice (some ⟨gr, 0, none⟩) P.length mr) rfl (by kernel_rfl) (by kernel_rfl) (by kernel_rfl) (fun _ _ _ h => h) (Or.inl ⟨by rfl, by intro wx hx; obtain ⟨_, _, _, _, _⟩ := hx; go_simp⟩) (by assumption) ?_
          try simp only [List.getElem_toArray, List.getElem_cons_succ, List.getElem_cons_zero, Act.put, List.setIfInBounds_toArray, List.set_cons_zero, List.set_cons_succ]
          refine wpAnyH_take (i := 5) (v := .int .i64 y) rfl (by kernel_rfl) (by kernel_rfl) (by kernel_rfl) (fun _ _ _ h => h) (Or.inl ⟨by rfl, by intro wx hx; go_simp⟩) (by assumption) ?_
          try simp only [List.getElem_toArray, List.getElem_cons_succ, List.getElem_cons_zero, Act.put, List.setIfInBounds_toArray, List.set_cons_zero, List.set_cons_succ]
          refine wpAnyH_take (i := 6) (v := .slice (some ⟨bp, op, none⟩) P.length cP) rfl (by kernel_rfl) (by kernel_rfl) (by kernel_rfl) (fun _ _ _ h => h) (Or.inl ⟨by rfl, by intro wx hx; go_simp⟩) (by assumption) ?_
          try simp only [List.getElem_toArray, List.getElem_cons_succ, List.getElem_cons_zero, Act.put, List.setIfInBounds_toArray, List.set_cons_zero, List.set_cons_succ]
          refine wpAnyH_take (i := 7) (v := .int .i64 x) rfl (by kernel_rfl) (by kernel_rfl) (by kernel_rfl) (fun _ _ _ h => h) (Or.inl ⟨by rfl, by intro wx hx; go_simp⟩) (by assumption) ?_
          try simp only [List.getElem_toArray, List.getElem_cons_succ, List.getElem_cons_zero, Act.put, List.setIfInBounds_toArray, List.set_cons_zero, List.set_cons_succ]
          refine wpAnyH_take (i := 8) (v := .pointer (some ⟨bp, op + x, none⟩)) rfl (by kernel_rfl) (by kernel_rfl) (by kernel_rfl) (fun _ _ _ h => h) (Or.inl ⟨by rfl, by intro wx hx; go_simp⟩) (by assumption) ?_
          try simp only [List.getElem_toArray, List.getElem_cons_succ, List.getElem_cons_zero, Act.put, List.setIfInBounds_toArray, List.set_cons_zero, List.set_cons_succ]
          refine wpAnyH_take (i := 9) (v := .int .i64 px) rfl (by kernel_rfl) (by kernel_rfl) (by kernel_rfl) (fun _ _ _ h => h) (Or.inl ⟨by rfl, by intro wx hx; obtain ⟨_, _, _, _, _⟩ := hx; go_simp⟩) (by assumption) ?_
          try simp only [List.getElem_toArray, List.getElem_cons_succ, List.getElem_cons_zero, Act.put, List.setIfInBounds_toArray, List.set_cons_zero, List.set_cons_succ]
          refine wpAnyH_take (i := 10) (v := .slice (some ⟨bp, op, none⟩) P.length cP) rfl (by kernel_rfl) (by kernel_rfl) (by kernel_rfl) (fun _ _ _ h => h) (Or.inl ⟨by rfl, by intro wx hx; go_simp⟩) (by assumption) ?_
          try simp only [List.getElem_toArray, List.getElem_cons_succ, List.getElem_cons_zero, Act.put, List.setIfInBounds_toArray, List.set_cons_zero, List.set_cons_succ]
          refine wpAnyH_take (i := 11) (v := .int .i64 y) rfl (by kernel_rfl) (by kernel_rfl) (by kernel_rfl) (fun _ _ _ h => h) (Or.inl ⟨by rfl, by intro wx hx; go_simp⟩) (by assumption) ?_
          try simp only [List.getElem_toArray, List.getElem_cons_succ, List.getElem_cons_zero, Act.put, List.setIfInBounds_toArray, List.set_cons_zero, List.set_cons_succ]
          refine wpAnyH_take (i := 12) (v := .pointer (some ⟨bp, op + y, none⟩)) rfl (by kernel_rfl) (by kernel_rfl) (by kernel_rfl) (fun _ _ _ h => h) (Or.inl ⟨by rfl, by intro wx hx; go_simp⟩) (by assumption) ?_
          try simp only [List.getElem_toArray, List.getElem_cons_succ, List.getElem_cons_zero, Act.put, List.setIfInBounds_toArray, List.set_cons_zero, List.set_cons_succ]
          refine wpAnyH_take (i := 13) (v := .int .i64 py) rfl (by kernel_rfl) (by kernel_rfl) (by kernel_rfl) (fun _ _ _ h => h) (Or.inl ⟨by rfl, by intro wx hx; obtain ⟨_, _, _, _, _⟩ := hx; go_simp⟩) (by assumption) ?_
          try simp only [List.getElem_toArray, List.getElem_cons_succ, List.getElem_cons_zero, Act.put, List.setIfInBounds_toArray, List.set_cons_zero, List.set_cons_succ]
          refine wpAnyH_take (i := 14) (v := .int .i64 (px - py)) rfl (by kernel_rfl) (by kernel_rfl) (by kernel_rfl) (fun _ _ _ h => h) (Or.inl ⟨by rfl, by intro wx hx; go_simp; exact IntWalk.i64_in _ (by omega)⟩) (by assumption) ?_
          try simp only [List.getElem_toArray, List.getElem_cons_succ, List.getElem_cons_zero, Act.put, List.setIfInBounds_toArray, List.set_cons_zero, List.set_cons_succ]
          refine wpAnyH_take (i := 15) (v := .slice (some ⟨bp, op, none⟩) P.length cP) rfl (by kernel_rfl) (by kernel_rfl) (by kernel_rfl) (fun _ _ _ h => h) (Or.inl ⟨by rfl, by intro wx hx; go_simp⟩) (by assumption) ?_
          try simp only [List.getElem_toArray, List.getElem_cons_succ, List.getElem_cons_zero, Act.put, List.setIfInBounds_toArray, List.set_cons_zero, List.set_cons_succ]
          refine wpAnyH_take (i := 16) (v := .int .i64 y) rfl (by kernel_rfl) (by kernel_rfl) (by kernel_rfl) (fun _ _ _ h => h) (Or.inl ⟨by rfl, by intro wx hx; go_simp⟩) (by assumption) ?_
          try simp only [List.getElem_toArray, List.getElem_cons_succ, List.getElem_cons_zero, Act.put, List.setIfInBounds_toArray, List.set_cons_zero, List.set_cons_succ]
          refine wpAnyH_take (i := 17) (v := .pointer (some ⟨bp, op + y, none⟩)) rfl (by kernel_rfl) (by kernel_rfl) (by kernel_rfl) (fun _ _ _ h => h) (Or.inl ⟨by rfl, by intro wx hx; go_simp⟩) (by assumption) ?_
          try simp only [List.getElem_toArray, List.getElem_cons_succ, List.getElem_cons_zero, Act.put, List.setIfInBounds_toArray, List.set_cons_zero, List.set_cons_succ]
          refine wpAnyH_take (i := 18) (v := .int .i64 py) rfl (by kernel_rfl) (by kernel_rfl) (by kernel_rfl) (fun _ _ _ h => h) (Or.inl ⟨by rfl, by intro wx hx; obtain ⟨_, _, _, _, _⟩ := hx; go_simp⟩) (by assumption) ?_
          try simp only [List.getElem_toArray, List.getElem_cons_succ, List.getElem_cons_zero, Act.put, List.setIfInBounds_toArray, List.set_cons_zero, List.set_cons_succ]
          refine wpAnyH_take (i := 19) (v := .slice (some ⟨bp, op, none⟩) P.length cP) rfl (by kernel_rfl) (by kernel_rfl) (by kernel_rfl) (fun _ _ _ h => h) (Or.inl ⟨by rfl, by intro wx hx; go_simp⟩) (by assumption) ?_
          try simp only [List.getElem_toArray, List.getElem_cons_succ, List.getElem_cons_zero, Act.put, List.setIfInBounds_toArray, List.set_cons_zero, List.set_cons_succ]
          refine wpAnyH_take (i := 20) (v := .int .i64 x) rfl (by kernel_rfl) (by kernel_rfl) (by kernel_rfl) (fun _ _ _ h => h) (Or.inl ⟨by rfl, by intro wx hx; go_simp⟩) (by assumption) ?_
          try simp only [List.getElem_toArray, List.getElem_cons_succ, List.getElem_cons_zero, Act.put, List.setIfInBounds_toArray, List.set_cons_zero, List.set_cons_succ]
          refine wpAnyH_take (i := 21) (v := .pointer (some ⟨bp, op + x, none⟩)) rfl (by kernel_rfl) (by kernel_rfl) (by kernel_rfl) (fun _ _ _ h => h) (Or.inl ⟨by rfl, by intro wx hx; go_simp⟩) (by assumption) ?_
          try simp only [List.getElem_toArray, List.getElem_cons_succ, List.getElem_cons_zero, Act.put, List.setIfInBounds_toArray, List.set_cons_zero, List.set_cons_succ]
          refine wpAnyH_take (i := 22) (v := .int .i64 px) rfl (by kernel_rfl) (by kernel_rfl) (by kernel_rfl) (fun _ _ _ h => h) (Or.inl ⟨by rfl, by intro wx hx; obtain ⟨_, _, _, _, _⟩ := hx; go_simp⟩) (by assumption) ?_
          try simp only [List.getElem_toArray, List.getElem_cons_succ, List.getElem_cons_zero, Act.put, List.setIfInBounds_toArray, List.set_cons_zero, List.set_cons_succ]
          refine wpAnyH_take (i := 23) (v := .int .i64 (py - px)) rfl (by kernel_rfl) (by kernel_rfl) (by kernel_rfl) (fun _ _ _ h => h) (Or.inl ⟨by rfl, by intro wx hx; go_simp; exact IntWalk.i64_in _ (by omega)⟩) (by assumption) ?_
          try simp only [List.getElem_toArray, List.getElem_cons_succ, List.getElem_cons_zero, Act.put, List.setIfInBounds_toArray, List.set_cons_zero, List.set_cons_succ]
          refine wpAnyH_ready (rs := [24]) (by kernel_rfl) (by simp) ?_
          refine AllReadyH.cons rfl (fun K hK => ?_) AllReadyH.nil
          go_simp
          go_at_call 87
          refine (l1Most_any _ _ _).mono ?_
          rw [hmxi.out]
          rintro e w8 ⟨rfl, rfl⟩
          go_wp2_with fail
          refine hK.out _ _ hHeld0 (fun _ => ?_)
          clear hK K
          try simp only [List.getElem_toArray, List.getElem_cons_succ, List.getElem_cons_zero, Act.put, List.setIfInBounds_toArray, List.set_cons_zero, List.set_cons_succ]
          refine wpAnyH_take (i := 25) (v := .pointer (some ⟨gr, y, none⟩)) rfl (by kernel_rfl) (by kernel_rfl) (by kernel_rfl) (fun _ _ _ h => h) (Or.inl ⟨by rfl, by intro wx hx; go_simp⟩) (by assumption) ?_
          try simp only [List.getElem_toArray, List.getElem_cons_succ, List.getElem_cons_zero, Act.put, List.setIfInBounds_toArray, List.set_cons_zero, List.set_cons_succ]
          refine wpAnyH_ready (rs := [26]) (by kernel_rfl) (by simp) ?_
          refine AllReadyH.cons rfl (fun K hK => ?_) AllReadyH.nil
          go_simp
          refine hK.out _ _ ⟨hbW, hSf.out⟩ (fun _ => ?_)
          clear hK K
          try simp only [List.getElem_toArray, List.getElem_cons_succ, List.getElem_cons_zero, Act.put, List.setIfInBounds_toArray, List.set_cons_zero, List.set_cons_succ]
          refine wpAnyH_done (by kernel_rfl) ?_ _
          go_wp2_with fail
          go_roundw
          case rel => exact ⟨y + 1, by omega, by go_num, hbW, _, hMn.out, hnew'⟩
          case measure => simp [intOf]; omega
        · have hyn : y = P.length := by omega
          replace hyn := hid hyn
          go_wp2
          go_roundw
          case rel => exact ⟨x + 1, by omega, by go_num, hb1, M1, hM1, hown1⟩
          case measure => simp [intOf]; omega
    · have hxn : x = P.length := by omega
      replace hxn := hid hxn
      have tb : wo.cell? ⟨b, 0, none⟩ = some (.slice d0 P.length m0) := ow_cell hown (List.mem_append_right _ (List.Mem.head _)) (j := 0) (by omega)
      have xr : wo.cell? ⟨w.heap.size, 0, none⟩ = some (.slice none 0 0) := (hb0.cell (p := ⟨w.heap.size, 0, none⟩) (Nat.lt_succ_self _)).trans x0
      have xrf : wo.frozen? ⟨w.heap.size, 0, none⟩ = false := (hb0.frozen (p := ⟨w.heap.size, 0, none⟩) (Nat.lt_succ_self _)).trans xf
      have hset : (wo.setCell ⟨w.heap.size, 0, none⟩ (.slice d0 P.length m0)).cell? ⟨w.heap.size, 0, none⟩ = some (.slice d0 P.length m0) := by go_simp
      have hown3 := (hown.left.setBelow (p := ⟨w.heap.size, 0, none⟩) (Nat.lt_succ_self _) (.slice d0 P.length m0)).mono (Nat.le_succ _)
      have eF : Ext w (wo.setCell ⟨w.heap.size, 0, none⟩ (.slice d0 P.length m0)) := ⟨eW.below.trans ((hb0.mono (Nat.le_succ _)).setCell (Nat.le_refl _) _)⟩
      go_wp2
      refine bodyPost_ret (v := .agg #[.slice d0 P.length m0]) (by simp [results, Tryz.results60, go_sem, hset]) rfl ?_
      exact ⟨_, _, vs, M, rfl, hvs.out, hM, hown3, eF⟩
end Go.Proofs.YtllfchcocgdcjaaGreat

/- Regions that draw their order, whose last operation writes what they read: the condition on the world is not asked behind operations that wait for all others. -/
namespace Go.Proofs.YtllfchcocgdcjaaGreat
open Go

section
variable {P : Program} {ops : Array Oper} {Q : Exit → Act → World → Prop} {md : Region.Mode} {S : World → Prop} {X : Nat → Bool}

def wpAnyE (P : Program) (md : Region.Mode) (ops : Array Oper) (Q : Exit → Act → World → Prop) (S : World → Prop) (X : Nat → Bool) : Nat → Array Bool → Act → World → Prop
  | 0, listed, a, w => Region.ready md ops listed = [] ∧ Q .normal a w
  | fuel + 1, listed, a, w =>
    (Region.ready md ops listed = [] → Q .normal a w) ∧
    ∀ i ∈ Region.ready md ops listed, wpOp P ops Q i (fun a' w' => (X i = true ∨ S w') ∧ wpAnyE P md ops Q S X fuel (listed.setIfInBounds i true) a' w') a w
theorem wpAny_of_E : ∀ (fuel : Nat) (listed : Array Bool) (a : Act) (w : World), wpAnyE P md ops Q S X fuel listed a w → wpAny P md ops Q fuel listed a w
  | 0, _, _, _, h => h
  | fuel + 1, _, _, _, h => ⟨h.1, fun i hi => wpOp_mono (fun a' w' h' => wpAny_of_E fuel _ a' w' h'.2) (h.2 i hi)⟩
/-- whoever is free of the condition waits for i -/
def waitsB (md : Region.Mode) (ops : Array Oper) (X : Nat → Bool) (i : Nat) : Bool :=
  (List.range ops.size).all fun j => !X j || (j == i || match ops[j]? with | some o => o.after.toList.any (fun e => Region.binds md e && e.on == i) | none => true)
theorem waitsB_spec {i : Nat} (h : waitsB md ops X i = true) : ∀ j oj, ops[j]? = some oj → X j = true → j ≠ i → ∃ e ∈ oj.after, Region.binds md e = true ∧ e.on = i := by
  intro j oj hj hx hne
  have h1 := List.all_eq_true.1 h j (List.mem_range.2 (Array.getElem?_eq_some_iff.1 hj).1)
  simp only [hx, hj, Bool.not_true, Bool.false_or, Bool.or_eq_true, beq_iff_eq] at h1
  rcases h1 with h1 | h1
  · exact absurd h1 hne
  · obtain ⟨e, he, h2⟩ := List.any_eq_true.1 h1
    simp only [Bool.and_eq_true, beq_iff_eq] at h2
    exact ⟨e, Array.mem_toList_iff.1 he, h2.1, h2.2⟩
theorem wpAnyE_first {i : Nat} {oi : Oper} {v : Value} (hi : ops[i]? = some oi) (hsel : ∀ (j : Nat) (o : Oper) cs b, ops[j]? = some o → o.op ≠ .select cs b)
    (hQ : ∀ c a w, Q (.panic c) (a.put oi.dst v) w → Q (.panic c) a w) (hX : ∀ j oj, ops[j]? = some oj → X j = true → j ≠ i → ∃ e ∈ oj.after, Region.binds md e = true ∧ e.on = i) :
    ∀ (fuel : Nat) (listed : Array Bool) (a : Act) (w : World),
      (∀ j oj, ops[j]? = some oj → j ≠ i → listed.getD j true = false → (∀ e ∈ oj.after, Region.binds md e = true → e.on ≠ i) → oi.apart ops oj = true) →
      i ∈ Region.ready md ops listed → YieldsIf P ops S oi v a → S w →
      wpAnyE P md ops Q S X fuel (listed.setIfInBounds i true) (a.put oi.dst v) w → wpAnyE P md ops Q S X (fuel + 1) listed a w := by
  intro fuel
  induction fuel with
  | zero =>
    intro listed a w _ hr hy hS H
    refine ⟨fun h => (by rw [h] at hr; cases hr), fun j hj => ?_⟩
    by_cases hji : j = i
    · subst hji; exact hy.wpOp hi hS ⟨.inr hS, H⟩
    · have := ready_mono hj hji
      rw [H.1] at this
      cases this
  | succ fuel ih =>
    intro listed a w hfree hr hy hS H
    refine ⟨fun h => (by rw [h] at hr; cases hr), fun j hj => ?_⟩
    by_cases hji : j = i
    · subst hji; exact hy.wpOp hi hS ⟨.inr hS, H⟩
    · have h1 := H.2 j (ready_mono hj hji)
      obtain ⟨hjun, oj, hoj, hall⟩ := mem_ready.1 hj
      have hnot : ∀ e ∈ oj.after, Region.binds md e = true → e.on ≠ i := fun e he hb heq => by
        have h1 := hall e he hb
        have h0 := (mem_ready.1 hr).1
        rw [heq] at h1
        rcases Nat.lt_or_ge i listed.size with h' | h'
        · simp [h'] at h0 h1; rw [h0] at h1; cases h1
        · simp [Array.getElem?_eq_none h'] at h1
      have h2 := wpOp_putIf hoj (hfree j oj hoj hji hjun hnot) (fun cs b => hsel i oi cs b hi) (fun cs b => hsel j oj cs b hoj) hQ hy h1
      have hfree' : ∀ k ok, ops[k]? = some ok → k ≠ i → (listed.setIfInBounds j true).getD k true = false →
          (∀ e ∈ ok.after, Region.binds md e = true → e.on ≠ i) → oi.apart ops ok = true := fun k ok hk hki hun hno => by
        refine hfree k ok hk hki ?_ hno
        by_cases hjk : j = k
        · subst hjk; exact hjun
        · rw [getD_set_ne true hjk] at hun; exact hun
      refine wpOp_mono (fun a' w' h3 => ?_) h2
      have hSw : S w' := by
        rcases h3.2.1 with hx | hs
        · obtain ⟨e, he, hb, heq⟩ := hX j oj hoj hx hji
          exact absurd heq (hnot e he hb)
        · exact hs
      refine ⟨.inr hSw, ih (listed.setIfInBounds j true) a' w' hfree' (ready_mono hr (Ne.symm hji)) h3.1 hSw ?_⟩
      rw [Array.setIfInBounds_comm _ _ hji]
      exact h3.2.2
theorem wpAnyE_take {i : Nat} {oi : Oper} {v : Value} {fuel : Nat} {listed : Array Bool} {a : Act} {w : World} (hi : ops[i]? = some oi)
    (hs : Region.noSelect ops = true) (hf : Region.free md ops listed i = true) (hr : (Region.ready md ops listed).contains i = true)
    (hQ : ∀ c a w, Q (.panic c) (a.put oi.dst v) w → Q (.panic c) a w) (hy : YieldsIf P ops S oi v a) (hS : S w)
    (h : wpAnyE P md ops Q S X fuel (listed.setIfInBounds i true) (a.put oi.dst v) w) (hX : waitsB md ops X i = true := by kernel_rfl) : wpAnyE P md ops Q S X (fuel + 1) listed a w :=
  wpAnyE_first hi (Region.noSelect_spec hs) hQ (waitsB_spec hX) fuel listed a w (Region.free_spec hi hf) (by simpa using hr) hy hS h
def AllReadyE (P : Program) (md : Region.Mode) (ops : Array Oper) (Q : Exit → Act → World → Prop) (S : World → Prop) (X : Nat → Bool) (fuel : Nat) (listed : Array Bool) (a : Act) (w : World) (rs : List Nat) : Prop :=
  ∀ i ∈ rs, wpOp P ops Q i (fun a' w' => (X i = true ∨ S w') ∧ wpAnyE P md ops Q S X fuel (listed.setIfInBounds i true) a' w') a w
theorem AllReadyE.nil {fuel : Nat} {listed : Array Bool} {a : Act} {w : World} : AllReadyE P md ops Q S X fuel listed a w [] := fun _ h => by cases h
theorem AllReadyE.cons {fuel : Nat} {listed : Array Bool} {a : Act} {w : World} {i : Nat} {o : Oper} {rs : List Nat} (ho : ops[i]? = some o)
    (h : ∀ K' : Act → World → Prop, Shut (∀ a w, (X i = true ∨ S w) → ((X i = true ∨ S w) → wpAnyE P md ops Q S X fuel (listed.setIfInBounds i true) a w) → K' a w) → if Region.wanted o (yielded ops a.tmps) = true then Oper.wp P o a w K' Q else K' (a.put o.dst undef) w)
    (hs : AllReadyE P md ops Q S X fuel listed a w rs) : AllReadyE P md ops Q S X fuel listed a w (i :: rs) := fun j hj => by
  rcases List.mem_cons.1 hj with rfl | hj
  · exact wpOp_step ho (fun K' hK => h K' (fun a w hS hW => hK a w ⟨hS, hW hS⟩))
  · exact hs j hj
theorem wpAnyE_ready {rs : List Nat} {fuel : Nat} {listed : Array Bool} {a : Act} {w : World} (hr : Region.ready md ops listed = rs) (hne : rs ≠ [])
    (h : AllReadyE P md ops Q S X fuel listed a w rs) : wpAnyE P md ops Q S X (fuel + 1) listed a w :=
  ⟨fun h0 => absurd (hr ▸ h0) hne, hr ▸ h⟩
theorem wpAnyE_done {listed : Array Bool} {a : Act} {w : World} (hr : Region.ready md ops listed = []) (h : Q .normal a w) :
    ∀ fuel, wpAnyE P md ops Q S X fuel listed a w
  | 0 => ⟨hr, h⟩
  | _ + 1 => ⟨fun _ => h, by rw [hr]; simp⟩
theorem wp_region_E_drew {id : Nat} {a : Act} {w : World} (hm : P.follows .mixedOrders = true) (hS : S w.drew)
    (h : S w.drew → wpAnyE P .any ops Q S X ops.size (Array.replicate ops.size false) a w.drew) : (Code.region id ops true).wp P Q a w :=
  wp_region_any hm (wpAny_of_E _ _ _ _ (h hS))
end
end Go.Proofs.YtllfchcocgdcjaaGreat

/- The greedy state, the reference's and the program's. -/
namespace Go.Proofs.YtllfchcocgdcjaaGreat
open Go.RowKit

end Go.Proofs.YtllfchcocgdcjaaGreat

/- The algorithms that are made row by row: the reference's and the program's. Written by made.py. -/
namespace Go.Proofs.YtllfchcocgdcjaaGreat
open Go.RowKit

def byRow (f : Nat → Nat → Int) (s r : Nat) : List Int := (List.range r).map fun r => f s r
def byTo (f : Nat → Nat → Int) (m s : Nat) : List (List Int) := (List.range s).map fun s => byRow f s m
theorem byRow_succ (f : Nat → Nat → Int) (s r : Nat) : byRow f s (r + 1) = byRow f s r ++ [f s r] := by simp [byRow, List.range_succ]
theorem byTo_succ (f : Nat → Nat → Int) (m s : Nat) : byTo f m (s + 1) = byTo f m s ++ [byRow f s m] := by simp [byTo, List.range_succ]
theorem byRow_length (f : Nat → Nat → Int) (s r : Nat) : (byRow f s r).length = r := by simp [byRow]
theorem byTo_length (f : Nat → Nat → Int) (m s : Nat) : (byTo f m s).length = s := by simp [byTo]

theorem Own.formVals {w : World} {B e : Nat} {v : Value} {vs : List Value} {R : List Row} (h : Own w B (valRowOf e v vs :: R)) : ∃ d m, v = .slice d vs.length m := h.form
/-- the new row goes behind the others -/
theorem rows_turn {w : World} {B e1 e2 : Nat} {v rv : Value} {vs : List Value} {M : List (List Int)} {xs : List Int} (h : Own w B (intRowOf e2 rv xs :: rowsOf e1 e2 v vs M)) :
    Own w B (⟨e1, 1, v, vs.length, vs⟩ :: (List.zipWith (intRowOf e2) vs M ++ [intRowOf e2 rv xs])) :=
  h.perm (((List.perm_append_singleton (intRowOf e2 rv xs) (List.zipWith (intRowOf e2) vs M)).cons _).trans (List.Perm.swap _ _ _))
theorem rows_snoc {w : World} {B e1 e2 : Nat} {v rv : Value} {vs : List Value} {M : List (List Int)} {xs : List Int} (h : Own w B (⟨e1, 1, v, vs.length + 1, vs ++ [rv]⟩ :: (List.zipWith (intRowOf e2) vs M ++ [intRowOf e2 rv xs]))) (hl : vs.length = M.length) :
    Own w B (rowsOf e1 e2 v (vs ++ [rv]) (M ++ [xs])) := by
  unfold rowsOf valRowOf
  rw [List.zipWith_append hl, List.length_append]
  exact h

def madeAt (M S : List (List Int)) (lz : Bool) (s r : Nat) : Int := if lz = true ∧ 0 ≤ cell S r s then (s : Int) else greedyAt M S s r
def madeL (M S : List (List Int)) (lz : Bool) : List (List Int) := byTo (madeAt M S lz) S.length M.length

end Go.Proofs.YtllfchcocgdcjaaGreat

/- Slices whose elements are arrays or structs of ints, as lists of rows of one length. -/
namespace Go.Proofs.YtllfchcocgdcjaaGreat
open Go.RowKit

theorem flatz_len {z : Nat} : ∀ {L : List (List Int)}, (∀ x ∈ L, x.length = z) → L.flatten.length = L.length * z
  | [], _ => by simp
  | x :: L, h => by
    have h1 := h x (by simp)
    have h2 := flatz_len (L := L) fun y hy => h y (by simp [hy])
    rw [List.flatten_cons, List.length_append, h1, h2, List.length_cons, Nat.add_mul, Nat.one_mul, Nat.add_comm]
theorem flat_get {z : Nat} : ∀ {L : List (List Int)}, (∀ x ∈ L, x.length = z) → ∀ {j k : Nat}, j < L.length → k < z → L.flatten[j * z + k]? = some (cell L j k)
  | [], _, _, _, hj, _ => by simp at hj
  | x :: L, h, 0, k, _, hk => by
    have h1 := h x (by simp)
    rw [List.flatten_cons, Nat.zero_mul, Nat.zero_add, List.getElem?_append_left (by omega)]
    have hk' : k < x.length := by omega
    simp [cell, row, nth, hk']
  | x :: L, h, j + 1, k, hj, hk => by
    have h1 := h x (by simp)
    have ih := flat_get (L := L) (fun y hy => h y (by simp [hy])) (j := j) (k := k) (by simpa using hj) hk
    rw [List.flatten_cons, List.getElem?_append_right (by rw [h1, Nat.add_mul]; omega), h1]
    rw [show (j + 1) * z + k - z = j * z + k by rw [Nat.add_mul, Nat.one_mul]; omega, ih]
    rfl

abbrev flatRowOf (e z : Nat) (v : Value) (L : List (List Int)) : Row := ⟨e, z, v, L.length, L.flatten.map (Value.int .i64)⟩

/-- The value v reads as a slice of elements of z ints each: the rows L. -/
def IsFlat (w : World) (v : Value) (z : Nat) (L : List (List Int)) : Prop :=
  ∃ a c, v = .slice a L.length c ∧ L.length ≤ 1000000 ∧ (∀ x ∈ L, x.length = z) ∧ (∀ x ∈ L, ∀ y ∈ x, I64 y) ∧
    ∀ j, j < L.length → ∃ b o, a = some ⟨b, o, none⟩ ∧ ∀ k, k < z → w.cell? ⟨b, o + j * z + k, none⟩ = some (.int .i64 (cell L j k))
theorem IsFlat.ext {w w' : World} {v : Value} {z : Nat} {L : List (List Int)} (h : IsFlat w v z L) [e : Ext w w'] : IsFlat w' v z L := by
  obtain ⟨a, c, h1, h2, h3, h5, h4⟩ := h
  refine ⟨a, c, h1, h2, h3, h5, fun j hj => ?_⟩
  obtain ⟨b, o, h6, h7⟩ := h4 j hj
  exact ⟨b, o, h6, fun k hk => e.cell (h7 k hk)⟩
theorem IsFlat.form {w : World} {v : Value} {z : Nat} {L : List (List Int)} (h : IsFlat w v z L) : ∃ a c, v = .slice a L.length c ∧ L.length ≤ 1000000 := by
  obtain ⟨a, c, h1, h2, _⟩ := h
  exact ⟨a, c, h1, h2⟩
theorem IsFlat.at {w w' : World} {a : Option Addr} {n c z : Nat} {L : List (List Int)} (h : IsFlat w (.slice a n c) z L) [e : Ext w w'] {j : Nat} (hj : j < L.length) :
    ∃ b o, a = some ⟨b, o, none⟩ ∧ ∀ k, k < z → w'.cell? ⟨b, o + j * z + k, none⟩ = some (.int .i64 (cell L j k)) := by
  obtain ⟨a', c', h1, h2, h3, _, h4⟩ := h
  obtain ⟨b, o, h5, h6⟩ := h4 j hj
  cases h1
  exact ⟨b, o, h5, fun k hk => e.cell (h6 k hk)⟩
theorem IsFlat.nil (w : World) (z : Nat) : IsFlat w (.slice none 0 0) z [] := ⟨none, 0, rfl, Nat.zero_le _, by simp, by simp, fun j hj => by simp at hj⟩
theorem IsFlat.zero (w : World) (d : Option Addr) (c z : Nat) : IsFlat w (.slice d ([] : List (List Int)).length c) z [] := ⟨d, c, rfl, Nat.zero_le _, by simp, by simp, fun j hj => by simp at hj⟩
theorem IsFlat.all {w : World} {v : Value} {z : Nat} {L : List (List Int)} (h : IsFlat w v z L) : L.length ≤ 1000000 ∧ (∀ x ∈ L, x.length = z) ∧ ∀ x ∈ L, ∀ y ∈ x, I64 y := by
  obtain ⟨a, c, _, h2, h3, h4, _⟩ := h
  exact ⟨h2, h3, h4⟩

theorem Own.formFlat {w : World} {B e z : Nat} {v : Value} {L : List (List Int)} {R : List Row} (h : Own w B (flatRowOf e z v L :: R)) : ∃ d m, v = .slice d L.length m := h.form
theorem Own.readsFlat {w : World} {B e z : Nat} {v : Value} {L : List (List Int)} {R : List Row} (h : Own w B (flatRowOf e z v L :: R)) (hs : L.length ≤ 1000000) (hz : ∀ x ∈ L, x.length = z) (hi : ∀ x ∈ L, ∀ y ∈ x, I64 y) : IsFlat w v z L := by
  rcases h.head.2 with ⟨h1, h2⟩ | ⟨g, cap, cur, hv, hb, hg, hc, hm, hzz, ht⟩
  · have hx : L = [] := List.eq_nil_of_length_eq_zero h2
    subst hx
    have h1' : v = .slice none 0 0 := h1
    rw [h1']; exact IsFlat.nil w z
  · have hv' : v = .slice (some ⟨g, 0, none⟩) L.length cap := hv
    refine ⟨_, cap, hv', hs, hz, hi, fun j hj => ⟨g, 0, rfl, fun k hk => ?_⟩⟩
    have ho := h.head
    simp only [hv'] at ho
    have hlt : j * z + k < L.length * z := by
      have h3 : (j + 1) * z ≤ L.length * z := Nat.mul_le_mul_right _ hj
      rw [Nat.add_mul, Nat.one_mul] at h3
      omega
    have := ho.cellAt (0 + j * z + k) (by omega)
    rw [this, Nat.zero_add, List.getElem?_map, flat_get hz hj hk]
    rfl
theorem flat_snoc {w : World} {B e z n : Nat} {v : Value} {L : List (List Int)} {x : List Int} {us : List Value} {R : List Row} (h : Own w B (⟨e, z, v, n + 1, L.flatten.map (Value.int .i64) ++ us⟩ :: R)) (hn : n = L.length) (hu : us = x.map (Value.int .i64)) : Own w B (flatRowOf e z v (L ++ [x]) :: R) := by
  subst hn
  subst hu
  have e1 : flatRowOf e z v (L ++ [x]) = ⟨e, z, v, L.length + 1, L.flatten.map (Value.int .i64) ++ x.map (Value.int .i64)⟩ := by
    unfold flatRowOf
    simp
  rw [e1]
  exact h
theorem flat_all {z : Nat} {L : List (List Int)} {x : List Int} (h : ∀ y ∈ L, y.length = z) (hx : x.length = z) : ∀ y ∈ L ++ [x], y.length = z := by
  intro y hy
  rcases List.mem_append.1 hy with hy | hy
  · exact h y hy
  · rw [List.mem_singleton.1 hy]; exact hx

section
variable {P : Program} {w : World} {ops : Array Oper} {rest : List Oper} {o : Oper} {a : Act} {Q : Exit → Act → World → Prop}
/-- 'append(s, x)': x, of z cells, lies in a new block of its own. -/
theorem wpList_append1z (hgd : o.guard = none) (s x : Operand) (t : TypeId)
    (ho : o.op = .call { callee := .builtin .append, args := #[s, x], argTypes := #[t, t] })
    {e z bytes : Nat} {zv : Value} (E : Elem P t e zv z bytes) {B : Nat} {R : List Row} {v : Value} {n : Nat} {cs : List Value} (hs : a.eval s = v)
    (own : Own w B (⟨e, z, v, n, cs⟩ :: R)) (hB : B ≤ w.heap.size) {us : List Value} (hus : us.length = z)
    (hx : a.eval x = .slice (some ⟨w.heap.size, 0, none⟩) 1 1) (h1 : ∀ u ∈ us, u.oneCell' = true) (h63 : n ≤ 17592186044415) (hb16 : (n + 1) * bytes ≤ 140737488355328)
    (h : ∀ v' w', Own w' B (⟨e, z, v', n + 1, cs ++ us⟩ :: R) → Below B w w' → wpList P ops Q rest (a.put o.dst v') w') : wpList P ops Q (o :: rest) a (w.alloc (.cells us.toArray e)) := by
  refine wpList_append_Own (w := w.alloc (.cells us.toArray e)) hgd ho E hs own.ext (by simp; omega) hx (news := us) (by omega) ?_ h1 (by unfold maxLen; omega) hb16 ?_
  · intro j y hj
    have hj2 : us.toArray[j]? = some y := by simpa using hj
    have e1 : (⟨w.heap.size, 0, none⟩ : Addr).add j = ⟨w.heap.size, j, none⟩ := by
      unfold Addr.add; split <;> simp_all
    rw [e1]
    simp [hj]
  · intro v' w' h2 h3
    exact h v' w' h2 (((Below.refl B w).alloc hB _).trans h3)
end

end Go.Proofs.YtllfchcocgdcjaaGreat

/- All offsets, as the reference finds them. -/
namespace Go.Proofs.YtllfchcocgdcjaaGreat
open Go.RowKit

theorem Own.pull {w : World} {B : Nat} {A L : List Row} {r : Row} (h : Own w B (A ++ (r :: L))) : Own w B (r :: (A ++ L)) := h.perm List.perm_middle.symm
theorem Own.push {w : World} {B : Nat} {A L : List Row} {r : Row} (h : Own w B (r :: (A ++ L))) : Own w B (A ++ (r :: L)) := h.perm List.perm_middle
theorem Own.cellIn {w : World} {B e z g n c : Nat} {cs : List Value} {R : List Row} (h : Own w B R) (hr : (⟨e, z, .slice (some ⟨g, 0, none⟩) n c, n, cs⟩ : Row) ∈ R) {j : Nat} (hj : j < n * z) : w.cell? ⟨g, j, none⟩ = some (cs.getD j undef) := by
  have ho := h.1 _ hr
  have h1 := ho.cellAt j hj
  have h2 : cs.length = n * z := ho.1
  rw [h1]
  have h3 : j < cs.length := by omega
  simp [h3]
theorem Own.frozenIn {w : World} {B e z g n c : Nat} {cs : List Value} {R : List Row} (h : Own w B R) (hr : (⟨e, z, .slice (some ⟨g, 0, none⟩) n c, n, cs⟩ : Row) ∈ R) (j : Nat) : w.frozen? ⟨g, j, none⟩ = false := (h.1 _ hr).frozenAt j
theorem Own.setIn {w : World} {B e z g n c : Nat} {cs : List Value} {A L : List Row} (h : Own w B (A ++ (⟨e, z, .slice (some ⟨g, 0, none⟩) n c, n, cs⟩ :: L))) (j : Nat) (u : Value) :
    Own (w.setCell ⟨g, j, none⟩ u) B (A ++ (⟨e, z, .slice (some ⟨g, 0, none⟩) n c, n, cs.set j u⟩ :: L)) := by
  have h' := h.pull
  exact Own.push (h'.turn (h'.head.stored j u).1 (h'.head.stored j u).2 (.inl rfl))
/-- rows: their list comes to the front -/
theorem rows_out {w : World} {B e1 e2 : Nat} {v : Value} {vs : List Value} {M : List (List Int)} {W : Row} {A R : List Row} (h : Own w B (W :: (A ++ (rowsOf e1 e2 v vs M ++ R)))) :
    Own w B (⟨e1, 1, v, vs.length, vs⟩ :: (W :: (A ++ (List.zipWith (intRowOf e2) vs M ++ R)))) :=
  Own.pull (A := W :: A) (L := List.zipWith (intRowOf e2) vs M ++ R) h
/-- and goes back with a new row -/
theorem rows_in {w : World} {B e1 e2 : Nat} {v rv : Value} {vs : List Value} {M : List (List Int)} {xs : List Int} {A R : List Row} (h : Own w B (⟨e1, 1, v, vs.length + 1, vs ++ [rv]⟩ :: (intRowOf e2 rv xs :: (A ++ (List.zipWith (intRowOf e2) vs M ++ R))))) (hl : vs.length = M.length) :
    Own w B (A ++ (rowsOf e1 e2 v (vs ++ [rv]) (M ++ [xs]) ++ R)) := by
  have e : rowsOf e1 e2 v (vs ++ [rv]) (M ++ [xs]) ++ R = (⟨e1, 1, v, vs.length + 1, vs ++ [rv]⟩ : Row) :: (List.zipWith (intRowOf e2) vs M ++ (intRowOf e2 rv xs :: R)) := by
    unfold rowsOf valRowOf
    rw [List.zipWith_append hl, List.length_append]
    simp
  rw [e]
  refine Own.push (h.perm ?_)
  refine List.Perm.cons _ ?_
  have p := List.perm_middle (a := intRowOf e2 rv xs) (l₁ := A ++ List.zipWith (intRowOf e2) vs M) (l₂ := R)
  simpa only [List.append_assoc] using p

theorem normL_row {M S : List (List Int)} (hp : probB M S = true) {s : Nat} (hs : s < M.length) : normL (row M s) = row M s := by
  have h0 : leastL (row M s) = 0 := optL_nil hp hs
  refine eq_of_nth (normL_length _) fun j hj => ?_
  rw [normL_length] at hj
  rw [nth_normL hj, h0]
  omega
theorem offOk_read {M S : List (List Int)} (hp : probB M S = true) {l : List (List Int)} (h : offOk M l) (hl : l.length ≤ 1000) : ShortRows l.length ∧ (∀ r ∈ l, Short r.length) ∧ ∀ r ∈ l, ∀ x ∈ r, I64 x := by
  have hn := probB_len hp
  refine ⟨by unfold ShortRows; omega, fun r hr => ?_, fun r hr => wOk_i64 (h r hr) (by omega)⟩
  have := (h r hr).1
  unfold Short
  omega

theorem rowStp_in {M S l : List (List Int)} {n r : Nat} (hl : l.length ≤ 400) (hr : r ≤ 4) : ∀ y ∈ rowStp M S l n r, 0 ≤ y ∧ y ≤ 1000 := by
  intro y hy
  obtain ⟨q, hq, rfl⟩ := List.mem_map.1 hy
  have hq' := List.mem_range.1 hq
  have h1 := (rowLst_len (M := M) (S := S) l n q).2
  rcases ixL_in (p := fun o => decide (o = normL (nextL M S (row l n) q))) (rowLst M S l n q) 0 with h | h
  · have : ixAt M S l n q = -1 := h
    rw [if_pos (by omega)]
    omega
  · have h2 : (0 : Int) ≤ ixAt M S l n q ∧ ixAt M S l n q < 0 + ((rowLst M S l n q).length : Int) := h
    rw [if_neg (by omega)]
    omega
theorem rowGrw_in {M S l : List (List Int)} (hp : probB M S = true) {n r : Nat} (hl : offOk M l) (hn : n < l.length) (hr : r ≤ S.length) : ∀ y ∈ rowGrw M S l n r, 0 ≤ y ∧ y ≤ 1000 := by
  intro y hy
  obtain ⟨q, hq, rfl⟩ := List.mem_map.1 hy
  have hq' := List.mem_range.1 hq
  have := norm_ok hp (hl _ (row_mem hn)) (r := q) (by omega)
  omega
theorem small_read {l : List (List Int)} (hl : l.length ≤ 1000) (h : ∀ x ∈ l, x.length ≤ 4 ∧ ∀ y ∈ x, 0 ≤ y ∧ y ≤ 1000) : ShortRows l.length ∧ (∀ r ∈ l, Short r.length) ∧ ∀ r ∈ l, ∀ x ∈ r, I64 x := by
  refine ⟨by unfold ShortRows; omega, fun r hr => ?_, fun r hr x hx => ?_⟩
  · have := (h r hr).1; unfold Short; omega
  · have := (h r hr).2 x hx; unfold I64; omega

/-- what the reference's answer reads as -/
def allPost (M S : List (List Int)) (s : Nat) (e : Ending) (w' : World) : Prop :=
  (offEnd M S s = none ∧ ∃ d1 n1 m1 d2 n2 m2 d3 n3 m3, e = .returned (.agg #[.slice d1 n1 m1, .slice d2 n2 m2, .slice d3 n3 m3, .bool true])) ∨
  ∃ n, offEnd M S s = some n ∧ ∃ ld lm xd xm gd gm, e = .returned (.agg #[.slice ld (offLst M S s n).length lm, .slice xd (offStp M S s n).length xm, .slice gd (offGrw M S s n).length gm, .bool false]) ∧
    IsRows w' (.slice ld (offLst M S s n).length lm) (offLst M S s n) ∧ IsRows w' (.slice xd (offStp M S s n).length xm) (offStp M S s n) ∧ IsRows w' (.slice gd (offGrw M S s n).length gm) (offGrw M S s n)

end Go.Proofs.YtllfchcocgdcjaaGreat

/- Owned lists of elements of many cells; an append as one step of a region that draws its order. -/
namespace Go.Proofs.YtllfchcocgdcjaaGreat
open Go.RowKit

theorem partPair0 (x y : Int) (w : World) : (part 3 #[.int .i64 x, .int .i64 y] 0).run Tryz.prog w = .ok (.int .i64 x) w := by kernel_rfl
theorem partPair1 (x y : Int) (w : World) : (part 3 #[.int .i64 x, .int .i64 y] 1).run Tryz.prog w = .ok (.int .i64 y) w := by kernel_rfl
/-- 'append(s, x)' onto what is owned, x of z cells in a block of its own, as one step of a region that draws its order. -/
theorem step_append1z {P : Program} {ops : Array Oper} {o : Oper} {a : Act} {w : World} {K : Act → World → Prop} {Q : Exit → Act → World → Prop} {E0 : Prop} (hgd : o.guard = none) (s x : Operand) (t : TypeId)
    (ho : o.op = .call { callee := .builtin .append, args := #[s, x], argTypes := #[t, t] })
    {e z bytes : Nat} {zv : Value} (E : Elem P t e zv z bytes) {B : Nat} {R : List Row} {v : Value} {n : Nat} {cs : List Value} (hs : a.eval s = v)
    (own : Own w B (⟨e, z, v, n, cs⟩ :: R)) (hB : B ≤ w.heap.size) {g : Nat} {us : List Value} (hus : us.length = z)
    (hx : a.eval x = .slice (some ⟨g, 0, none⟩) 1 1) (hnews : ∀ j u, us[j]? = some u → w.cell? ⟨g, j, none⟩ = some u) (h1 : ∀ u ∈ us, u.oneCell' = true) (h63 : n ≤ 17592186044415) (hb16 : (n + 1) * bytes ≤ 140737488355328)
    (h : ∀ v' w', Own w' B (⟨e, z, v', n + 1, cs ++ us⟩ :: R) → Below B w w' → K (a.put o.dst v') w') :
    if Region.wanted o (yielded ops a.tmps) = true then Oper.wp P o a w K Q else E0 := by
  have hw : Region.wanted o (yielded ops a.tmps) = true := by simp [Region.wanted, hgd]
  rw [if_pos hw]
  have hn2 : ∀ j u, us[j]? = some u → w.cell? ((⟨g, 0, none⟩ : Addr).add j) = some u := by
    intro j u hj
    have e1 : (⟨g, 0, none⟩ : Addr).add j = ⟨g, j, none⟩ := by
      unfold Addr.add; split <;> simp_all
    rw [e1]
    exact hnews j u hj
  obtain ⟨v', w', hr, h2, h3⟩ := run_append_Own (P := P) (ty := o.type) E own hB (m := 1) (c := 1) (by omega) hn2 h1 (by unfold maxLen; omega) hb16
  unfold Oper.wp execOp
  simp only [ho, resolve, invoke, builtin, Sem.run_bind, Sem.run_pure, Result.andThen_ok, List.map_toArray, List.map_cons, List.map_nil, hs, hx]
  rw [hr]
  exact h v' w' h2 h3

/-- a list of lists of elements of z ints -/
def rowsF (e1 e2 z : Nat) (u : Value) (vs : List Value) (Ms : List (List (List Int))) : List Row := valRowOf e1 u vs :: List.zipWith (flatRowOf e2 z) vs Ms
theorem rowsF_perm {e1 e2 z : Nat} {v rv : Value} {vs : List Value} {Ms : List (List (List Int))} {L : List (List Int)} {R : List Row} (hl : vs.length = Ms.length) :
    (rowsF e1 e2 z v (vs ++ [rv]) (Ms ++ [L]) ++ R).Perm (⟨e1, 1, v, vs.length + 1, vs ++ [rv]⟩ :: flatRowOf e2 z rv L :: (List.zipWith (flatRowOf e2 z) vs Ms ++ R)) := by
  have e : rowsF e1 e2 z v (vs ++ [rv]) (Ms ++ [L]) ++ R = (⟨e1, 1, v, vs.length + 1, vs ++ [rv]⟩ : Row) :: (List.zipWith (flatRowOf e2 z) vs Ms ++ (flatRowOf e2 z rv L :: R)) := by
    unfold rowsF valRowOf
    rw [List.zipWith_append hl, List.length_append]
    simp
  rw [e]
  exact (List.perm_middle (a := flatRowOf e2 z rv L) (l₁ := List.zipWith (flatRowOf e2 z) vs Ms) (l₂ := R)).cons _
theorem rowsF_snoc {w : World} {B e1 e2 z : Nat} {v rv : Value} {vs : List Value} {Ms : List (List (List Int))} {L : List (List Int)} {R : List Row} (h : Own w B (⟨e1, 1, v, vs.length + 1, vs ++ [rv]⟩ :: flatRowOf e2 z rv L :: (List.zipWith (flatRowOf e2 z) vs Ms ++ R))) (hl : vs.length = Ms.length) :
    Own w B (rowsF e1 e2 z v (vs ++ [rv]) (Ms ++ [L]) ++ R) := by
  have e : rowsF e1 e2 z v (vs ++ [rv]) (Ms ++ [L]) ++ R = (⟨e1, 1, v, vs.length + 1, vs ++ [rv]⟩ : Row) :: (List.zipWith (flatRowOf e2 z) vs Ms ++ (flatRowOf e2 z rv L :: R)) := by
    unfold rowsF valRowOf
    rw [List.zipWith_append hl, List.length_append]
    simp
  rw [e]
  exact h.perm ((List.perm_middle (a := flatRowOf e2 z rv L) (l₁ := List.zipWith (flatRowOf e2 z) vs Ms) (l₂ := R)).cons _)

/-- The value v reads as a slice of slices of elements of z ints. -/
def IsFlats (w : World) (v : Value) (z : Nat) (Ms : List (List (List Int))) : Prop :=
  ∃ a c, v = .slice a Ms.length c ∧ Ms.length ≤ 1000000 ∧
    ∀ j, j < Ms.length → ∃ b o u, a = some ⟨b, o, none⟩ ∧ w.cell? ⟨b, o + j, none⟩ = some u ∧ IsFlat w u z (Ms.getD j [])
theorem IsFlats.ext {w w' : World} {v : Value} {z : Nat} {Ms : List (List (List Int))} (h : IsFlats w v z Ms) [e : Ext w w'] : IsFlats w' v z Ms := by
  obtain ⟨a, c, h1, h2, h4⟩ := h
  refine ⟨a, c, h1, h2, fun j hj => ?_⟩
  obtain ⟨b, o, u, h5, h6, h7⟩ := h4 j hj
  exact ⟨b, o, u, h5, e.cell h6, h7.ext⟩
theorem IsFlats.form {w : World} {v : Value} {z : Nat} {Ms : List (List (List Int))} (h : IsFlats w v z Ms) : ∃ a c, v = .slice a Ms.length c ∧ Ms.length ≤ 1000000 := by
  obtain ⟨a, c, h1, h2, _⟩ := h
  exact ⟨a, c, h1, h2⟩
theorem IsFlats.at {w w' : World} {a : Option Addr} {n c z : Nat} {Ms : List (List (List Int))} (h : IsFlats w (.slice a n c) z Ms) [e : Ext w w'] {k : Nat} (hk : k < Ms.length) :
    ∃ b o d m, a = some ⟨b, o, none⟩ ∧ w'.cell? ⟨b, o + k, none⟩ = some (.slice d (Ms.getD k []).length m) ∧ IsFlat w (.slice d (Ms.getD k []).length m) z (Ms.getD k []) := by
  obtain ⟨a', c', h1, h2, h4⟩ := h
  obtain ⟨b, o, u, h5, h6, h7⟩ := h4 k hk
  cases h1
  obtain ⟨d, m, rfl, hs⟩ := h7.form
  exact ⟨b, o, d, m, h5, e.cell h6, h7⟩
theorem Own.readsFlats {w : World} {B e1 e2 z : Nat} {v : Value} {vs : List Value} {Ms : List (List (List Int))} {R : List Row} (h : Own w B (rowsF e1 e2 z v vs Ms ++ R)) (hl : vs.length = Ms.length) (hs : Ms.length ≤ 1000000)
    (hr : ∀ L ∈ Ms, L.length ≤ 1000000 ∧ (∀ x ∈ L, x.length = z) ∧ ∀ x ∈ L, ∀ y ∈ x, I64 y) : IsFlats w v z Ms := by
  have hh : Own w B (valRowOf e1 v vs :: (List.zipWith (flatRowOf e2 z) vs Ms ++ R)) := h
  have hi : ∀ j, j < Ms.length → IsFlat w (vs.getD j undef) z (Ms.getD j []) := by
    intro j hj
    have h1 : (List.zipWith (flatRowOf e2 z) vs Ms ++ R)[j]? = some (flatRowOf e2 z (vs.getD j undef) (Ms.getD j [])) := by
      have hj' : j < vs.length := by omega
      rw [List.getElem?_append_left (by simp; omega)]
      simp [List.getElem?_zipWith, hj', hj]
    have hm : Ms.getD j [] ∈ Ms := by simp [hj]
    exact (hh.tail.pick h1).readsFlat (hr _ hm).1 (hr _ hm).2.1 (hr _ hm).2.2
  rcases hh.head.2 with ⟨h1, h2⟩ | ⟨g, cap, cur, hv, hb, hg, hc, hm, hz, ht⟩
  · have h2' : vs.length = 0 := h2
    have hx : Ms = [] := List.eq_nil_of_length_eq_zero (by omega)
    subst hx
    have h1' : v = .slice none 0 0 := h1
    exact ⟨none, 0, h1', Nat.zero_le _, fun j hj => by simp at hj⟩
  · have hv' : v = .slice (some ⟨g, 0, none⟩) vs.length cap := hv
    refine ⟨_, cap, by rw [hv', hl], hs, fun j hj => ⟨g, 0, vs.getD j undef, rfl, ?_, hi j hj⟩⟩
    have ho := hh.head
    simp only [hv'] at ho
    have := ho.cellAt (0 + j) (by omega)
    rw [this]
    have hj' : j < vs.length := by omega
    simp [hj']

end Go.Proofs.YtllfchcocgdcjaaGreat

/- Appends of a slice of slices to itself; rows laid into a list of rows. -/
namespace Go.Proofs.YtllfchcocgdcjaaGreat
open Go.RowKit

theorem zipWith_unset {α β γ : Type} (f : α → β → γ) : ∀ (l : List α) (m : List β) (j : Nat) (a : α) (b : β), (List.zipWith f l m).set j (f a b) = List.zipWith f (l.set j a) (m.set j b)
  | [], m, j, a, b => by simp
  | x :: l, [], j, a, b => by cases j <;> simp
  | x :: l, y :: m, 0, a, b => by simp
  | x :: l, y :: m, j + 1, a, b => by
    simp only [List.zipWith_cons_cons, List.set_cons_succ]
    rw [zipWith_unset f l m j a b]
theorem append_two {P : Program} {w w' : World} {B t ty e : Nat} {i : TypeInfo} {z : Value} {size bytes : Nat} (ht : P.underlying t = some (.slice e)) (hi : P.info? e = some i) (hz : i.zero = some z)
    (hsize : i.size = size) (hby : i.bytes = bytes)
    {v v' : Value} {n : Nat} {xs : List Value} (hown : w.ownsRow B e size v n xs)
    {a : Addr} {m c : Nat} {news : List Value} (hl : news.length = m * size) (hnews : ∀ j u, news[j]? = some u → w.cell? (a.add j) = some u) (h1 : ∀ u ∈ news, u.oneCell' = true)
    (h63 : n + m ≤ maxLen) (hbytes : (n + m) * bytes ≤ 140737488355328)
    (hr : (Builtin.append_ #[t, t] ty #[v, .slice (some a) m c]).run P w = .ok v' w') :
    v'.ownBlock = v.ownBlock ∨ (Ext w w' ∧ ∀ k, v'.ownBlock = some k → w.heap.size ≤ k) := by
  subst hsize
  subst hby
  have hsmall : n + m ≤ 9223372036854775807 := by simp only [maxLen] at h63; omega
  rcases hown.2 with ⟨rfl, rfl⟩ | ⟨g, cap, cur, rfl, hbg, hg, hnc, hcm, hcs, htake⟩
  · by_cases hm : m = 0
    · subst hm
      have hn : news = [] := List.eq_nil_of_length_eq_zero (by simpa using hl)
      subst hn
      have : (Builtin.append_ #[t, t] ty #[.slice none 0 0, .slice (some a) 0 c]).run P w = .ok (.slice none 0 0) w := by
        simp [Builtin.append_, run_underlying ht, sizeOf, typeInfo, hi, Builtin.lenOf, Builtin.firstCells, loadCells, loadCellsFrom]
      rw [this] at hr
      cases hr
      exact .inl rfl
    · have := run_append_nil (P := P) w t ty e i z ht hi hz a m c news hl hnews (by omega) (by omega) (by have hb := hbytes; simp only [Nat.zero_add] at hb; omega)
      rw [this] at hr
      cases hr
      refine .inr ⟨inferInstance, fun k hk => ?_⟩
      simp [Value.ownBlock] at hk
      omega
  · by_cases hroom : n + m ≤ cap
    · have hfit : n * i.size + news.length ≤ cur.size := by rw [hl, hcs, ← Nat.add_mul]; exact Nat.mul_le_mul_right _ hroom
      have := run_append_room (P := P) w t ty e i ht hi g n cap cur hg a m c news hl hnews h1 hroom hfit
      rw [this] at hr
      cases hr
      exact .inl rfl
    · have := run_append_grow (P := P) w t ty e i z ht hi hz ⟨g, 0, none⟩ n cap xs hown.1 (hown.cells (g := g) rfl) a m c news hl hnews (by omega) (by omega) (growslice_fits (by omega) hbytes)
      rw [this] at hr
      cases hr
      refine .inr ⟨inferInstance, fun k hk => ?_⟩
      simp [Value.ownBlock] at hk
      omega
theorem step_appendN {P : Program} {ops : Array Oper} {o : Oper} {a : Act} {w : World} {K : Act → World → Prop} {Q : Exit → Act → World → Prop} {E0 : Prop} (hgd : o.guard = none) (s x : Operand) (t : TypeId)
    (ho : o.op = .call { callee := .builtin .append, args := #[s, x], argTypes := #[t, t] })
    {e bytes : Nat} {zv : Value} (E : Elem P t e zv 1 bytes) {B : Nat} {R : List Row} {v : Value} {n : Nat} {cs : List Value} (hs : a.eval s = v)
    (own : Own w B (⟨e, 1, v, n, cs⟩ :: R)) (hB : B ≤ w.heap.size) {g m c : Nat} {news : List Value} (hl : news.length = m)
    (hx : a.eval x = .slice (some ⟨g, 0, none⟩) m c) (hnews : ∀ j u, news[j]? = some u → w.cell? ⟨g, j, none⟩ = some u) (h1 : ∀ u ∈ news, u.oneCell' = true) (h63 : n + m ≤ 17592186044415) (hb16 : (n + m) * bytes ≤ 140737488355328)
    (h : ∀ v' w', Own w' B (⟨e, 1, v', n + m, cs ++ news⟩ :: R) → Below B w w' → w.grownBy w' v.ownBlock → (v'.ownBlock = v.ownBlock ∨ (Ext w w' ∧ ∀ k, v'.ownBlock = some k → w.heap.size ≤ k)) → K (a.put o.dst v') w') :
    if Region.wanted o (yielded ops a.tmps) = true then Oper.wp P o a w K Q else E0 := by
  have hw : Region.wanted o (yielded ops a.tmps) = true := by simp [Region.wanted, hgd]
  rw [if_pos hw]
  have hn2 : ∀ j u, news[j]? = some u → w.cell? ((⟨g, 0, none⟩ : Addr).add j) = some u := by
    intro j u hj
    have e1 : (⟨g, 0, none⟩ : Addr).add j = ⟨g, j, none⟩ := by
      unfold Addr.add; split <;> simp_all
    rw [e1]
    exact hnews j u hj
  obtain ⟨i, hi, hz, hsz, hby⟩ := E.info
  have hlm : news.length = m * 1 := by omega
  obtain ⟨v', w', hr, h2, h3, _⟩ := run_append_own (P := P) w B t o.type e i zv 1 bytes E.under hi hz hsz hby E.cells E.pos v n cs own.head ⟨g, 0, none⟩ m c news hlm hn2 h1 (by unfold maxLen; omega) hb16 hB
  have hblk := append_two (P := P) (ty := o.type) (m := m) (n := n) E.under hi hz hsz hby own.head hlm hn2 h1 (by unfold maxLen; omega) hb16 hr
  have hblk2 : v'.ownBlock = v.ownBlock ∨ ∀ k, v'.ownBlock = some k → w.heap.size ≤ k := hblk.imp id (·.2)
  unfold Oper.wp execOp
  simp only [ho, resolve, invoke, builtin, Sem.run_bind, Sem.run_pure, Result.andThen_ok, List.map_toArray, List.map_cons, List.map_nil, hs, hx]
  rw [hr]
  exact h v' w' (own.turn h2 h3 hblk2) (below_of_grown own.head h3 hB) h3 hblk
/-- the first cells of an old slice stay what they are while it is appended to again and again -/
def Keeps (w : World) (g : Nat) (ws : List Value) (v : Value) (cs : List Value) : Prop := (∀ (j : Nat) (u : Value), ws[j]? = some u → w.cell? ⟨g, j, none⟩ = some u) ∧ g < w.heap.size ∧ (v.ownBlock = some g → ∀ (j : Nat) (u : Value), ws[j]? = some u → cs[j]? = some u)
theorem Keeps.next {w w' : World} {B e m g : Nat} {ws cs news : List Value} {v v' : Value} {R : List Row} (h : Keeps w g ws v cs) (own : Own w' B (⟨e, 1, v', m, cs ++ news⟩ :: R)) (hg : w.grownBy w' v.ownBlock) (hd : v'.ownBlock = v.ownBlock ∨ (Ext w w' ∧ ∀ k, v'.ownBlock = some k → w.heap.size ≤ k)) : Keeps w' g ws v' (cs ++ news) := by
  obtain ⟨h1, h2, h3⟩ := h
  have hpre : v.ownBlock = some g → ∀ (j : Nat) (u : Value), ws[j]? = some u → (cs ++ news)[j]? = some u := by
    intro hb j u hu
    have h4 := h3 hb j u hu
    have hj : j < cs.length := (List.getElem?_eq_some_iff.1 h4).1
    rw [List.getElem?_append_left hj]
    exact h4
  refine ⟨fun j u hu => ?_, Nat.lt_of_lt_of_le h2 hg.size, fun hb' => ?_⟩
  · by_cases hb : v.ownBlock = some g
    · rcases hd with hd | hd
      · have h5 := own.head.cells (hd.trans hb) j u (hpre hb j u hu)
        have e1 : (⟨g, 0, none⟩ : Addr).add j = ⟨g, j, none⟩ := by
          unfold Addr.add; split <;> simp_all
        rwa [e1] at h5
      · exact hd.1.cell (h1 j u hu)
    · exact hg.cell (h1 j u hu) (fun e => hb e.symm)
  · rcases hd with hd | hd
    · exact hpre (hd.symm.trans hb')
    · have := hd.2 g hb'
      omega
/-- what each row reads as -/
def EachInts (w : World) (vs : List Value) (M : List (List Int)) : Prop := vs.length = M.length ∧ ∀ j, j < M.length → IsInts w (vs.getD j undef) (row M j)
theorem EachInts.app {w : World} {vs us : List Value} {M N : List (List Int)} (h : EachInts w vs M) (k : EachInts w us N) : EachInts w (vs ++ us) (M ++ N) := by
  refine ⟨by rw [List.length_append, List.length_append, h.1, k.1], fun j hj => ?_⟩
  by_cases hlt : j < M.length
  · have e1 : (vs ++ us).getD j undef = vs.getD j undef := by
      rw [List.getD_eq_getElem?_getD, List.getElem?_append_left (by rw [h.1]; exact hlt), List.getD_eq_getElem?_getD]
    have e2 : row (M ++ N) j = row M j := by
      unfold row
      rw [List.getD_eq_getElem?_getD, List.getElem?_append_left hlt, List.getD_eq_getElem?_getD]
    rw [e1, e2]
    exact h.2 j hlt
  · have e1 : (vs ++ us).getD j undef = us.getD (j - M.length) undef := by
      rw [List.getD_eq_getElem?_getD, List.getElem?_append_right (by rw [h.1]; omega), List.getD_eq_getElem?_getD, h.1]
    have e2 : row (M ++ N) j = row N (j - M.length) := by
      unfold row
      rw [List.getD_eq_getElem?_getD, List.getElem?_append_right (by omega), List.getD_eq_getElem?_getD]
    rw [e1, e2]
    rw [List.length_append] at hj
    exact k.2 _ (by omega)
theorem EachInts.of {w : World} {B e1 e2 : Nat} {v : Value} {vs : List Value} {M : List (List Int)} {R : List Row} (h : Own w B (rowsOf e1 e2 v vs M ++ R)) (hl : vs.length = M.length) (hr : ∀ r ∈ M, Short r.length) (hi : ∀ r ∈ M, ∀ x ∈ r, I64 x) : EachInts w vs M := by
  refine ⟨hl, fun j hj => ?_⟩
  obtain ⟨u, hu⟩ : ∃ u, vs[j]? = some u := ⟨_, List.getElem?_eq_getElem (by omega)⟩
  have e : vs.getD j undef = u := by rw [List.getD_eq_getElem?_getD, hu]; rfl
  rw [e]
  exact (rw_row h hj hu).reads (hr _ (row_mem hj)) (hi _ (row_mem hj))
theorem rows_one {w : World} {B e1 e2 : Nat} {v : Value} {vs : List Value} {M : List (List Int)} {R : List Row} (h : Own w B (rowsOf e1 e2 v vs M ++ R)) (hl : vs.length = M.length) : ∀ u ∈ vs, u.oneCell' = true := by
  intro u hu
  obtain ⟨j, hj, rfl⟩ := List.mem_iff_getElem.1 hu
  have := rw_row h (j := j) (by omega) (List.getElem?_eq_getElem hj)
  obtain ⟨d, m, hd⟩ := this.form
  have hd' : vs[j] = .slice d (row M j).length m := hd
  rw [hd']
  rfl
/-- behind an append to a row the new slice is stored -/
theorem rw_grow {w : World} {B e1 e2 g n c : Nat} {vs : List Value} {M : List (List Int)} {v' : Value} {xs : List Int} {i : Nat} {R : List Row} (h : Own w B (intRowOf e2 v' xs :: (rowsOf e1 e2 (.slice (some ⟨g, 0, none⟩) n c) vs M ++ R).eraseIdx (i + 1))) (hv : vs.length = n) (ht : M.length = n) (hi : i < n) :
    w.cell? ⟨g, i, none⟩ = some (vs.getD i undef) ∧ w.frozen? ⟨g, i, none⟩ = false ∧ Own (w.setCell ⟨g, i, none⟩ v') B (rowsOf e1 e2 (.slice (some ⟨g, 0, none⟩) n c) (vs.set i v') (M.set i xs) ++ R) ∧ (∀ r ∈ R, w.ownsRow B r.e r.z r.v r.n r.cs) ∧ B ≤ g := by
  subst hv
  have hl : i < (List.zipWith (intRowOf e2) vs M).length := by rw [List.length_zipWith]; omega
  have e0 : (rowsOf e1 e2 (.slice (some ⟨g, 0, none⟩) vs.length c) vs M ++ R).eraseIdx (i + 1) = (⟨e1, 1, .slice (some ⟨g, 0, none⟩) vs.length c, vs.length, vs⟩ : Row) :: ((List.zipWith (intRowOf e2) vs M).eraseIdx i ++ R) := by
    unfold rowsOf valRowOf
    rw [List.cons_append, List.eraseIdx_cons_succ, List.eraseIdx_append_of_lt_length hl]
  rw [e0] at h
  have h1 : Own w B (⟨e1, 1, .slice (some ⟨g, 0, none⟩) vs.length c, vs.length, vs⟩ :: (intRowOf e2 v' xs :: ((List.zipWith (intRowOf e2) vs M).eraseIdx i ++ R))) := h.perm (List.Perm.swap _ _ _)
  refine ⟨h1.cellAt hi, h1.frozenAt i, ?_, fun r hr => h1.1 r (by simp [hr]), h1.lt.1⟩
  have h2 := h1.set i v'
  have e : rowsOf e1 e2 (.slice (some ⟨g, 0, none⟩) vs.length c) (vs.set i v') (M.set i xs) ++ R = (⟨e1, 1, .slice (some ⟨g, 0, none⟩) vs.length c, vs.length, vs.set i v'⟩ : Row) :: ((List.zipWith (intRowOf e2) vs M).set i (intRowOf e2 v' xs) ++ R) := by
    rw [zipWith_unset]
    unfold rowsOf valRowOf
    rw [List.length_set]
    rfl
  rw [e]
  refine h2.perm (List.Perm.cons _ ?_)
  have p := perm_set (List.zipWith (intRowOf e2) vs M) i (intRowOf e2 v' xs) hl
  exact p.append_right R
end Go.Proofs.YtllfchcocgdcjaaGreat

/- The problem that a draw makes: what it returns reads as rows of numbers. -/
namespace Go.Proofs.YtllfchcocgdcjaaGreat
open Go.RowKit

theorem CurAt.join {w w' : World} {B c : Nat} {vc : Value} {a : Int} {R S : List Row} (h : CurAt w B c vc a R) (hn : Own w' w.heap.size S) [e : Ext w w'] (hB : B ≤ w.heap.size) : CurAt w' B c vc a (S ++ R) := by
  obtain ⟨s, h⟩ := h
  exact ⟨s, (h.join hn hB).perm List.perm_middle.symm⟩
theorem CurAt.box {w : World} {B c : Nat} {vc : Value} {a : Int} {R : List Row} (h : CurAt w B c vc a R) (e z : Nat) (cs : Array Value) (hB : B ≤ w.heap.size) (hs : cs.size = 1 * z) :
    CurAt (w.alloc (.cells cs e)) B c vc a (boxRow e z w.heap.size cs.toList :: R) := by
  obtain ⟨s, h⟩ := h
  exact ⟨s, (h.lit e z 1 cs hB (by unfold maxLen; omega) hs).perm (List.Perm.swap _ _ _)⟩
theorem CurAt.cur {w : World} {B c : Nat} {vc : Value} {a : Int} {R : List Row} (h : CurAt w B c vc a R) : ∃ s, Own w B (curRow c vc a s :: R) := h
/-- a bound on the size: blocks below B are there -/
theorem CurAt.size {w : World} {B c : Nat} {vc : Value} {a : Int} {R : List Row} (h : CurAt w B c vc a R) : B ≤ w.heap.size := by
  obtain ⟨s, h⟩ := h
  have := ow_lt h
  omega
/-- a box's cell -/
theorem CurAt.at {w : World} {B c : Nat} {vc : Value} {a : Int} {e z b : Nat} {cs : List Value} {R : List Row} (h : CurAt w B c vc a R) (hm : boxRow e z b cs ∈ R) {j : Nat} (hj : j < z) : w.cell? ⟨b, j, none⟩ = some (cs.getD j undef) ∧ w.frozen? ⟨b, j, none⟩ = false := by
  have h1 := h.rows
  exact ⟨ow_cell h1 hm (by omega), ow_frozen h1 hm j⟩

theorem CurAt.set {w : World} {B c : Nat} {vc : Value} {a : Int} {e z b : Nat} {cs : List Value} {A L : List Row} (h : CurAt w B c vc a (A ++ (boxRow e z b cs :: L))) (j : Nat) (u : Value) :
    CurAt (w.setCell ⟨b, j, none⟩ u) B c vc a (A ++ (boxRow e z b (cs.set j u) :: L)) ∧ B ≤ b := by
  obtain ⟨s, h⟩ := h
  refine ⟨⟨s, ow_set (A := curRow c vc a s :: A) h j u⟩, ?_⟩
  exact ((h.1 (boxRow e z b cs) (by simp)).lt b rfl).1
theorem rowsn_snoc {S : List (List Int)} {n : Nat} (h : ∀ x ∈ S, x.length = n) {X : List Int} (hX : X.length = n) : ∀ x ∈ S ++ [X], x.length = n := by
  intro x hx
  rcases List.mem_append.1 hx with h1 | h1
  · exact h x h1
  · rw [List.mem_singleton] at h1; rw [h1]; exact hX
theorem IsInts.take {w : World} {a : Option Addr} {n c : Nat} {xs : List Int} (h : IsInts w (.slice a n c) xs) {k : Nat} (hk : k ≤ xs.length) : IsInts w (.slice a k c) (xs.take k) := by
  obtain ⟨a', c', h1, h2, h3, h4⟩ := h
  cases h1
  have hl : (xs.take k).length = k := by rw [List.length_take]; omega
  refine ⟨a, c, by rw [hl], ⟨by rw [hl]; have := h2.1; unfold Short at *; omega, by rw [hl]; have := h2.2; omega⟩, fun x hx => h3 x (List.mem_of_mem_take hx), fun j hj => ?_⟩
  rw [hl] at hj
  obtain ⟨b, o, h5, h6⟩ := h4 j (by omega)
  refine ⟨b, o, h5, ?_⟩
  rw [h6]
  simp [nth, hj]
theorem CurAt.fin {w : World} {B c : Nat} {vc : Value} {a : Int} {bx : Row} {e z r : Nat} {u0 u1 v0 v1 : Value} {Z R : List Row} (h : CurAt w B c vc a (bx :: (Z ++ (boxRow e z r [u0, u1] :: R)))) :
    CurAt ((w.setCell ⟨r, 0, none⟩ v0).setCell ⟨r, 1, none⟩ v1) B c vc a (Z ++ R) ∧ Below B w ((w.setCell ⟨r, 0, none⟩ v0).setCell ⟨r, 1, none⟩ v1) := by
  have h1 := CurAt.set (A := bx :: Z) h 0 v0
  have h2 := CurAt.set (A := bx :: Z) h1.1 1 v1
  refine ⟨(h2.1.drop).sub (List.Sublist.append_left (List.sublist_cons_self _ _) _), ((Below.refl B w).setCell h1.2 _).setCell h1.2 _⟩
/-- what a draw of a problem gives -/
def ProbPost (w : World) (B c : Nat) (vc : Value) (a : Int) (R : List Row) (e : Ending) (w' : World) : Prop :=
  ∃ mv sv M S Z a', e = .returned (.agg #[mv, sv]) ∧ 1 ≤ M.length ∧ M.length ≤ 5 ∧ 1 ≤ S.length ∧ S.length ≤ 16 ∧ a ≤ a' ∧ a' ≤ a + 10000 ∧ CurAt w' B c vc a' (Z ++ R) ∧ (∀ u, Own u B Z → IsRows u mv M ∧ IsRows u sv S) ∧ Below B w w'
/-- rows of small numbers, not many in a row -/
def RowsOk (S : List (List Int)) : Prop := ∀ r ∈ S, r.length ≤ 100 ∧ ∀ x ∈ r, -100000 ≤ x ∧ x ≤ 100000
theorem RowsOk.short {S : List (List Int)} (h : RowsOk S) : (∀ r ∈ S, Short r.length) ∧ ∀ r ∈ S, ∀ x ∈ r, I64 x :=
  ⟨fun r hr => by have := (h r hr).1; unfold Short; omega, fun r hr x hx => by have := (h r hr).2 x hx; unfold I64; omega⟩
theorem ok_snoc {S : List (List Int)} (h : RowsOk S) {X : List Int} (hn : X.length ≤ 100) (hX : ∀ x ∈ X, -1 ≤ x ∧ x ≤ 5) : RowsOk (S ++ [X]) := by
  intro x hx
  rcases List.mem_append.1 hx with h1 | h1
  · exact h x h1
  · rw [List.mem_singleton] at h1
    subst h1
    exact ⟨hn, fun y hy => by have := hX y hy; omega⟩
theorem TabOk.rows {M : List (List Int)} {n : Nat} (h : TabOk M n) (hn : n ≤ 100) : RowsOk M := by
  intro r hr
  obtain ⟨k, hk, rfl⟩ := mem_iff_row.1 hr
  have hk' : k < n := by rw [← h.1]; exact hk
  refine ⟨by rw [(h.2 k hk').1]; exact hn, fun x hx => ?_⟩
  obtain ⟨q, hq, rfl⟩ := mem_iff_nth.1 hx
  rw [(h.2 k hk').1] at hq
  exact (h.2 k hk').2 q hq

theorem CurAt.put {w : World} {B c : Nat} {vc : Value} {a : Int} {A R : List Row} {e1 e2 g l m : Nat} {v : Value} {vs : List Value} {M : List (List Int)} (h : CurAt w B c vc a (A ++ (rowsOf e1 e2 v vs M ++ R))) (hv : vs.length = M.length) {j : Nat} (hj : j < M.length) (hu : vs[j]? = some (.slice (some ⟨g, 0, none⟩) l m)) (hl : (row M j).length = l) (q : Nat) (x : Int) :
    CurAt (w.setCell ⟨g, q, none⟩ (.int .i64 x)) B c vc a (A ++ (rowsOf e1 e2 v vs (M.set j ((row M j).set q x)) ++ R)) ∧ B ≤ g := by
  obtain ⟨s, h⟩ := h
  have h1 := ow_front (A := curRow c vc a s :: A) h
  have h2 := rw_put h1 hv hj hu hl q x
  refine ⟨⟨s, ow_front (A := rowsOf _ _ _ _ _) (T := curRow c vc a s :: A) h2⟩, ?_⟩
  exact ((rw_row h1 hj hu).head.lt g rfl).1
theorem CurAt.tab {w : World} {B c : Nat} {vc : Value} {a : Int} {A R : List Row} {e1 e2 : Nat} {v : Value} {vs : List Value} {M : List (List Int)} (h : CurAt w B c vc a (A ++ (rowsOf e1 e2 v vs M ++ R))) : ∃ R', Own w B (rowsOf e1 e2 v vs M ++ R') := by
  obtain ⟨s, h⟩ := h
  exact ⟨_, ow_front (A := curRow c vc a s :: A) h⟩
theorem rw_addr {w : World} {B e1 e2 n m : Nat} {d : Option Addr} {vs : List Value} {M : List (List Int)} {R : List Row} (h : Own w B (rowsOf e1 e2 (.slice d n m) vs M ++ R)) (hn : vs.length = n) (h0 : 0 < n) : ∃ g, d = some ⟨g, 0, none⟩ := by
  subst hn
  have h1 : Own w B (⟨e1, 1, .slice d vs.length m, vs.length, vs⟩ :: (List.zipWith (intRowOf e2) vs M ++ R)) := h
  exact h1.at (j := 0) h0
theorem row_set_len {S : List (List Int)} {n k q : Nat} {x : Int} (h : ∀ r ∈ S, r.length = n) (hk : k < S.length) : ∀ r ∈ S.set k ((row S k).set q x), r.length = n := by
  intro r hr
  rcases List.mem_or_eq_of_mem_set hr with h1 | h1
  · exact h r h1
  · rw [h1, List.length_set]; exact h _ (row_mem hk)
theorem row_set_ok {S : List (List Int)} {k q : Nat} {x : Int} (h : RowsOk S) (hk : k < S.length) (hx : -100000 ≤ x ∧ x ≤ 100000) : RowsOk (S.set k ((row S k).set q x)) := by
  intro r hr
  rcases List.mem_or_eq_of_mem_set hr with h1 | h1
  · exact h r h1
  · have h2 := h _ (row_mem hk)
    rw [h1]
    refine ⟨by rw [List.length_set]; exact h2.1, fun y hy => ?_⟩
    rcases List.mem_or_eq_of_mem_set hy with h3 | h3
    · exact h2.2 y h3
    · rw [h3]; exact hx
theorem fieldDist (v : Value) (w : World) : (Instr.field 26 (.agg #[v]) 0).run Tryz.prog w = .ok v w := by kernel_rfl
theorem zr_norm {B n : Nat} {sd dq : Option Addr} {sm mq : Nat} {ws vq : List Value} {S M : List (List Int)} (hws : ws.length = S.length) (hS : S.length ≤ 100) (hSok : RowsOk S) (hvq : vq.length = n) (hM : TabOk M n) (hn : n ≤ 100) :
    ∀ u, Own u B (rowsOf 27 3 (.slice sd S.length sm) ws S ++ rowsOf 27 3 (.slice dq n mq) vq M) → IsRows u (.slice dq n mq) M ∧ IsRows u (.slice sd S.length sm) S := by
  intro u h
  have hMr := (hM.rows hn).short
  refine ⟨?_, Own.readsAll h hws (by unfold ShortRows; omega) hSok.short.1 hSok.short.2⟩
  have h2 : Own u B (rowsOf 27 3 (.slice dq n mq) vq M ++ []) := by rw [List.append_nil]; exact h.right
  exact Own.readsAll h2 (by rw [hvq, hM.1]) (by unfold ShortRows; rw [hM.1]; omega) hMr.1 hMr.2

end Go.Proofs.YtllfchcocgdcjaaGreat

/- States and sequences that draws make for a problem. -/
namespace Go.Proofs.YtllfchcocgdcjaaGreat
open Go.RowKit

theorem Own.cutRow {w : World} {B : Nat} {r : Row} {e g n cp : Nat} {xs : List Int} {R : List Row} (h : Own w B (r :: intRowOf e (.slice (some ⟨g, 0, none⟩) n cp) xs :: R)) {k : Nat} (hk : k ≤ xs.length) :
    Own w B (r :: intRowOf e (.slice (some ⟨g, 0, none⟩) k cp) (xs.take k) :: R) := by
  refine ⟨fun y hy => ?_, ?_⟩
  · rcases List.mem_cons.1 hy with rfl | hy
    · exact h.1 _ (.head _)
    rcases List.mem_cons.1 hy with rfl | hy
    · have h1 := h.1 (intRowOf e (.slice (some ⟨g, 0, none⟩) n cp) xs) (.tail _ (.head _))
      refine ⟨by simp, .inr ?_⟩
      rcases h1.2 with ⟨h2, _⟩ | ⟨g', cap, cur, h2, h3, h4, h5, h6, h7, h8⟩
      · cases h2
      · have h2' : Value.slice (some ⟨g, 0, none⟩) n cp = .slice (some ⟨g', 0, none⟩) xs.length cap := h2
        simp only [Value.slice.injEq, Option.some.injEq, Addr.mk.injEq, and_true] at h2'
        obtain ⟨rfl, rfl, rfl⟩ := h2'
        refine ⟨g, cp, cur, by show Value.slice (some ⟨g, 0, none⟩) k cp = .slice (some ⟨g, 0, none⟩) (xs.take k).length cp; rw [List.length_take, Nat.min_eq_left hk], h3, h4, by show (xs.take k).length ≤ cp; rw [List.length_take]; have : xs.length ≤ cp := h5; omega, h6, h7, ?_⟩
        have h8' : cur.toList.take (xs.length * 1) = xs.map (Value.int .i64) := h8
        show cur.toList.take ((xs.take k).length * 1) = (xs.take k).map (Value.int .i64)
        rw [List.map_take, ← h8', List.take_take, List.length_take]
        congr 1
        omega
    · exact h.1 _ (.tail _ (.tail _ hy))
  · have h2 := h.2
    rw [List.pairwise_cons] at h2 ⊢
    rw [List.pairwise_cons] at h2 ⊢
    refine ⟨fun y hy => ?_, fun y hy => h2.2.1 y hy, h2.2.2⟩
    rcases List.mem_cons.1 hy with rfl | hy
    · exact h2.1 (intRowOf e (.slice (some ⟨g, 0, none⟩) n cp) xs) (.head _)
    · exact h2.1 y (.tail _ hy)
theorem CurAt.cutRow {w : World} {B c : Nat} {vc : Value} {a : Int} {e g n cp : Nat} {xs : List Int} {R : List Row} (h : CurAt w B c vc a (intRowOf e (.slice (some ⟨g, 0, none⟩) n cp) xs :: R)) {k : Nat} (hk : k ≤ xs.length) :
    CurAt w B c vc a (intRowOf e (.slice (some ⟨g, 0, none⟩) k cp) (xs.take k) :: R) := by
  obtain ⟨s, h⟩ := h
  exact ⟨s, h.cutRow hk⟩

/-- the cursor at its start -/
theorem CurAt.start {w : World} {B : Nat} {vc : Value} {R : List Row} (h : Own w B R) (hB : B ≤ w.heap.size) : CurAt (w.alloc (.cells #[vc, .int .i64 0, .int .u64 0] 39)) B w.heap.size vc 0 R :=
  ⟨0, h.lit 39 3 1 #[vc, .int .i64 0, .int .u64 0] hB (by unfold maxLen; omega) rfl⟩

def LCPost (w : World) (e : Ending) (w' : World) : Prop := ∃ pv s rv M S X, e = .returned (.tuple #[pv, .int .i64 s, rv]) ∧ IsProb w' pv M S ∧ I64 s ∧ IsInts w' rv X ∧ X.length ≤ 100 ∧ Ext w w'

end Go.Proofs.YtllfchcocgdcjaaGreat

