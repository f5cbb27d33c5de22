/- The cursor that reads choices from bytes: what it returns lies in its bounds, and nothing else changes. -/
import Derived.Test.YtnlbjbnjjkilhaaProg
import Derived.Test.YtnlbjbnjjkilhaaPackA
import Derived.WalkKit
import Derived.WalkSpells
import Derived.WalkLawsBesides
import Derived.Deep.QuietTactic
import Derived.BigQuiet
import Derived.Deep.RegionHeld3
import Derived.Deep.Cut
import Derived.Deep.CutRange
import Derived.IntWalk
import Derived.Laws.Bits64b
namespace Go.Proofs.Ytnlbjbnjjkilhaa
open Go.RowKit

theorem ow_pull {w : World} {B : Nat} {A L : List Row} {r : Row} (h : Own w B (A ++ (r :: L))) : Own w B (r :: (A ++ L)) := h.perm List.perm_middle.symm
theorem ow_push {w : World} {B : Nat} {A L : List Row} {r : Row} (h : Own w B (r :: (A ++ L))) : Own w B (A ++ (r :: L)) := h.perm List.perm_middle
theorem ow_cell {w : World} {B e z g n c : Nat} {cs : List Value} {R : List Row} (h : Own w B R) (hr : (⟨e, z, .slice (some ⟨g, 0, none⟩) n c, n, cs⟩ : Row) ∈ R) {j : Nat} (hj : j < n * z) : w.cell? ⟨g, j, none⟩ = some (cs.getD j undef) := by
  have ho := h.1 _ hr
  have h1 := ho.cellAt j hj
  have h2 : cs.length = n * z := ho.1
  rw [h1]
  have h3 : j < cs.length := by omega
  simp [h3]
theorem ow_frozen {w : World} {B e z g n c : Nat} {cs : List Value} {R : List Row} (h : Own w B R) (hr : (⟨e, z, .slice (some ⟨g, 0, none⟩) n c, n, cs⟩ : Row) ∈ R) (j : Nat) : w.frozen? ⟨g, j, none⟩ = false := (h.1 _ hr).frozenAt j
theorem ow_set {w : World} {B e z g n c : Nat} {cs : List Value} {A L : List Row} (h : Own w B (A ++ (⟨e, z, .slice (some ⟨g, 0, none⟩) n c, n, cs⟩ :: L))) (j : Nat) (u : Value) :
    Own (w.setCell ⟨g, j, none⟩ u) B (A ++ (⟨e, z, .slice (some ⟨g, 0, none⟩) n c, n, cs.set j u⟩ :: L)) := by
  have h' := ow_pull h
  exact ow_push (h'.turn (h'.head.stored j u).1 (h'.head.stored j u).2 (.inl rfl))
theorem ow_lt {w : World} {B e z g n c : Nat} {cs : List Value} {R : List Row} (h : Own w B (⟨e, z, .slice (some ⟨g, 0, none⟩) n c, n, cs⟩ :: R)) : B ≤ g ∧ g < w.heap.size :=
  h.head.lt g rfl
/-- the value reads as n bytes -/
def IsBytes (w : World) (v : Value) (n : Nat) : Prop := ∃ a c, v = .slice a n c ∧ ∀ j, j < n → ∃ b o x, a = some ⟨b, o, none⟩ ∧ w.cell? ⟨b, o + j, none⟩ = some (.int .u8 x) ∧ 0 ≤ x ∧ x ≤ 255
theorem IsBytes.form {w : World} {v : Value} {n : Nat} (h : IsBytes w v n) : ∃ a c, v = .slice a n c := by
  obtain ⟨a, c, h, _⟩ := h
  exact ⟨a, c, h⟩
theorem IsBytes.at {w w' : World} {a : Option Addr} {n c : Nat} (h : IsBytes w (.slice a n c) n) [e : Ext w w'] {k : Nat} (hk : k < n) : ∃ b o x, a = some ⟨b, o, none⟩ ∧ w'.cell? ⟨b, o + k, none⟩ = some (.int .u8 x) ∧ 0 ≤ x ∧ x ≤ 255 := by
  obtain ⟨a', c', h1, h2⟩ := h
  cases h1
  obtain ⟨b, o, x, h3, h4, h5⟩ := h2 k hk
  exact ⟨b, o, x, h3, e.cell h4, h5⟩
/-- the cursor lies in block c -/
abbrev curRow (c : Nat) (vc : Value) (a s : Int) : Row := ⟨50, 3, .slice (some ⟨c, 0, none⟩) 1 1, 1, [vc, .int .i64 a, .int .u64 s]⟩
theorem low_byte (y : Int) : 0 ≤ wrap64 (bits BinOp.and IntKind.u64 (IntKind.u64.wrap y / 1099511627776) 255) ∧ wrap64 (bits BinOp.and IntKind.u64 (IntKind.u64.wrap y / 1099511627776) 255) ≤ 255 := by
  have h1 : 0 ≤ IntKind.u64.wrap y ∧ IntKind.u64.wrap y < 18446744073709551616 := by
    simp only [IntKind.wrap, IntKind.bits, IntKind.signed]
    simp
    omega
  obtain ⟨m, hm⟩ := Int.eq_ofNat_of_zero_le h1.1
  rw [hm] at h1 ⊢
  have e : ((m : Int) / 1099511627776) = ((m / 1099511627776 : Nat) : Int) := by omega
  have h2 := bits_and_u64_nat (m / 1099511627776) 255 (by omega) (by omega)
  have h3 : (m / 1099511627776) &&& 255 ≤ 255 := Nat.and_le_right
  rw [e]
  have h2' : bits BinOp.and IntKind.u64 ((m / 1099511627776 : Nat) : Int) 255 = (((m / 1099511627776) &&& 255 : Nat) : Int) := h2
  rw [h2']
  generalize (m / 1099511627776) &&& 255 = q at *
  unfold wrap64
  omega
theorem cur_put {w : World} {B c : Nat} {vc : Value} {a s : Int} {R : List Row} (own : Own w B (curRow c vc a s :: R)) (m k : Nat) (a' s' : Int) :
    Own ((((w.drewN m).setCell ⟨c, 1, none⟩ (.int .i64 a')).setCell ⟨c, 2, none⟩ (.int .u64 s')).drewN k) B (curRow c vc a' s' :: R) ∧ Below B w ((((w.drewN m).setCell ⟨c, 1, none⟩ (.int .i64 a')).setCell ⟨c, 2, none⟩ (.int .u64 s')).drewN k) := by
  have o1 : Own (w.drewN m) B (curRow c vc a s :: R) := own.ext
  have o2 := ow_set (A := []) o1 1 (.int .i64 a')
  have o3 := ow_set (A := []) o2 2 (.int .u64 s')
  have hl := (ow_lt own).1
  refine ⟨o3.ext, ?_⟩
  have h1 : Below B w (w.drewN m) := ⟨rfl, rfl, rfl, Nat.le_refl _, fun _ _ => rfl⟩
  have h2 : Below B w (((w.drewN m).setCell ⟨c, 1, none⟩ (.int .i64 a')).setCell ⟨c, 2, none⟩ (.int .u64 s')) := (h1.setCell hl _).setCell hl _
  exact ⟨h2.os, h2.tape, h2.output, h2.size, h2.block⟩
set_option maxHeartbeats 1600000 in
set_option maxRecDepth 100000 in
theorem next_any {w0 w : World} [Ext w0 w] {vc : Value} {n : Nat} (hc : IsBytes w0 vc n) {B c : Nat} {a s : Int} {R : List Row} (own : Own w B (curRow c vc a s :: R)) (ha : 0 ≤ a) (ha2 : a ≤ 100000000) :
    Calls Try.prog 46 #[.pointer (some ⟨c, 0, none⟩)] w fun e w' => ∃ x s' : Int, e = .returned (.int .i64 x) ∧ 0 ≤ x ∧ x ≤ 255 ∧ Own w' B (curRow c vc (a + 1) s' :: R) ∧ Below B w w' := by
  obtain ⟨ac, cc, rfl⟩ := hc.form
  have k0 : w.cell? ⟨c, 0, none⟩ = some (.slice ac n cc) := ow_cell own (.head _) (j := 0) (by omega)
  have k1 : w.cell? ⟨c, 1, none⟩ = some (.int .i64 a) := ow_cell own (.head _) (j := 1) (by omega)
  have k2 : w.cell? ⟨c, 2, none⟩ = some (.int .u64 s) := ow_cell own (.head _) (j := 2) (by omega)
  have f1 := ow_frozen own (.head _) 1
  have f2 := ow_frozen own (.head _) 2
  obtain ⟨a, rfl⟩ := Int.eq_ofNat_of_zero_le ha
  by_cases hlt : a < n
  · obtain ⟨b, o, x, rfl, hcx, hx0, hx1⟩ := hc.at (w' := w) hlt
    go_enter Try.func46, Try.ntmps46
    go_wp2_with (go_quiet (fail))
    · go_ret
      exact ⟨x, _, rfl, hx0, hx1, (cur_put own _ _ _ _).1, (cur_put own _ _ _ _).2⟩
  · go_enter Try.func46, Try.ntmps46
    go_wp2_with (go_quiet (fail))
    go_ret
    exact ⟨_, _, rfl, (low_byte _).1, (low_byte _).2, (cur_put own _ _ _ _).1, (cur_put own _ _ _ _).2⟩
theorem mod_in {x N : Int} (hx : 0 ≤ x) (hN : 0 < N) : 0 ≤ x % N ∧ x % N < N ∧ x % N ≤ x := by
  have h1 := Int.emod_nonneg x (b := N) (by omega)
  have h2 := Int.emod_lt_of_pos x hN
  refine ⟨h1, h2, ?_⟩
  by_cases h : x < N
  · rw [Int.emod_eq_of_lt hx h]; omega
  · omega
/-- the cursor lies in block c, has read a steps, and the rows R are owned beside it -/
def CurAt (w : World) (B c : Nat) (vc : Value) (a : Int) (R : List Row) : Prop := ∃ s, Own w B (curRow c vc a s :: R)
theorem CurAt.ext {w w' : World} {B c : Nat} {vc : Value} {a : Int} {R : List Row} (h : CurAt w B c vc a R) [e : Ext w w'] : CurAt w' B c vc a R := by
  obtain ⟨s, h⟩ := h
  exact ⟨s, h.ext⟩
theorem CurAt.rows {w : World} {B c : Nat} {vc : Value} {a : Int} {R : List Row} (h : CurAt w B c vc a R) : Own w B R := by
  obtain ⟨s, h⟩ := h
  exact h.tail
theorem CurAt.perm {w : World} {B c : Nat} {vc : Value} {a : Int} {R R' : List Row} (h : CurAt w B c vc a R) (p : R'.Perm R) : CurAt w B c vc a R' := by
  obtain ⟨s, h⟩ := h
  exact ⟨s, h.perm (p.cons _)⟩
theorem CurAt.sub {w : World} {B c : Nat} {vc : Value} {a : Int} {R R' : List Row} (h : CurAt w B c vc a R) (p : R'.Sublist R) : CurAt w B c vc a R' := by
  obtain ⟨s, h⟩ := h
  exact ⟨s, h.sub (p.cons_cons _)⟩
theorem CurAt.drop {w : World} {B c : Nat} {vc : Value} {a : Int} {r : Row} {R : List Row} (h : CurAt w B c vc a (r :: R)) : CurAt w B c vc a R := h.sub (List.sublist_cons_self _ _)
/-- a fresh list of ints joins -/
theorem CurAt.lit {w : World} {B c : Nat} {vc : Value} {a : Int} {R : List Row} (h : CurAt w B c vc a R) {e n : Nat} {cs : Array Value} (xs : List Int) (hB : B ≤ w.heap.size) (hx : cs.toList = xs.map (Value.int .i64)) (hn : n = xs.length) (hs : xs.length ≤ 1000000) :
    CurAt (w.alloc (.cells cs e)) B c vc a (intRowOf e (.slice (some ⟨w.heap.size, 0, none⟩) n n) xs :: R) := by
  obtain ⟨s, h⟩ := h
  subst hn
  have hl : cs.size = xs.length * 1 := by rw [← Array.length_toList, hx]; simp
  have h1 := h.lit e 1 xs.length cs hB (by unfold maxLen; omega) hl
  rw [hx] at h1
  exact ⟨s, h1.perm (List.Perm.swap _ _ _)⟩
set_option maxHeartbeats 1600000 in
set_option maxRecDepth 100000 in
theorem pick_any {w0 w : World} [Ext w0 w] {vc : Value} {n : Nat} (hc : IsBytes w0 vc n) {B c : Nat} {a N : Int} {R : List Row} (own : CurAt w B c vc a R) (hwB : w0.heap.size ≤ B) (ha : 0 ≤ a) (ha2 : a ≤ 10000000) :
    Calls Try.prog 22 #[.pointer (some ⟨c, 0, none⟩), .int .i64 N] w fun e w' => ∃ x a' : Int, e = .returned (.int .i64 x) ∧ 0 ≤ x ∧ x ≤ 65535 ∧ (0 < N → x < N) ∧ a ≤ a' ∧ a' ≤ a + 2 ∧ CurAt w' B c vc a' R ∧ Below B w w' := by
  obtain ⟨s, own⟩ := own
  by_cases hN : N ≤ 1
  · go_enter Try.func22, Try.ntmps22
    go_wp2
    go_ret
    exact ⟨0, a, rfl, by omega, by omega, fun h => by omega, by omega, by omega, ⟨s, own⟩, Below.refl _ _⟩
  · go_enter Try.func22, Try.ntmps22
    go_wp2_with fail
    refine (next_any (w0 := w0) hc own ha (by omega)).mono ?_
    rintro e w1 ⟨x, s1, rfl, hx0, hx1, own1, hb1⟩
    by_cases h200 : 200 < N
    · have e1 : Ext w0 w1 := ⟨(‹Ext w0 w›).below.trans (hb1.mono hwB)⟩
      go_wp2_with fail
      refine (next_any (w0 := w0) hc own1 (by omega) (by omega)).mono ?_
      rintro e w2 ⟨y, s2, rfl, hy0, hy1, own2, hb2⟩
      have hm := hid (mod_in (x := x * 256 + y) (N := N) (by omega) (by omega))
      go_wp2_with fail
      go_ret
      exact ⟨_, a + 1 + 1, rfl, hm.out.1, Int.le_trans hm.out.2.2 (by omega), fun _ => hm.out.2.1, by omega, by omega, ⟨s2, own2⟩, hb1.trans hb2⟩
    · have hm := hid (mod_in (x := x) (N := N) (by omega) (by omega))
      go_wp2_with fail
      go_ret
      exact ⟨_, a + 1, rfl, hm.out.1, Int.le_trans hm.out.2.2 (by omega), fun _ => hm.out.2.1, by omega, by omega, ⟨s1, own1⟩, hb1⟩
set_option maxHeartbeats 400000 in
theorem one_any {w0 w : World} [Ext w0 w] {vc : Value} {n : Nat} (hc : IsBytes w0 vc n) {B c : Nat} {a N : Int} {R : List Row} (own : CurAt w B c vc a R) (hwB : w0.heap.size ≤ B) (ha : 0 ≤ a) (ha2 : a ≤ 10000000) :
    Calls Try.prog 35 #[.pointer (some ⟨c, 0, none⟩), .int .i64 N] w fun e w' => ∃ (b : Bool) (a' : Int), e = .returned (.bool b) ∧ a ≤ a' ∧ a' ≤ a + 2 ∧ CurAt w' B c vc a' R ∧ Below B w w' := by
  go_enter Try.func35, Try.ntmps35
  go_wp2_with fail
  refine (pick_any (w0 := w0) hc own hwB ha ha2).mono ?_
  rintro e w1 ⟨x, a1, rfl, h0, h1, h2, h3, h4, h5, h6⟩
  go_wp2_with fail
  go_ret
  exact ⟨_, a1, rfl, h3, h4, h5, h6⟩
set_option maxHeartbeats 400000 in
theorem among_any {w0 w : World} [Ext w0 w] {vc : Value} {n : Nat} (hc : IsBytes w0 vc n) {B c : Nat} {a : Int} {e0 : Nat} {v : Value} {xs : List Int} {R : List Row} (own : CurAt w B c vc a (intRowOf e0 v xs :: R)) (hwB : w0.heap.size ≤ B) (ha : 0 ≤ a) (ha2 : a ≤ 10000000) (hx : 0 < xs.length) (hl : xs.length ≤ 1000000) :
    Calls Try.prog 21 #[.pointer (some ⟨c, 0, none⟩), v] w fun e w' => ∃ x a' : Int, e = .returned (.int .i64 x) ∧ x ∈ xs ∧ a ≤ a' ∧ a' ≤ a + 2 ∧ CurAt w' B c vc a' (intRowOf e0 v xs :: R) ∧ Below B w w' := by
  obtain ⟨d, m, hv⟩ := own.rows.form
  have hv' : v = .slice d xs.length m := hv
  subst hv'
  obtain ⟨g, rfl⟩ := own.rows.at (j := 0) hx
  go_enter Try.func21, Try.ntmps21
  go_wp2_with fail
  refine (pick_any (w0 := w0) hc own hwB ha ha2).mono ?_
  rintro e w1 ⟨x, a1, rfl, h0, h1, h2, h3, h4, h5, h6⟩
  obtain ⟨x, rfl⟩ := Int.eq_ofNat_of_zero_le h0
  have hlt : x < xs.length := by have := h2 (by omega); omega
  have vX : w1.cell? ⟨g, x, none⟩ = some (.int .i64 (nth xs x)) := by
    rw [h5.rows.cellAt (w' := w1) (j := x) hlt]
    simp [nth, hlt]
  go_wp2_with fail
  go_ret
  exact ⟨_, a1, rfl, nth_mem hlt, h3, h4, h5, h6⟩
end Go.Proofs.Ytnlbjbnjjkilhaa
