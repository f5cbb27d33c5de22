/- Several texts in one: the first ones that the others lean on. -/
import Derived.Test.YtaphnkgjcmneoaaGreatDoorProg
import Derived.WalkKit
import Derived.WalkSpells
import Derived.WalkLawsBesides
import Derived.Deep.QuietTactic
import Derived.BigQuiet
import Derived.Deep.RegionHeld3
import Derived.Deep.Cut
import Derived.Deep.CutRange
import Derived.IntWalk
import Derived.Laws.Bits64b
import Derived.Lib.IndexMore
import Derived.Sort.OwnSortedInts
import Derived.Lib.OwnBridge
import Derived.Test.YtaphnkgjcmneoaaGreatDoorPackA
/- The cursor that reads choices from bytes: what it returns lies in its bounds, and nothing else changes. -/
namespace Go.Proofs.YtaphnkgjcmneoaaGreatDoor
open Go.RowKit

theorem ow_pull {w : World} {B : Nat} {A L : List Row} {r : Row} (h : Own w B (A ++ (r :: L))) : Own w B (r :: (A ++ L)) := h.perm List.perm_middle.symm
theorem ow_push {w : World} {B : Nat} {A L : List Row} {r : Row} (h : Own w B (r :: (A ++ L))) : Own w B (A ++ (r :: L)) := h.perm List.perm_middle
theorem ow_cell {w : World} {B e z g n c : Nat} {cs : List Value} {R : List Row} (h : Own w B R) (hr : (⟨e, z, .slice (some ⟨g, 0, none⟩) n c, n, cs⟩ : Row) ∈ R) {j : Nat} (hj : j < n * z) : w.cell? ⟨g, j, none⟩ = some (cs.getD j undef) := by
  have ho := h.1 _ hr
  have h1 := ho.cellAt j hj
  have h2 : cs.length = n * z := ho.1
  rw [h1]
  have h3 : j < cs.length := by omega
  simp [h3]
theorem ow_frozen {w : World} {B e z g n c : Nat} {cs : List Value} {R : List Row} (h : Own w B R) (hr : (⟨e, z, .slice (some ⟨g, 0, none⟩) n c, n, cs⟩ : Row) ∈ R) (j : Nat) : w.frozen? ⟨g, j, none⟩ = false := (h.1 _ hr).frozenAt j
theorem ow_set {w : World} {B e z g n c : Nat} {cs : List Value} {A L : List Row} (h : Own w B (A ++ (⟨e, z, .slice (some ⟨g, 0, none⟩) n c, n, cs⟩ :: L))) (j : Nat) (u : Value) :
    Own (w.setCell ⟨g, j, none⟩ u) B (A ++ (⟨e, z, .slice (some ⟨g, 0, none⟩) n c, n, cs.set j u⟩ :: L)) := by
  have h' := ow_pull h
  exact ow_push (h'.turn (h'.head.stored j u).1 (h'.head.stored j u).2 (.inl rfl))
theorem ow_lt {w : World} {B e z g n c : Nat} {cs : List Value} {R : List Row} (h : Own w B (⟨e, z, .slice (some ⟨g, 0, none⟩) n c, n, cs⟩ :: R)) : B ≤ g ∧ g < w.heap.size :=
  h.head.lt g rfl

/-- the value reads as n bytes -/
def IsBytes (w : World) (v : Value) (n : Nat) : Prop := ∃ a c, v = .slice a n c ∧ ∀ j, j < n → ∃ b o x, a = some ⟨b, o, none⟩ ∧ w.cell? ⟨b, o + j, none⟩ = some (.int .u8 x) ∧ 0 ≤ x ∧ x ≤ 255
theorem IsBytes.form {w : World} {v : Value} {n : Nat} (h : IsBytes w v n) : ∃ a c, v = .slice a n c := by
  obtain ⟨a, c, h, _⟩ := h
  exact ⟨a, c, h⟩
theorem IsBytes.at {w w' : World} {a : Option Addr} {n c : Nat} (h : IsBytes w (.slice a n c) n) [e : Ext w w'] {k : Nat} (hk : k < n) : ∃ b o x, a = some ⟨b, o, none⟩ ∧ w'.cell? ⟨b, o + k, none⟩ = some (.int .u8 x) ∧ 0 ≤ x ∧ x ≤ 255 := by
  obtain ⟨a', c', h1, h2⟩ := h
  cases h1
  obtain ⟨b, o, x, h3, h4, h5⟩ := h2 k hk
  exact ⟨b, o, x, h3, e.cell h4, h5⟩
/-- the cursor lies in block c -/
abbrev curRow (c : Nat) (vc : Value) (a s : Int) : Row := ⟨49, 3, .slice (some ⟨c, 0, none⟩) 1 1, 1, [vc, .int .i64 a, .int .u64 s]⟩

theorem low_byte (y : Int) : 0 ≤ wrap64 (bits BinOp.and IntKind.u64 (IntKind.u64.wrap y / 1099511627776) 255) ∧ wrap64 (bits BinOp.and IntKind.u64 (IntKind.u64.wrap y / 1099511627776) 255) ≤ 255 := by
  have h1 : 0 ≤ IntKind.u64.wrap y ∧ IntKind.u64.wrap y < 18446744073709551616 := by
    simp only [IntKind.wrap, IntKind.bits, IntKind.signed]
    simp
    omega
  obtain ⟨m, hm⟩ := Int.eq_ofNat_of_zero_le h1.1
  rw [hm] at h1 ⊢
  have e : ((m : Int) / 1099511627776) = ((m / 1099511627776 : Nat) : Int) := by omega
  have h2 := bits_and_u64_nat (m / 1099511627776) 255 (by omega) (by omega)
  have h3 : (m / 1099511627776) &&& 255 ≤ 255 := Nat.and_le_right
  rw [e]
  have h2' : bits BinOp.and IntKind.u64 ((m / 1099511627776 : Nat) : Int) 255 = (((m / 1099511627776) &&& 255 : Nat) : Int) := h2
  rw [h2']
  generalize (m / 1099511627776) &&& 255 = q at *
  unfold wrap64
  omega
theorem cur_put {w : World} {B c : Nat} {vc : Value} {a s : Int} {R : List Row} (own : Own w B (curRow c vc a s :: R)) (m k : Nat) (a' s' : Int) :
    Own ((((w.drewN m).setCell ⟨c, 1, none⟩ (.int .i64 a')).setCell ⟨c, 2, none⟩ (.int .u64 s')).drewN k) B (curRow c vc a' s' :: R) ∧ Below B w ((((w.drewN m).setCell ⟨c, 1, none⟩ (.int .i64 a')).setCell ⟨c, 2, none⟩ (.int .u64 s')).drewN k) := by
  have o1 : Own (w.drewN m) B (curRow c vc a s :: R) := own.ext
  have o2 := ow_set (A := []) o1 1 (.int .i64 a')
  have o3 := ow_set (A := []) o2 2 (.int .u64 s')
  have hl := (ow_lt own).1
  refine ⟨o3.ext, ?_⟩
  have h1 : Below B w (w.drewN m) := ⟨rfl, rfl, rfl, Nat.le_refl _, fun _ _ => rfl⟩
  have h2 : Below B w (((w.drewN m).setCell ⟨c, 1, none⟩ (.int .i64 a')).setCell ⟨c, 2, none⟩ (.int .u64 s')) := (h1.setCell hl _).setCell hl _
  exact ⟨h2.os, h2.tape, h2.output, h2.size, h2.block⟩

set_option maxHeartbeats 1600000 in
set_option maxRecDepth 100000 in
theorem next_any {w0 w : World} [Ext w0 w] {vc : Value} {n : Nat} (hc : IsBytes w0 vc n) {B c : Nat} {a s : Int} {R : List Row} (own : Own w B (curRow c vc a s :: R)) (ha : 0 ≤ a) (ha2 : a ≤ 100000000) :
    Calls Tryz.prog 79 #[.pointer (some ⟨c, 0, none⟩)] w fun e w' => ∃ x s' : Int, e = .returned (.int .i64 x) ∧ 0 ≤ x ∧ x ≤ 255 ∧ Own w' B (curRow c vc (a + 1) s' :: R) ∧ Below B w w' := by
  obtain ⟨ac, cc, rfl⟩ := hc.form
  have k0 : w.cell? ⟨c, 0, none⟩ = some (.slice ac n cc) := ow_cell own (.head _) (j := 0) (by omega)
  have k1 : w.cell? ⟨c, 1, none⟩ = some (.int .i64 a) := ow_cell own (.head _) (j := 1) (by omega)
  have k2 : w.cell? ⟨c, 2, none⟩ = some (.int .u64 s) := ow_cell own (.head _) (j := 2) (by omega)
  have f1 := ow_frozen own (.head _) 1
  have f2 := ow_frozen own (.head _) 2
  obtain ⟨a, rfl⟩ := Int.eq_ofNat_of_zero_le ha
  by_cases hlt : a < n
  · obtain ⟨b, o, x, rfl, hcx, hx0, hx1⟩ := hc.at (w' := w) hlt
    go_enter Tryz.func79, Tryz.ntmps79
    go_wp2_with (go_quiet (fail))
    · go_ret
      exact ⟨x, _, rfl, hx0, hx1, (cur_put own _ _ _ _).1, (cur_put own _ _ _ _).2⟩
  · go_enter Tryz.func79, Tryz.ntmps79
    go_wp2_with (go_quiet (fail))
    go_ret
    exact ⟨_, _, rfl, (low_byte _).1, (low_byte _).2, (cur_put own _ _ _ _).1, (cur_put own _ _ _ _).2⟩

theorem mod_in {x N : Int} (hx : 0 ≤ x) (hN : 0 < N) : 0 ≤ x % N ∧ x % N < N ∧ x % N ≤ x := by
  have h1 := Int.emod_nonneg x (b := N) (by omega)
  have h2 := Int.emod_lt_of_pos x hN
  refine ⟨h1, h2, ?_⟩
  by_cases h : x < N
  · rw [Int.emod_eq_of_lt hx h]; omega
  · omega
/-- the cursor lies in block c, has read a steps, and the rows R are owned beside it -/
def CurAt (w : World) (B c : Nat) (vc : Value) (a : Int) (R : List Row) : Prop := ∃ s, Own w B (curRow c vc a s :: R)
theorem CurAt.ext {w w' : World} {B c : Nat} {vc : Value} {a : Int} {R : List Row} (h : CurAt w B c vc a R) [e : Ext w w'] : CurAt w' B c vc a R := by
  obtain ⟨s, h⟩ := h
  exact ⟨s, h.ext⟩
theorem CurAt.rows {w : World} {B c : Nat} {vc : Value} {a : Int} {R : List Row} (h : CurAt w B c vc a R) : Own w B R := by
  obtain ⟨s, h⟩ := h
  exact h.tail
theorem CurAt.perm {w : World} {B c : Nat} {vc : Value} {a : Int} {R R' : List Row} (h : CurAt w B c vc a R) (p : R'.Perm R) : CurAt w B c vc a R' := by
  obtain ⟨s, h⟩ := h
  exact ⟨s, h.perm (p.cons _)⟩
theorem CurAt.sub {w : World} {B c : Nat} {vc : Value} {a : Int} {R R' : List Row} (h : CurAt w B c vc a R) (p : R'.Sublist R) : CurAt w B c vc a R' := by
  obtain ⟨s, h⟩ := h
  exact ⟨s, h.sub (p.cons_cons _)⟩
theorem CurAt.drop {w : World} {B c : Nat} {vc : Value} {a : Int} {r : Row} {R : List Row} (h : CurAt w B c vc a (r :: R)) : CurAt w B c vc a R := h.sub (List.sublist_cons_self _ _)
/-- a fresh list of ints joins -/
theorem CurAt.lit {w : World} {B c : Nat} {vc : Value} {a : Int} {R : List Row} (h : CurAt w B c vc a R) {e n : Nat} {cs : Array Value} (xs : List Int) (hB : B ≤ w.heap.size) (hx : cs.toList = xs.map (Value.int .i64)) (hn : n = xs.length) (hs : xs.length ≤ 1000000) :
    CurAt (w.alloc (.cells cs e)) B c vc a (intRowOf e (.slice (some ⟨w.heap.size, 0, none⟩) n n) xs :: R) := by
  obtain ⟨s, h⟩ := h
  subst hn
  have hl : cs.size = xs.length * 1 := by rw [← Array.length_toList, hx]; simp
  have h1 := h.lit e 1 xs.length cs hB (by unfold maxLen; omega) hl
  rw [hx] at h1
  exact ⟨s, h1.perm (List.Perm.swap _ _ _)⟩
/-- a row that another list of rows was made into -/
theorem CurAt.of {w : World} {B c : Nat} {vc : Value} {a s : Int} {R : List Row} (h : Own w B (curRow c vc a s :: R)) : CurAt w B c vc a R := ⟨s, h⟩

set_option maxHeartbeats 1600000 in
set_option maxRecDepth 100000 in
theorem pick_any {w0 w : World} [Ext w0 w] {vc : Value} {n : Nat} (hc : IsBytes w0 vc n) {B c : Nat} {a N : Int} {R : List Row} (own : CurAt w B c vc a R) (hwB : w0.heap.size ≤ B) (ha : 0 ≤ a) (ha2 : a ≤ 10000000) :
    Calls Tryz.prog 43 #[.pointer (some ⟨c, 0, none⟩), .int .i64 N] w fun e w' => ∃ x a' : Int, e = .returned (.int .i64 x) ∧ 0 ≤ x ∧ x ≤ 65535 ∧ (0 < N → x < N) ∧ a ≤ a' ∧ a' ≤ a + 2 ∧ CurAt w' B c vc a' R ∧ Below B w w' := by
  obtain ⟨s, own⟩ := own
  by_cases hN : N ≤ 1
  · go_enter Tryz.func43, Tryz.ntmps43
    go_wp2
    go_ret
    exact ⟨0, a, rfl, by omega, by omega, fun h => by omega, by omega, by omega, ⟨s, own⟩, Below.refl _ _⟩
  · go_enter Tryz.func43, Tryz.ntmps43
    go_wp2_with fail
    refine (next_any (w0 := w0) hc own ha (by omega)).mono ?_
    rintro e w1 ⟨x, s1, rfl, hx0, hx1, own1, hb1⟩
    by_cases h200 : 200 < N
    · have e1 : Ext w0 w1 := ⟨(‹Ext w0 w›).below.trans (hb1.mono hwB)⟩
      go_wp2_with fail
      refine (next_any (w0 := w0) hc own1 (by omega) (by omega)).mono ?_
      rintro e w2 ⟨y, s2, rfl, hy0, hy1, own2, hb2⟩
      have hm := hid (mod_in (x := x * 256 + y) (N := N) (by omega) (by omega))
      go_wp2_with fail
      go_ret
      exact ⟨_, a + 1 + 1, rfl, hm.out.1, Int.le_trans hm.out.2.2 (by omega), fun _ => hm.out.2.1, by omega, by omega, ⟨s2, own2⟩, hb1.trans hb2⟩
    · have hm := hid (mod_in (x := x) (N := N) (by omega) (by omega))
      go_wp2_with fail
      go_ret
      exact ⟨_, a + 1, rfl, hm.out.1, Int.le_trans hm.out.2.2 (by omega), fun _ => hm.out.2.1, by omega, by omega, ⟨s1, own1⟩, hb1⟩

set_option maxHeartbeats 400000 in
theorem one_any {w0 w : World} [Ext w0 w] {vc : Value} {n : Nat} (hc : IsBytes w0 vc n) {B c : Nat} {a N : Int} {R : List Row} (own : CurAt w B c vc a R) (hwB : w0.heap.size ≤ B) (ha : 0 ≤ a) (ha2 : a ≤ 10000000) :
    Calls Tryz.prog 44 #[.pointer (some ⟨c, 0, none⟩), .int .i64 N] w fun e w' => ∃ (b : Bool) (a' : Int), e = .returned (.bool b) ∧ a ≤ a' ∧ a' ≤ a + 2 ∧ CurAt w' B c vc a' R ∧ Below B w w' := by
  go_enter Tryz.func44, Tryz.ntmps44
  go_wp2_with fail
  refine (pick_any (w0 := w0) hc own hwB ha ha2).mono ?_
  rintro e w1 ⟨x, a1, rfl, h0, h1, h2, h3, h4, h5, h6⟩
  go_wp2_with fail
  go_ret
  exact ⟨_, a1, rfl, h3, h4, h5, h6⟩

set_option maxHeartbeats 400000 in
theorem among_any {w0 w : World} [Ext w0 w] {vc : Value} {n : Nat} (hc : IsBytes w0 vc n) {B c : Nat} {a : Int} {e0 : Nat} {v : Value} {xs : List Int} {R : List Row} (own : CurAt w B c vc a (intRowOf e0 v xs :: R)) (hwB : w0.heap.size ≤ B) (ha : 0 ≤ a) (ha2 : a ≤ 10000000) (hx : 0 < xs.length) (hl : xs.length ≤ 1000000) :
    Calls Tryz.prog 61 #[.pointer (some ⟨c, 0, none⟩), v] w fun e w' => ∃ x a' : Int, e = .returned (.int .i64 x) ∧ x ∈ xs ∧ a ≤ a' ∧ a' ≤ a + 2 ∧ CurAt w' B c vc a' (intRowOf e0 v xs :: R) ∧ Below B w w' := by
  obtain ⟨d, m, hv⟩ := own.rows.form
  have hv' : v = .slice d xs.length m := hv
  subst hv'
  obtain ⟨g, rfl⟩ := own.rows.at (j := 0) hx
  go_enter Tryz.func61, Tryz.ntmps61
  go_wp2_with fail
  refine (pick_any (w0 := w0) hc own hwB ha ha2).mono ?_
  rintro e w1 ⟨x, a1, rfl, h0, h1, h2, h3, h4, h5, h6⟩
  obtain ⟨x, rfl⟩ := Int.eq_ofNat_of_zero_le h0
  have hlt : x < xs.length := by have := h2 (by omega); omega
  have vX : w1.cell? ⟨g, x, none⟩ = some (.int .i64 (nth xs x)) := by
    rw [h5.rows.cellAt (w' := w1) (j := x) hlt]
    simp [nth, hlt]
  go_wp2_with fail
  go_ret
  exact ⟨_, a1, rfl, nth_mem hlt, h3, h4, h5, h6⟩
end Go.Proofs.YtaphnkgjcmneoaaGreatDoor

/- What the laws compare with: lists with both answers, tables where both sides are equal. Written by vlaw.py. -/
namespace Go.Proofs.YtaphnkgjcmneoaaGreatDoor
open Go.RowKit


set_option maxHeartbeats 800000 in
set_option maxRecDepth 100000 in
theorem vInts_any {v1 v2 : Value} {xs ys : List Int} {w0 w : World} [Ext w0 w] (hx : IsInts w0 v1 xs) (hy : IsInts w0 v2 ys) :
    Calls Tryz.prog 41 #[v1, v2] w fun e w' => e = .returned (.bool (decide (xs = ys))) ∧ Ext w w' := by
  obtain ⟨a, ca, rfl, la⟩ := hx.form
  obtain ⟨b, cb, rfl, lb⟩ := hy.form
  by_cases hn : xs.length = ys.length
  · have hne : ((xs.length : Int) != ys.length) = false := by simp [hn]
    replace hn := hid hn
    go_enter Tryz.func41, Tryz.ntmps41
    go_wp2
    go_loopw [5] (fun i wr => ∃ k : Nat, k ≤ xs.length ∧ i = .int .i64 k ∧ Hid (∀ j, j < k → nth xs j = nth ys j) ∧ Drew w wr) (fun i _ => xs.length - (intOf i).toNat)
    case atStart => exact ⟨0, by omega, rfl, by intro j hj; omega, Drew.refl _⟩
    case round =>
      obtain ⟨k, hk, rfl, heq, hd⟩ := hrel
      have ed : Ext w wr := hd.ext
      have e0 : Ext w0 wr := Ext.trans ‹Ext w0 w› ed
      by_cases hlt : k < xs.length
      · have hlt2 : k < ys.length := by have := hn.out; omega
        have hlt2' : (k : Int) < (ys.length : Int) := by omega
        obtain ⟨b1, o1, rfl, hc1⟩ := hx.at (w' := wr) hlt
        obtain ⟨b2, o2, rfl, hc2⟩ := hy.at (w' := wr) hlt2
        by_cases hc : nth xs k = nth ys k
        · have hc' : (nth xs k != nth ys k) = false := by simp [hc]
          replace hc := hid hc
          go_wp2_with (go_quiet (fail))
          go_roundw
          case rel =>
            refine ⟨k + 1, by omega, by go_num, ?_, hd.step _⟩
            intro j hj
            by_cases hjk : j = k
            · subst hjk; exact hc.out
            · exact heq.out j (by omega)
          case measure => simp [intOf]; omega
        · have hc' : (nth xs k != nth ys k) = true := by simpa using hc
          have hfin := hid (show decide (xs = ys) = false from decide_eq_false (fun h => hc (by rw [h])))
          replace hc := hid hc
          go_wp2_with (go_quiet (fail))
          go_ret
          exact ⟨ret_bool hfin.out.symm, Ext.trans ed inferInstance⟩
      · have hfin := hid (show decide (xs = ys) = true from decide_eq_true (eq_of_nth hn.out (fun j hj => heq.out j (by omega))))
        go_wp2
        go_ret
        exact ⟨ret_bool hfin.out.symm, ed⟩
  · have hne : ((xs.length : Int) != ys.length) = true := by simp; omega
    have hfin := hid (show decide (xs = ys) = false from decide_eq_false (fun h => hn (by rw [h])))
    replace hn := hid hn
    go_enter Tryz.func41, Tryz.ntmps41
    go_wp2
    go_ret
    exact ⟨ret_bool hfin.out.symm, Ext.refl _⟩

theorem vInts_same {v u : Value} {X : List Int} {w0 w : World} [Ext w0 w] (hv : IsInts w0 v X) (hu : IsInts w0 u X) :
    Calls Tryz.prog 41 #[v, u] w fun e w' => e = .returned (.bool true) ∧ Ext w w' := by
  refine (vInts_any hv hu).mono ?_
  rintro e w' ⟨rfl, e1⟩
  exact ⟨by rw [decide_eq_true rfl], e1⟩

set_option maxHeartbeats 400000 in
theorem vBig_l {v : Value} {n : Nat} {w : World} (hv : IsBytes w v n) :
    Calls Tryz.prog 4 #[v] w fun e w' => e = .returned (.bool (decide (65536 < n))) ∧ w = w' := by
  obtain ⟨a, c, rfl⟩ := hv.form
  by_cases h : 65536 < n
  · go_enter Tryz.func4, Tryz.ntmps4
    go_wp2
    go_ret
    exact ⟨ret_bool (decide_eq_decide.2 (by omega)), rfl⟩
  · go_enter Tryz.func4, Tryz.ntmps4
    go_wp2
    go_ret
    exact ⟨ret_bool (decide_eq_decide.2 (by omega)), rfl⟩

end Go.Proofs.YtaphnkgjcmneoaaGreatDoor

/- Metrics that draws make: uniform ones and lines. -/
namespace Go.Proofs.YtaphnkgjcmneoaaGreatDoor
open Go.RowKit

/-- rows: their list comes to the front -/
theorem rw_out {w : World} {B e1 e2 : Nat} {v : Value} {vs : List Value} {M : List (List Int)} {W : Row} {A R : List Row} (h : Own w B (W :: (A ++ (rowsOf e1 e2 v vs M ++ R)))) :
    Own w B (⟨e1, 1, v, vs.length, vs⟩ :: (W :: (A ++ (List.zipWith (intRowOf e2) vs M ++ R)))) :=
  ow_pull (A := W :: A) (L := List.zipWith (intRowOf e2) vs M ++ R) h
/-- and goes back with a new row -/
theorem rw_in {w : World} {B e1 e2 : Nat} {v rv : Value} {vs : List Value} {M : List (List Int)} {xs : List Int} {A R : List Row} (h : Own w B (⟨e1, 1, v, vs.length + 1, vs ++ [rv]⟩ :: (intRowOf e2 rv xs :: (A ++ (List.zipWith (intRowOf e2) vs M ++ R))))) (hl : vs.length = M.length) :
    Own w B (A ++ (rowsOf e1 e2 v (vs ++ [rv]) (M ++ [xs]) ++ R)) := by
  have e : rowsOf e1 e2 v (vs ++ [rv]) (M ++ [xs]) ++ R = (⟨e1, 1, v, vs.length + 1, vs ++ [rv]⟩ : Row) :: (List.zipWith (intRowOf e2) vs M ++ (intRowOf e2 rv xs :: R)) := by
    unfold rowsOf valRowOf
    rw [List.zipWith_append hl, List.length_append]
    simp
  rw [e]
  refine ow_push (h.perm ?_)
  refine List.Perm.cons _ ?_
  have p := List.perm_middle (a := intRowOf e2 rv xs) (l₁ := A ++ List.zipWith (intRowOf e2) vs M) (l₂ := R)
  simpa only [List.append_assoc] using p
theorem ow_front {w : World} {B : Nat} {A T R : List Row} (h : Own w B (A ++ (T ++ R))) : Own w B (T ++ (A ++ R)) := by
  refine h.perm ?_
  rw [← List.append_assoc, ← List.append_assoc]
  exact List.perm_append_comm.append_right R
/-- a table at the front: its cells -/
theorem rw_cell {w : World} {B e1 e2 g n c : Nat} {vs : List Value} {M : List (List Int)} {R : List Row} (h : Own w B (rowsOf e1 e2 (.slice (some ⟨g, 0, none⟩) n c) vs M ++ R)) (hn : vs.length = n) {j : Nat} {u : Value} (hu : vs[j]? = some u) :
    w.cell? ⟨g, j, none⟩ = some u ∧ w.frozen? ⟨g, j, none⟩ = false := by
  subst hn
  have h1 : Own w B (⟨e1, 1, .slice (some ⟨g, 0, none⟩) vs.length c, vs.length, vs⟩ :: (List.zipWith (intRowOf e2) vs M ++ R)) := h
  have hj : j < vs.length := (List.getElem?_eq_some_iff.1 hu).1
  refine ⟨?_, h1.frozenAt j⟩
  rw [h1.cellAt (w' := w) hj, List.getD_eq_getElem?_getD, hu]; rfl
/-- a row of it -/
theorem rw_row {w : World} {B e1 e2 : Nat} {v : Value} {vs : List Value} {M : List (List Int)} {R : List Row} (h : Own w B (rowsOf e1 e2 v vs M ++ R)) {j : Nat} (hj : j < M.length) {u : Value} (hu : vs[j]? = some u) :
    Own w B (intRowOf e2 u (row M j) :: (rowsOf e1 e2 v vs M ++ R).eraseIdx (j + 1)) := by
  have hr : M[j]? = some (row M j) := by simp [row, hj]
  exact h.pick (h.rowAt hr hu)
theorem rw_form {w : World} {B e1 e2 : Nat} {v : Value} {vs : List Value} {M : List (List Int)} {R : List Row} (h : Own w B (rowsOf e1 e2 v vs M ++ R)) (hl : vs.length = M.length) {j : Nat} (hj : j < M.length) (h0 : 0 < (row M j).length) :
    ∃ g m, vs[j]? = some (.slice (some ⟨g, 0, none⟩) (row M j).length m) ∧ B ≤ g := by
  obtain ⟨u, hu⟩ : ∃ u, vs[j]? = some u := ⟨_, List.getElem?_eq_getElem (by omega)⟩
  have hpick := rw_row h hj hu
  obtain ⟨d, m, hd⟩ := hpick.form
  have hd' : u = .slice d (row M j).length m := hd
  subst hd'
  obtain ⟨g, rfl⟩ := hpick.at h0
  exact ⟨g, m, hu, hpick.lt.1⟩
theorem rw_at {w : World} {B e1 e2 g l m : Nat} {v : Value} {vs : List Value} {M : List (List Int)} {R : List Row} (h : Own w B (rowsOf e1 e2 v vs M ++ R)) {j : Nat} (hj : j < M.length) (hu : vs[j]? = some (.slice (some ⟨g, 0, none⟩) l m)) (hl : (row M j).length = l) {q : Nat} (hq : q < l) :
    w.cell? ⟨g, q, none⟩ = some (.int .i64 (nth (row M j) q)) ∧ w.frozen? ⟨g, q, none⟩ = false := by
  subst hl
  have hpick := rw_row h hj hu
  refine ⟨?_, hpick.frozenAt q⟩
  rw [hpick.cellAt (w' := w) hq]
  simp [nth, hq]
/-- a cell of a row of it is written -/
theorem rw_put {w : World} {B e1 e2 g l m : Nat} {v : Value} {vs : List Value} {M : List (List Int)} {R : List Row} (h : Own w B (rowsOf e1 e2 v vs M ++ R)) (hv : vs.length = M.length) {j : Nat} (hj : j < M.length) (hu : vs[j]? = some (.slice (some ⟨g, 0, none⟩) l m)) (hl : (row M j).length = l) (q : Nat) (x : Int) :
    Own (w.setCell ⟨g, q, none⟩ (.int .i64 x)) B (rowsOf e1 e2 v vs (M.set j ((row M j).set q x)) ++ R) := by
  subst hl
  have hpick := (rw_row h hj hu).set q (.int .i64 x)
  rw [← List.map_set] at hpick
  have e : (⟨e2, 1, .slice (some ⟨g, 0, none⟩) (row M j).length m, (row M j).length, ((row M j).set q x).map (Value.int .i64)⟩ : Row) = intRowOf e2 (.slice (some ⟨g, 0, none⟩) (row M j).length m) ((row M j).set q x) := by
    unfold intRowOf
    rw [List.length_set]
  rw [e] at hpick
  have h' := hpick.put (by unfold rowsOf; simp; omega)
  rw [rowsOf_set (by omega) hu] at h'
  exact h'

theorem ow_ints {w : World} {B e : Nat} {v : Value} {xs : List Int} {R : List Row} (h : Own w B (intRowOf e v xs :: R)) : ∃ d m, v = .slice d xs.length m := h.form
theorem ow_snoc {w : World} {B e : Nat} {v : Value} {xs : List Int} {x : Int} {n : Nat} {R : List Row} (h : Own w B (⟨e, 1, v, n + 1, xs.map (Value.int .i64) ++ [.int .i64 x]⟩ :: R)) (hn : n = xs.length) : Own w B (intRowOf e v (xs ++ [x]) :: R) := by
  subst hn
  unfold intRowOf
  rw [List.length_append, List.map_append]
  exact h
def uniRow (f : Nat → Nat → Int) (x m : Nat) : List Int := (List.range m).map (f x)
def uniTab (f : Nat → Nat → Int) (m n : Nat) : List (List Int) := (List.range n).map fun x => uniRow f x m
theorem uniRow_succ (f : Nat → Nat → Int) (x m : Nat) : uniRow f x (m + 1) = uniRow f x m ++ [f x m] := by simp [uniRow, List.range_succ]
theorem uniTab_succ (f : Nat → Nat → Int) (m n : Nat) : uniTab f m (n + 1) = uniTab f m n ++ [uniRow f n m] := by simp [uniTab, List.range_succ]
theorem uniRow_length (f : Nat → Nat → Int) (x m : Nat) : (uniRow f x m).length = m := by simp [uniRow]
theorem uniTab_length (f : Nat → Nat → Int) (m n : Nat) : (uniTab f m n).length = n := by simp [uniTab]
theorem uniTab_row {f : Nat → Nat → Int} {m n : Nat} {r : List Int} (h : r ∈ uniTab f m n) : ∃ x, x < n ∧ r = uniRow f x m := by
  obtain ⟨x, hx, rfl⟩ := List.mem_map.1 h
  exact ⟨x, List.mem_range.1 hx, rfl⟩
abbrev boxRow (e z b : Nat) (cs : List Value) : Row := ⟨e, z, .slice (some ⟨b, 0, none⟩) 1 1, 1, cs⟩

end Go.Proofs.YtaphnkgjcmneoaaGreatDoor

/- Metrics of places on a line, as draws make them. -/
namespace Go.Proofs.YtaphnkgjcmneoaaGreatDoor
open Go.RowKit

theorem l1Most_any (a b : Int) (w : World) :
    Calls Tryz.prog 62 #[.int .i64 a, .int .i64 b] w fun e w' => e = .returned (.int .i64 (max a b)) ∧ w = w' := by
  by_cases h : a > b
  · have hr := hid (show max a b = a by omega)
    have h' : decide (b < a) = true := by simpa using h
    go_enter Tryz.func62, Tryz.ntmps62
    go_wp2
    go_ret
    exact ⟨ret_int hr.out.symm, rfl⟩
  · have hr := hid (show max a b = b by omega)
    have h' : decide (b < a) = false := by simpa using h
    go_enter Tryz.func62, Tryz.ntmps62
    go_wp2
    go_ret
    exact ⟨ret_int hr.out.symm, rfl⟩
/-- n rows of n numbers each, all small -/
def TabOk (M : List (List Int)) (n : Nat) : Prop := M.length = n ∧ ∀ j, j < n → (row M j).length = n ∧ ∀ q, q < n → -100000 ≤ cell M j q ∧ cell M j q ≤ 100000
theorem TabOk.set {M : List (List Int)} {n : Nat} (h : TabOk M n) {j : Nat} (q : Nat) {x : Int} (hj : j < n) (hx : -100000 ≤ x ∧ x ≤ 100000) : TabOk (M.set j ((row M j).set q x)) n := by
  obtain ⟨h1, h2⟩ := h
  refine ⟨by rw [List.length_set, h1], fun i hi => ?_⟩
  by_cases e : i = j
  · subst e
    have er : row (M.set i ((row M i).set q x)) i = (row M i).set q x := by
      unfold row
      rw [List.getD_eq_getElem?_getD, List.getElem?_set_self (by omega)]
      rfl
    refine ⟨by rw [er, List.length_set]; exact (h2 i hi).1, fun p hp => ?_⟩
    unfold cell
    rw [er]
    by_cases e2 : p = q
    · subst e2
      have : nth ((row M i).set p x) p = x := by
        unfold nth
        rw [List.getD_eq_getElem?_getD, List.getElem?_set_self (by rw [(h2 i hi).1]; exact hp)]
        rfl
      rw [this]; exact hx
    · have : nth ((row M i).set q x) p = nth (row M i) p := by
        unfold nth
        rw [List.getD_eq_getElem?_getD, List.getElem?_set_ne (Ne.symm e2), List.getD_eq_getElem?_getD]
      rw [this]
      exact (h2 i hi).2 p hp
  · have er : row (M.set j ((row M j).set q x)) i = row M i := by
      unfold row
      rw [List.getD_eq_getElem?_getD, List.getElem?_set_ne (Ne.symm e), List.getD_eq_getElem?_getD]
    unfold cell
    rw [er]
    exact h2 i hi
theorem TabOk.uni {n : Nat} {d : Int} (hd : -100000 ≤ d ∧ d ≤ 100000) : TabOk (uniTab (fun x y => if x = y then 0 else d) n n) n := by
  refine ⟨uniTab_length _ _ _, fun j hj => ?_⟩
  have er : row (uniTab (fun x y => if x = y then 0 else d) n n) j = uniRow (fun x y => if x = y then 0 else d) j n := by simp [row, uniTab, hj]
  refine ⟨by rw [er, uniRow_length], fun q hq => ?_⟩
  unfold cell
  rw [er]
  have : nth (uniRow (fun x y => if x = y then 0 else d) j n) q = if j = q then 0 else d := by simp [nth, uniRow, hq]
  rw [this]
  split <;> omega

end Go.Proofs.YtaphnkgjcmneoaaGreatDoor

/- A sequence of requests that a draw makes. -/
namespace Go.Proofs.YtaphnkgjcmneoaaGreatDoor
open Go.RowKit

theorem CurAt.low {w : World} {B c : Nat} {vc : Value} {a : Int} {R : List Row} (h : CurAt w B c vc a R) : B ≤ w.heap.size := by
  obtain ⟨s, h⟩ := h
  have := ow_lt h
  omega

theorem bd_snoc {X : List Int} {l h y : Int} (hX : ∀ x ∈ X, l ≤ x ∧ x ≤ h) (hy : l ≤ y ∧ y ≤ h) : ∀ x ∈ X ++ [y], l ≤ x ∧ x ≤ h := fun x hx => by
  rcases List.mem_append.1 hx with h1 | h1
  · exact hX x h1
  · rw [List.mem_singleton.1 h1]; exact hy
theorem bd_set {X : List Int} {l h y : Int} {j : Nat} (hX : ∀ x ∈ X, l ≤ x ∧ x ≤ h) (hy : l ≤ y ∧ y ≤ h) : ∀ x ∈ X.set j y, l ≤ x ∧ x ≤ h := fun x hx => by
  rcases List.mem_or_eq_of_mem_set hx with h1 | h1
  · exact hX x h1
  · rw [h1]; exact hy
/-- the cursor behind a list that grows -/
def RqAt (w : World) (B c : Nat) (vc : Value) (a : Int) (v : Value) (X : List Int) (R : List Row) : Prop := ∃ s, Own w B (intRowOf 3 v X :: curRow c vc a s :: R)
theorem RqAt.of {w : World} {B c : Nat} {vc : Value} {a : Int} {v : Value} {X : List Int} {R : List Row} (h : CurAt w B c vc a (intRowOf 3 v X :: R)) : ∃ s, Own w B (intRowOf 3 v X :: curRow c vc a s :: R) := by
  obtain ⟨s, h⟩ := h
  exact ⟨s, h.perm (List.Perm.swap _ _ _)⟩
theorem cur_back {w : World} {B c : Nat} {vc : Value} {a s : Int} {r : Row} {R : List Row} (h : Own w B (r :: curRow c vc a s :: R)) : CurAt w B c vc a (r :: R) := ⟨s, h.perm (List.Perm.swap _ _ _)⟩
theorem emod_in {x m : Int} (_hx : 0 ≤ x) (hm : 1 ≤ m) : 0 ≤ x % m ∧ x % m ≤ m - 1 := by
  have h1 := Int.emod_nonneg x (show m ≠ 0 by omega)
  have h2 := Int.emod_lt_of_pos x (show 0 < m by omega)
  omega

end Go.Proofs.YtaphnkgjcmneoaaGreatDoor

/- The bound of marks, in plain words: what the program counts mark by mark is what the reference counts interval by interval. -/
namespace Go.Proofs.YtaphnkgjcmneoaaGreatDoor
open Go.RowKit

/-- the greatest place below t with the number x, or -1 -/
def luF (X : List Int) (x : Int) : Nat → Int
  | 0 => -1
  | t + 1 => if nth X t = x then (t : Int) else luF X x t
/-- the greatest earlier place with the same number, or -1 -/
def luU (X : List Int) (t : Nat) : Int := luF X (nth X t) t
theorem luF_spec {X : List Int} {x : Int} : ∀ t : Nat, (luF X x t = -1 ∧ ∀ j, j < t → nth X j ≠ x) ∨ (∃ a : Nat, luF X x t = a ∧ a < t ∧ nth X a = x ∧ ∀ j, a < j → j < t → nth X j ≠ x)
  | 0 => .inl ⟨rfl, fun j hj => by omega⟩
  | t + 1 => by
    unfold luF
    by_cases h : nth X t = x
    · rw [if_pos h]
      exact .inr ⟨t, rfl, by omega, h, fun j h1 h2 => by omega⟩
    · rw [if_neg h]
      rcases luF_spec (X := X) (x := x) t with ⟨h1, h2⟩ | ⟨a, h1, h2, h3, h4⟩
      · refine .inl ⟨h1, fun j hj => ?_⟩
        by_cases e : j = t
        · subst e; exact h
        · exact h2 j (by omega)
      · refine .inr ⟨a, h1, by omega, h3, fun j h5 h6 => ?_⟩
        by_cases e : j = t
        · subst e; exact h
        · exact h4 j h5 (by omega)
theorem luF_bd (X : List Int) (x : Int) (t : Nat) : -1 ≤ luF X x t ∧ luF X x t < t := by
  rcases luF_spec (X := X) (x := x) t with ⟨h1, _⟩ | ⟨a, h1, h2, _⟩ <;> omega

/-- the least place behind another one with the number p, or the length -/
def useL (X : List Int) (i : Nat) (p : Int) : Nat := i + 1 + (X.drop (i + 1)).findIdx fun x => x == p
theorem useL_hit {X : List Int} {i j : Nat} {p : Int} (h1 : i < j) (h2 : j < X.length) (h3 : nth X j = p) (h4 : ∀ l, i < l → l < j → nth X l ≠ p) : useL X i p = j := by
  have hl : j - (i + 1) < (X.drop (i + 1)).length := by rw [List.length_drop]; omega
  have := (List.findIdx_eq (p := fun x => x == p) hl).2 ⟨by
    have e : i + 1 + (j - (i + 1)) = j := by omega
    simp only [List.getElem_drop, e]
    simpa [nth, h2] using h3, fun l hl2 => by
    have hl3 : i + 1 + l < X.length := by omega
    have := h4 (i + 1 + l) (by omega) (by omega)
    simp only [List.getElem_drop]
    simpa [nth, hl3] using this⟩
  unfold useL
  omega
theorem useL_none {X : List Int} {i : Nat} {p : Int} (h1 : i < X.length) (h4 : ∀ l, i < l → l < X.length → nth X l ≠ p) : useL X i p = X.length := by
  have := List.findIdx_eq_length (p := fun x => x == p) (xs := X.drop (i + 1)) |>.2 (by
    intro x hx
    obtain ⟨l, hl, rfl⟩ := List.mem_iff_getElem.1 hx
    rw [List.length_drop] at hl
    have := h4 (i + 1 + l) (by omega) (by omega)
    simp only [List.getElem_drop]
    have hl3 : i + 1 + l < X.length := by omega
    simpa [nth, hl3] using this)
  unfold useL
  rw [this, List.length_drop]
  omega
theorem useL_spec {X : List Int} {i : Nat} {p : Int} (h1 : i < X.length) : (useL X i p = X.length ∧ ∀ l, i < l → l < X.length → nth X l ≠ p) ∨ (i < useL X i p ∧ useL X i p < X.length ∧ nth X (useL X i p) = p ∧ ∀ l, i < l → l < useL X i p → nth X l ≠ p) := by
  by_cases h : ∃ l, i < l ∧ l < X.length ∧ nth X l = p
  · obtain ⟨l, hl⟩ := h
    have key : ∀ n : Nat, ∀ l, l ≤ n → i < l → l < X.length → nth X l = p → ∃ m, i < m ∧ m < X.length ∧ nth X m = p ∧ ∀ q, i < q → q < m → nth X q ≠ p := by
      intro n
      induction n with
      | zero => intro l h0 h1; omega
      | succ n ih =>
        intro l h0 h1 h2 h3
        by_cases h : ∃ q, i < q ∧ q < l ∧ nth X q = p
        · obtain ⟨q, q1, q2, q3⟩ := h
          exact ih q (by omega) q1 (by omega) q3
        · exact ⟨l, h1, h2, h3, fun q q1 q2 q3 => h ⟨q, q1, q2, q3⟩⟩
    obtain ⟨m, m1, m2, m3, m4⟩ := key l l (Nat.le_refl _) hl.1 hl.2.1 hl.2.2
    have e := useL_hit m1 m2 m3 m4
    rw [e]
    exact .inr ⟨m1, m2, m3, m4⟩
  · have h4 : ∀ l, i < l → l < X.length → nth X l ≠ p := fun l a b c => h ⟨l, a, b, c⟩
    exact .inl ⟨useL_none h1 h4, h4⟩
/-- the next later place with the same number, or -1 -/
def nxU (X : List Int) (i : Nat) : Int := if useL X i (nth X i) < X.length then (useL X i (nth X i) : Int) else -1
/-- the same, as far as it is known ahead of the place t -/
def nxTo (X : List Int) (t i : Nat) : Int := if useL X i (nth X i) < t then (useL X i (nth X i) : Int) else -1
theorem nxTo_all (X : List Int) (i : Nat) : nxTo X X.length i = nxU X i := rfl
theorem nxU_bd {X : List Int} {i : Nat} (_h : i < X.length) : -1 ≤ nxU X i ∧ nxU X i < X.length := by
  unfold nxU
  split <;> omega
theorem nxTo_zero {X : List Int} {i : Nat} : nxTo X 0 i = -1 := by unfold nxTo; rw [if_neg (by omega)]
/-- the step of the program: the place of the last use learns t -/
theorem nxTo_no {X : List Int} {t : Nat} (ht : t < X.length) (h : luU X t < 0) {i : Nat} (hi : i < X.length) : nxTo X (t + 1) i = nxTo X t i := by
  unfold nxTo
  by_cases e : useL X i (nth X i) = t
  · exfalso
    rcases useL_spec (p := nth X i) hi with ⟨h1, _⟩ | ⟨h1, _, h3, _⟩
    · omega
    · rw [e] at h1 h3
      rcases luF_spec (X := X) (x := nth X t) t with ⟨_, h5⟩ | ⟨a, h5, _⟩
      · exact h5 i h1 h3.symm
      · unfold luU at h; omega
  · by_cases h2 : useL X i (nth X i) < t
    · rw [if_pos h2, if_pos (by omega)]
    · rw [if_neg h2, if_neg (by omega)]
theorem nxTo_yes {X : List Int} {t a : Nat} (ht : t < X.length) (h : luU X t = a) {i : Nat} (hi : i < X.length) : nxTo X (t + 1) i = if i = a then (t : Int) else nxTo X t i := by
  obtain ⟨h2, h3, h4⟩ : a < t ∧ nth X a = nth X t ∧ ∀ j, a < j → j < t → nth X j ≠ nth X t := by
    rcases luF_spec (X := X) (x := nth X t) t with ⟨h5, _⟩ | ⟨b, h5, h6⟩
    · unfold luU at h; omega
    · unfold luU at h
      have : a = b := by omega
      subst this
      exact h6
  by_cases e : i = a
  · subst e
    rw [if_pos rfl]
    have e := useL_hit (X := X) (i := i) (j := t) (p := nth X i) h2 ht h3.symm (by rw [h3]; exact h4)
    unfold nxTo
    rw [e, if_pos (by omega)]
  · rw [if_neg e]
    unfold nxTo
    by_cases e2 : useL X i (nth X i) = t
    · exfalso
      rcases useL_spec (p := nth X i) hi with ⟨h1, _⟩ | ⟨h1, _, h5, h6⟩
      · omega
      · rw [e2] at h1 h5 h6
        by_cases h7 : a < i
        · exact h4 i h7 h1 h5.symm
        · exact h6 a (by omega) h2 (by rw [h3, h5])
    · by_cases h2 : useL X i (nth X i) < t
      · rw [if_pos h2, if_pos (by omega)]
      · rw [if_neg h2, if_neg (by omega)]

/-- sums over the numbers below n -/
def sgTo (f : Nat → Int) : Nat → Int
  | 0 => 0
  | n + 1 => sgTo f n + f n
theorem sgTo_congr {f g : Nat → Int} : ∀ {n : Nat}, (∀ i, i < n → f i = g i) → sgTo f n = sgTo g n
  | 0, _ => rfl
  | n + 1, h => by rw [sgTo, sgTo, sgTo_congr (n := n) fun i hi => h i (by omega), h n (by omega)]
theorem sgTo_add (f g : Nat → Int) : ∀ n : Nat, sgTo (fun i => f i + g i) n = sgTo f n + sgTo g n
  | 0 => rfl
  | n + 1 => by rw [sgTo, sgTo, sgTo, sgTo_add f g n]; omega
theorem sgTo_bd {f : Nat → Int} {a b : Int} : ∀ {n : Nat}, (∀ i, i < n → a ≤ f i ∧ f i ≤ b) → a * n ≤ sgTo f n ∧ sgTo f n ≤ b * n
  | 0, _ => by simp [sgTo]
  | n + 1, h => by
    have h1 := sgTo_bd (n := n) (a := a) (b := b) (f := f) fun i hi => h i (by omega)
    have h2 := h n (by omega)
    have e1 : a * (↑(n + 1) : Int) = a * n + a := by rw [Int.natCast_add, Int.mul_add]; simp
    have e2 : b * (↑(n + 1) : Int) = b * n + b := by rw [Int.natCast_add, Int.mul_add]; simp
    rw [sgTo, e1, e2]
    omega

/-- whether an interval counts against a mark behind a last mark -/
def outB (X : List Int) (last mark : Int) (i : Nat) : Bool := decide ((i : Int) < mark) && (decide (nxU X i < 0) || (decide (nxU X i > mark) && decide (last > (i : Int))))
def outI (X : List Int) (last mark : Int) (i : Nat) : Int := if outB X last mark i then 1 else 0
/-- the last mark ahead of the place t of a list of marks -/
def lastM (Mk : List Int) : Nat → Int
  | 0 => -1
  | t + 1 => nth Mk t
/-- what a mark adds: D the number of different pages -/
def gnI (k : Int) (D : Nat → Int) (X : List Int) (last mark : Int) : Int := D (mark + 1).toNat - k - sgTo (outI X last mark) X.length
/-- the program's sum behind t marks -/
def mbTo (k : Int) (D : Nat → Int) (X Mk : List Int) : Nat → Int
  | 0 => D X.length
  | t + 1 => mbTo k D X Mk t + gnI k D X (lastM Mk t) (nth Mk t)
/-- whether a mark is in an interval -/
def inIv (X Mk : List Int) (i j : Nat) : Bool := decide (nth Mk j > (i : Int)) && (decide (nxU X i < 0) || decide (nth Mk j < nxU X i))
def inIvI (X Mk : List Int) (i j : Nat) : Int := if inIv X Mk i j then 1 else 0
/-- how many of the first t marks are in an interval -/
def cntM (X Mk : List Int) (i t : Nat) : Int := sgTo (inIvI X Mk i) t
/-- what an interval takes away -/
def cutM (X Mk : List Int) (t i : Nat) : Int := if nxU X i ≥ 0 then max (cntM X Mk i t - 1) 0 else cntM X Mk i t
theorem cntM_bd (X Mk : List Int) (i t : Nat) : 0 ≤ cntM X Mk i t ∧ cntM X Mk i t ≤ t := by
  have := sgTo_bd (f := inIvI X Mk i) (a := 0) (b := 1) (n := t) fun j _ => by unfold inIvI; split <;> omega
  unfold cntM; omega
theorem cutM_bd (X Mk : List Int) (i t : Nat) : 0 ≤ cutM X Mk t i ∧ cutM X Mk t i ≤ t := by
  have := cntM_bd X Mk i t
  unfold cutM; split <;> omega
/-- the reference's sum over the marks -/
def mbD (k : Int) (D : Nat → Int) (X Mk : List Int) (t : Nat) : Int := D X.length + sgTo (fun j => D (nth Mk j + 1).toNat - k) t
/-- strictly ascending -/
def rsg (Mk : List Int) : Prop := ∀ j, j + 1 < Mk.length → nth Mk j < nth Mk (j + 1)
theorem rsg_lt {Mk : List Int} (h : rsg Mk) {a : Nat} : ∀ {b : Nat}, a < b → b < Mk.length → nth Mk a < nth Mk b
  | 0, h1, _ => by omega
  | b + 1, h1, h2 => by
    by_cases e : a = b
    · subst e; exact h a h2
    · have := rsg_lt h (a := a) (b := b) (by omega) (by omega)
      have := h b h2
      omega
theorem cntM_pos {X Mk : List Int} (hr : rsg Mk) {i t : Nat} (ht : t < Mk.length) (hx : nth Mk t < nxU X i) : (1 ≤ cntM X Mk i t) ↔ lastM Mk t > i := by
  cases t with
  | zero => simp [cntM, sgTo, lastM]
  | succ t =>
    have hb := cntM_bd X Mk i t
    have h1 := rsg_lt hr (a := t) (b := t + 1) (by omega) ht
    have e : cntM X Mk i (t + 1) = cntM X Mk i t + inIvI X Mk i t := rfl
    by_cases hl : nth Mk t > (i : Int)
    · have : inIvI X Mk i t = 1 := by
        unfold inIvI inIv
        rw [if_pos]
        simp only [Bool.and_eq_true, Bool.or_eq_true, decide_eq_true_eq]
        exact ⟨hl, .inr (by omega)⟩
      simp only [lastM]
      omega
    · have : cntM X Mk i (t + 1) = 0 := by
        have hz : sgTo (inIvI X Mk i) (t + 1) = sgTo (fun _ => 0) (t + 1) := sgTo_congr fun j hj => by
          have : nth Mk j ≤ nth Mk t := by
            by_cases e : j = t
            · subst e; omega
            · have := rsg_lt hr (a := j) (b := t) (by omega) (by omega); omega
          unfold inIvI inIv
          rw [if_neg]
          simp only [Bool.and_eq_true, decide_eq_true_eq]
          omega
        unfold cntM
        rw [hz]
        have := sgTo_bd (f := fun _ => 0) (a := 0) (b := 0) (n := t + 1) fun j _ => by omega
        omega
      simp only [lastM]
      omega
theorem cutM_step {X Mk : List Int} (hr : rsg Mk) {i t : Nat} (ht : t < Mk.length) : cutM X Mk (t + 1) i = cutM X Mk t i + outI X (lastM Mk t) (nth Mk t) i := by
  have hb := cntM_bd X Mk i t
  have e : cntM X Mk i (t + 1) = cntM X Mk i t + inIvI X Mk i t := rfl
  have hp := cntM_pos (X := X) hr (i := i) ht
  have hi : inIvI X Mk i t = if nth Mk t > (i : Int) ∧ (nxU X i < 0 ∨ nth Mk t < nxU X i) then 1 else 0 := by
    unfold inIvI inIv; simp
  have ho : outI X (lastM Mk t) (nth Mk t) i = if (i : Int) < nth Mk t ∧ (nxU X i < 0 ∨ (nxU X i > nth Mk t ∧ lastM Mk t > (i : Int))) then 1 else 0 := by
    unfold outI outB; simp
  unfold cutM
  rw [e, hi, ho]
  by_cases h1 : nxU X i ≥ 0
  · rw [if_pos h1, if_pos h1]
    by_cases h2 : nth Mk t > (i : Int)
    · by_cases h3 : nth Mk t < nxU X i
      · have hp := hp h3
        rw [if_pos ⟨h2, .inr h3⟩]
        by_cases h4 : lastM Mk t > (i : Int)
        · rw [if_pos ⟨h2, .inr ⟨h3, h4⟩⟩]
          have := hp.2 h4
          omega
        · rw [if_neg (by omega)]
          have : ¬ 1 ≤ cntM X Mk i t := fun h => h4 (hp.1 h)
          omega
      · rw [if_neg (by omega), if_neg (by omega)]; simp
    · rw [if_neg (by omega), if_neg (by omega)]; simp
  · rw [if_neg h1, if_neg h1]
    by_cases h2 : nth Mk t > (i : Int)
    · rw [if_pos ⟨h2, .inl (by omega)⟩, if_pos ⟨h2, .inl (by omega)⟩]
    · rw [if_neg (by omega), if_neg (by omega)]
/-- the two bounds are the same -/
theorem mb_law {k : Int} {D : Nat → Int} {X Mk : List Int} (hr : rsg Mk) : ∀ {t : Nat}, t ≤ Mk.length → mbTo k D X Mk t = mbD k D X Mk t - sgTo (cutM X Mk t) X.length
  | 0, _ => by
    have hz : sgTo (cutM X Mk 0) X.length = sgTo (fun _ => 0) X.length := sgTo_congr fun i _ => by
      have := cutM_bd X Mk i 0
      omega
    have := sgTo_bd (f := fun _ => 0) (a := 0) (b := 0) (n := X.length) fun j _ => by omega
    rw [hz]
    simp only [mbTo, mbD, sgTo]
    omega
  | t + 1, h => by
    have ih := mb_law (k := k) (D := D) (X := X) hr (t := t) (by omega)
    have hs : sgTo (cutM X Mk (t + 1)) X.length = sgTo (cutM X Mk t) X.length + sgTo (outI X (lastM Mk t) (nth Mk t)) X.length := by
      rw [← sgTo_add]
      exact sgTo_congr fun i _ => cutM_step hr h
    rw [mbTo, ih, hs]
    simp only [mbD, sgTo, gnI]
    omega
end Go.Proofs.YtaphnkgjcmneoaaGreatDoor

/- The laws' copy of a code without its first bytes. -/
namespace Go.Proofs.YtaphnkgjcmneoaaGreatDoor
open Go.RowKit

theorem Tryz.infoByte : (Tryz.prog.info? 5).map (fun i => (i.zero, i.size, i.bytes)) = some (some (.int .u8 0), 1, 1) := by kernel_rfl
theorem elemByte : Elem Tryz.prog 22 5 (.int .u8 0) 1 1 := ⟨Tryz.underlying22, info_parts Tryz.infoByte, rfl, by decide⟩

/-- a code: bytes that came in as an argument, with what is known of their room -/
def IsCode (w : World) (v : Value) (n : Nat) : Prop := IsBytes w v n ∧ ∃ a c, v = .slice a n c ∧ n ≤ c ∧ c ≤ maxLen ∧ (c = 0 ∨ ∃ b o, a = some ⟨b, o, none⟩)
theorem IsCode.bytes {w : World} {v : Value} {n : Nat} (h : IsCode w v n) : IsBytes w v n := h.1
theorem IsBytes.ext {w w' : World} {v : Value} {n : Nat} (h : IsBytes w v n) [e : Ext w w'] : IsBytes w' v n := by
  obtain ⟨a, c, rfl, h2⟩ := h
  refine ⟨a, c, rfl, fun j hj => ?_⟩
  obtain ⟨b, o, x, h3, h4, h5⟩ := h2 j hj
  exact ⟨b, o, x, h3, e.cell h4, h5⟩
theorem list_of {n : Nat} {p : Nat → Int → Prop} (h : ∀ j, j < n → ∃ x, p j x) : ∃ xs : List Int, xs.length = n ∧ ∀ j, j < n → p j (nth xs j) := by
  induction n with
  | zero => exact ⟨[], rfl, fun j hj => by omega⟩
  | succ n ih =>
    obtain ⟨xs, h1, h2⟩ := ih fun j hj => h j (by omega)
    obtain ⟨x, hx⟩ := h n (by omega)
    refine ⟨xs ++ [x], by simp [h1], fun j hj => ?_⟩
    by_cases e : j = n
    · subst e
      rw [show nth (xs ++ [x]) j = x by simp [nth, ← h1]]
      exact hx
    · rw [show nth (xs ++ [x]) j = nth xs j by simp [nth, List.getElem?_append_left (show j < xs.length by omega)]]
      exact h2 j (by omega)
/-- the bytes of a place as a list -/
theorem IsBytes.list {w : World} {b o n c : Nat} (h : IsBytes w (.slice (some ⟨b, o, none⟩) n c) n) : ∃ xs : List Int, xs.length = n ∧ ∀ j, j < n → w.cell? ⟨b, o + j, none⟩ = some (.int .u8 (nth xs j)) ∧ 0 ≤ nth xs j ∧ nth xs j ≤ 255 := by
  refine list_of (p := fun j x => w.cell? ⟨b, o + j, none⟩ = some (.int .u8 x) ∧ 0 ≤ x ∧ x ≤ 255) fun j hj => ?_
  obtain ⟨a', c', h1, h2⟩ := h
  cases h1
  obtain ⟨b', o', x, h3, h4, h5⟩ := h2 j hj
  cases h3
  exact ⟨x, h4, h5⟩
theorem bytes_own {w : World} {B : Nat} {v : Value} {n : Nat} {cs : List Value} {R : List Row} (h : Own w B (⟨5, 1, v, n, cs⟩ :: R)) (hb : ∀ u ∈ cs, ∃ x : Int, u = .int .u8 x ∧ 0 ≤ x ∧ x ≤ 255) : IsBytes w v n := by
  rcases h.head.2 with ⟨h1, h2⟩ | ⟨g, cap, cur, hv, hb', hg, hc, hm, hz, ht⟩
  · have h1' : v = .slice none 0 0 := h1
    have h2' : n = 0 := h2
    subst h1'
    subst h2'
    exact ⟨none, 0, rfl, fun j hj => by omega⟩
  · have hv' : v = .slice (some ⟨g, 0, none⟩) n cap := hv
    subst hv'
    refine ⟨_, _, rfl, fun j hj => ?_⟩
    have hl : cs.length = n := by have := h.head.1; simpa using this
    have h3 := h.cellAt (w' := w) hj
    obtain ⟨x, h4, h5⟩ := hb (cs.getD j undef) (by
      rw [List.getD_eq_getElem?_getD, List.getElem?_eq_getElem (by omega)]
      exact List.getElem_mem _)
    rw [h4] at h3
    exact ⟨g, 0, x, rfl, by rw [Nat.zero_add]; exact h3, h5⟩

section
variable {P : Program} {w : World} {ops : Array Oper} {rest : List Oper} {o : Oper} {a : Act} {Q : Exit → Act → World → Prop}
/-- 'append(s, xs...)' of what lies anywhere, none included -/
theorem wpList_appendAny (hgd : o.guard = none) (s x : Operand) (t : TypeId)
    (ho : o.op = .call { callee := .builtin .append, args := #[s, x], argTypes := #[t, t] })
    {e bytes : Nat} {z : Value} (E : Elem P t e z 1 bytes) {B : Nat} {R : List Row} {v : Value} {n : Nat} {cs : List Value} (hs : a.eval s = v)
    (own : Own w B (⟨e, 1, v, n, cs⟩ :: R)) (hB : B ≤ w.heap.size) {d : Option Addr} {m c : Nat} {news : List Value} (hx : a.eval x = .slice d m c) (hl : news.length = m) (hd : d = none → m = 0)
    (hnews : ∀ ad, d = some ad → ∀ j u, news[j]? = some u → w.cell? (ad.add j) = some u) (h1 : ∀ u ∈ news, u.oneCell' = true)
    (h63 : n + m ≤ maxLen) (hbytes : (n + m) * bytes ≤ 140737488355328)
    (h : ∀ v' w', Own w' B (⟨e, 1, v', n + m, cs ++ news⟩ :: R) → Below B w w' → wpList P ops Q rest (a.put o.dst v') w') : wpList P ops Q (o :: rest) a w := by
  cases d with
  | some ad => exact wpList_append_Own hgd ho E hs own hB hx (by rw [hl, Nat.mul_one]) (hnews ad rfl) h1 h63 hbytes h
  | none =>
    have hm := hd rfl
    subst hm
    have hn : news = [] := List.eq_nil_of_length_eq_zero hl
    subst hn
    refine wpList_plain hgd fun K hK => ?_
    have hr := run_append_none (P := P) (ty := o.type) E own.head c
    unfold Oper.wp execOp
    simp only [ho, resolve, invoke, builtin, Sem.run_bind, Sem.run_pure, Result.andThen_ok, List.map_toArray, List.map_cons, List.map_nil, hs, hx]
    rw [hr]
    exact hK _ _ (h v w (by rw [Nat.add_zero, List.append_nil]; exact own) (Below.refl _ _))
end

set_option maxHeartbeats 1600000 in
set_option maxRecDepth 100000 in
theorem vCut_any {w0 w : World} [e0 : Ext w0 w] {v : Value} {nb n : Nat} (hc : IsCode w0 v nb) (hn : n ≤ 100) (hb : nb ≤ 65536) :
    Calls Tryz.prog 13 #[v, .int .i64 n] w fun e w' => ∃ v' n', e = .returned v' ∧ IsBytes w' v' n' ∧ Ext w w' := by
  obtain ⟨hby, a, c, rfl, hnc, hcm, hac⟩ := hc
  obtain ⟨q, hq, hqn, hqd⟩ : ∃ q, q ≤ nb ∧ q ≤ 100 ∧ ((nb < n ∧ q = nb) ∨ (¬ nb < n ∧ q = n)) := by
    by_cases h : nb < n
    · exact ⟨nb, Nat.le_refl _, by omega, .inl ⟨h, rfl⟩⟩
    · exact ⟨n, by omega, hn, .inr ⟨h, rfl⟩⟩
  have own0 : Own (w.alloc (.cells #[] 5)) w.heap.size [⟨5, 1, .slice (some ⟨w.heap.size, 0, none⟩) 0 0, 0, []⟩] := (Own.nil w w.heap.size).lit 5 1 0 #[] (Nat.le_refl _) (by unfold maxLen; omega) rfl
  have hBs : w.heap.size ≤ (w.alloc (.cells #[] 5)).heap.size := by simp
  have bl0 : Below w.heap.size w (w.alloc (.cells #[] 5)) := (Below.refl _ w).alloc (Nat.le_refl _) _
  have e01 : Ext w0 (w.alloc (.cells #[] 5)) := Ext.trans e0 ⟨bl0⟩
  -- what the cut slice has
  obtain ⟨news, hnl, hnone, hnews, hbyte⟩ : ∃ news : List Value, news.length = nb - q ∧ ((if c = q then a else a.map (fun p => p.add q)) = none → nb - q = 0) ∧ (∀ ad, (if c = q then a else a.map (fun p => p.add q)) = some ad → ∀ j u, news[j]? = some u → (w.alloc (.cells #[] 5)).cell? (ad.add j) = some u) ∧ ∀ u ∈ news, ∃ x : Int, u = .int .u8 x ∧ 0 ≤ x ∧ x ≤ 255 := by
    by_cases hz : nb = 0
    · exact ⟨[], by simp; omega, fun _ => by omega, fun ad h j u hj => by simp at hj, fun u hu => by simp at hu⟩
    · obtain ⟨b, o, rfl⟩ : ∃ b o, a = some ⟨b, o, none⟩ := by
        rcases hac with h | h
        · omega
        · exact h
      obtain ⟨xs, hxl, hxs⟩ := (hby.ext (w' := w.alloc (.cells #[] 5))).list
      refine ⟨(xs.drop q).map (Value.int .u8), by simp [hxl], fun h => by split at h <;> simp at h, fun ad had j u hj => ?_, fun u hu => ?_⟩
      · have hjl : j < nb - q := by
          by_cases hjl : j < nb - q
          · exact hjl
          · rw [List.getElem?_eq_none (by simp; omega)] at hj
            cases hj
        have hcq : ¬ c = q := by omega
        rw [if_neg hcq] at had
        simp only [Option.map_some, Option.some.injEq] at had
        subst had
        have h1 := (hxs (q + j) (by omega)).1
        have e1 : ((⟨b, o, none⟩ : Addr).add q).add j = ⟨b, o + (q + j), none⟩ := by
          unfold Addr.add
          split <;> split <;> simp_all <;> omega
        rw [e1, h1, ← hj]
        simp [nth, show q + j < xs.length by omega]
      · obtain ⟨x, hx, rfl⟩ := List.mem_map.1 hu
        obtain ⟨k, hk, rfl⟩ := mem_iff_nth.1 (List.mem_of_mem_drop hx)
        exact ⟨_, rfl, (hxs k (by omega)).2⟩
  have hone : ∀ u ∈ news, u.oneCell' = true := fun u hu => by obtain ⟨x, rfl, _⟩ := hbyte u hu; rfl
  have hqc : (0 : Int) ≤ q ∧ q ≤ nb := by omega
  obtain ⟨sa, hsa⟩ : ∃ z, z = if c = q then a else a.map (fun p => p.add q) := ⟨_, rfl⟩
  rw [← hsa] at hnone hnews
  by_cases hcq : c = q
  · rw [if_pos hcq] at hsa
    subst hsa
    have hnq : nb = q := by omega
    subst hnq
    subst hcq
    clear hq hqc hnc
    rw [Nat.sub_self] at hnl hnone
    cases sa with
    | none =>
      rcases hqd with ⟨h, _⟩ | ⟨h, rfl⟩
      · go_enter Tryz.func13, Tryz.ntmps13
        go_wp2_with (at_builtin; first
          | (refine wpList_appendAny rfl _ _ _ rfl elemByte rfl own0 hBs rfl hnl hnone hnews hone (by unfold maxLen; omega) (by omega) ?_; intro v1 w2 ho hb2)
          | (refine wpList_append1 rfl _ _ _ rfl elemByte rfl ho (show Ext w w2 from ⟨bl0.trans hb2⟩).size rfl rfl (by omega) (by omega) ?_; intro v2 w3 ho2 hb3))
        go_ret
        first
          | refine ⟨_, rfl, ⟨_, bytes_own ho2 ?_⟩, ⟨bl0.trans (hb2.trans hb3)⟩⟩
          | refine ⟨_, _, rfl, bytes_own ho2 ?_, ⟨bl0.trans (hb2.trans hb3)⟩⟩
        intro u hu
        rcases List.mem_append.1 hu with h1 | h1
        · exact hbyte u (by simpa using h1)
        · refine ⟨_, List.mem_singleton.1 h1, ?_⟩
          first | omega | (simp [IntKind.wrap, IntKind.bits, IntKind.signed]; omega)
      · go_enter Tryz.func13, Tryz.ntmps13
        go_wp2_with (at_builtin; first
          | (refine wpList_appendAny rfl _ _ _ rfl elemByte rfl own0 hBs rfl hnl hnone hnews hone (by unfold maxLen; omega) (by omega) ?_; intro v1 w2 ho hb2)
          | (refine wpList_append1 rfl _ _ _ rfl elemByte rfl ho (show Ext w w2 from ⟨bl0.trans hb2⟩).size rfl rfl (by omega) (by omega) ?_; intro v2 w3 ho2 hb3))
        go_ret
        first
          | refine ⟨_, rfl, ⟨_, bytes_own ho2 ?_⟩, ⟨bl0.trans (hb2.trans hb3)⟩⟩
          | refine ⟨_, _, rfl, bytes_own ho2 ?_, ⟨bl0.trans (hb2.trans hb3)⟩⟩
        intro u hu
        rcases List.mem_append.1 hu with h1 | h1
        · exact hbyte u (by simpa using h1)
        · refine ⟨_, List.mem_singleton.1 h1, ?_⟩
          first | omega | (simp [IntKind.wrap, IntKind.bits, IntKind.signed]; omega)
    | some ad =>
      rcases hqd with ⟨h, _⟩ | ⟨h, rfl⟩
      · go_enter Tryz.func13, Tryz.ntmps13
        go_wp2_with (at_builtin; first
          | (refine wpList_appendAny rfl _ _ _ rfl elemByte rfl own0 hBs rfl hnl hnone hnews hone (by unfold maxLen; omega) (by omega) ?_; intro v1 w2 ho hb2)
          | (refine wpList_append1 rfl _ _ _ rfl elemByte rfl ho (show Ext w w2 from ⟨bl0.trans hb2⟩).size rfl rfl (by omega) (by omega) ?_; intro v2 w3 ho2 hb3))
        go_ret
        first
          | refine ⟨_, rfl, ⟨_, bytes_own ho2 ?_⟩, ⟨bl0.trans (hb2.trans hb3)⟩⟩
          | refine ⟨_, _, rfl, bytes_own ho2 ?_, ⟨bl0.trans (hb2.trans hb3)⟩⟩
        intro u hu
        rcases List.mem_append.1 hu with h1 | h1
        · exact hbyte u (by simpa using h1)
        · refine ⟨_, List.mem_singleton.1 h1, ?_⟩
          first | omega | (simp [IntKind.wrap, IntKind.bits, IntKind.signed]; omega)
      · go_enter Tryz.func13, Tryz.ntmps13
        go_wp2_with (at_builtin; first
          | (refine wpList_appendAny rfl _ _ _ rfl elemByte rfl own0 hBs rfl hnl hnone hnews hone (by unfold maxLen; omega) (by omega) ?_; intro v1 w2 ho hb2)
          | (refine wpList_append1 rfl _ _ _ rfl elemByte rfl ho (show Ext w w2 from ⟨bl0.trans hb2⟩).size rfl rfl (by omega) (by omega) ?_; intro v2 w3 ho2 hb3))
        go_ret
        first
          | refine ⟨_, rfl, ⟨_, bytes_own ho2 ?_⟩, ⟨bl0.trans (hb2.trans hb3)⟩⟩
          | refine ⟨_, _, rfl, bytes_own ho2 ?_, ⟨bl0.trans (hb2.trans hb3)⟩⟩
        intro u hu
        rcases List.mem_append.1 hu with h1 | h1
        · exact hbyte u (by simpa using h1)
        · refine ⟨_, List.mem_singleton.1 h1, ?_⟩
          first | omega | (simp [IntKind.wrap, IntKind.bits, IntKind.signed]; omega)
  · obtain ⟨b, o, rfl⟩ : ∃ b o, a = some ⟨b, o, none⟩ := by
      rcases hac with h | h
      · omega
      · exact h
    rw [if_neg hcq] at hsa
    have hsa' : sa = some ⟨b, o + q, none⟩ := by
      rw [hsa]
      simp [Addr.add]
    subst hsa'
    clear hsa
    rcases hqd with ⟨h, rfl⟩ | ⟨h, rfl⟩
    · rw [Nat.sub_self] at hnl hnone
      go_enter Tryz.func13, Tryz.ntmps13
      go_wp2_with (at_builtin; first
        | (refine wpList_appendAny rfl _ _ _ rfl elemByte rfl own0 hBs rfl hnl hnone hnews hone (by unfold maxLen; omega) (by omega) ?_; intro v1 w2 ho hb2)
        | (refine wpList_append1 rfl _ _ _ rfl elemByte rfl ho (show Ext w w2 from ⟨bl0.trans hb2⟩).size rfl rfl (by omega) (by omega) ?_; intro v2 w3 ho2 hb3))
      go_ret
      first
        | refine ⟨_, rfl, ⟨_, bytes_own ho2 ?_⟩, ⟨bl0.trans (hb2.trans hb3)⟩⟩
        | refine ⟨_, _, rfl, bytes_own ho2 ?_, ⟨bl0.trans (hb2.trans hb3)⟩⟩
      intro u hu
      rcases List.mem_append.1 hu with h1 | h1
      · exact hbyte u (by simpa using h1)
      · refine ⟨_, List.mem_singleton.1 h1, ?_⟩
        first | omega | (simp [IntKind.wrap, IntKind.bits, IntKind.signed]; omega)
    · go_enter Tryz.func13, Tryz.ntmps13
      go_wp2_with (at_builtin; first
        | (refine wpList_appendAny rfl _ _ _ rfl elemByte rfl own0 hBs rfl hnl hnone hnews hone (by unfold maxLen; omega) (by omega) ?_; intro v1 w2 ho hb2)
        | (refine wpList_append1 rfl _ _ _ rfl elemByte rfl ho (show Ext w w2 from ⟨bl0.trans hb2⟩).size rfl rfl (by omega) (by omega) ?_; intro v2 w3 ho2 hb3))
      go_ret
      first
        | refine ⟨_, rfl, ⟨_, bytes_own ho2 ?_⟩, ⟨bl0.trans (hb2.trans hb3)⟩⟩
        | refine ⟨_, _, rfl, bytes_own ho2 ?_, ⟨bl0.trans (hb2.trans hb3)⟩⟩
      intro u hu
      rcases List.mem_append.1 hu with h1 | h1
      · exact hbyte u (by simpa using h1)
      · refine ⟨_, List.mem_singleton.1 h1, ?_⟩
        first | omega | (simp [IntKind.wrap, IntKind.bits, IntKind.signed]; omega)
end Go.Proofs.YtaphnkgjcmneoaaGreatDoor

/- Plans with the fewest faults, in plain Lean: sets of pages as masks, the table of the fewest faults, and what the program finds with its own recursion. -/
namespace Go.Proofs.YtaphnkgjcmneoaaGreatDoor
open Go.RowKit

def szS (S : Nat) : Nat := ((List.range 8).filter fun p => S.testBit p).length
def aftS (S : Nat) (out : Int) (p : Nat) : Nat := (if 0 ≤ out then S - 2 ^ out.toNat else S) ||| 2 ^ p
/-- the pages in a set, of the first n -/
def pgS (n S : Nat) : List Int := ((List.range n).filter fun p => S.testBit p).map fun (p : Nat) => (p : Int)
/-- what may leave at a fault -/
def choF (k n S : Nat) : List Int := (if szS S < k then [-1] else []) ++ pgS n S
def choS (k n S p : Nat) : List Int := if S.testBit p then [-1] else choF k n S

set_option maxRecDepth 100000 in
theorem or_same : ∀ S, S < 256 → ∀ p, p < 8 → S.testBit p = true → S ||| 2 ^ p = S := by decide
set_option maxRecDepth 100000 in
theorem sz_or : ∀ S, S < 256 → ∀ p, p < 8 → szS (S ||| 2 ^ p) ≤ szS S + 1 := by decide
set_option maxRecDepth 100000 in
theorem sz_sub : ∀ S, S < 256 → ∀ q, q < 8 → S.testBit q = true → szS (S - 2 ^ q) + 1 = szS S := by decide
set_option maxRecDepth 100000 in
theorem sz_le : ∀ S, S < 256 → szS S ≤ 8 := by decide

theorem mem_pgS {n S : Nat} {x : Int} (h : x ∈ pgS n S) : ∃ q : Nat, x = q ∧ q < n ∧ S.testBit q = true := by
  obtain ⟨q, hq, rfl⟩ := List.mem_map.1 h
  rw [List.mem_filter, List.mem_range] at hq
  exact ⟨q, rfl, hq.1, hq.2⟩
theorem mem_choF {k n S : Nat} {x : Int} (h : x ∈ choF k n S) : (x = -1 ∧ szS S < k) ∨ ∃ q : Nat, x = q ∧ q < n ∧ S.testBit q = true := by
  rcases List.mem_append.1 h with h | h
  · split at h
    · next h1 => simp at h; exact .inl ⟨h, h1⟩
    · simp at h
  · exact .inr (mem_pgS h)
theorem pow_le_256 {n : Nat} (h : n ≤ 8) : 2 ^ n ≤ 256 := Nat.pow_le_pow_right (by omega) h
theorem aft_lt {n S p : Nat} {x : Int} (hS : S < 2 ^ n) (hp : p < n) : aftS S x p < 2 ^ n := by
  unfold aftS
  refine Nat.or_lt_two_pow ?_ (Nat.pow_lt_pow_right (by omega) hp)
  split
  · exact Nat.lt_of_le_of_lt (Nat.sub_le _ _) hS
  · exact hS
/-- behind a fault the set is not too large -/
theorem aft_sz {k n S p : Nat} {x : Int} (hn : n ≤ 8) (hS : S < 2 ^ n) (hp : p < n) (hk : szS S ≤ k) (hx : x ∈ choF k n S) : szS (aftS S x p) ≤ k := by
  have h8 := pow_le_256 hn
  rcases mem_choF hx with ⟨rfl, h1⟩ | ⟨q, rfl, h1, h2⟩
  · have := sz_or S (by omega) p (by omega)
    show szS ((if (0 : Int) ≤ -1 then _ else S) ||| 2 ^ p) ≤ k
    rw [if_neg (by omega)]
    omega
  · have h3 := sz_sub S (by omega) q (by omega) h2
    have h4 := sz_or (S - 2 ^ q) (Nat.lt_of_le_of_lt (Nat.sub_le _ _) (by omega)) p (by omega)
    show szS ((if (0 : Int) ≤ (q : Int) then S - 2 ^ (q : Int).toNat else S) ||| 2 ^ p) ≤ k
    rw [if_pos (by omega), Int.toNat_natCast]
    omega
theorem aft_hit {n S p : Nat} (hn : n ≤ 8) (hS : S < 2 ^ n) (hp : p < n) (h : S.testBit p = true) : aftS S (-1) p = S := by
  have h8 := pow_le_256 hn
  unfold aftS
  rw [if_neg (by omega)]
  exact or_same S (by omega) p (by omega) h
/-- the first 8 pages in a set are those of the first n -/
theorem pg_eight {n S : Nat} (hn : n ≤ 8) (hS : S < 2 ^ n) : pgS 8 S = pgS n S := by
  unfold pgS
  congr 1
  have h : List.range 8 = List.range n ++ (List.range (8 - n)).map (n + ·) := by
    rw [← List.range_add, Nat.add_sub_cancel' hn]
  rw [h, List.filter_append]
  have : ((List.range (8 - n)).map (n + ·)).filter (fun p => S.testBit p) = [] := by
    rw [List.filter_eq_nil_iff]
    intro q hq
    obtain ⟨j, _, rfl⟩ := List.mem_map.1 hq
    rw [Nat.testBit_lt_two_pow (Nat.lt_of_lt_of_le hS (Nat.pow_le_pow_right (by omega) (Nat.le_add_right n j)))]
    simp
  rw [this, List.append_nil]
/-- one step of looking for the least -/
def fewStep (best sum : Int) : Int := if best < 0 ∨ sum < best then sum else best
/-- the fewest faults with d requests left, as the reference's table has them -/
def fewT (k n : Nat) (X : List Int) : Nat → Nat → Int
  | 0, _ => 0
  | d + 1, S => let p := (nth X (X.length - (d + 1))).toNat
    if szS S ≤ k then ((choS k n S p).map fun x => fewT k n X d (aftS S x p) + if S.testBit p then 0 else 1).foldl fewStep (-1) else -1
/-- the same as the program finds it -/
def lstT (k : Nat) (X : List Int) : Nat → Nat → Int
  | 0, _ => 0
  | d + 1, S => let p := (nth X (X.length - (d + 1))).toNat
    if S.testBit p then lstT k X d S else ((choF k 8 S).map fun x => 1 + lstT k X d (aftS S x p)).foldl min ((X.length : Int) + 1)
theorem fewStep_nn {a b : Int} (ha : 0 ≤ a) : fewStep a b = min a b := by
  unfold fewStep
  by_cases h : b < a
  · rw [if_pos (.inr h)]; omega
  · rw [if_neg (by omega)]; omega
theorem fold_few : ∀ {L : List Int} {a : Int}, 0 ≤ a → (∀ x ∈ L, 0 ≤ x) → L.foldl fewStep a = L.foldl min a
  | [], _, _, _ => rfl
  | x :: L, a, ha, h => by
    have h1 := h x (by simp)
    rw [List.foldl_cons, List.foldl_cons, fewStep_nn ha]
    exact fold_few (by omega) (fun y hy => h y (by simp [hy]))
theorem fold_first {x b : Int} {L : List Int} (h0 : 0 ≤ x) (hb : x ≤ b) (h : ∀ y ∈ L, 0 ≤ y) : (x :: L).foldl fewStep (-1) = (x :: L).foldl min b := by
  rw [List.foldl_cons, List.foldl_cons, show fewStep (-1) x = x from by unfold fewStep; rw [if_pos (.inl (by omega))], show min b x = x by omega]
  exact fold_few h0 h
theorem fold_bounds : ∀ {L : List Int} {a : Int}, (L.foldl min a ≤ a) ∧ (∀ x ∈ L, L.foldl min a ≤ x) ∧ (L.foldl min a = a ∨ L.foldl min a ∈ L)
  | [], a => ⟨by simp, by simp, .inl rfl⟩
  | x :: L, a => by
    obtain ⟨h1, h2, h3⟩ := fold_bounds (L := L) (a := min a x)
    rw [List.foldl_cons]
    refine ⟨by omega, fun y hy => ?_, ?_⟩
    · rcases List.mem_cons.1 hy with rfl | hy
      · omega
      · exact h2 y hy
    · rcases h3 with h3 | h3
      · rw [h3]
        rcases Int.le_total a x with h | h
        · left; omega
        · right; rw [Int.min_eq_right h]; simp
      · right; simp [h3]
theorem choF_ne {k n S : Nat} (hn : n ≤ 8) (hS : S < 2 ^ n) (h0 : 0 < k) : choF k n S ≠ [] := by
  unfold choF
  by_cases h : szS S < k
  · rw [if_pos h]; simp
  · rw [if_neg h, List.nil_append, ← pg_eight hn hS]
    intro e
    have : szS S = (pgS 8 S).length := by simp [szS, pgS]
    rw [e] at this
    simp at this
    omega
theorem choF_eight {k n S : Nat} (hn : n ≤ 8) (hS : S < 2 ^ n) : choF k 8 S = choF k n S := by unfold choF; rw [pg_eight hn hS]
/-- all requests are pages -/
def pagesB (n : Nat) (X : List Int) : Prop := ∀ j, j < X.length → 0 ≤ nth X j ∧ nth X j < n
theorem fewT_hit {k n d S : Nat} {X : List Int} (h : szS S ≤ k) (hp : S.testBit (nth X (X.length - (d + 1))).toNat = true) :
    fewT k n X (d + 1) S = fewStep (-1) (fewT k n X d (aftS S (-1) (nth X (X.length - (d + 1))).toNat) + 0) := by
  rw [fewT]
  simp only [if_pos h, choS, hp, if_true, List.map_cons, List.map_nil, List.foldl_cons, List.foldl_nil]
theorem fewT_miss {k n d S : Nat} {X : List Int} (h : szS S ≤ k) (hp : S.testBit (nth X (X.length - (d + 1))).toNat = false) :
    fewT k n X (d + 1) S = ((choF k n S).map fun x => fewT k n X d (aftS S x (nth X (X.length - (d + 1))).toNat) + 1).foldl fewStep (-1) := by
  rw [fewT]
  simp only [if_pos h, choS, hp, Bool.false_eq_true, if_false]
theorem lstT_hit {k d S : Nat} {X : List Int} (hp : S.testBit (nth X (X.length - (d + 1))).toNat = true) : lstT k X (d + 1) S = lstT k X d S := by
  rw [lstT]
  simp only [hp, if_true]
theorem lstT_miss {k d S : Nat} {X : List Int} (hp : S.testBit (nth X (X.length - (d + 1))).toNat = false) :
    lstT k X (d + 1) S = ((choF k 8 S).map fun x => 1 + lstT k X d (aftS S x (nth X (X.length - (d + 1))).toNat)).foldl min ((X.length : Int) + 1) := by
  rw [lstT]
  simp only [hp, Bool.false_eq_true, if_false]
theorem few_lst {k n : Nat} {X : List Int} (hn : n ≤ 8) (h0 : 0 < k) (hX : pagesB n X) : ∀ {d S : Nat}, d ≤ X.length → S < 2 ^ n → szS S ≤ k → fewT k n X d S = lstT k X d S ∧ 0 ≤ lstT k X d S ∧ lstT k X d S ≤ d
  | 0, S, _, _, _ => by simp [fewT, lstT]
  | d + 1, S, hd, hS, hk => by
    have hr := hX (X.length - (d + 1)) (by omega)
    generalize hp : (nth X (X.length - (d + 1))).toNat = p at *
    have hpn : p < n := by omega
    cases hb : S.testBit p with
    | true =>
      have ih := few_lst hn h0 hX (d := d) (by omega) hS hk
      rw [fewT_hit hk (by rw [hp]; exact hb), lstT_hit (by rw [hp]; exact hb), hp, aft_hit hn hS hpn hb, ih.1]
      refine ⟨?_, ih.2.1, by omega⟩
      unfold fewStep
      rw [if_pos (.inl (by omega)), Int.add_zero]
    | false =>
      rw [fewT_miss hk (by rw [hp]; exact hb), lstT_miss (by rw [hp]; exact hb), hp, choF_eight hn hS]
      have hall : ∀ x ∈ choF k n S, fewT k n X d (aftS S x p) = lstT k X d (aftS S x p) ∧ 0 ≤ lstT k X d (aftS S x p) ∧ lstT k X d (aftS S x p) ≤ d :=
        fun x hx => few_lst hn h0 hX (d := d) (by omega) (aft_lt hS hpn) (aft_sz hn hS hpn hk hx)
      have hmap : (choF k n S).map (fun x => fewT k n X d (aftS S x p) + 1) = (choF k n S).map fun x => 1 + lstT k X d (aftS S x p) := by
        refine List.map_congr_left fun x hx => ?_
        rw [(hall x hx).1]; omega
      rw [hmap]
      have hnn : ∀ y ∈ (choF k n S).map (fun x => 1 + lstT k X d (aftS S x p)), 0 ≤ y ∧ y ≤ d + 1 := by
        intro y hy
        obtain ⟨x, hx, rfl⟩ := List.mem_map.1 hy
        have := hall x hx
        omega
      have hne := choF_ne hn hS h0
      clear hmap hall
      have hne' : (choF k n S).map (fun x => 1 + lstT k X d (aftS S x p)) ≠ [] := by simpa using hne
      generalize (choF k n S).map (fun x => 1 + lstT k X d (aftS S x p)) = L at *
      cases L with
      | nil => exact absurd rfl hne'
      | cons y L =>
        have hy := hnn y (by simp)
        rw [fold_first (b := (X.length : Int) + 1) hy.1 (by omega) (fun z hz => (hnn z (by simp [hz])).1)]
        obtain ⟨_, h2, h3⟩ := fold_bounds (L := y :: L) (a := (X.length : Int) + 1)
        have h4 := h2 y (by simp)
        refine ⟨rfl, ?_, by omega⟩
        rcases h3 with h3 | h3
        · rw [h3]; omega
        · exact (hnn _ h3).1
theorem find_same {p q : Int → Bool} : ∀ {L : List Int}, (∀ x ∈ L, p x = q x) → L.find? p = L.find? q
  | [], _ => rfl
  | x :: L, h => by
    have hx := h x (by simp)
    have ih := find_same (L := L) fun y hy => h y (by simp [hy])
    cases hq : q x with
    | true => rw [hq] at hx; rw [List.find?_cons_of_pos hx, List.find?_cons_of_pos hq]
    | false => rw [hq] at hx; rw [List.find?_cons_of_neg (by simp [hx]), List.find?_cons_of_neg (by simp [hq]), ih]
theorem find_at {p : Int → Bool} : ∀ {L : List Int}, (∃ x ∈ L, p x = true) → ∃ j, j < L.length ∧ p (nth L j) = true ∧ (∀ i, i < j → p (nth L i) = false) ∧ (L.find? p).getD (-1) = nth L j
  | [], h => by obtain ⟨x, hx, _⟩ := h; simp at hx
  | x :: L, h => by
    cases hq : p x with
    | true => exact ⟨0, by simp, by simpa [nth] using hq, fun i hi => by omega, by simp [List.find?_cons_of_pos hq, nth]⟩
    | false =>
      have h' : ∃ y ∈ L, p y = true := by
        obtain ⟨y, hy, hp⟩ := h
        rcases List.mem_cons.1 hy with rfl | hy
        · rw [hq] at hp; cases hp
        · exact ⟨y, hy, hp⟩
      obtain ⟨j, h1, h2, h3, h4⟩ := find_at h'
      refine ⟨j + 1, by simpa using h1, by simpa [nth] using h2, ?_, ?_⟩
      · intro i hi
        cases i with
        | zero => simpa [nth] using hq
        | succ i => simpa [nth] using h3 i (by omega)
      · rw [List.find?_cons_of_neg (by simp [hq]), h4]; simp [nth]
/-- what leaves at a place with d requests behind it, as the reference picks it -/
def pickS (k n : Nat) (X : List Int) (d S p : Nat) : Int := ((choS k n S p).find? fun x => decide (fewT k n X d (aftS S x p) + (if S.testBit p then 0 else 1) ≤ fewT k n X (d + 1) S)).getD (-1)
/-- and as the program picks it -/
def pickP (k : Nat) (X : List Int) (d S p : Nat) : Int := if S.testBit p then -1 else ((choF k 8 S).find? fun x => decide (1 + lstT k X d (aftS S x p) = lstT k X (d + 1) S)).getD (-1)
theorem find_one (p : Int → Bool) : ([(-1 : Int)].find? p).getD (-1) = -1 := by
  cases h : p (-1) with
  | true => rw [List.find?_cons_of_pos h]; rfl
  | false => rw [List.find?_cons_of_neg (by simp [h])]; rfl
theorem pick_hit {k n d S p : Nat} {X : List Int} (h : S.testBit p = true) : pickS k n X d S p = -1 ∧ pickP k X d S p = -1 := by
  constructor
  · unfold pickS choS
    simp only [h, if_true]
    exact find_one _
  · unfold pickP; rw [if_pos h]
/-- at a fault both pick the same, and it stands in the list of what may leave -/
theorem pick_miss {k n d S : Nat} {X : List Int} (hn : n ≤ 8) (h0 : 0 < k) (hX : pagesB n X) (hd : d + 1 ≤ X.length) (hS : S < 2 ^ n) (hk : szS S ≤ k) (hb : S.testBit (nth X (X.length - (d + 1))).toNat = false) :
    pickS k n X d S (nth X (X.length - (d + 1))).toNat = pickP k X d S (nth X (X.length - (d + 1))).toNat ∧
    ∃ j, j < (choF k n S).length ∧ pickP k X d S (nth X (X.length - (d + 1))).toNat = nth (choF k n S) j ∧
      (∀ i, i ≤ j → (1 + lstT k X d (aftS S (nth (choF k n S) i) (nth X (X.length - (d + 1))).toNat) = lstT k X (d + 1) S ↔ i = j)) ∧
      ∀ i, i ≤ j → (fewT k n X d (aftS S (nth (choF k n S) i) (nth X (X.length - (d + 1))).toNat) + 1 ≤ fewT k n X (d + 1) S ↔ i = j) := by
  have hr := hX (X.length - (d + 1)) (by omega)
  have htop := few_lst hn h0 hX (d := d + 1) hd hS hk
  have hl := lstT_miss (k := k) (d := d) (X := X) hb
  rw [choF_eight hn hS] at hl
  generalize hp : (nth X (X.length - (d + 1))).toNat = p at *
  have hpn : p < n := by omega
  have hall : ∀ x ∈ choF k n S, fewT k n X d (aftS S x p) = lstT k X d (aftS S x p) ∧ 0 ≤ lstT k X d (aftS S x p) ∧ lstT k X d (aftS S x p) ≤ d :=
    fun x hx => few_lst hn h0 hX (d := d) (by omega) (aft_lt hS hpn) (aft_sz hn hS hpn hk hx)
  obtain ⟨_, hmin, hatt⟩ := fold_bounds (L := (choF k n S).map fun x => 1 + lstT k X d (aftS S x p)) (a := (X.length : Int) + 1)
  rw [← hl] at hmin hatt
  have hm : ∀ x ∈ choF k n S, lstT k X (d + 1) S ≤ 1 + lstT k X d (aftS S x p) := fun x hx => hmin _ (List.mem_map.2 ⟨x, hx, rfl⟩)
  have hex : ∃ x ∈ choF k n S, decide (1 + lstT k X d (aftS S x p) = lstT k X (d + 1) S) = true := by
    rcases hatt with h | h
    · exfalso
      have := htop.2.2
      omega
    · obtain ⟨x, hx, he⟩ := List.mem_map.1 h
      exact ⟨x, hx, by simpa using he⟩
  have hsame : pickS k n X d S p = pickP k X d S p := by
    unfold pickS pickP choS
    rw [hb, choF_eight hn hS]
    simp only [Bool.false_eq_true, if_false]
    congr 1
    refine find_same fun x hx => ?_
    have h1 := hall x hx
    have h2 := hm x hx
    rw [h1.1, htop.1, decide_eq_decide]
    omega
  obtain ⟨j, h1, h2, h3, h4⟩ := find_at hex
  have hmem : ∀ i, i ≤ j → nth (choF k n S) i ∈ choF k n S := fun i hi => nth_mem (by omega)
  have hiff : ∀ i, i ≤ j → (1 + lstT k X d (aftS S (nth (choF k n S) i) p) = lstT k X (d + 1) S ↔ i = j) := by
    intro i hi
    constructor
    · intro e
      by_cases hij : i = j
      · exact hij
      · have := h3 i (by omega)
        rw [decide_eq_false_iff_not] at this
        exact absurd e this
    · rintro rfl
      exact of_decide_eq_true h2
  refine ⟨hsame, j, h1, ?_, hiff, ?_⟩
  · unfold pickP
    rw [hb, choF_eight hn hS]
    simp only [Bool.false_eq_true, if_false]
    exact h4
  · intro i hi
    rw [← hiff i hi, (hall _ (hmem i hi)).1, htop.1]
    have := hm _ (hmem i hi)
    omega
/-- the set and the plan behind i places -/
def setL (k : Nat) (X : List Int) : Nat → Nat
  | 0 => 0
  | i + 1 => aftS (setL k X i) (pickP k X (X.length - (i + 1)) (setL k X i) (nth X i).toNat) (nth X i).toNat
def planL (k : Nat) (X : List Int) : Nat → List Int
  | 0 => []
  | i + 1 => planL k X i ++ [pickP k X (X.length - (i + 1)) (setL k X i) (nth X i).toNat]
theorem planL_length (k : Nat) (X : List Int) : ∀ i, (planL k X i).length = i
  | 0 => rfl
  | i + 1 => by rw [planL, List.length_append, planL_length k X i]; rfl
theorem setL_in {k n : Nat} {X : List Int} (hn : n ≤ 8) (h0 : 0 < k) (hX : pagesB n X) : ∀ {i : Nat}, i ≤ X.length → setL k X i < 2 ^ n ∧ szS (setL k X i) ≤ k
  | 0, _ => ⟨Nat.two_pow_pos n, by show szS 0 ≤ k; rw [show szS 0 = 0 by decide]; omega⟩
  | i + 1, hi => by
    obtain ⟨h1, h2⟩ := setL_in hn h0 hX (i := i) (by omega)
    have hr := hX i (by omega)
    have hpn : (nth X i).toNat < n := by omega
    rw [setL]
    cases hb : (setL k X i).testBit (nth X i).toNat with
    | true =>
      rw [(pick_hit (n := n) hb).2, aft_hit hn h1 hpn hb]
      exact ⟨h1, h2⟩
    | false =>
      have hix : X.length - (X.length - (i + 1) + 1) = i := by omega
      obtain ⟨_, j, hj, he, _⟩ := pick_miss (d := X.length - (i + 1)) hn h0 hX (by omega) h1 h2 (by rw [hix]; exact hb)
      rw [hix] at he
      rw [he]
      exact ⟨aft_lt h1 hpn, aft_sz hn h1 hpn h2 (nth_mem hj)⟩
end Go.Proofs.YtaphnkgjcmneoaaGreatDoor

/- What the program's bit operations give on sets of pages. -/
namespace Go.Proofs.YtaphnkgjcmneoaaGreatDoor
open Go.RowKit

set_option maxRecDepth 100000 in
theorem bit_and : ∀ S, S < 256 → ∀ p, p < 8 → (bits BinOp.and IntKind.i64 (((S : Nat) : Int) / 2 ^ p) 1 == 1) = S.testBit p := by decide
theorem bit_shl (p : Nat) (h : p < 9) : wrap64 (2 ^ p) = ((2 ^ p : Nat) : Int) := by
  have e : (2 : Int) ^ p = ((2 ^ p : Nat) : Int) := by simp
  have h1 : 2 ^ p ≤ 2 ^ 8 := Nat.pow_le_pow_right (by omega) (by omega)
  rw [e]
  generalize 2 ^ p = m at *
  unfold wrap64; omega
set_option maxRecDepth 100000 in
theorem bit_or : ∀ S, S < 256 → ∀ p, p < 8 → bits BinOp.or IntKind.i64 ((S : Nat) : Int) ((2 ^ p : Nat) : Int) = ((S ||| 2 ^ p : Nat) : Int) := by decide
set_option maxRecDepth 100000 in
theorem bit_andNot : ∀ S, S < 256 → ∀ q, q < 8 → S.testBit q = true → bits BinOp.andNot IntKind.i64 ((S : Nat) : Int) ((2 ^ q : Nat) : Int) = ((S - 2 ^ q : Nat) : Int) := by decide
set_option maxRecDepth 100000 in
theorem sub_bit : ∀ S, S < 256 → ∀ q, q < 8 → S.testBit q = true → 2 ^ q ≤ S := by decide
set_option maxRecDepth 100000 in
/-- the reference counts the pages of a set by halving -/
theorem sz_half : ∀ S, S < 256 → szS S = S % 2 + szS (S / 2) := by decide
end Go.Proofs.YtaphnkgjcmneoaaGreatDoor

/- The small functions on sets of pages, walked: both sides. -/
namespace Go.Proofs.YtaphnkgjcmneoaaGreatDoor
open Go.RowKit

end Go.Proofs.YtaphnkgjcmneoaaGreatDoor

/- Whether a cache and a sequence are valid: both sides. -/
namespace Go.Proofs.YtaphnkgjcmneoaaGreatDoor
open Go.RowKit

/-- whether a size of a cache, a number of pages and a sequence are valid -/
def pagB (k n : Int) (X : List Int) : Bool := inB k 1 6 && (inB n 1 8 && (decide (X.length ≤ 60) && belowB n X))
theorem pagB_in {k n : Int} {X : List Int} (h : pagB k n X = true) : (1 ≤ k ∧ k ≤ 6) ∧ (1 ≤ n ∧ n ≤ 8) ∧ X.length ≤ 60 ∧ pagesB n.toNat X := by
  simp only [pagB, Bool.and_eq_true, decide_eq_true_eq] at h
  obtain ⟨h1, h2, h3, h4⟩ := h
  have h1' := inB_true.1 h1
  have h2' := inB_true.1 h2
  refine ⟨h1', h2', h3, fun j hj => ?_⟩
  have := belowB_at h4 hj
  omega

set_option maxHeartbeats 400000 in
theorem isSize_any (k : Int) (w : World) : Calls Tryz.prog 31 #[.int .i64 k] w fun e w' => e = .returned (.bool (inB k 1 6)) ∧ w = w' := by
  go_enter Tryz.func31, Tryz.ntmps31
  go_wp2_with (go_at_call 36; refine (within_any _ _ _ _).mono ?_; rintro e w' ⟨rfl, rfl⟩)
  go_ret
  exact ⟨rfl, rfl⟩
set_option maxHeartbeats 400000 in
theorem isItems_any (n : Int) (w : World) : Calls Tryz.prog 29 #[.int .i64 n] w fun e w' => e = .returned (.bool (inB n 1 8)) ∧ w = w' := by
  go_enter Tryz.func29, Tryz.ntmps29
  go_wp2_with (go_at_call 36; refine (within_any _ _ _ _).mono ?_; rintro e w' ⟨rfl, rfl⟩)
  go_ret
  exact ⟨rfl, rfl⟩
set_option maxHeartbeats 400000 in
theorem l3Items_any (n : Int) (w : World) : Calls Tryz.prog 53 #[.int .i64 n] w fun e w' => e = .returned (.bool (inB n 1 8)) ∧ w = w' := by
  go_enter Tryz.func53, Tryz.ntmps53
  go_wp2_with (go_at_call 56; refine (l1In_any _ _ _ _).mono ?_; rintro e w' ⟨rfl, rfl⟩)
  go_ret
  exact ⟨rfl, rfl⟩

set_option maxHeartbeats 800000 in
theorem l3List_any {v : Value} {X : List Int} {n : Int} {w0 w : World} [Ext w0 w] (hX : IsInts w0 v X) (hn : 1 ≤ n ∧ n ≤ 8) :
    Calls Tryz.prog 67 #[.int .i64 n, v] w fun e w' => e = .returned (.bool (belowB n X)) ∧ Ext w w' := by
  obtain ⟨a, c, rfl, la⟩ := hX.form
  go_enter Tryz.func67, Tryz.ntmps67
  go_wp2
  go_loopw [5] (fun i wr => ∃ k : Nat, k ≤ X.length ∧ i = .int .i64 k ∧ Hid (∀ j, j < k → inB (nth X j) 0 (n - 1) = true) ∧ Drew w wr) (fun i _ => X.length - (intOf i).toNat)
  case atStart => exact ⟨0, by omega, rfl, by intro j hj; omega, Drew.refl _⟩
  case round =>
    obtain ⟨k, hk, rfl, hok, hd⟩ := hrel
    have e2 : Ext w wr := hd.ext
    have e0 : Ext w0 wr := Ext.trans ‹Ext w0 w› e2
    by_cases hlt : k < X.length
    · obtain ⟨b, o, rfl, hc⟩ := hX.at (w' := wr) hlt
      cases hin : inB (nth X k) 0 (n - 1) with
      | false =>
        have hfin := hid (belowB_not hlt hin)
        replace hin := hid hin
        go_wp2_with fail
        refine (l1In_any _ _ _ _).mono ?_; rw [hin.out]; rintro e w1 ⟨rfl, rfl⟩
        go_wp2_with fail
        go_ret
        exact ⟨ret_bool hfin.out.symm, hd.ext⟩
      | true =>
        replace hin := hid hin
        go_wp2_with fail
        refine (l1In_any _ _ _ _).mono ?_; rw [hin.out]; rintro e w1 ⟨rfl, rfl⟩
        go_wp2_with fail
        go_roundw
        case rel =>
          refine ⟨k + 1, by omega, by go_num, ?_, hd⟩
          intro j hj
          by_cases hjk : j = k
          · subst hjk; exact hin.out
          · exact hok.out j (by omega)
        case measure => simp [intOf]; omega
    · have hkX : k = X.length := by omega
      have hfin := hid (belowB_of (n := n) (l := X) fun j hj => hok.out j (by omega))
      go_wp2
      go_ret
      exact ⟨ret_bool hfin.out.symm, hd.ext⟩

end Go.Proofs.YtaphnkgjcmneoaaGreatDoor

/- The text of a sequence and its reading, in plain words. -/
namespace Go.Proofs.YtaphnkgjcmneoaaGreatDoor
open Go.RowKit

/-- the words of a text between the signs b -/
def spF (b : UInt8) : List UInt8 → List UInt8 → List (List UInt8)
  | [], cur => [cur]
  | x :: xs, cur => if x = b then cur :: spF b xs [] else spF b xs (cur ++ [x])
def spW (b : UInt8) (L : List UInt8) : List (List UInt8) := spF b L []
theorem spF_ne (b : UInt8) : ∀ (L cur : List UInt8), spF b L cur ≠ []
  | [], _ => by simp [spF]
  | x :: xs, cur => by
    unfold spF
    split
    · simp
    · exact spF_ne b xs _
theorem spF_len (b : UInt8) : ∀ (L cur : List UInt8), (spF b L cur).length ≤ L.length + 1
  | [], _ => by simp [spF]
  | x :: xs, cur => by
    unfold spF
    split
    · have := spF_len b xs []
      simp only [List.length_cons]; omega
    · have := spF_len b xs (cur ++ [x])
      simp only [List.length_cons]; omega
theorem spF_wlen (b : UInt8) : ∀ (L cur : List UInt8), ∀ y ∈ spF b L cur, y.length ≤ cur.length + L.length
  | [], cur, y, hy => by
    simp [spF] at hy
    subst hy; simp
  | x :: xs, cur, y, hy => by
    unfold spF at hy
    split at hy
    · rcases List.mem_cons.1 hy with h | h
      · subst h; simp
      · have := spF_wlen b xs [] y h
        simp only [List.length_cons, List.length_nil] at *; omega
    · have := spF_wlen b xs _ y hy
      simp only [List.length_cons, List.length_append, List.length_nil] at *; omega
theorem joinTail_cons (sep y : List UInt8) (r : List (List UInt8)) : Lib.joinTail sep (y :: r) = sep ++ Lib.join (y :: r) sep := by
  rw [Lib.join_cons]; simp [Lib.joinTail]
theorem spF_join (b : UInt8) : ∀ (L cur : List UInt8), Lib.join (spF b L cur) [b] = cur ++ L
  | [], cur => by simp [spF, Lib.join_one]
  | x :: xs, cur => by
    unfold spF
    split
    · rename_i hx
      subst hx
      rw [Lib.join_cons]
      cases h : spF x xs [] with
      | nil => exact absurd h (spF_ne x xs [])
      | cons y r =>
        have h1 := spF_join x xs []
        rw [h] at h1
        rw [joinTail_cons, h1]
        simp
    · rw [spF_join b xs]; simp
theorem spF_app (b : UInt8) : ∀ (y R cur : List UInt8), b ∉ y → spF b (y ++ R) cur = spF b R (cur ++ y)
  | [], R, cur, _ => by simp
  | x :: xs, R, cur, h => by
    have hx : x ≠ b := fun e => h (e ▸ List.mem_cons_self ..)
    rw [List.cons_append, spF, if_neg hx, spF_app b xs R _ (fun hm => h (List.mem_cons_of_mem _ hm))]
    simp
theorem spF_of_join (b : UInt8) : ∀ (y : List UInt8) (r : List (List UInt8)), (∀ z ∈ y :: r, b ∉ z) → spF b (Lib.join (y :: r) [b]) [] = y :: r
  | y, [], h => by
    rw [Lib.join_one]
    have h1 := spF_app b y [] [] (h y (.head _))
    rw [List.append_nil, List.nil_append] at h1
    rw [h1, spF]
  | y, z :: r, h => by
    rw [Lib.join_cons, joinTail_cons, spF_app b y _ [] (h y (.head _))]
    have e : [b] ++ Lib.join (z :: r) [b] = b :: Lib.join (z :: r) [b] := rfl
    rw [e, spF, if_pos rfl, spF_of_join b z r (fun q hq => h q (.tail _ hq))]
    rfl

/-- the loop's state: the words so far, and where the present one begins -/
theorem spF_at {b : UInt8} {L : List UInt8} {i f : Nat} {c : UInt8} (hc : L[i]? = some c) (hf : f ≤ i) :
    spF b (L.drop i) ((L.take i).drop f) = if c = b then (L.take i).drop f :: spF b (L.drop (i + 1)) [] else spF b (L.drop (i + 1)) ((L.take (i + 1)).drop f) := by
  have hi := (List.getElem?_eq_some_iff.1 hc).1
  have he : L[i] = c := (List.getElem?_eq_some_iff.1 hc).2
  rw [List.drop_eq_getElem_cons hi, spF, he]
  split
  · rfl
  · rw [List.take_add_one, hc, List.drop_append_of_le_length (by rw [List.length_take]; omega)]
    rfl

/-- reading a list of words -/
def rlB (W : List (List UInt8)) : Bool := W.all fun w => (rdO w).isSome
def rlL (W : List (List UInt8)) : List Int := W.map fun w => (rdO w).getD 0
def sqB (n : Int) (X : List Int) : Bool := inB n 1 8 && (decide (X.length ≤ 60) && belowB n X)
def noneL : List UInt8 := [110, 111, 110, 101]
def prB (n : Int) (L : List UInt8) : Bool := if L = noneL then inB n 1 8 else rlB (spW 32 L) && sqB n (rlL (spW 32 L))
def prR (n : Int) (L : List UInt8) : List Int := if L = noneL then [] else if prB n L then rlL (spW 32 L) else []
/-- a word that names an item -/
def wdOk (n : Int) (w : List UInt8) : Bool := (rsO w).isSome && inB ((rsO w).getD 0) 0 (n - 1)
theorem wdOk_iff {n : Int} {w : List UInt8} (hn : n ≤ 8) : wdOk n w = true ↔ ∃ x, rdO w = some x ∧ 0 ≤ x ∧ x ≤ n - 1 := by
  unfold wdOk
  rw [← pI_rsO, Bool.and_eq_true]
  constructor
  · rintro ⟨h1, h2⟩
    cases h : pI w with
    | none => rw [h] at h1; cases h1
    | some x =>
      rw [h, inB_true] at h2
      obtain ⟨h3, h4, h5⟩ := pI_iff.1 h
      refine ⟨x, ?_, h2⟩
      rw [← h3]
      exact rdO_itoa (by omega)
  · rintro ⟨x, h1, h2, h3⟩
    have h4 := rdO_some h1
    have h5 : pI w = some x := pI_iff.2 ⟨h4.2, by omega, by omega⟩
    rw [h5]
    refine ⟨rfl, ?_⟩
    rw [inB_true]
    exact ⟨h2, h3⟩
theorem wdOk_val {n : Int} {w : List UInt8} (hn : n ≤ 8) (h : wdOk n w = true) : (rsO w).getD 0 = (rdO w).getD 0 ∧ Lib.itoa ((rdO w).getD 0) = w ∧ w.length = 1 := by
  obtain ⟨x, h1, h2, h3⟩ := (wdOk_iff hn).1 h
  have h4 := rdO_some h1
  have h5 : rsO w = some x := rsO_iff.2 ⟨h4.2, by omega, by omega⟩
  rw [h1, h5]
  refine ⟨rfl, h4.2, ?_⟩
  rw [← h4.2]
  rcases itoa_cases x with ⟨h6, _⟩ | ⟨_, e⟩
  · omega
  · rw [e, Lib.decDigits_one (show x.toNat < 10 by omega)]
    rfl
def rsL (W : List (List UInt8)) : List Int := W.map fun w => (rsO w).getD 0
theorem rs_rl {n : Int} {W : List (List UInt8)} (hn : n ≤ 8) (h : ∀ w ∈ W, wdOk n w = true) : rsL W = rlL W ∧ rlB W = true ∧ belowB n (rlL W) = true ∧ (rlL W).map Lib.itoa = W := by
  refine ⟨List.map_congr_left fun w hw => (wdOk_val hn (h w hw)).1, ?_, ?_, ?_⟩
  · unfold rlB
    rw [List.all_eq_true]
    intro w hw
    obtain ⟨x, h1, _⟩ := (wdOk_iff hn).1 (h w hw)
    rw [h1]; rfl
  · unfold belowB
    rw [decide_eq_true_eq]
    intro a ha
    obtain ⟨w, hw, rfl⟩ := List.mem_map.1 ha
    obtain ⟨x, h1, h2, h3⟩ := (wdOk_iff hn).1 (h w hw)
    rw [h1, inB_true]
    exact ⟨h2, h3⟩
  · unfold rlL
    rw [List.map_map]
    conv => rhs; rw [← List.map_id W]
    exact List.map_congr_left fun w hw => (wdOk_val hn (h w hw)).2.1
theorem rl_words {n : Int} {W : List (List UInt8)} (hn : n ≤ 8) (h1 : rlB W = true) (h2 : belowB n (rlL W) = true) : ∀ w ∈ W, wdOk n w = true := by
  intro w hw
  rw [wdOk_iff hn]
  unfold rlB at h1
  have h3 := List.all_eq_true.1 h1 w hw
  obtain ⟨x, hx⟩ := Option.isSome_iff_exists.1 h3
  unfold belowB at h2
  rw [decide_eq_true_eq] at h2
  have h4 := h2 _ (List.mem_map.2 ⟨w, hw, rfl⟩)
  rw [hx, inB_true] at h4
  exact ⟨x, hx, h4.1, h4.2⟩
/-- the text of a sequence -/
def rtL (X : List Int) : List UInt8 := if X = [] then noneL else spL X
/-- what the reference's reading comes to -/
theorem pr_true {n : Int} {L : List UInt8} (hL : L ≠ noneL) : prB n L = true ↔ inB n 1 8 = true ∧ (∀ w ∈ spW 32 L, wdOk n w = true) ∧ (spW 32 L).length ≤ 60 := by
  have hlen : (rlL (spW 32 L)).length = (spW 32 L).length := by simp [rlL]
  unfold prB sqB
  rw [if_neg hL, Bool.and_eq_true, Bool.and_eq_true, Bool.and_eq_true, decide_eq_true_eq, hlen]
  constructor
  · rintro ⟨h1, h2, h3, h4⟩
    exact ⟨h2, rl_words (by rw [inB_true] at h2; exact h2.2) h1 h4, h3⟩
  · rintro ⟨h1, h2, h3⟩
    have h := rs_rl (by rw [inB_true] at h1; exact h1.2) h2
    exact ⟨h.2.1, h1, h3, h.2.2.1⟩
theorem pr_len {n : Int} {L : List UInt8} (h : prB n L = true) : L.length ≤ 120 := by
  by_cases hL : L = noneL
  · subst hL; decide
  · obtain ⟨h1, h2, h3⟩ := (pr_true hL).1 h
    have hj := spF_join 32 L []
    have hl := join_len (sep := [32]) (c := 1) (r := spW 32 L) fun w hw => by
      have := (wdOk_val (by rw [inB_true] at h1; exact h1.2) (h2 w hw)).2.2
      omega
    unfold spW at hl h3
    rw [hj] at hl
    simp only [List.nil_append, List.length_singleton] at hl
    omega
theorem pr_text {n : Int} {L : List UInt8} (hL : L ≠ noneL) (h : prB n L = true) : rtL (rlL (spW 32 L)) = L := by
  obtain ⟨h1, h2, h3⟩ := (pr_true hL).1 h
  have h4 := (rs_rl (by rw [inB_true] at h1; exact h1.2) h2).2.2.2
  have hne : rlL (spW 32 L) ≠ [] := by
    intro e
    rw [e] at h4
    exact spF_ne 32 L [] h4.symm
  rw [rtL, if_neg hne, spL, h4]
  exact (spF_join 32 L []).trans (List.nil_append _)
/-- a sequence comes back -/
theorem pr_back {n : Int} {X : List Int} (h : sqB n X = true) : prB n (rtL X) = true ∧ prR n (rtL X) = X := by
  have hb := h
  unfold sqB at h
  rw [Bool.and_eq_true, Bool.and_eq_true, inB_true, decide_eq_true_eq] at h
  obtain ⟨h1, h2, h3⟩ := h
  cases X with
  | nil =>
    have e : rtL [] = noneL := rfl
    rw [e]
    refine ⟨?_, ?_⟩
    · rw [prB, if_pos rfl, inB_true]; exact h1
    · rw [prR, if_pos rfl]
  | cons x r =>
    unfold belowB at h3
    rw [decide_eq_true_eq] at h3
    have hx : ∀ y ∈ x :: r, 0 ≤ y ∧ y ≤ 7 := fun y hy => by
      have h4 := h3 y hy
      rw [inB_true] at h4
      omega
    have hd : ∀ y : Int, 0 ≤ y → y ≤ 7 → Lib.itoa y = [dgt y.toNat] := fun y hy hy7 => by
      rcases itoa_cases y with ⟨h6, _⟩ | ⟨_, e⟩
      · omega
      · rw [e, Lib.decDigits_one (show y.toNat < 10 by omega)]
        rfl
    have hdv : ∀ u, u ≤ 7 → (dgt u ≠ 32 ∧ dgt u ≠ 110) := by decide
    have e : rtL (x :: r) = Lib.join ((x :: r).map Lib.itoa) [32] := by rw [rtL, if_neg (by simp)]; rfl
    have hw : spW 32 (rtL (x :: r)) = (x :: r).map Lib.itoa := by
      rw [e, List.map_cons]
      refine spF_of_join 32 _ _ ?_
      intro z hz
      rw [← List.map_cons] at hz
      obtain ⟨y, hy, rfl⟩ := List.mem_map.1 hz
      obtain ⟨a1, a2⟩ := hx y hy
      rw [hd y a1 a2]
      intro hm
      exact (hdv y.toNat (by omega)).1 (List.mem_singleton.1 hm).symm
    have hrl : rlL (spW 32 (rtL (x :: r))) = x :: r := by
      rw [hw]
      unfold rlL
      rw [List.map_map]
      conv => rhs; rw [← List.map_id (x :: r)]
      refine List.map_congr_left fun y hy => ?_
      obtain ⟨a1, a2⟩ := hx y hy
      show (rdO (Lib.itoa y)).getD 0 = y
      rw [rdO_itoa (by omega)]
      rfl
    have hrb : rlB (spW 32 (rtL (x :: r))) = true := by
      rw [hw]
      unfold rlB
      rw [List.all_eq_true]
      intro z hz
      obtain ⟨y, hy, rfl⟩ := List.mem_map.1 hz
      obtain ⟨a1, a2⟩ := hx y hy
      rw [rdO_itoa (by omega)]
      rfl
    have hnn : rtL (x :: r) ≠ noneL := by
      intro e2
      rw [e, List.map_cons, Lib.join_cons] at e2
      obtain ⟨a1, a2⟩ := hx x (.head _)
      rw [hd x a1 a2] at e2
      have e3 := (List.cons.inj (show dgt x.toNat :: Lib.joinTail [32] (r.map Lib.itoa) = 110 :: [111, 110, 101] from e2)).1
      exact (hdv x.toNat (by omega)).2 e3
    have hp : prB n (rtL (x :: r)) = true := by rw [prB, if_neg hnn, hrb, hrl, hb]; rfl
    exact ⟨hp, by rw [prR, if_neg hnn, if_pos hp, hrl]⟩
end Go.Proofs.YtaphnkgjcmneoaaGreatDoor

/- Caches in plain words: validity, the text, and the reading of it. -/
namespace Go.Proofs.YtaphnkgjcmneoaaGreatDoor
open Go.RowKit

/-- the bytes of a number: a minus sign or digits -/
def numC (c : UInt8) : Bool := c == 45 || (decide (48 ≤ c.toNat) && decide (c.toNat ≤ 57))
theorem dec_num : ∀ (u : Nat), ∀ c ∈ Lib.decDigits u, numC c = true := by
  intro u
  induction u using Nat.strongRecOn with
  | _ u ih =>
  have hd : ∀ r, r < 10 → numC (dgt r) = true := by
    have : ∀ i : Fin 10, numC (dgt i.val) = true := by decide +kernel
    exact fun r hr => this ⟨r, hr⟩
  intro c hc
  by_cases h : u < 10
  · rw [Lib.decDigits_one h, List.mem_singleton] at hc
    rw [hc]; exact hd u h
  · rw [dec_more h] at hc
    rcases List.mem_append.1 hc with h1 | h1
    · exact ih _ (by omega) c h1
    · rw [List.mem_singleton.1 h1]; exact hd _ (by omega)
theorem itoa_num (n : Int) : ∀ c ∈ Lib.itoa n, numC c = true := by
  unfold Lib.itoa
  split
  · intro c hc
    rcases List.mem_cons.1 hc with h | h
    · rw [h]; rfl
    · exact dec_num _ c h
  · exact dec_num _
theorem itoa_not (n : Int) {b : UInt8} (hb : numC b = false) : b ∉ Lib.itoa n := fun h => by
  rw [itoa_num n b h] at hb; cases hb
/-- a text cut at a byte -/
theorem ix_cut (b : UInt8) : ∀ (x r : List UInt8), b ∉ x → Lib.index (x ++ b :: r) [b] = (x.length : Int)
  | [], r, _ => by rw [List.nil_append, Lib.index]; simp [List.isPrefixOf]
  | c :: x, r, h => by
    have hb : c ≠ b := fun e => h (by rw [e]; exact .head _)
    have ih := ix_cut b x r fun hm => h (.tail _ hm)
    have hp : ([b] : List UInt8).isPrefixOf (c :: (x ++ b :: r)) = false := by simp [List.isPrefixOf, Ne.symm hb]
    rw [List.cons_append, Lib.index, hp, ih]
    have hne : ((x.length : Int) == -1) = false := beq_eq_false_iff_ne.2 (by omega)
    rw [hne]
    simp
theorem ix_none (b : UInt8) : ∀ (x : List UInt8), b ∉ x → Lib.index x [b] = -1
  | [], _ => by rw [Lib.index]; rfl
  | c :: x, h => by
    have hb : c ≠ b := fun e => h (by rw [e]; exact .head _)
    have ih := ix_none b x fun hm => h (.tail _ hm)
    have hp : ([b] : List UInt8).isPrefixOf (c :: x) = false := by simp [List.isPrefixOf, Ne.symm hb]
    rw [Lib.index, hp, ih]
    rfl
theorem cut_at {b : UInt8} {x : List UInt8} (r : List UInt8) (h : b ∉ x) : Lib.cut (x ++ b :: r) [b] = (x, r, true) := by
  rw [Lib.cut, ix_cut b x r h, if_pos (by omega)]
  simp
theorem cut_no {b : UInt8} {x : List UInt8} (h : b ∉ x) : Lib.cut x [b] = (x, [], false) := by
  rw [Lib.cut, ix_none b x h, if_neg (by omega)]
/-- the names of the policies -/
def nmL : List (List UInt8) := [[108, 114, 117], [102, 105, 102, 111], [108, 105, 102, 111], [102, 108, 117, 115, 104], [108, 102, 117], [99, 108, 111, 99, 107], [109, 114, 117]]
def nmOf (p : Int) : List UInt8 := nmL.getD (p - 1).toNat []
/-- the policy of a name, or 0 -/
def polOf (L : List UInt8) : Int := if L ∈ nmL then (nmL.idxOf L : Nat) + 1 else 0
theorem pol_name {p : Int} (h : 1 ≤ p ∧ p ≤ 7) : polOf (nmOf p) = p := by
  have : p = 1 ∨ p = 2 ∨ p = 3 ∨ p = 4 ∨ p = 5 ∨ p = 6 ∨ p = 7 := by omega
  rcases this with rfl | rfl | rfl | rfl | rfl | rfl | rfl <;> decide
theorem name_not {p : Int} (h : 1 ≤ p ∧ p ≤ 7) : (47 : UInt8) ∉ nmOf p ∧ (32 : UInt8) ∉ nmOf p := by
  have : p = 1 ∨ p = 2 ∨ p = 3 ∨ p = 4 ∨ p = 5 ∨ p = 6 ∨ p = 7 := by omega
  rcases this with rfl | rfl | rfl | rfl | rfl | rfl | rfl <;> decide
theorem name_of {L : List UInt8} (h : polOf L ≠ 0) : 1 ≤ polOf L ∧ polOf L ≤ 7 ∧ nmOf (polOf L) = L := by
  unfold polOf at *
  split at h
  · next hm =>
    rw [if_pos hm]
    simp only [nmL, List.mem_cons, List.not_mem_nil, or_false] at hm
    rcases hm with rfl | rfl | rfl | rfl | rfl | rfl | rfl <;> decide
  · exact absurd rfl h
/-- a policy has marks -/
def mkd (p : Int) : Bool := p == 5 || p == 6
def marksB (p : Int) (P M : List Int) : Bool :=
  if mkd p then decide (M.length = P.length) && decide (∀ x ∈ M, (if p = 6 then 0 else 1) ≤ x ∧ x ≤ (if p = 6 then 1 else 60)) else decide (M.length = 0)
/-- a cache is valid -/
def caB (n p z : Int) (P M : List Int) (h : Int) : Bool :=
  inB n 1 8 && (inB p 1 7 && (inB z 1 6 && (decide ((P.length : Int) ≤ z) && (belowB n P && (decide ((difL P).length = P.length) && (marksB p P M && (if p = 6 ∧ (P.length : Int) = z then inB h 0 ((P.length : Int) - 1) else h == 0)))))))
/-- the words of a cache's text -/
def hdL (p z h : Int) : List UInt8 := nmOf p ++ 47 :: (Lib.itoa z ++ if p = 6 then 64 :: Lib.itoa h else [])
def wdL (p x m : Int) : List UInt8 := Lib.itoa x ++ if mkd p then 58 :: Lib.itoa m else []
def wdsL (p : Int) : List Int → List Int → List (List UInt8)
  | [], _ => []
  | x :: P, M => wdL p x (M.headD 0) :: wdsL p P M.tail
def caL (p z : Int) (P M : List Int) (h : Int) : List UInt8 := Lib.join (hdL p z h :: wdsL p P M) [32]
/-- the reading of a head -/
def rd0 (L : List UInt8) : Int := (rdO L).getD 0
def hdP (w : List UInt8) : Int × Int × Int :=
  let r := Lib.cut (Lib.cut w [47]).2.1 [64]
  (polOf (Lib.cut w [47]).1, rd0 r.1, rd0 r.2.1)
/-- the reading of the other words -/
def wdsOk (W : List (List UInt8)) : Bool := W.all fun w => (rdO (Lib.cut w [58]).1).isSome
def wdsP (W : List (List UInt8)) : List Int := W.map fun w => rd0 (Lib.cut w [58]).1
def wdsM (p : Int) (W : List (List UInt8)) : List Int := if mkd p then W.map fun w => rd0 (Lib.cut w [58]).2.1 else []
/-- what ParseCache makes of a text -/
def pcOk (n : Int) (L : List UInt8) : Bool :=
  let W := spW 32 L
  let w := W.headD []
  let H := hdP w
  wdsOk W.tail && (caB n H.1 H.2.1 (wdsP W.tail) (wdsM H.1 W.tail) H.2.2 && decide (caL H.1 H.2.1 (wdsP W.tail) (wdsM H.1 W.tail) H.2.2 = L))
theorem num58 : numC 58 = false := by decide
theorem num64 : numC 64 = false := by decide
theorem num47 : numC 47 = false := by decide
theorem num32 : numC 32 = false := by decide
theorem rd0_itoa {n : Int} (h : -1000000000000000 ≤ n ∧ n ≤ 1000000000000000) : rd0 (Lib.itoa n) = n := by
  unfold rd0; rw [rdO_itoa h]; rfl
theorem hd_words {p z h : Int} (hp : 1 ≤ p ∧ p ≤ 7) : (32 : UInt8) ∉ hdL p z h := by
  unfold hdL
  intro hm
  rcases List.mem_append.1 hm with h1 | h1
  · exact (name_not hp).2 h1
  · rcases List.mem_cons.1 h1 with h2 | h2
    · exact absurd h2 (by decide)
    · rcases List.mem_append.1 h2 with h3 | h3
      · exact itoa_not z num32 h3
      · split at h3
        · rcases List.mem_cons.1 h3 with h4 | h4
          · exact absurd h4 (by decide)
          · exact itoa_not h num32 h4
        · cases h3
theorem wd_words (p x m : Int) : (32 : UInt8) ∉ wdL p x m := by
  unfold wdL
  intro hm
  rcases List.mem_append.1 hm with h1 | h1
  · exact itoa_not x num32 h1
  · split at h1
    · rcases List.mem_cons.1 h1 with h2 | h2
      · exact absurd h2 (by decide)
      · exact itoa_not m num32 h2
    · cases h1
theorem wds_words (p : Int) : ∀ (P M : List Int), ∀ w ∈ wdsL p P M, (32 : UInt8) ∉ w
  | [], _, w, h => by cases h
  | x :: P, M, w, h => by
    rcases List.mem_cons.1 h with e | h
    · rw [e]; exact wd_words _ _ _
    · exact wds_words p P M.tail w h
theorem ca_words {p z h : Int} {P M : List Int} (hp : 1 ≤ p ∧ p ≤ 7) : spW 32 (caL p z P M h) = hdL p z h :: wdsL p P M := by
  refine spF_of_join 32 _ _ fun w hw => ?_
  rcases List.mem_cons.1 hw with e | h1
  · rw [e]; exact hd_words hp
  · exact wds_words p P M w h1
theorem hd_read {p z h : Int} (hp : 1 ≤ p ∧ p ≤ 7) (hz : 1 ≤ z ∧ z ≤ 6) (hh : -1000 ≤ h ∧ h ≤ 1000) (h6 : p ≠ 6 → h = 0) : hdP (hdL p z h) = (p, z, h) := by
  unfold hdP hdL
  rw [cut_at _ (name_not hp).1]
  by_cases e : p = 6
  · rw [if_pos e]
    simp only
    rw [cut_at _ (itoa_not z num64)]
    simp only
    rw [pol_name hp, rd0_itoa (by omega), rd0_itoa (by omega)]
  · rw [if_neg e, List.append_nil]
    simp only
    rw [cut_no (itoa_not z num64)]
    simp only
    rw [pol_name hp, rd0_itoa (by omega), h6 e]
    have : rd0 [] = 0 := by decide
    rw [this]
theorem wd_read {p x m : Int} (hx : -1000 ≤ x ∧ x ≤ 1000) (hm : -1000 ≤ m ∧ m ≤ 1000) : rdO (Lib.cut (wdL p x m) [58]).1 = some x ∧ (mkd p = true → rd0 (Lib.cut (wdL p x m) [58]).2.1 = m) := by
  unfold wdL
  by_cases e : mkd p = true
  · rw [if_pos e, cut_at _ (itoa_not x num58)]
    exact ⟨rdO_itoa (by omega), fun _ => rd0_itoa (by omega)⟩
  · rw [if_neg e, List.append_nil, cut_no (itoa_not x num58)]
    exact ⟨rdO_itoa (by omega), fun h => absurd h e⟩
theorem wds_read {p : Int} : ∀ {P M : List Int}, (∀ x ∈ P, -1000 ≤ x ∧ x ≤ 1000) → (∀ x ∈ M, -1000 ≤ x ∧ x ≤ 1000) → (mkd p = true → M.length = P.length) → (mkd p = false → M = []) →
    wdsOk (wdsL p P M) = true ∧ wdsP (wdsL p P M) = P ∧ wdsM p (wdsL p P M) = M
  | [], M, _, _, h1, h2 => by
    refine ⟨rfl, rfl, ?_⟩
    cases e : mkd p with
    | true => have := List.eq_nil_of_length_eq_zero (h1 e); rw [this]; unfold wdsM; rw [e]; rfl
    | false => rw [h2 e]; unfold wdsM; rw [e]; rfl
  | x :: P, M, hP, hM, h1, h2 => by
    have hx := hP x (.head _)
    have hm0 : -1000 ≤ M.headD 0 ∧ M.headD 0 ≤ 1000 := by
      cases M with
      | nil => show (-1000 : Int) ≤ 0 ∧ (0 : Int) ≤ 1000; omega
      | cons m M => exact hM m (.head _)
    obtain ⟨r1, r2⟩ := wd_read (p := p) hx hm0
    obtain ⟨i1, i2, i3⟩ := wds_read (p := p) (P := P) (M := M.tail) (fun y hy => hP y (.tail _ hy)) (fun y hy => hM y (List.mem_of_mem_tail hy)) (fun e => by
      have := h1 e
      rw [List.length_tail, this]; simp) (fun e => by rw [h2 e]; rfl)
    refine ⟨?_, ?_, ?_⟩
    · show ((rdO (Lib.cut (wdL p x (M.headD 0)) [58]).1).isSome && wdsOk (wdsL p P M.tail)) = true
      rw [r1, i1]; rfl
    · show rd0 (Lib.cut (wdL p x (M.headD 0)) [58]).1 :: wdsP (wdsL p P M.tail) = x :: P
      rw [i2]
      unfold rd0
      rw [r1]; rfl
    · cases e : mkd p with
      | true =>
        have hl := h1 e
        cases M with
        | nil => simp at hl
        | cons m M =>
          have h3 := i3
          unfold wdsM at h3 ⊢
          rw [e, if_pos rfl] at h3 ⊢
          show rd0 (Lib.cut (wdL p x m) [58]).2.1 :: _ = m :: M
          rw [show rd0 (Lib.cut (wdL p x m) [58]).2.1 = m from r2 e]
          congr 1
      | false => unfold wdsM; rw [e, h2 e]; rfl
theorem ca_parts {n p z h : Int} {P M : List Int} (hc : caB n p z P M h = true) :
    (1 ≤ n ∧ n ≤ 8) ∧ (1 ≤ p ∧ p ≤ 7) ∧ (1 ≤ z ∧ z ≤ 6) ∧ (P.length : Int) ≤ z ∧ (∀ x ∈ P, 0 ≤ x ∧ x ≤ 7) ∧ (∀ x ∈ M, 0 ≤ x ∧ x ≤ 60) ∧ (mkd p = true → M.length = P.length) ∧ (mkd p = false → M = []) ∧ (0 ≤ h ∧ h ≤ 6) ∧ (p ≠ 6 → h = 0) := by
  unfold caB at hc
  simp only [Bool.and_eq_true, decide_eq_true_eq] at hc
  obtain ⟨h1, h2, h3, h4, h5, h6, h7, h8⟩ := hc
  have g1 := inB_true.1 h1
  have g2 := inB_true.1 h2
  have g3 := inB_true.1 h3
  unfold belowB at h5
  rw [decide_eq_true_eq] at h5
  refine ⟨g1, g2, g3, h4, fun x hx => by have := inB_true.1 (h5 x hx); omega, ?_, ?_, ?_, ?_, ?_⟩
  · unfold marksB at h7
    split at h7
    · rw [Bool.and_eq_true, decide_eq_true_eq, decide_eq_true_eq] at h7
      intro x hx
      have := h7.2 x hx
      split at this <;> omega
    · rw [decide_eq_true_eq] at h7
      rw [List.eq_nil_of_length_eq_zero h7]
      intro x hx; cases hx
  · intro e
    unfold marksB at h7
    rw [if_pos e, Bool.and_eq_true, decide_eq_true_eq] at h7
    exact h7.1
  · intro e
    unfold marksB at h7
    rw [e, if_neg (by simp), decide_eq_true_eq] at h7
    exact List.eq_nil_of_length_eq_zero h7
  · split at h8
    · have := inB_true.1 h8; omega
    · have := beq_iff_eq.1 h8; omega
  · intro e
    rw [if_neg (fun h => e h.1)] at h8
    exact beq_iff_eq.1 h8
/-- a valid cache is read off its text -/
theorem pc_back {n p z h : Int} {P M : List Int} (hc : caB n p z P M h = true) :
    pcOk n (caL p z P M h) = true ∧ hdP ((spW 32 (caL p z P M h)).headD []) = (p, z, h) ∧ wdsP (spW 32 (caL p z P M h)).tail = P ∧ wdsM p (spW 32 (caL p z P M h)).tail = M := by
  obtain ⟨g1, g2, g3, g4, g5, g6, g7, g8, g9, g10⟩ := ca_parts hc
  have hw := ca_words (z := z) (h := h) (P := P) (M := M) g2
  have hh := hd_read (z := z) (h := h) g2 g3 (by omega) g10
  obtain ⟨i1, i2, i3⟩ := wds_read (p := p) (P := P) (M := M) (fun x hx => by have := g5 x hx; omega) (fun x hx => by have := g6 x hx; omega) g7 g8
  refine ⟨?_, ?_, ?_, ?_⟩
  · unfold pcOk
    rw [hw]
    show (wdsOk (wdsL p P M) && _) = true
    rw [i1, List.headD_cons, List.tail_cons, hh]
    simp only
    rw [i2, i3, hc]
    simp
  · rw [hw, List.headD_cons, hh]
  · rw [hw, List.tail_cons, i2]
  · rw [hw, List.tail_cons, i3]
end Go.Proofs.YtaphnkgjcmneoaaGreatDoor

/- The reference's reading of a cache's text gives the same. -/
namespace Go.Proofs.YtaphnkgjcmneoaaGreatDoor
open Go.RowKit

def rs0 (L : List UInt8) : Int := (rsO L).getD 0
theorem rsO_itoa {n : Int} (h : -999999 ≤ n ∧ n ≤ 999999) : rsO (Lib.itoa n) = some n := rsO_iff.2 ⟨rfl, h.1, h.2⟩
/-- the reference's reading of a head -/
def hdS (w : List UInt8) : Int × Int × Int :=
  let r := Lib.cut (Lib.cut w [47]).2.1 [64]
  (polOf (Lib.cut w [47]).1, rs0 r.1, if r.2.2 then rs0 r.2.1 else 0)
def hdSok (w : List UInt8) : Bool :=
  let r := Lib.cut (Lib.cut w [47]).2.1 [64]
  ((rsO r.1).isSome && (if r.2.2 then (rsO r.2.1).isSome else true)) && (r.2.2 == (polOf (Lib.cut w [47]).1 == 6))
def wdSok (p : Int) (w : List UInt8) : Bool :=
  (rsO (Lib.cut w [58]).1).isSome && ((Lib.cut w [58]).2.2 == mkd p && (if (Lib.cut w [58]).2.2 then (rsO (Lib.cut w [58]).2.1).isSome else true))
def wdsS (W : List (List UInt8)) : List Int := W.map fun w => rs0 (Lib.cut w [58]).1
def wdsSM (p : Int) (W : List (List UInt8)) : List Int := if mkd p then W.map fun w => rs0 (Lib.cut w [58]).2.1 else []
def psOk (n : Int) (L : List UInt8) : Bool :=
  let W := spW 32 L
  let w := W.headD []
  let H := hdS w
  (hdSok w && decide (W.length ≤ 7)) && ((W.tail.all (wdSok H.1)) && (caB n H.1 H.2.1 (wdsS W.tail) (wdsSM H.1 W.tail) H.2.2 && decide (caL H.1 H.2.1 (wdsS W.tail) (wdsSM H.1 W.tail) H.2.2 = L)))
theorem hd_readS {p z h : Int} (hp : 1 ≤ p ∧ p ≤ 7) (hz : 1 ≤ z ∧ z ≤ 6) (hh : -1000 ≤ h ∧ h ≤ 1000) (h6 : p ≠ 6 → h = 0) : hdS (hdL p z h) = (p, z, h) ∧ hdSok (hdL p z h) = true := by
  unfold hdS hdSok hdL
  rw [cut_at _ (name_not hp).1]
  by_cases e : p = 6
  · rw [if_pos e]
    simp only
    rw [cut_at _ (itoa_not z num64)]
    simp only
    unfold rs0
    rw [pol_name hp, rsO_itoa (by omega), rsO_itoa (by omega), e]
    exact ⟨rfl, rfl⟩
  · rw [if_neg e, List.append_nil]
    simp only
    rw [cut_no (itoa_not z num64)]
    simp only
    unfold rs0
    rw [pol_name hp, rsO_itoa (by omega), h6 e, beq_eq_false_iff_ne.2 e]
    exact ⟨rfl, rfl⟩
theorem wd_readS {p x m : Int} (hx : -1000 ≤ x ∧ x ≤ 1000) (hm : -1000 ≤ m ∧ m ≤ 1000) : rsO (Lib.cut (wdL p x m) [58]).1 = some x ∧ wdSok p (wdL p x m) = true ∧ (mkd p = true → rs0 (Lib.cut (wdL p x m) [58]).2.1 = m) := by
  unfold wdSok wdL
  by_cases e : mkd p = true
  · rw [if_pos e, cut_at _ (itoa_not x num58)]
    simp only
    unfold rs0
    rw [rsO_itoa (by omega), rsO_itoa (by omega), e]
    exact ⟨rfl, rfl, fun _ => rfl⟩
  · rw [if_neg e, List.append_nil, cut_no (itoa_not x num58)]
    simp only
    unfold rs0
    rw [rsO_itoa (by omega), Bool.eq_false_iff.2 e]
    exact ⟨rfl, rfl, fun h => by cases h⟩
theorem wds_readS {p : Int} : ∀ {P M : List Int}, (∀ x ∈ P, -1000 ≤ x ∧ x ≤ 1000) → (∀ x ∈ M, -1000 ≤ x ∧ x ≤ 1000) → (mkd p = true → M.length = P.length) → (mkd p = false → M = []) →
    (wdsL p P M).all (wdSok p) = true ∧ wdsS (wdsL p P M) = P ∧ wdsSM p (wdsL p P M) = M
  | [], M, _, _, h1, h2 => by
    refine ⟨rfl, rfl, ?_⟩
    cases e : mkd p with
    | true => have := List.eq_nil_of_length_eq_zero (h1 e); rw [this]; unfold wdsSM; rw [e]; rfl
    | false => rw [h2 e]; unfold wdsSM; rw [e]; rfl
  | x :: P, M, hP, hM, h1, h2 => by
    have hx := hP x (.head _)
    have hm0 : -1000 ≤ M.headD 0 ∧ M.headD 0 ≤ 1000 := by
      cases M with
      | nil => show (-1000 : Int) ≤ 0 ∧ (0 : Int) ≤ 1000; omega
      | cons m M => exact hM m (.head _)
    obtain ⟨r1, r3, r2⟩ := wd_readS (p := p) hx hm0
    obtain ⟨i1, i2, i3⟩ := wds_readS (p := p) (P := P) (M := M.tail) (fun y hy => hP y (.tail _ hy)) (fun y hy => hM y (List.mem_of_mem_tail hy)) (fun e => by
      have := h1 e
      rw [List.length_tail, this]; simp) (fun e => by rw [h2 e]; rfl)
    refine ⟨?_, ?_, ?_⟩
    · show (wdSok p (wdL p x (M.headD 0)) && (wdsL p P M.tail).all (wdSok p)) = true
      rw [r3, i1]; rfl
    · show rs0 (Lib.cut (wdL p x (M.headD 0)) [58]).1 :: wdsS (wdsL p P M.tail) = x :: P
      rw [i2]
      unfold rs0
      rw [r1]; rfl
    · cases e : mkd p with
      | true =>
        have hl := h1 e
        cases M with
        | nil => simp at hl
        | cons m M =>
          have h3 := i3
          unfold wdsSM at h3 ⊢
          rw [e, if_pos rfl] at h3 ⊢
          show rs0 (Lib.cut (wdL p x m) [58]).2.1 :: _ = m :: M
          rw [show rs0 (Lib.cut (wdL p x m) [58]).2.1 = m from r2 e]
          congr 1
      | false => unfold wdsSM; rw [e, h2 e]; rfl
theorem wds_len (p : Int) : ∀ P M : List Int, (wdsL p P M).length = P.length
  | [], _ => rfl
  | x :: P, M => by show (wdsL p P M.tail).length + 1 = P.length + 1; rw [wds_len p P M.tail]
theorem ps_back {n p z h : Int} {P M : List Int} (hc : caB n p z P M h = true) :
    psOk n (caL p z P M h) = true ∧ hdS ((spW 32 (caL p z P M h)).headD []) = (p, z, h) ∧ wdsS (spW 32 (caL p z P M h)).tail = P ∧ wdsSM p (spW 32 (caL p z P M h)).tail = M := by
  obtain ⟨g1, g2, g3, g4, g5, g6, g7, g8, g9, g10⟩ := ca_parts hc
  have hw := ca_words (z := z) (h := h) (P := P) (M := M) g2
  obtain ⟨hh, hk⟩ := hd_readS (z := z) (h := h) g2 g3 (by omega) g10
  obtain ⟨i1, i2, i3⟩ := wds_readS (p := p) (P := P) (M := M) (fun x hx => by have := g5 x hx; omega) (fun x hx => by have := g6 x hx; omega) g7 g8
  have hl : (hdL p z h :: wdsL p P M).length ≤ 7 := by rw [List.length_cons, wds_len]; omega
  refine ⟨?_, ?_, ?_, ?_⟩
  · unfold psOk
    simp only [Bool.and_eq_true, decide_eq_true_eq]
    rw [hw, List.headD_cons, List.tail_cons, hh]
    refine ⟨⟨hk, hl⟩, i1, ?_, ?_⟩
    · show caB n p z (wdsS (wdsL p P M)) (wdsSM p (wdsL p P M)) h = true
      rw [i2, i3]; exact hc
    · show caL p z (wdsS (wdsL p P M)) (wdsSM p (wdsL p P M)) h = caL p z P M h
      rw [i2, i3]
  · rw [hw, List.headD_cons, hh]
  · rw [hw, List.tail_cons, i2]
  · rw [hw, List.tail_cons, i3]
/-- both read the same texts, to the same caches -/
theorem pc_ps (n : Int) (L : List UInt8) : pcOk n L = psOk n L := by
  rw [Bool.eq_iff_iff]
  constructor
  · intro h
    have h1 := h
    unfold pcOk at h1
    simp only [Bool.and_eq_true, decide_eq_true_eq] at h1
    have h2 := ps_back h1.2.1
    rw [h1.2.2] at h2
    exact h2.1
  · intro h
    have h1 := h
    unfold psOk at h1
    simp only [Bool.and_eq_true, decide_eq_true_eq] at h1
    have h2 := pc_back h1.2.2.1
    rw [h1.2.2.2] at h2
    exact h2.1
theorem pc_vals {n : Int} {L : List UInt8} (h : pcOk n L = true) : hdS ((spW 32 L).headD []) = hdP ((spW 32 L).headD []) ∧ wdsS (spW 32 L).tail = wdsP (spW 32 L).tail ∧
    wdsSM (hdP ((spW 32 L).headD [])).1 (spW 32 L).tail = wdsM (hdP ((spW 32 L).headD [])).1 (spW 32 L).tail := by
  have h1 := h
  unfold pcOk at h1
  simp only [Bool.and_eq_true, decide_eq_true_eq] at h1
  have h2 := ps_back h1.2.1
  rw [h1.2.2] at h2
  refine ⟨?_, h2.2.2.1, h2.2.2.2⟩
  rw [h2.2.1]
end Go.Proofs.YtaphnkgjcmneoaaGreatDoor

/- Caches walked: marks and fullness (the program). -/
namespace Go.Proofs.YtaphnkgjcmneoaaGreatDoor
open Go.RowKit

theorem isMarked_any (p : Int) (w : World) : Calls Tryz.prog 40 #[.int .i64 p] w fun e w' => e = .returned (.bool (mkd p)) ∧ w = w' := by
  by_cases h5 : p = 5
  · have hr := hid (show mkd p = true by rw [h5]; rfl)
    have h5' : (p == 5) = true := beq_iff_eq.2 h5
    replace h5 := hid h5
    go_enter Tryz.func40, Tryz.ntmps40
    go_wp2_with fail
    go_ret
    exact ⟨ret_bool hr.out.symm, rfl⟩
  · have h5' : (p == 5) = false := beq_eq_false_iff_ne.2 h5
    have hr := hid (show (p == 6) = mkd p by unfold mkd; rw [h5']; rfl)
    replace h5 := hid h5
    go_enter Tryz.func40, Tryz.ntmps40
    go_wp2_with fail
    go_ret
    exact ⟨ret_bool hr.out, rfl⟩
set_option maxHeartbeats 800000 in
theorem isFull_any {p z h : Int} {P M : List Int} {dP dM : Option Addr} {cP cM : Nat} (w : World) :
    Calls Tryz.prog 35 #[.agg #[.int .i64 p, .int .i64 z, .slice dP P.length cP, .slice dM M.length cM, .int .i64 h]] w fun e w' => e = .returned (.bool ((P.length : Int) == z)) ∧ Ext w w' := by
  obtain ⟨W, hW⟩ : ∃ W, W = w.alloc (.cells #[.int .i64 p, .int .i64 z, .slice dP P.length cP, .slice dM M.length cM, .int .i64 h] 26) := ⟨_, rfl⟩
  have eW : Ext w W := by rw [hW]; infer_instance
  have x0 : W.cell? ⟨w.heap.size, 0, none⟩ = some (.int .i64 p) := by rw [hW]; go_simp
  have x1 : W.cell? ⟨w.heap.size, 1, none⟩ = some (.int .i64 z) := by rw [hW]; go_simp
  have x2 : W.cell? ⟨w.heap.size, 2, none⟩ = some (.slice dP P.length cP) := by rw [hW]; go_simp
  have x3 : W.cell? ⟨w.heap.size, 3, none⟩ = some (.slice dM M.length cM) := by rw [hW]; go_simp
  have x4 : W.cell? ⟨w.heap.size, 4, none⟩ = some (.int .i64 h) := by rw [hW]; go_simp
  go_enter Tryz.func35, Tryz.ntmps35
  go_upto_region 1 with fail
  rw [← hW]
  replace hW := hid hW
  go_wp2_with fail
  go_ret
  exact ⟨rfl, eW⟩
theorem areMarks1_any {a lo hi : Int} {B C : Nat} {w : World} (hn : w.cell? ⟨B, 0, none⟩ = some (.int .i64 lo)) (hm : w.cell? ⟨C, 0, none⟩ = some (.int .i64 hi)) :
    Calls Tryz.prog 76 #[.int .i64 a, .pointer (some ⟨B, 0, none⟩), .pointer (some ⟨C, 0, none⟩)] w fun e w' => e = .returned (.bool (!inB a lo hi)) ∧ w = w' := by
  go_enter Tryz.func76, Tryz.ntmps76
  go_wp2_with (go_at_call 36; refine (within_any _ _ _ _).mono ?_; rintro e w' ⟨rfl, rfl⟩)
  go_ret
  exact ⟨rfl, rfl⟩
theorem areMarks1_call (xa : Array Value) (W : World) : (callFunc 76 xa).run Tryz.prog W = .ok (.enter 76 xa) W := by kernel_rfl
theorem areMarks1_all {l : List Int} {lo hi : Int} {B C : Nat} {w : World} (hn : w.cell? ⟨B, 0, none⟩ = some (.int .i64 lo)) (hm : w.cell? ⟨C, 0, none⟩ = some (.int .i64 hi)) :
    ∀ (W : World), Ext w W → ∀ k, k < l.length → Calls Tryz.prog 76 (#[.int .i64 (nth l k)] ++ #[.pointer (some ⟨B, 0, none⟩), .pointer (some ⟨C, 0, none⟩)]) W fun e w' => e = .returned (.bool (!inB (nth l k) lo hi)) ∧ Ext W w' := by
  intro W hW k hk
  refine (areMarks1_any (hW.cell hn) (hW.cell hm)).mono ?_
  rintro e w' ⟨rfl, rfl⟩
  exact ⟨rfl, Ext.refl _⟩
def loM (p : Int) : Int := if p = 6 then 0 else 1
def hiM (p : Int) : Int := if p = 6 then 1 else 60
theorem marks_any {p : Int} {P M : List Int} (h : mkd p = true) (hl : M.length = P.length) : (!M.any fun a => !inB a (loM p) (hiM p)) = marksB p P M := by
  unfold marksB
  rw [if_pos h, decide_eq_true hl, Bool.true_and, List.not_any_eq_all_not, Bool.eq_iff_iff, List.all_eq_true, decide_eq_true_eq]
  unfold loM hiM
  constructor
  · intro h x hx
    have := h x hx
    simp only [Bool.not_not] at this
    exact inB_true.1 this
  · intro h x hx
    simp only [Bool.not_not]
    exact inB_true.2 (h x hx)
theorem marks_len {p : Int} {P M : List Int} (h : mkd p = true) (hl : M.length ≠ P.length) : marksB p P M = false := by
  unfold marksB
  rw [if_pos h, decide_eq_false hl]; rfl
set_option maxHeartbeats 1600000 in
theorem areMarks_any {p z h : Int} {P M : List Int} {dP dM : Option Addr} {cP cM : Nat} {w0 w : World} [Ext w0 w] (hM : IsInts w0 (.slice dM M.length cM) M) :
    Calls Tryz.prog 34 #[.agg #[.int .i64 p, .int .i64 z, .slice dP P.length cP, .slice dM M.length cM, .int .i64 h]] w fun e w' => e = .returned (.bool (marksB p P M)) ∧ Ext w w' := by
  obtain ⟨W, hW⟩ : ∃ W, W = w.alloc (.cells #[.int .i64 p, .int .i64 z, .slice dP P.length cP, .slice dM M.length cM, .int .i64 h] 26) := ⟨_, rfl⟩
  have eW : Ext w W := by rw [hW]; infer_instance
  have x0 : W.cell? ⟨w.heap.size, 0, none⟩ = some (.int .i64 p) := by rw [hW]; go_simp
  have x1 : W.cell? ⟨w.heap.size, 1, none⟩ = some (.int .i64 z) := by rw [hW]; go_simp
  have x2 : W.cell? ⟨w.heap.size, 2, none⟩ = some (.slice dP P.length cP) := by rw [hW]; go_simp
  have x3 : W.cell? ⟨w.heap.size, 3, none⟩ = some (.slice dM M.length cM) := by rw [hW]; go_simp
  have x4 : W.cell? ⟨w.heap.size, 4, none⟩ = some (.int .i64 h) := by rw [hW]; go_simp
  have hWs := hid (show W.heap.size = w.heap.size + 1 by rw [hW]; go_simp)
  cases hk : mkd p with
  | false =>
    have hr := hid (show ((M.length : Int) == 0) = marksB p P M by
      unfold marksB
      rw [hk, if_neg (by simp), Bool.eq_iff_iff, beq_iff_eq, decide_eq_true_eq]
      omega)
    go_enter Tryz.func34, Tryz.ntmps34
    go_upto_region 1 with fail
    rw [← hW]
    replace hW := hid hW
    go_wp2_with fail
    refine (isMarked_any p W).mono ?_
    rw [hk]
    rintro e w1 ⟨rfl, rfl⟩
    go_wp2_with fail
    go_ret
    exact ⟨ret_bool hr.out, eW⟩
  | true =>
    go_enter Tryz.func34, Tryz.ntmps34
    go_upto_region 1 with fail
    rw [← hW]
    replace hW := hid hW
    go_wp2_with fail
    refine (isMarked_any p W).mono ?_
    rw [hk]
    rintro e w1 ⟨rfl, rfl⟩
    have e0W : Ext w0 W := Ext.trans ‹Ext w0 w› eW
    go_upto_region 4 with fail
    obtain ⟨U, hU⟩ : ∃ V, V = (W.alloc (.cells #[.int .i64 1] 3)).alloc (.cells #[.int .i64 60] 3) := ⟨_, rfl⟩
    have u0 : U.cell? ⟨W.heap.size, 0, none⟩ = some (.int .i64 1) := by rw [hU]; go_simp
    have u1 : U.cell? ⟨W.heap.size + 1, 0, none⟩ = some (.int .i64 60) := by rw [hU]; go_simp
    have v0 : U.frozen? ⟨W.heap.size, 0, none⟩ = false := by rw [hU]; go_simp
    have v1 : U.frozen? ⟨W.heap.size + 1, 0, none⟩ = false := by rw [hU]; go_simp
    have eU : Ext W U := by rw [hU]; infer_instance
    rw [← hU]
    replace hU := hid hU
    have x0 := eU.cell x0
    have x2 := eU.cell x2
    have x3 := eU.cell x3
    obtain ⟨b, hb⟩ : ∃ z, z = W.heap.size := ⟨_, rfl⟩
    rw [← hb] at u0 u1 v0 v1 ⊢
    replace hb := hid hb
    by_cases h6 : p = 6
    · have h6' : (p == 6) = true := beq_iff_eq.2 h6
      replace h6 := hid h6
      go_upto_region 6 with fail
      obtain ⟨V, hV⟩ : ∃ V, V = (U.setCell ⟨b, 0, none⟩ (.int .i64 0)).setCell ⟨b + 1, 0, none⟩ (.int .i64 1) := ⟨_, rfl⟩
      have y0 : V.cell? ⟨b, 0, none⟩ = some (.int .i64 0) := by rw [hV]; go_simp
      have y1 : V.cell? ⟨b + 1, 0, none⟩ = some (.int .i64 1) := by rw [hV]; go_simp
      have eV : Ext W V := by
        rw [hV]
        exact @Ext.set _ _ (@Ext.set _ _ eU ⟨b, 0, none⟩ (by show W.heap.size ≤ b; rw [hb.out]; exact Nat.le_refl _) _) ⟨b + 1, 0, none⟩ (by show W.heap.size ≤ b + 1; rw [hb.out]; exact Nat.le_succ _) _
      have x2 : V.cell? ⟨w.heap.size, 2, none⟩ = some (.slice dP P.length cP) := by
        have hwb : w.heap.size < b := by rw [hb.out, hWs.out]; omega
        rw [hV]; go_simp
      have x3 : V.cell? ⟨w.heap.size, 3, none⟩ = some (.slice dM M.length cM) := by
        have hwb : w.heap.size < b := by rw [hb.out, hWs.out]; omega
        rw [hV]; go_simp
      rw [← hV]
      replace hV := hid hV
      have e0V : Ext w0 V := Ext.trans e0W eV
      by_cases hl : M.length = P.length
      · have hle : ((M.length : Int) == (P.length : Int)) = true := beq_iff_eq.2 (by omega)
        have hr := hid (marks_any hk hl)
        rw [show loM p = 0 from by unfold loM; rw [if_pos h6.out], show hiM p = 1 from by unfold hiM; rw [if_pos h6.out]] at hr
        replace hl := hid hl
        replace hk := hid hk
        go_wp2_with fail
        refine (containsFuncInts_any (w0 := w0) hM _ _ (fun a => !inB a 0 1) areMarks1_call (areMarks1_all y0 y1)).mono ?_
        rintro e w5 ⟨rfl, e5⟩
        generalize hz : (M.any fun a => !inB a 0 1) = zz at *
        replace hz := hid hz
        go_wp2_with fail
        go_ret
        exact ⟨ret_bool hr.out, Ext.trans eW (Ext.trans eV e5)⟩
      · have hle : ((M.length : Int) == (P.length : Int)) = false := beq_eq_false_iff_ne.2 (by omega)
        have hr := hid (marks_len hk hl)
        replace hl := hid hl
        replace hk := hid hk
        go_wp2_with fail
        go_ret
        exact ⟨ret_bool hr.out.symm, Ext.trans eW eV⟩
    · have h6' : (p == 6) = false := beq_eq_false_iff_ne.2 h6
      replace h6 := hid h6
      go_upto_region 6 with fail
      have y0 := u0
      have y1 := u1
      have eV := eU
      have e0V : Ext w0 U := Ext.trans e0W eU
      by_cases hl : M.length = P.length
      · have hle : ((M.length : Int) == (P.length : Int)) = true := beq_iff_eq.2 (by omega)
        have hr := hid (marks_any hk hl)
        rw [show loM p = 1 from by unfold loM; rw [if_neg h6.out], show hiM p = 60 from by unfold hiM; rw [if_neg h6.out]] at hr
        replace hl := hid hl
        replace hk := hid hk
        go_wp2_with fail
        refine (containsFuncInts_any (w0 := w0) hM _ _ (fun a => !inB a 1 60) areMarks1_call (areMarks1_all y0 y1)).mono ?_
        rintro e w5 ⟨rfl, e5⟩
        generalize hz : (M.any fun a => !inB a 1 60) = zz at *
        replace hz := hid hz
        go_wp2_with fail
        go_ret
        exact ⟨ret_bool hr.out, Ext.trans eW (Ext.trans eV e5)⟩
      · have hle : ((M.length : Int) == (P.length : Int)) = false := beq_eq_false_iff_ne.2 (by omega)
        have hr := hid (marks_len hk hl)
        replace hl := hid hl
        replace hk := hid hk
        go_wp2_with fail
        go_ret
        exact ⟨ret_bool hr.out.symm, Ext.trans eW eV⟩
end Go.Proofs.YtaphnkgjcmneoaaGreatDoor

/- Plain words on configurations of servers: costs of matchings, which are least over all orders, and the laws of a distance. -/
namespace Go.Proofs.YtaphnkgjcmneoaaGreatDoor
open Go.RowKit

--PURE
/-- the sum of the distances of two lists, place by place -/
def costL (M : List (List Int)) : List Int → List Int → Int
  | x :: a, y :: b => cell M x.toNat y.toNat + costL M a b
  | _, _ => 0
theorem costL_nil (M : List (List Int)) (b : List Int) : costL M [] b = 0 := by cases b <;> rfl
theorem costL_perm {M : List (List Int)} {a a' : List Int} (p : a.Perm a') : ∀ b : List Int, b.length = a.length → ∃ b', b'.Perm b ∧ costL M a' b' = costL M a b := by
  induction p with
  | nil => intro b _; exact ⟨b, List.Perm.refl _, rfl⟩
  | cons x p ih =>
    intro b hb
    cases b with
    | nil => simp at hb
    | cons y b =>
      obtain ⟨b', h1, h2⟩ := ih b (by simpa using hb)
      exact ⟨y :: b', h1.cons y, by simp only [costL]; omega⟩
  | swap x y l =>
    intro b hb
    match b, hb with
    | u :: v :: b, _ => exact ⟨v :: u :: b, List.Perm.swap _ _ _, by simp only [costL]; omega⟩
  | trans p q ih1 ih2 =>
    intro b hb
    obtain ⟨b1, h1, h2⟩ := ih1 b hb
    obtain ⟨b2, h3, h4⟩ := ih2 b1 (by rw [h1.length_eq, hb, p.length_eq])
    exact ⟨b2, h3.trans h1, by omega⟩
theorem costL_symm {M : List (List Int)} {n : Nat} (hs : ∀ x y, x < n → y < n → cell M x y = cell M y x) : ∀ (a b : List Int), a.length = b.length → (∀ x ∈ a, 0 ≤ x ∧ x < (n : Int)) → (∀ x ∈ b, 0 ≤ x ∧ x < (n : Int)) → costL M a b = costL M b a
  | [], b, h, _, _ => by
    have : b = [] := List.eq_nil_of_length_eq_zero (by simpa using h.symm)
    subst this; rfl
  | x :: a, [], h, _, _ => by simp at h
  | x :: a, y :: b, h, ha, hb => by
    have h1 := ha x (by simp)
    have h2 := hb y (by simp)
    simp only [costL]
    rw [costL_symm hs a b (by simpa using h) (fun z hz => ha z (by simp [hz])) (fun z hz => hb z (by simp [hz])), hs x.toNat y.toNat (by omega) (by omega)]
theorem costL_tri {M : List (List Int)} {n : Nat} (ht : ∀ x y z, x < n → y < n → z < n → cell M x z ≤ cell M x y + cell M y z) : ∀ (a b c : List Int), a.length = b.length → b.length = c.length → (∀ x ∈ a, 0 ≤ x ∧ x < (n : Int)) → (∀ x ∈ b, 0 ≤ x ∧ x < (n : Int)) → (∀ x ∈ c, 0 ≤ x ∧ x < (n : Int)) →
    costL M a c ≤ costL M a b + costL M b c
  | [], b, c, _, _, _, _, _ => by
    have e : b = [] := List.eq_nil_of_length_eq_zero (by simp_all)
    subst e
    have e : c = [] := List.eq_nil_of_length_eq_zero (by simp_all)
    subst e
    simp [costL]
  | x :: a, [], c, h, _, _, _, _ => by simp at h
  | x :: a, y :: b, [], _, h, _, _, _ => by simp at h
  | x :: a, y :: b, z :: c, h, k, ha, hb, hc => by
    have h1 := ha x (by simp)
    have h2 := hb y (by simp)
    have h3 := hc z (by simp)
    have ih := costL_tri ht a b c (by simpa using h) (by simpa using k) (fun z hz => ha z (by simp [hz])) (fun z hz => hb z (by simp [hz])) (fun z hz => hc z (by simp [hz]))
    have := ht x.toNat y.toNat z.toNat (by omega) (by omega) (by omega)
    simp only [costL]
    omega
theorem costL_self {M : List (List Int)} {n : Nat} (hd : ∀ x, x < n → cell M x x = 0) : ∀ (a : List Int), (∀ x ∈ a, 0 ≤ x ∧ x < (n : Int)) → costL M a a = 0
  | [], _ => rfl
  | x :: a, ha => by
    have h1 := ha x (by simp)
    simp only [costL]
    rw [hd x.toNat (by omega), costL_self hd a fun z hz => ha z (by simp [hz])]
    rfl
theorem costL_in {M : List (List Int)} {n : Nat} {D : Int} (h : ∀ x y, x < n → y < n → 0 ≤ cell M x y ∧ cell M x y ≤ D) : ∀ (a b : List Int), a.length = b.length → (∀ x ∈ a, 0 ≤ x ∧ x < (n : Int)) → (∀ x ∈ b, 0 ≤ x ∧ x < (n : Int)) → 0 ≤ costL M a b ∧ costL M a b ≤ D * a.length
  | [], b, _, _, _ => by rw [costL_nil]; simp
  | x :: a, [], k, _, _ => by simp at k
  | x :: a, y :: b, k, ha, hb => by
    have h1 := ha x (by simp)
    have h2 := hb y (by simp)
    have ih := costL_in h a b (by simpa using k) (fun z hz => ha z (by simp [hz])) (fun z hz => hb z (by simp [hz]))
    have := h x.toNat y.toNat (by omega) (by omega)
    simp only [costL, List.length_cons]
    rw [Int.natCast_add, Int.mul_add]
    omega
theorem costL_nonneg {M : List (List Int)} {n : Nat} (h : ∀ x y, x < n → y < n → 0 ≤ cell M x y) : ∀ (a b : List Int), (∀ x ∈ a, 0 ≤ x ∧ x < (n : Int)) → (∀ x ∈ b, 0 ≤ x ∧ x < (n : Int)) → 0 ≤ costL M a b
  | [], b, _, _ => by rw [costL_nil]; exact Int.le_refl _
  | x :: a, [], _, _ => by simp [costL]
  | x :: a, y :: b, ha, hb => by
    have h1 := ha x (by simp)
    have h2 := hb y (by simp)
    have h3 := h x.toNat y.toNat (by omega) (by omega)
    have := costL_nonneg h a b (fun z hz => ha z (by simp [hz])) (fun z hz => hb z (by simp [hz]))
    simp only [costL]
    omega
theorem costL_zero {M : List (List Int)} {n : Nat} (h : ∀ x y, x < n → y < n → 0 ≤ cell M x y) (hz : ∀ x y, x < n → y < n → cell M x y = 0 → x = y) : ∀ (a b : List Int), a.length = b.length → (∀ x ∈ a, 0 ≤ x ∧ x < (n : Int)) → (∀ x ∈ b, 0 ≤ x ∧ x < (n : Int)) → costL M a b ≤ 0 → a = b
  | [], b, k, _, _, _ => (List.eq_nil_of_length_eq_zero (by simpa using k.symm)).symm
  | x :: a, [], k, _, _, _ => by simp at k
  | x :: a, y :: b, k, ha, hb, hc => by
    have h1 := ha x (by simp)
    have h2 := hb y (by simp)
    have h3 := h x.toNat y.toNat (by omega) (by omega)
    have hpos := costL_nonneg h a b (fun z hz => ha z (by simp [hz])) (fun z hz => hb z (by simp [hz]))
    simp only [costL] at hc
    have ih := costL_zero h hz a b (by simpa using k) (fun z hz => ha z (by simp [hz])) (fun z hz => hb z (by simp [hz])) (by omega)
    have e := hz x.toNat y.toNat (by omega) (by omega) (by omega)
    have e2 : x = y := by omega
    rw [e2, ih]

/-! the orders of the numbers below k -/
def nextO (l : List Int) (m : Nat) : List (List Int) := ((List.range m).filter fun i : Nat => !decide ((i : Int) ∈ l)).map fun i : Nat => l ++ [(i : Int)]
def ordTo (k : Nat) : Nat → List (List Int)
  | 0 => [[]]
  | j + 1 => (ordTo k j).flatMap fun l => nextO l k
def ordL (k : Nat) : List (List Int) := ordTo k k
theorem nextO_succ_yes {m : Nat} {l : List Int} (h : (m : Int) ∉ l) : nextO l (m + 1) = nextO l m ++ [l ++ [(m : Int)]] := by
  simp [nextO, List.range_succ, List.filter_append, h]
theorem nextO_succ_no {m : Nat} {l : List Int} (h : (m : Int) ∈ l) : nextO l (m + 1) = nextO l m := by
  simp [nextO, List.range_succ, List.filter_append, h]
theorem ordTo_mem {k : Nat} : ∀ {j : Nat} {l : List Int}, l ∈ ordTo k j ↔ l.length = j ∧ l.Nodup ∧ ∀ x ∈ l, 0 ≤ x ∧ x < (k : Int)
  | 0, l => by
    simp only [ordTo, List.mem_singleton]
    constructor
    · rintro rfl; simp
    · rintro ⟨h, _⟩; exact List.eq_nil_of_length_eq_zero h
  | j + 1, l => by
    simp only [ordTo, List.mem_flatMap, nextO, List.mem_map, List.mem_filter, List.mem_range]
    constructor
    · rintro ⟨l0, h0, i, ⟨hi, hn⟩, rfl⟩
      obtain ⟨h1, h2, h3⟩ := ordTo_mem.1 h0
      have hn' : (i : Int) ∉ l0 := by simpa using hn
      refine ⟨by simp [h1], ?_, fun x hx => ?_⟩
      · rw [List.nodup_append]
        refine ⟨h2, by simp, fun a ha b hb => ?_⟩
        rw [List.mem_singleton] at hb
        rw [hb]
        intro e
        exact hn' (e ▸ ha)
      · rcases List.mem_append.1 hx with h | h
        · exact h3 x h
        · rw [List.mem_singleton] at h; omega
    · rintro ⟨h1, h2, h3⟩
      obtain ⟨l0, x, rfl⟩ : ∃ l0 x, l = l0 ++ [x] := ⟨l.dropLast, l.getLast (by intro e; rw [e] at h1; simp at h1), (List.dropLast_concat_getLast _).symm⟩
      rw [List.nodup_append] at h2
      have hx := h3 x (by simp)
      refine ⟨l0, ordTo_mem.2 ⟨by simpa using h1, h2.1, fun y hy => h3 y (by simp [hy])⟩, x.toNat, ⟨by omega, ?_⟩, by rw [Int.toNat_of_nonneg hx.1]⟩
      rw [Int.toNat_of_nonneg hx.1]
      simp only [Bool.not_eq_true', decide_eq_false_iff_not]
      intro hm
      exact h2.2.2 x hm x (by simp) rfl
theorem ordL_mem {k : Nat} {l : List Int} : l ∈ ordL k ↔ l.length = k ∧ l.Nodup ∧ ∀ x ∈ l, 0 ≤ x ∧ x < (k : Int) := ordTo_mem
def idL (k : Nat) : List Int := (List.range k).map fun i : Nat => (i : Int)
theorem idL_mem {k : Nat} {x : Int} : x ∈ idL k ↔ 0 ≤ x ∧ x < (k : Int) := by
  simp only [idL, List.mem_map, List.mem_range]
  constructor
  · rintro ⟨i, hi, rfl⟩; omega
  · intro h; exact ⟨x.toNat, by omega, by omega⟩
theorem idL_nodup (k : Nat) : (idL k).Nodup := by
  rw [idL, List.nodup_iff_pairwise_ne, List.pairwise_map]
  exact (List.nodup_iff_pairwise_ne.1 List.nodup_range).imp (fun h => by omega)
theorem perm_of_sub : ∀ {l m : List Int}, l.Nodup → (∀ x ∈ l, x ∈ m) → m.length ≤ l.length → l.Perm m
  | [], m, _, _, h => by
    have : m = [] := List.eq_nil_of_length_eq_zero (by simpa using h)
    rw [this]
  | x :: l, m, h, hs, hl => by
    rw [List.nodup_cons] at h
    have hx := hs x (by simp)
    have p := List.perm_cons_erase hx
    have hlen := p.length_eq
    simp only [List.length_cons] at hlen hl
    refine ((perm_of_sub h.2 (m := m.erase x) (fun y hy => ?_) (by omega)).cons x).trans p.symm
    have hne : y ≠ x := fun e => h.1 (e ▸ hy)
    exact (List.mem_erase_of_ne hne).2 (hs y (by simp [hy]))
/-- as many different numbers below k as k: all of them -/
theorem ord_perm {k : Nat} {l : List Int} (h : l ∈ ordL k) : l.Perm (idL k) := by
  obtain ⟨h1, h2, h3⟩ := ordL_mem.1 h
  exact perm_of_sub h2 (fun x hx => idL_mem.2 (h3 x hx)) (by simp [idL, h1])
theorem perm_ord {k : Nat} {l : List Int} (h : l.Perm (idL k)) : l ∈ ordL k :=
  ordL_mem.2 ⟨by rw [h.length_eq]; simp [idL], h.nodup_iff.2 (idL_nodup k), fun x hx => idL_mem.1 (h.mem_iff.1 hx)⟩
/-- what an order picks out of a list -/
def pickL (b l : List Int) : List Int := l.map fun i => nth b i.toNat
theorem pickL_id (b : List Int) : pickL b (idL b.length) = b := by
  refine eq_of_nth (by simp [pickL, idL]) fun j hj => ?_
  have hj' : j < b.length := by simpa [pickL, idL] using hj
  simp [pickL, idL, nth, hj']
theorem pick_perm {b l : List Int} (h : l ∈ ordL b.length) : (pickL b l).Perm b := by
  have h1 := (ord_perm h).map (fun i => nth b i.toNat)
  have h2 : pickL b (idL b.length) = b := pickL_id b
  unfold pickL at h2
  rw [h2] at h1
  exact h1
theorem map_perm_inv {α β : Type} (f : α → β) {b' c : List β} (p : c.Perm b') : ∀ l : List α, b' = l.map f → ∃ l' : List α, l'.Perm l ∧ c = l'.map f := by
  induction p with
  | nil => intro l h; exact ⟨[], by have : l = [] := by simpa using h.symm
                                    rw [this], rfl⟩
  | cons x p ih =>
    intro l h
    cases l with
    | nil => simp at h
    | cons y l =>
      simp only [List.map_cons, List.cons.injEq] at h
      obtain ⟨l', h1, h2⟩ := ih l h.2
      exact ⟨y :: l', h1.cons y, by rw [List.map_cons, h.1, h2]⟩
  | swap x y l0 =>
    intro l h
    match l, h with
    | u :: v :: l, h =>
      simp only [List.map_cons, List.cons.injEq] at h
      exact ⟨v :: u :: l, List.Perm.swap _ _ _, by simp [h.1, h.2.1, h.2.2]⟩
    | [], h => simp at h
    | [u], h => simp at h
  | trans p q ih1 ih2 =>
    intro l h
    obtain ⟨l1, h1, h2⟩ := ih2 l h
    obtain ⟨l2, h3, h4⟩ := ih1 l1 h2
    exact ⟨l2, h3.trans h1, h4⟩
theorem perm_pick {b c : List Int} (h : c.Perm b) : ∃ l, l ∈ ordL b.length ∧ c = pickL b l := by
  obtain ⟨l, h1, h2⟩ := map_perm_inv (fun i : Int => nth b i.toNat) h (idL b.length) (pickL_id b).symm
  exact ⟨l, perm_ord h1, h2⟩
theorem ordL_ne (k : Nat) : idL k ∈ ordL k := perm_ord (List.Perm.refl _)

/-! the first of the least -/
/-- the place and the value of the first least one of the first j, behind F -/
def bestTo (f : List Int → Int) (P : List (List Int)) (F : Int) : Nat → List Int × Int
  | 0 => ([], F)
  | j + 1 => if f (row P j) < (bestTo f P F j).2 then (row P j, f (row P j)) else bestTo f P F j
theorem bestTo_spec {f : List Int → Int} {P : List (List Int)} {F : Int} (hF : ∀ p ∈ P, f p < F) : ∀ {j : Nat}, 0 < j → j ≤ P.length →
    (bestTo f P F j).1 ∈ P ∧ (bestTo f P F j).2 = f (bestTo f P F j).1 ∧ ∀ i, i < j → (bestTo f P F j).2 ≤ f (row P i)
  | 0, h, _ => by omega
  | j + 1, _, h => by
    rw [bestTo]
    have hj := row_mem (xss := P) (k := j) (by omega)
    by_cases hlt : f (row P j) < (bestTo f P F j).2
    · rw [if_pos hlt]
      refine ⟨hj, rfl, fun i hi => ?_⟩
      by_cases e : i = j
      · rw [e]; exact Int.le_refl _
      · have := (bestTo_spec hF (j := j) (by omega) (by omega)).2.2 i (by omega)
        show f (row P j) ≤ _
        omega
    · rw [if_neg hlt]
      rcases Nat.eq_zero_or_pos j with h0 | h0
      · subst h0
        exact absurd (hF _ hj) hlt
      · have ih := bestTo_spec hF (j := j) h0 (by omega)
        refine ⟨ih.1, ih.2.1, fun i hi => ?_⟩
        by_cases e : i = j
        · rw [e]; omega
        · exact ih.2.2 i (by omega)

/-- the cost of an order -/
def ordC (M : List (List Int)) (a b l : List Int) : Int := costL M a (pickL b l)
def matL (M : List (List Int)) (a b : List Int) : List Int := (bestTo (ordC M a b) (ordL a.length) 1073741824 (ordL a.length).length).1
def mvC (M : List (List Int)) (a b : List Int) : Int := (bestTo (ordC M a b) (ordL a.length) 1073741824 (ordL a.length).length).2
/-- a list of points below n -/
def Pts (n : Nat) (a : List Int) : Prop := ∀ x ∈ a, 0 ≤ x ∧ x < (n : Int)
theorem Pts.perm {n : Nat} {a b : List Int} (h : Pts n b) (p : a.Perm b) : Pts n a := fun x hx => h x (p.mem_iff.1 hx)
/-- what a metric gives -/
structure Dst (M : List (List Int)) (n : Nat) : Prop where
  pos : ∀ x y, x < n → y < n → 0 ≤ cell M x y ∧ cell M x y ≤ 99
  self : ∀ x, x < n → cell M x x = 0
  zero : ∀ x y, x < n → y < n → cell M x y = 0 → x = y
  symm : ∀ x y, x < n → y < n → cell M x y = cell M y x
  tri : ∀ x y z, x < n → y < n → z < n → cell M x z ≤ cell M x y + cell M y z
theorem mvC_min {M : List (List Int)} {n : Nat} (hd : Dst M n) {a b : List Int} (ha : Pts n a) (hb : Pts n b) (hl : a.length = b.length) (h3 : a.length ≤ 1000) :
    (∃ c, c.Perm b ∧ mvC M a b = costL M a c) ∧ (∀ c, c.Perm b → mvC M a b ≤ costL M a c) ∧ matL M a b ∈ ordL a.length ∧ mvC M a b = ordC M a b (matL M a b) := by
  have hne : 0 < (ordL a.length).length := List.length_pos_of_mem (ordL_ne a.length)
  have hF : ∀ p ∈ ordL a.length, ordC M a b p < 1073741824 := fun p hp => by
    have hpp := pick_perm (b := b) (hl ▸ hp)
    have := (costL_in (D := 99) hd.pos a (pickL b p) (by rw [hpp.length_eq, hl]) ha (hb.perm hpp)).2
    unfold ordC
    omega
  obtain ⟨h1, h2, h4⟩ := bestTo_spec hF hne (Nat.le_refl _)
  refine ⟨⟨pickL b (matL M a b), pick_perm (hl ▸ h1), h2⟩, fun c hc => ?_, h1, h2⟩
  obtain ⟨l, hl1, rfl⟩ := perm_pick hc
  rw [← hl] at hl1
  obtain ⟨i, hi, e⟩ := mem_iff_row.1 hl1
  have := h4 i hi
  rw [e] at this
  exact this
theorem mvC_permL {M : List (List Int)} {n : Nat} (hd : Dst M n) {a a' b : List Int} (p : a.Perm a') (ha : Pts n a) (hb : Pts n b) (hl : a.length = b.length) (h3 : a.length ≤ 1000) : mvC M a' b = mvC M a b := by
  have h1 := mvC_min hd ha hb hl h3
  have h2 := mvC_min hd (ha.perm p.symm) hb (by rw [← p.length_eq, hl]) (by rw [← p.length_eq]; exact h3)
  obtain ⟨c, hc1, hc2⟩ := h1.1
  obtain ⟨c', hc3, hc4⟩ := h2.1
  obtain ⟨e, he1, he2⟩ := costL_perm (M := M) p c (by rw [hc1.length_eq, hl])
  obtain ⟨e', he3, he4⟩ := costL_perm (M := M) p.symm c' (by rw [hc3.length_eq, ← p.length_eq, hl])
  have h5 := h2.2.1 e (he1.trans hc1)
  have h6 := h1.2.1 e' (he3.trans hc3)
  omega
theorem mvC_permR {M : List (List Int)} {n : Nat} (hd : Dst M n) {a b b' : List Int} (p : b.Perm b') (ha : Pts n a) (hb : Pts n b) (hl : a.length = b.length) (h3 : a.length ≤ 1000) : mvC M a b' = mvC M a b := by
  have h1 := mvC_min hd ha hb hl h3
  have h2 := mvC_min hd ha (hb.perm p.symm) (by rw [← p.length_eq, hl]) h3
  obtain ⟨c, hc1, hc2⟩ := h1.1
  obtain ⟨c', hc3, hc4⟩ := h2.1
  have h5 := h2.2.1 c (hc1.trans p)
  have h6 := h1.2.1 c' (hc3.trans p.symm)
  omega
theorem mvC_symm {M : List (List Int)} {n : Nat} (hd : Dst M n) {a b : List Int} (ha : Pts n a) (hb : Pts n b) (hl : a.length = b.length) (h3 : a.length ≤ 1000) : mvC M b a = mvC M a b := by
  have key : ∀ a b : List Int, Pts n a → Pts n b → a.length = b.length → a.length ≤ 1000 → mvC M b a ≤ mvC M a b := by
    intro a b ha hb hl h3
    have h1 := mvC_min hd ha hb hl h3
    have h2 := mvC_min hd hb ha hl.symm (hl ▸ h3)
    obtain ⟨c, hc1, hc2⟩ := h1.1
    have e := costL_symm hd.symm a c (by rw [hc1.length_eq, hl]) ha (hb.perm hc1)
    obtain ⟨a', p1, p2⟩ := costL_perm (M := M) hc1 a (by rw [hc1.length_eq, hl])
    have := h2.2.1 a' p1
    omega
  have h1 := key a b ha hb hl h3
  have h2 := key b a hb ha hl.symm (hl ▸ h3)
  omega
theorem mvC_tri {M : List (List Int)} {n : Nat} (hd : Dst M n) {a b c : List Int} (ha : Pts n a) (hb : Pts n b) (hc : Pts n c) (hl : a.length = b.length) (hl2 : b.length = c.length) (h3 : a.length ≤ 1000) : mvC M a c ≤ mvC M a b + mvC M b c := by
  obtain ⟨b', p1, e1⟩ := (mvC_min hd ha hb hl h3).1
  obtain ⟨c', p2, e2⟩ := (mvC_min hd hb hc hl2 (hl ▸ h3)).1
  obtain ⟨c2, p3, e3⟩ := costL_perm (M := M) p1.symm c' (by rw [p2.length_eq, hl2])
  have h1 := (mvC_min hd ha hc (hl.trans hl2) h3).2.1 c2 (p3.trans p2)
  have h2 := costL_tri hd.tri a b' c2 (by rw [p1.length_eq, hl]) (by rw [p1.length_eq, p3.length_eq, p2.length_eq, hl2]) ha (hb.perm p1) (hc.perm (p3.trans p2))
  omega
theorem mvC_in {M : List (List Int)} {n : Nat} (hd : Dst M n) {a b : List Int} (ha : Pts n a) (hb : Pts n b) (hl : a.length = b.length) (h3 : a.length ≤ 1000) : 0 ≤ mvC M a b ∧ mvC M a b ≤ 99 * a.length := by
  obtain ⟨b', p1, e1⟩ := (mvC_min hd ha hb hl h3).1
  have := costL_in (D := 99) hd.pos a b' (by rw [p1.length_eq, hl]) ha (hb.perm p1)
  omega
theorem mvC_zero {M : List (List Int)} {n : Nat} (hd : Dst M n) {a b : List Int} (ha : Pts n a) (hb : Pts n b) (hl : a.length = b.length) (h3 : a.length ≤ 1000) : mvC M a b = 0 ↔ a.Perm b := by
  constructor
  · intro h
    obtain ⟨b', p1, e1⟩ := (mvC_min hd ha hb hl h3).1
    have := costL_zero (fun x y hx hy => (hd.pos x y hx hy).1) hd.zero a b' (by rw [p1.length_eq, hl]) ha (hb.perm p1) (by omega)
    rw [this]; exact p1
  · intro p
    have h1 := (mvC_min hd ha hb hl h3).2.1 a p
    have h2 := mvC_in hd ha hb hl h3
    have h4 := costL_self hd.self a ha
    omega
/-- one point moved -/
theorem costL_set {M : List (List Int)} {n : Nat} (hd : Dst M n) : ∀ {a b : List Int} {s : Nat} {r : Int}, Pts n a → Pts n b → a.length = b.length → s < a.length → nth b s = r → costL M a b = cell M (nth a s).toNat r.toNat + costL M (a.set s r) b
  | [], b, s, r, _, _, _, h, _ => by simp at h
  | x :: a, [], s, r, _, _, h, _, _ => by simp at h
  | x :: a, y :: b, 0, r, ha, hb, hl, h, e => by
    have e' : y = r := e
    subst e'
    have h1 := hb y (by simp)
    have := hd.self y.toNat (by omega)
    show cell M x.toNat y.toNat + costL M a b = cell M x.toNat y.toNat + (cell M y.toNat y.toNat + costL M a b)
    omega
  | x :: a, y :: b, s + 1, r, ha, hb, hl, h, e => by
    have ih := costL_set hd (a := a) (b := b) (s := s) (r := r) (fun z hz => ha z (by simp [hz])) (fun z hz => hb z (by simp [hz])) (by simpa using hl) (by simpa using h) e
    show cell M x.toNat y.toNat + costL M a b = cell M (nth a s).toNat r.toNat + (cell M x.toNat y.toNat + costL M (a.set s r) b)
    omega
theorem costL_set1 {M : List (List Int)} {n : Nat} (hd : Dst M n) : ∀ {a : List Int} {s : Nat} {r : Int}, Pts n a → (0 ≤ r ∧ r < (n : Int)) → s < a.length → costL M a (a.set s r) = cell M (nth a s).toNat r.toNat
  | [], s, r, _, _, h => by simp at h
  | x :: a, 0, r, ha, hr, _ => by
    show cell M x.toNat r.toNat + costL M a a = _
    rw [costL_self hd.self a fun z hz => ha z (by simp [hz])]
    show cell M x.toNat r.toNat + 0 = cell M x.toNat r.toNat
    omega
  | x :: a, s + 1, r, ha, hr, h => by
    have ih := costL_set1 hd (a := a) (s := s) (fun z hz => ha z (by simp [hz])) hr (by simpa using h)
    have h1 := ha x (by simp)
    have := hd.self x.toNat (by omega)
    show cell M x.toNat x.toNat + costL M a (a.set s r) = cell M (nth a s).toNat r.toNat
    omega
theorem Pts.set {n : Nat} {a : List Int} {s : Nat} {r : Int} (h : Pts n a) (hr : 0 ≤ r ∧ r < (n : Int)) : Pts n (a.set s r) := fun x hx => by
  rcases List.mem_or_eq_of_mem_set hx with h1 | h1
  · exact h x h1
  · rw [h1]; exact hr
theorem mvC_set {M : List (List Int)} {n : Nat} (hd : Dst M n) {a : List Int} {s : Nat} {r : Int} (ha : Pts n a) (hr : 0 ≤ r ∧ r < (n : Int)) (hs : s < a.length) (h3 : a.length ≤ 1000) : mvC M a (a.set s r) ≤ cell M (nth a s).toNat r.toNat := by
  rw [← costL_set1 hd ha hr hs]
  exact (mvC_min hd ha (ha.set hr) (by simp) h3).2.1 _ (List.Perm.refl _)
/-- a move to a list with a point: one comes to this point -/
theorem mvC_via {M : List (List Int)} {n : Nat} (hd : Dst M n) {a b : List Int} {r : Int} (ha : Pts n a) (hb : Pts n b) (hl : a.length = b.length) (h3 : a.length ≤ 1000) (hr : r ∈ b) : ∃ s, s < a.length ∧ cell M (nth a s).toNat r.toNat + mvC M (a.set s r) b ≤ mvC M a b := by
  obtain ⟨c, p1, e1⟩ := (mvC_min hd ha hb hl h3).1
  obtain ⟨s, hs, e⟩ := mem_iff_nth.1 (p1.mem_iff.2 hr)
  rw [p1.length_eq, ← hl] at hs
  have hrr := hb r hr
  have h1 := costL_set hd ha (hb.perm p1) (by rw [p1.length_eq, hl]) hs e
  have h2 := (mvC_min hd (ha.set (s := s) hrr) hb (by simpa using hl) (by simpa using h3)).2.1 c p1
  exact ⟨s, hs, by omega⟩
end Go.Proofs.YtaphnkgjcmneoaaGreatDoor

/- Plain words on matchings: sums place by place, and what a metric gives. -/
namespace Go.Proofs.YtaphnkgjcmneoaaGreatDoor
open Go.RowKit

--PURE
def cTo (M : List (List Int)) (a c : List Int) : Nat → Int
  | 0 => 0
  | i + 1 => cTo M a c i + cell M (nth a i).toNat (nth c i).toNat
theorem cTo_cons (M : List (List Int)) (x y : Int) (a c : List Int) : ∀ i, cTo M (x :: a) (y :: c) (i + 1) = cell M x.toNat y.toNat + cTo M a c i
  | 0 => by simp [cTo, nth]
  | i + 1 => by
    rw [cTo, cTo_cons M x y a c i, cTo]
    have h1 : nth (x :: a) (i + 1) = nth a i := rfl
    have h2 : nth (y :: c) (i + 1) = nth c i := rfl
    rw [h1, h2]
    omega
theorem costL_cTo (M : List (List Int)) : ∀ (a c : List Int), a.length = c.length → costL M a c = cTo M a c a.length
  | [], c, _ => by rw [costL_nil]; rfl
  | x :: a, [], h => by simp at h
  | x :: a, y :: c, h => by
    rw [List.length_cons, cTo_cons, costL, costL_cTo M a c (by simpa using h)]
theorem cTo_in {M : List (List Int)} {n : Nat} (hd : Dst M n) {a c : List Int} (ha : Pts n a) (hc : Pts n c) : ∀ {i : Nat}, i ≤ a.length → i ≤ c.length → 0 ≤ cTo M a c i ∧ cTo M a c i ≤ 99 * i
  | 0, _, _ => by simp [cTo]
  | i + 1, h1, h2 => by
    have ih := cTo_in hd ha hc (i := i) (by omega) (by omega)
    have h3 := ha _ (nth_mem (xs := a) (k := i) (by omega))
    have h4 := hc _ (nth_mem (xs := c) (k := i) (by omega))
    have := hd.pos (nth a i).toNat (nth c i).toNat (by omega) (by omega)
    rw [cTo]
    omega
theorem nth_pick {b l : List Int} {i : Nat} (h : i < l.length) : nth (pickL b l) i = nth b (nth l i).toNat := by simp [pickL, nth, h]
theorem pick_len (b l : List Int) : (pickL b l).length = l.length := by simp [pickL]
theorem dst_of_met {M : List (List Int)} (h : metB M = true) : Dst M M.length := by
  simp only [metB, Bool.and_eq_true] at h
  obtain ⟨ht, hn⟩ := h
  have hc : ∀ x y, x < M.length → y < M.length → cellOk M x y = true := fun x y hx hy => by
    simp only [tableB, Bool.and_eq_true] at ht
    have := ht.2
    simp only [cellsOk, decide_eq_true_eq] at this
    exact this x hx y hy
  simp only [NoDetB, decide_eq_true_eq] at hn
  refine ⟨fun x y hx hy => tableB_cell ht hx hy, fun x hx => ?_, fun x y hx hy hz => ?_, fun x y hx hy => ?_, fun x y z hx hy hz => ?_⟩
  · have := hc x x hx hx
    simp only [cellOk, Bool.and_eq_true, if_true] at this
    simpa using this.2
  · by_cases e : x = y
    · exact e
    · have := hc x y hx hy
      simp only [cellOk, Bool.and_eq_true, if_neg e] at this
      have := inB_true.1 this.2
      omega
  · have := hc x y hx hy
    simp only [cellOk, Bool.and_eq_true] at this
    simpa using this.1
  · have := hn x hx y hy z hz
    simp only [detourAt, decide_eq_false_iff_not] at this
    omega
theorem met_sq {M : List (List Int)} (h : metB M = true) : square M = true := by
  simp only [metB, Bool.and_eq_true] at h
  exact tableB_square h.1
theorem met_len {M : List (List Int)} (h : metB M = true) : 1 ≤ M.length ∧ M.length ≤ 6 := by
  simp only [metB, Bool.and_eq_true] at h
  exact tableB_len h.1
end Go.Proofs.YtaphnkgjcmneoaaGreatDoor

/- Plain words on the configurations of servers: all of them, in order. -/
namespace Go.Proofs.YtaphnkgjcmneoaaGreatDoor
open Go.RowKit

--PURE
def confs (n : Nat) : Nat → Nat → List (List Int)
  | 0, _ => [[]]
  | k + 1, f => (List.range' f (n - f)).flatMap fun x => (confs n k x).map (List.cons (x : Int))
/-- those that begin with a point from f on, ahead of x -/
def cfTo (n k f x : Nat) : List (List Int) := (List.range' f (x - f)).flatMap fun y => (confs n k y).map (List.cons (y : Int))
theorem confs_succ (n k f : Nat) : confs n (k + 1) f = cfTo n k f n := rfl
theorem cfTo_zero (n k f : Nat) : cfTo n k f f = [] := by simp [cfTo]
theorem cfTo_succ {n k f x : Nat} (h : f ≤ x) : cfTo n k f (x + 1) = cfTo n k f x ++ (confs n k x).map (List.cons (x : Int)) := by
  have e : x + 1 - f = (x - f) + 1 := by omega
  rw [cfTo, e, List.range'_concat, List.flatMap_append, cfTo]
  simp only [List.flatMap_cons, List.flatMap_nil, List.append_nil, Nat.one_mul]
  rw [show f + (x - f) = x by omega]
theorem cfTo_row {n k f x j : Nat} (hj : j < (confs n k x).length) : cfTo n k f x ++ ((confs n k x).take (j + 1)).map (List.cons (x : Int)) = (cfTo n k f x ++ ((confs n k x).take j).map (List.cons (x : Int))) ++ [(x : Int) :: row (confs n k x) j] := by
  rw [take_succ_row hj, List.map_append, List.append_assoc]
  rfl
theorem confs_mem {n : Nat} : ∀ {k f : Nat} {c : List Int}, c ∈ confs n k f → c.length = k ∧ ∀ x ∈ c, (f : Int) ≤ x ∧ x < (n : Int)
  | 0, f, c, h => by
    simp only [confs, List.mem_singleton] at h
    rw [h]; simp
  | k + 1, f, c, h => by
    simp only [confs, List.mem_flatMap, List.mem_range'_1, List.mem_map] at h
    obtain ⟨y, hy, c0, h0, rfl⟩ := h
    obtain ⟨h1, h2⟩ := confs_mem h0
    refine ⟨by simp [h1], fun x hx => ?_⟩
    rcases List.mem_cons.1 hx with rfl | hx
    · omega
    · have := h2 x hx; omega
theorem flat_len {α β : Type} (g : α → List β) (c : Nat) : ∀ l : List α, (∀ x ∈ l, (g x).length ≤ c) → (l.flatMap g).length ≤ l.length * c
  | [], _ => by simp
  | x :: l, h => by
    have h1 := h x (by simp)
    have h2 := flat_len g c l (fun y hy => h y (by simp [hy]))
    simp only [List.flatMap_cons, List.length_append, List.length_cons, Nat.add_mul, Nat.one_mul]
    omega
theorem confs_len {n : Nat} (hn : n ≤ 6) : ∀ (k f : Nat), (confs n k f).length ≤ 6 ^ k
  | 0, _ => by simp [confs]
  | k + 1, f => by
    have := flat_len (fun x : Nat => (confs n k x).map (List.cons (x : Int))) (6 ^ k) (List.range' f (n - f)) (fun x _ => by rw [List.length_map]; exact confs_len hn k x)
    rw [List.length_range'] at this
    have h2 : (n - f) * 6 ^ k ≤ 6 * 6 ^ k := Nat.mul_le_mul_right _ (by omega)
    rw [Nat.pow_succ, Nat.mul_comm (6 ^ k) 6]
    exact Nat.le_trans this h2
theorem cfTo_len {n k f x : Nat} (hn : n ≤ 6) (hx : x ≤ n) : (cfTo n k f x).length ≤ 6 * 6 ^ k := by
  have := flat_len (fun x : Nat => (confs n k x).map (List.cons (x : Int))) (6 ^ k) (List.range' f (x - f)) (fun x _ => by rw [List.length_map]; exact confs_len hn k x)
  rw [List.length_range'] at this
  exact Nat.le_trans this (Nat.mul_le_mul_right _ (by omega))
/-- what holds of a configuration -/
def Asc (c : List Int) : Prop := c.Pairwise (· ≤ ·)
theorem confs_iff {n : Nat} : ∀ {k f : Nat} {c : List Int}, c ∈ confs n k f ↔ c.length = k ∧ Asc c ∧ ∀ x ∈ c, (f : Int) ≤ x ∧ x < (n : Int)
  | 0, f, c => by
    simp only [confs, List.mem_singleton]
    constructor
    · rintro rfl; exact ⟨rfl, List.Pairwise.nil, by simp⟩
    · rintro ⟨h, _⟩; exact List.eq_nil_of_length_eq_zero h
  | k + 1, f, c => by
    simp only [confs, List.mem_flatMap, List.mem_range'_1, List.mem_map]
    constructor
    · rintro ⟨y, hy, c0, h0, rfl⟩
      obtain ⟨h1, h2, h3⟩ := confs_iff.1 h0
      refine ⟨by simp [h1], List.pairwise_cons.2 ⟨fun x hx => (h3 x hx).1, h2⟩, fun x hx => ?_⟩
      rcases List.mem_cons.1 hx with rfl | hx
      · omega
      · have := h3 x hx; omega
    · rintro ⟨h1, h2, h3⟩
      cases c with
      | nil => simp at h1
      | cons x c =>
        have hx := h3 x (by simp)
        rw [Asc, List.pairwise_cons] at h2
        refine ⟨x.toNat, by omega, c, confs_iff.2 ⟨by simpa using h1, h2.2, fun y hy => ?_⟩, by rw [Int.toNat_of_nonneg (by omega)]⟩
        have := h2.1 y hy
        have := h3 y (by simp [hy])
        omega
theorem pairwise_flat {α β : Type} {R : β → β → Prop} {g : α → List β} : ∀ {l : List α}, (∀ x ∈ l, (g x).Pairwise R) → l.Pairwise (fun x y => ∀ u ∈ g x, ∀ v ∈ g y, R u v) → (l.flatMap g).Pairwise R
  | [], _, _ => by simp
  | x :: l, h1, h2 => by
    rw [List.pairwise_cons] at h2
    rw [List.flatMap_cons, List.pairwise_append]
    refine ⟨h1 x (by simp), pairwise_flat (fun y hy => h1 y (by simp [hy])) h2.2, fun u hu v hv => ?_⟩
    obtain ⟨y, hy, hv⟩ := List.mem_flatMap.1 hv
    exact h2.1 y hy u hu v hv
theorem confs_nodup (n : Nat) : ∀ k f, (confs n k f).Nodup
  | 0, _ => by simp [confs]
  | k + 1, f => by
    rw [confs, List.nodup_iff_pairwise_ne]
    refine pairwise_flat (fun x _ => ?_) ?_
    · rw [List.pairwise_map]
      exact (List.nodup_iff_pairwise_ne.1 (confs_nodup n k x)).imp (fun h e => h (List.cons.inj e).2)
    · refine (List.nodup_iff_pairwise_ne.1 (List.nodup_range' (step := 1))).imp (fun {x y} hxy u hu v hv e => ?_)
      obtain ⟨c, _, rfl⟩ := List.mem_map.1 hu
      obtain ⟨d, _, rfl⟩ := List.mem_map.1 hv
      have := (List.cons.inj e).1
      omega
end Go.Proofs.YtaphnkgjcmneoaaGreatDoor

/- The lists of all configurations, of the program and of the reference. -/
namespace Go.Proofs.YtaphnkgjcmneoaaGreatDoor
open Go.RowKit

theorem Tab.drop {w : World} {B : Nat} {v : Value} {M : List (List Int)} {R : List Row} (h : Tab w B v M R) : Tab w B v M [] := by
  obtain ⟨vs, h1, h2⟩ := h
  exact ⟨vs, h1, by rw [List.append_nil]; exact h2.left⟩
theorem Tab.eq {w : World} {B : Nat} {v : Value} {M N : List (List Int)} {R : List Row} (h : Tab w B v M R) (e : M = N) : Tab w B v N R := e ▸ h
theorem Tab.with {w w' : World} {B : Nat} {v u : Value} {M L : List (List Int)} {R : List Row} (h : Tab w B v M R) (hn : Tab w' w.heap.size u L []) (e : Ext w w') (hB : B ≤ w.heap.size)
    (hs : ShortRows L.length) (hr : ∀ r ∈ L, Short r.length) (hi : ∀ r ∈ L, ∀ x ∈ r, I64 x) : ∃ R', Tab w' B v M R' ∧ ∀ z, Own z B R' → IsRows z u L := by
  obtain ⟨vs, h1, h2⟩ := h
  obtain ⟨us, h3, h4⟩ := hn
  have h5 := (Own.join h2 h4 hB).swap
  rw [List.append_assoc] at h5
  refine ⟨R ++ (rowsOf 24 3 u us L ++ []), ⟨vs, h1, h5⟩, fun z hz => ?_⟩
  exact hz.right.readsAll h3 hs hr hi
theorem confs_rows {n k f : Nat} (hn : n ≤ 6) (hk : k ≤ 3) : ShortRows (confs n k f).length ∧ (∀ r ∈ confs n k f, Short r.length) ∧ ∀ r ∈ confs n k f, ∀ x ∈ r, I64 x := by
  have h1 := confs_len hn k f
  have h2 : 6 ^ k ≤ 6 ^ 3 := Nat.pow_le_pow_right (by omega) hk
  refine ⟨by unfold ShortRows; omega, fun r hr => by have := (confs_mem hr).1; unfold Short; omega, fun r hr x hx => by have := (confs_mem hr).2 x hx; unfold I64; omega⟩

end Go.Proofs.YtaphnkgjcmneoaaGreatDoor

/- Sorting and compacting a list of one's own; the numbers of a list in ascending order; one point moved. -/
namespace Go.Proofs.YtaphnkgjcmneoaaGreatDoor
open Go.RowKit

def sortL (xs : List Int) : List Int := xs.mergeSort fun x y => decide (x ≤ y)
theorem sortL_perm (xs : List Int) : (sortL xs).Perm xs := List.mergeSort_perm _ _
theorem sortL_len (xs : List Int) : (sortL xs).length = xs.length := (sortL_perm xs).length_eq
theorem sortL_asc (xs : List Int) : Asc (sortL xs) := by
  have h := List.pairwise_mergeSort (le := fun x y : Int => decide (x ≤ y)) (fun a b c h1 h2 => by simp at *; omega) (fun a b => by simp; omega) xs
  exact h.imp (fun h => by simpa using h)
theorem asc_uniq : ∀ {a b : List Int}, Asc a → Asc b → a.Perm b → a = b
  | [], b, _, _, p => (List.eq_nil_of_length_eq_zero (by simpa using p.length_eq.symm)).symm
  | x :: a, [], _, _, p => by simpa using p.length_eq
  | x :: a, y :: b, h1, h2, p => by
    have h1' := List.pairwise_cons.1 h1
    have h2' := List.pairwise_cons.1 h2
    have hx : x ∈ y :: b := p.mem_iff.1 (by simp)
    have hy : y ∈ x :: a := p.mem_iff.2 (by simp)
    have e : x = y := by
      rcases List.mem_cons.1 hx with e | hx
      · exact e
      · rcases List.mem_cons.1 hy with e | hy
        · exact e.symm
        · have := h1'.1 y hy
          have := h2'.1 x hx
          omega
    subst e
    rw [asc_uniq h1'.2 h2'.2 (p.cons_inv)]
theorem sortL_of_asc {xs : List Int} (h : Asc xs) : sortL xs = xs := asc_uniq (sortL_asc xs) h (sortL_perm xs)

set_option maxHeartbeats 400000 in
theorem sort_any {w : World} {B e : Nat} {v : Value} {xs : List Int} {R : List Row} (own : Own w B (intRowOf e v xs :: R)) (hB : B ≤ w.heap.size) (hl : xs.length ≤ 17592186044415) :
    Calls Tryz.prog 74 #[v] w fun ee w' => ee = .returned (.tuple #[]) ∧ Own w' B (intRowOf e v (sortL xs) :: R) ∧ Below B w w' := by
  rcases own.head.2 with ⟨h1, h2⟩ | ⟨g, cap, cur, hv, hb, hg, hc, hm, hz, ht⟩
  · have hx : xs = [] := List.eq_nil_of_length_eq_zero h2
    subst hx
    have h1' : v = .slice none 0 0 := h1
    subst h1'
    refine (Tryz.slices_Sort_int_none none 0 w).mono ?_
    rintro ee w' ⟨rfl, rfl⟩
    have e0 : sortL [] = [] := by simp [sortL]
    rw [e0]
    exact ⟨rfl, own, Below.refl _ _⟩
  · have hv' : v = .slice (some ⟨g, 0, none⟩) xs.length cap := hv
    subst hv'
    have ht' : cur.toList.take xs.length = xs.map (Value.int .i64) := by rw [← Nat.mul_one xs.length]; exact ht
    have hgl := (own.head.lt g rfl).2
    refine (Tryz.slices_Sort_int g 0 cap xs w (holds_of_blockI hg ht') hgl (by omega)).mono ?_
    rintro ee w' ⟨rfl, n, os, rfl⟩
    have hgr := grownBy_sortedI (w := w) (g := g) (n := n) (os := os) (sortL xs).toArray
    have ho := ownsRow_sortedI (w := w) (base := B) (n := n) (os := os) (ss := xs) (ts := sortL xs) (sortL_len xs) hb hg hc hm hz
    refine ⟨rfl, own.turn (r' := intRowOf e (.slice (some ⟨g, 0, none⟩) xs.length cap) (sortL xs)) ?_ hgr (.inl rfl), below_of_grown own.head hgr hB⟩
    show World.ownsRow _ B e 1 (.slice (some ⟨g, 0, none⟩) xs.length cap) (sortL xs).length ((sortL xs).map (Value.int .i64))
    rw [sortL_len]
    exact ho

/-- a configuration with one point in the place of another one -/
def movL (a : List Int) (p r : Int) : List Int := sortL (a.set (ixOf a p).toNat r)
theorem movL_len (a : List Int) (p r : Int) : (movL a p r).length = a.length := by rw [movL, sortL_len, List.length_set]

end Go.Proofs.YtaphnkgjcmneoaaGreatDoor

/- Plain words on how lists of orders and of configurations grow. -/
namespace Go.Proofs.YtaphnkgjcmneoaaGreatDoor
open Go.RowKit

--PURE
def ordN (k j a : Nat) : List (List Int) := ((ordTo k j).take a).flatMap fun l => nextO l k
theorem ordN_zero (k j : Nat) : ordN k j 0 = [] := by simp [ordN]
theorem ordN_succ {k j a : Nat} (h : a < (ordTo k j).length) : ordN k j (a + 1) = ordN k j a ++ nextO (row (ordTo k j) a) k := by
  rw [ordN, take_succ_row h, List.flatMap_append, ordN]
  simp
theorem ordN_all (k j : Nat) : ordN k j (ordTo k j).length = ordTo k (j + 1) := by rw [ordN, List.take_length]; rfl
theorem nextO_zero (l : List Int) : nextO l 0 = [] := by simp [nextO]
theorem nextO_len (l : List Int) (m : Nat) : (nextO l m).length ≤ m := by
  rw [nextO, List.length_map]
  have := List.length_filter_le (fun i : Nat => !decide ((i : Int) ∈ l)) (List.range m)
  rw [List.length_range] at this
  exact this
theorem ordN_len {k j a : Nat} : (ordN k j a).length ≤ (ordTo k j).length * k := by
  have h := flat_len (fun l => nextO l k) k ((ordTo k j).take a) (fun l _ => nextO_len l k)
  have h2 : ((ordTo k j).take a).length ≤ (ordTo k j).length := by rw [List.length_take]; omega
  exact Nat.le_trans h (Nat.mul_le_mul_right _ h2)
theorem ordTo_len {k : Nat} (hk : k ≤ 3) : ∀ j, (ordTo k j).length ≤ 3 ^ j
  | 0 => by simp [ordTo]
  | j + 1 => by
    have h := flat_len (fun l => nextO l k) k (ordTo k j) (fun l _ => nextO_len l k)
    have h1 := ordTo_len hk j
    have h2 : (ordTo k j).length * k ≤ 3 ^ j * 3 := Nat.mul_le_mul h1 hk
    rw [Nat.pow_succ]
    exact Nat.le_trans h h2
theorem ordTo_27 {k j : Nat} (hk : k ≤ 3) (hj : j ≤ 3) : (ordTo k j).length ≤ 27 := by
  have h1 := ordTo_len hk j
  have h2 : 3 ^ j ≤ 3 ^ 3 := Nat.pow_le_pow_right (by omega) hj
  omega
theorem ordN_81 {k j a : Nat} (hk : k ≤ 3) (hj : j ≤ 3) : (ordN k j a).length ≤ 81 := by
  have h1 := ordTo_27 hk hj
  have h2 : (ordTo k j).length * k ≤ 27 * 3 := Nat.mul_le_mul h1 hk
  exact Nat.le_trans ordN_len h2
theorem ordTo_rows {k j : Nat} (hk : k ≤ 3) (hj : j ≤ 3) : ShortRows (ordTo k j).length ∧ (∀ r ∈ ordTo k j, Short r.length) ∧ ∀ r ∈ ordTo k j, ∀ x ∈ r, I64 x := by
  have h1 := ordTo_27 hk hj
  refine ⟨by unfold ShortRows; omega, fun r hr => by have := (ordTo_mem.1 hr).1; unfold Short; omega, fun r hr x hx => by have := (ordTo_mem.1 hr).2.2 x hx; unfold I64; omega⟩

/-! the configurations of the reference: point by point -/
/-- the point from which a configuration goes on -/
def frm (c : List Int) : Nat := (nth c (c.length - 1)).toNat
def extT (c : List Int) (x : Nat) : List (List Int) := (List.range' (frm c) (x - frm c)).map fun y : Nat => c ++ [(y : Int)]
def itTo (n : Nat) : Nat → List (List Int)
  | 0 => [[]]
  | i + 1 => (itTo n i).flatMap fun c => extT c n
theorem extT_start (c : List Int) : extT c (frm c) = [] := by simp [extT]
theorem extT_succ {c : List Int} {x : Nat} (h : frm c ≤ x) : extT c (x + 1) = extT c x ++ [c ++ [(x : Int)]] := by
  have e : x + 1 - frm c = (x - frm c) + 1 := by omega
  rw [extT, e, List.range'_concat, List.map_append, extT]
  simp only [List.map_cons, List.map_nil, Nat.one_mul]
  rw [show frm c + (x - frm c) = x by omega]
def itN (n i a : Nat) : List (List Int) := ((itTo n i).take a).flatMap fun c => extT c n
theorem itN_zero (n i : Nat) : itN n i 0 = [] := by simp [itN]
theorem itN_succ {n i a : Nat} (h : a < (itTo n i).length) : itN n i (a + 1) = itN n i a ++ extT (row (itTo n i) a) n := by
  rw [itN, take_succ_row h, List.flatMap_append, itN]
  simp
theorem itN_all (n i : Nat) : itN n i (itTo n i).length = itTo n (i + 1) := by rw [itN, List.take_length]; rfl
def frm2 (f : Nat) (c : List Int) : Nat := if c = [] then f else frm c
theorem confs_snoc (n : Nat) : ∀ k f, confs n (k + 1) f = (confs n k f).flatMap fun c => (List.range' (frm2 f c) (n - frm2 f c)).map fun y : Nat => c ++ [(y : Int)]
  | 0, f => by
    simp [confs, frm2, List.flatMap_def]
    induction List.range' f (n - f) with
    | nil => rfl
    | cons x l ih => simp [ih]
  | k + 1, f => by
    rw [confs, confs, List.flatMap_assoc]
    refine List.flatMap_congr' fun x hx => ?_
    rw [confs_snoc n k x, List.map_flatMap, List.flatMap_map]
    refine List.flatMap_congr' fun c hc => ?_
    have e : frm2 x c = frm2 f ((x : Int) :: c) := by
      unfold frm2
      rw [if_neg (by simp : ¬ ((x : Int) :: c = []))]
      by_cases h : c = []
      · rw [if_pos h, h]; simp [frm, nth]
      · rw [if_neg h]
        unfold frm
        cases c with
        | nil => exact absurd rfl h
        | cons y c => simp [nth]
    rw [e, List.map_map]
    rfl
where
  List.flatMap_congr' {α β : Type} {l : List α} {f g : α → List β} (h : ∀ x ∈ l, f x = g x) : l.flatMap f = l.flatMap g := by
    rw [List.flatMap_def, List.flatMap_def]
    congr 1
    exact List.map_congr_left h
theorem itTo_confs (n : Nat) : ∀ k, itTo n k = confs n k 0
  | 0 => rfl
  | k + 1 => by
    rw [itTo, itTo_confs n k, confs_snoc]
    rw [List.flatMap_def, List.flatMap_def]
    congr 1
    refine List.map_congr_left fun c _ => ?_
    have e : frm2 0 c = frm c := by
      unfold frm2
      by_cases h : c = []
      · rw [if_pos h, h]; rfl
      · rw [if_neg h]
    rw [e]; rfl
theorem extT_len (c : List Int) (x : Nat) : (extT c x).length ≤ x := by simp [extT]
theorem itN_len {n i a : Nat} (hn : n ≤ 6) (hi : i ≤ 3) : (itN n i a).length ≤ 1296 := by
  have h := flat_len (fun c => extT c n) n ((itTo n i).take a) (fun c _ => extT_len c n)
  have h1 : ((itTo n i).take a).length ≤ (itTo n i).length := by rw [List.length_take]; omega
  have h2 := confs_len hn i 0
  rw [← itTo_confs] at h2
  have h3 : 6 ^ i ≤ 6 ^ 3 := Nat.pow_le_pow_right (by omega) hi
  have h4 : ((itTo n i).take a).length * n ≤ 216 * 6 := Nat.mul_le_mul (by omega) hn
  unfold itN
  omega
end Go.Proofs.YtaphnkgjcmneoaaGreatDoor

/- The orders of the numbers below k: of the program and of the reference. -/
namespace Go.Proofs.YtaphnkgjcmneoaaGreatDoor
open Go.RowKit

theorem Tab.formN {w : World} {B : Nat} {v : Value} {M : List (List Int)} {R : List Row} (h : Tab w B v M R) : ∃ d n m, v = .slice d n m ∧ Hid (n = M.length) := by
  obtain ⟨d, m, h⟩ := h.form
  exact ⟨d, _, m, h, rfl⟩
theorem TabX.rformN {w : World} {B : Nat} {v rv : Value} {M : List (List Int)} {xs : List Int} {R : List Row} (h : TabX w B v M rv xs R) : ∃ d n m, rv = .slice d n m ∧ Hid (n = xs.length) := by
  obtain ⟨d, m, h⟩ := h.rform
  exact ⟨d, _, m, h, rfl⟩
theorem Tab.sealed {w : World} {B : Nat} {v : Value} {M : List (List Int)} {R : List Row} (h : Tab w B v M R) (hs : ShortRows M.length) (hr : ∀ r ∈ M, Short r.length) (hi : ∀ r ∈ M, ∀ x ∈ r, I64 x) :
    ∃ R' : List Row, ∃ f : Nat → Value, Own w B R' ∧ ∀ z, Own z B R' → IsRows z v M ∧ ∀ j, j < M.length → ∃ b o n c d m, v = .slice (some ⟨b, o, none⟩) n c ∧ f j = .slice d (row M j).length m ∧ z.cell? ⟨b, o + j, none⟩ = some (f j) ∧ IsInts z (f j) (row M j) := by
  obtain ⟨vs, h1, h2⟩ := h
  refine ⟨_, fun j => vs.getD j undef, h2, fun z hz => ⟨hz.readsAll h1 hs hr hi, fun j hj => ?_⟩⟩
  have h3 : Own z B (⟨24, 1, v, vs.length, vs⟩ :: (List.zipWith (intRowOf 3) vs M ++ R)) := hz
  obtain ⟨a, c, hv⟩ := h3.form
  have hv' : v = .slice a vs.length c := hv
  subst hv'
  have hj' : j < vs.length := by omega
  obtain ⟨g, rfl⟩ := h3.at hj'
  have h4 : (List.zipWith (intRowOf 3) vs M ++ R)[j]? = some (intRowOf 3 (vs.getD j undef) (row M j)) := by
    rw [List.getElem?_append_left (by simp; omega)]
    simp [List.getElem?_zipWith, hj', row, hj]
  have h5 := (h3.tail.pick h4).reads (hr _ (row_mem hj)) (hi _ (row_mem hj))
  obtain ⟨d, m, h6, _⟩ := h5.form
  refine ⟨g, 0, _, c, d, m, rfl, h6, ?_, h5⟩
  rw [Nat.zero_add]
  exact h3.cellAt (w' := z) hj'
theorem Tab.one (w : World) : Tab ((w.alloc (.cells #[] 3)).alloc (.cells #[.slice (some ⟨w.heap.size, 0, none⟩) 0 0] 24)) w.heap.size (.slice (some ⟨w.heap.size + 1, 0, none⟩) 1 1) [[]] [] := by
  have h1 := (Own.nil w w.heap.size).lit 3 1 0 #[] (Nat.le_refl _) (by unfold maxLen; omega) rfl
  have h2 := h1.lit 24 1 1 #[.slice (some ⟨w.heap.size, 0, none⟩) 0 0] (by simp) (by unfold maxLen; omega) rfl
  rw [show (w.alloc (.cells #[] 3)).heap.size = w.heap.size + 1 by simp] at h2
  exact ⟨[.slice (some ⟨w.heap.size, 0, none⟩) 0 0], rfl, h2⟩

end Go.Proofs.YtaphnkgjcmneoaaGreatDoor

