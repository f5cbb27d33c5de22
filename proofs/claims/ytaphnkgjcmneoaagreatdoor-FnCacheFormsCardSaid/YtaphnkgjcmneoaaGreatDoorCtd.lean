/- Draws that keep all blocks but the cursor's; a policy and a size. -/
import Derived.Test.YtaphnkgjcmneoaaGreatDoorCtc
import Derived.Test.YtaphnkgjcmneoaaGreatDoorRqd
namespace Go.Proofs.YtaphnkgjcmneoaaGreatDoor
open Go.RowKit

/-- all blocks but one stay as they were -/
def Kept (c : Nat) (w w' : World) : Prop := ∀ k, k ≠ c → w'.heap[k]? = w.heap[k]?
theorem Kept.trans {c : Nat} {a b d : World} (h : Kept c a b) (k : Kept c b d) : Kept c a d := fun q hq => (k q hq).trans (h q hq)
theorem cur_keep (w : World) (c m k : Nat) (a' s' : Int) : Kept c w ((((w.drewN m).setCell ⟨c, 1, none⟩ (.int .i64 a')).setCell ⟨c, 2, none⟩ (.int .u64 s')).drewN k) := fun q hq =>
  (Below.heap_setCell ((w.drewN m).setCell ⟨c, 1, none⟩ (.int .i64 a')) ⟨c, 2, none⟩ (.int .u64 s') q hq).trans (Below.heap_setCell (w.drewN m) ⟨c, 1, none⟩ (.int .i64 a') q hq)
theorem IsInts.kept {c : Nat} {u u' : World} {v : Value} {L : List Int} (h : IsInts u v L) (k : Kept c u u') (g : GB (fun b => b ≠ c) v L) : IsInts u' v L := by
  obtain ⟨a, n, q1, q2, q3, q4⟩ := h
  refine ⟨a, n, q1, q2, q3, fun j hj => ?_⟩
  obtain ⟨b, o, h5, h6⟩ := q4 j hj
  refine ⟨b, o, h5, ?_⟩
  subst h5
  have h7 := g b o _ _ q1 (by omega)
  exact (World.cell?_of_block (w := u) (k b h7)).trans h6
set_option maxHeartbeats 1600000 in
set_option maxRecDepth 100000 in
theorem next_keep {w0 w : World} [Ext w0 w] {vc : Value} {n : Nat} (hc : IsBytes w0 vc n) {B c : Nat} {a s : Int} {R : List Row} (own : Own w B (curRow c vc a s :: R)) (ha : 0 ≤ a) (ha2 : a ≤ 100000000) :
    Calls Tryz.prog 79 #[.pointer (some ⟨c, 0, none⟩)] w fun e w' => ∃ x s' : Int, e = .returned (.int .i64 x) ∧ 0 ≤ x ∧ x ≤ 255 ∧ Own w' B (curRow c vc (a + 1) s' :: R) ∧ Below B w w' ∧ Kept c w w' := by
  obtain ⟨ac, cc, rfl⟩ := hc.form
  have k0 : w.cell? ⟨c, 0, none⟩ = some (.slice ac n cc) := ow_cell own (.head _) (j := 0) (by omega)
  have k1 : w.cell? ⟨c, 1, none⟩ = some (.int .i64 a) := ow_cell own (.head _) (j := 1) (by omega)
  have k2 : w.cell? ⟨c, 2, none⟩ = some (.int .u64 s) := ow_cell own (.head _) (j := 2) (by omega)
  have f1 := ow_frozen own (.head _) 1
  have f2 := ow_frozen own (.head _) 2
  obtain ⟨a, rfl⟩ := Int.eq_ofNat_of_zero_le ha
  by_cases hlt : a < n
  · obtain ⟨b, o, x, rfl, hcx, hx0, hx1⟩ := hc.at (w' := w) hlt
    go_enter Tryz.func79, Tryz.ntmps79
    go_wp2_with (go_quiet (fail))
    · go_ret
      exact ⟨x, _, rfl, hx0, hx1, (cur_put own _ _ _ _).1, (cur_put own _ _ _ _).2, cur_keep _ _ _ _ _ _⟩
  · go_enter Tryz.func79, Tryz.ntmps79
    go_wp2_with (go_quiet (fail))
    go_ret
    exact ⟨_, _, rfl, (low_byte _).1, (low_byte _).2, (cur_put own _ _ _ _).1, (cur_put own _ _ _ _).2, cur_keep _ _ _ _ _ _⟩

set_option maxHeartbeats 1600000 in
set_option maxRecDepth 100000 in
theorem pick_keep {w0 w : World} [Ext w0 w] {vc : Value} {n : Nat} (hc : IsBytes w0 vc n) {B c : Nat} {a N : Int} {R : List Row} (own : CurAt w B c vc a R) (hwB : w0.heap.size ≤ B) (ha : 0 ≤ a) (ha2 : a ≤ 10000000) :
    Calls Tryz.prog 43 #[.pointer (some ⟨c, 0, none⟩), .int .i64 N] w fun e w' => ∃ x a' : Int, e = .returned (.int .i64 x) ∧ 0 ≤ x ∧ x ≤ 65535 ∧ (0 < N → x < N) ∧ a ≤ a' ∧ a' ≤ a + 2 ∧ CurAt w' B c vc a' R ∧ Below B w w' ∧ Kept c w w' := by
  obtain ⟨s, own⟩ := own
  by_cases hN : N ≤ 1
  · go_enter Tryz.func43, Tryz.ntmps43
    go_wp2
    go_ret
    exact ⟨0, a, rfl, by omega, by omega, fun h => by omega, by omega, by omega, ⟨s, own⟩, Below.refl _ _, fun _ _ => rfl⟩
  · go_enter Tryz.func43, Tryz.ntmps43
    go_wp2_with fail
    refine (next_keep (w0 := w0) hc own ha (by omega)).mono ?_
    rintro e w1 ⟨x, s1, rfl, hx0, hx1, own1, hb1, hk1⟩
    by_cases h200 : 200 < N
    · have e1 : Ext w0 w1 := ⟨(‹Ext w0 w›).below.trans (hb1.mono hwB)⟩
      go_wp2_with fail
      refine (next_keep (w0 := w0) hc own1 (by omega) (by omega)).mono ?_
      rintro e w2 ⟨y, s2, rfl, hy0, hy1, own2, hb2, hk2⟩
      have hm := hid (mod_in (x := x * 256 + y) (N := N) (by omega) (by omega))
      go_wp2_with fail
      go_ret
      exact ⟨_, a + 1 + 1, rfl, hm.out.1, Int.le_trans hm.out.2.2 (by omega), fun _ => hm.out.2.1, by omega, by omega, ⟨s2, own2⟩, hb1.trans hb2, hk1.trans hk2⟩
    · have hm := hid (mod_in (x := x) (N := N) (by omega) (by omega))
      go_wp2_with fail
      go_ret
      exact ⟨_, a + 1, rfl, hm.out.1, Int.le_trans hm.out.2.2 (by omega), fun _ => hm.out.2.1, by omega, by omega, ⟨s1, own1⟩, hb1, hk1⟩

/-- a box of a cache beside the cursor -/
theorem CurAt.bx {w : World} {B c x : Nat} {vc : Value} {a : Int} {a0 a1 a2 a3 a4 : Value} {R : List Row} (h : CurAt w B c vc a (bxRow x a0 a1 a2 a3 a4 :: R)) : BX w x a0 a1 a2 a3 a4 := bx_own h.rows
theorem CurAt.bxput {w : World} {B c x : Nat} {vc : Value} {a : Int} {a0 a1 a2 a3 a4 : Value} {R : List Row} (h : CurAt w B c vc a (bxRow x a0 a1 a2 a3 a4 :: R)) (j : Nat) (v : Value) :
    CurAt (w.setCell ⟨x, j, none⟩ v) B c vc a (⟨26, 1, .slice (some ⟨x, 0, none⟩) 5 5, 5, [a0, a1, a2, a3, a4].set j v⟩ :: R) := by
  obtain ⟨s, h⟩ := h
  have h1 := h.perm (List.Perm.swap _ _ _)
  have h2 := Own.set h1 j v
  exact ⟨s, h2.perm (List.Perm.swap _ _ _)⟩
theorem CurAt.bx5 {w : World} {B c x : Nat} {vc : Value} {a : Int} {a0 a1 a2 a3 a4 v0 v1 v2 v3 v4 : Value} {R : List Row} (h : CurAt w B c vc a (bxRow x a0 a1 a2 a3 a4 :: R)) :
    CurAt (((((w.setCell ⟨x, 0, none⟩ v0).setCell ⟨x, 1, none⟩ v1).setCell ⟨x, 2, none⟩ v2).setCell ⟨x, 3, none⟩ v3).setCell ⟨x, 4, none⟩ v4) B c vc a (bxRow x v0 v1 v2 v3 v4 :: R) := by
  have h0 : CurAt _ B c vc a (bxRow x v0 a1 a2 a3 a4 :: R) := h.bxput 0 v0
  have h1 : CurAt _ B c vc a (bxRow x v0 v1 a2 a3 a4 :: R) := h0.bxput 1 v1
  have h2 : CurAt _ B c vc a (bxRow x v0 v1 v2 a3 a4 :: R) := h1.bxput 2 v2
  have h3 : CurAt _ B c vc a (bxRow x v0 v1 v2 v3 a4 :: R) := h2.bxput 3 v3
  exact h3.bxput 4 v4
theorem CurAt.bxnew {w : World} {B c : Nat} {vc : Value} {a : Int} {R : List Row} (h : CurAt w B c vc a R) (hB : B ≤ w.heap.size) (a0 a1 a2 a3 a4 : Value) : CurAt (w.alloc (.cells #[a0, a1, a2, a3, a4] 26)) B c vc a (bxRow w.heap.size a0 a1 a2 a3 a4 :: R) := by
  obtain ⟨s, h⟩ := h
  exact ⟨s, (bx_new h hB a0 a1 a2 a3 a4).perm (List.Perm.swap _ _ _)⟩
set_option maxHeartbeats 800000 in
set_option maxRecDepth 100000 in
theorem policy_any {w0 w : World} [Ext w0 w] {vc : Value} {nb : Nat} (hc : IsBytes w0 vc nb) {B c : Nat} {a : Int} {R : List Row} (own : CurAt w B c vc a R) (hwB : w0.heap.size ≤ B) (ha : 0 ≤ a) (ha2 : a ≤ 2000000) :
    Calls Tryz.prog 51 #[.pointer (some ⟨c, 0, none⟩)] w fun e w' => ∃ n a' : Int, e = .returned (.int .i64 n) ∧ (-1 ≤ n ∧ n ≤ 8) ∧ a ≤ a' ∧ a' ≤ a + 10 ∧ CurAt w' B c vc a' R ∧ Below B w w' := by
  go_enter Tryz.func51, Tryz.ntmps51
  go_wp2_with fail
  refine (one_any (w0 := w0) hc own hwB (by omega) (by omega)).mono ?_
  rintro e w1 ⟨b, a1, rfl, h1a, h1b, own1, b1⟩
  have e1 : Ext w0 w1 := ⟨(‹Ext w0 w›).below.trans (b1.mono hwB)⟩
  cases b with
  | true =>
    have hB1 := own1.low
    have oL := own1.lit (e := 3) [0, 8, -1] hB1 rfl rfl (by decide)
    have bL : Below B w (w1.alloc (.cells #[.int .i64 0, .int .i64 8, .int .i64 (-1)] 3)) := b1.alloc hB1 _
    have eL : Ext w0 (w1.alloc (.cells #[.int .i64 0, .int .i64 8, .int .i64 (-1)] 3)) := ⟨(‹Ext w0 w›).below.trans (bL.mono hwB)⟩
    go_wp2_with fail
    refine (among_any (w0 := w0) hc oL hwB (by omega) (by omega) (by simp) (by simp)).mono ?_
    rintro e w4 ⟨y, a4, rfl, hy, h4a, h4b, own4, b4⟩
    have hyb : -1 ≤ y ∧ y ≤ 8 := by
      simp at hy
      omega
    go_wp2_with fail
    go_ret
    exact ⟨y, a4, rfl, hyb, by omega, by omega, own4.drop, bL.trans b4⟩
  | false =>
    go_wp2_with fail
    refine (pick_any (w0 := w0) hc own1 hwB (by omega) (by omega)).mono ?_
    rintro e w2 ⟨x, a2, rfl, hx0, hx1, hx2, h2a, h2b, own2, b2⟩
    have hx3 := hx2 (by omega)
    go_wp2_with fail
    go_ret
    exact ⟨1 + x, a2, by go_num, by omega, by omega, by omega, own2, b1.trans b2⟩
set_option maxHeartbeats 800000 in
set_option maxRecDepth 100000 in
theorem size4_any {w0 w : World} [Ext w0 w] {vc : Value} {nb : Nat} (hc : IsBytes w0 vc nb) {B c : Nat} {a : Int} {R : List Row} (own : CurAt w B c vc a R) (hwB : w0.heap.size ≤ B) (ha : 0 ≤ a) (ha2 : a ≤ 2000000) :
    Calls Tryz.prog 52 #[.pointer (some ⟨c, 0, none⟩)] w fun e w' => ∃ n a' : Int, e = .returned (.int .i64 n) ∧ (-1 ≤ n ∧ n ≤ 8) ∧ a ≤ a' ∧ a' ≤ a + 10 ∧ CurAt w' B c vc a' R ∧ Below B w w' := by
  go_enter Tryz.func52, Tryz.ntmps52
  go_wp2_with fail
  refine (one_any (w0 := w0) hc own hwB (by omega) (by omega)).mono ?_
  rintro e w1 ⟨b, a1, rfl, h1a, h1b, own1, b1⟩
  have e1 : Ext w0 w1 := ⟨(‹Ext w0 w›).below.trans (b1.mono hwB)⟩
  have hB1 := own1.low
  cases b with
  | true =>
    have oL := own1.lit (e := 3) [0, 7, -1] hB1 rfl rfl (by decide)
    have bL : Below B w (w1.alloc (.cells #[.int .i64 0, .int .i64 7, .int .i64 (-1)] 3)) := b1.alloc hB1 _
    have eL : Ext w0 (w1.alloc (.cells #[.int .i64 0, .int .i64 7, .int .i64 (-1)] 3)) := ⟨(‹Ext w0 w›).below.trans (bL.mono hwB)⟩
    go_wp2_with fail
    refine (among_any (w0 := w0) hc oL hwB (by omega) (by omega) (by simp) (by simp)).mono ?_
    rintro e w4 ⟨y, a4, rfl, hy, h4a, h4b, own4, b4⟩
    have hyb : -1 ≤ y ∧ y ≤ 8 := by
      simp at hy
      omega
    go_wp2_with fail
    go_ret
    exact ⟨y, a4, rfl, hyb, by omega, by omega, own4.drop, bL.trans b4⟩
  | false =>
    have oL := own1.lit (e := 3) [2, 3, 1, 2, 3, 4, 5, 6] hB1 rfl rfl (by decide)
    have bL : Below B w (w1.alloc (.cells #[.int .i64 2, .int .i64 3, .int .i64 1, .int .i64 2, .int .i64 3, .int .i64 4, .int .i64 5, .int .i64 6] 3)) := b1.alloc hB1 _
    have eL : Ext w0 (w1.alloc (.cells #[.int .i64 2, .int .i64 3, .int .i64 1, .int .i64 2, .int .i64 3, .int .i64 4, .int .i64 5, .int .i64 6] 3)) := ⟨(‹Ext w0 w›).below.trans (bL.mono hwB)⟩
    go_wp2_with fail
    refine (among_any (w0 := w0) hc oL hwB (by omega) (by omega) (by simp) (by simp)).mono ?_
    rintro e w4 ⟨y, a4, rfl, hy, h4a, h4b, own4, b4⟩
    have hyb : -1 ≤ y ∧ y ≤ 8 := by
      simp at hy
      omega
    go_wp2_with fail
    go_ret
    exact ⟨y, a4, rfl, hyb, by omega, by omega, own4.drop, bL.trans b4⟩
end Go.Proofs.YtaphnkgjcmneoaaGreatDoor
