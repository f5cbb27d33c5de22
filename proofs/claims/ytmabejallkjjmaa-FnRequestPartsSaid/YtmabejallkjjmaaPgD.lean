/- A cache and a sequence, and a plan, that draws make. -/
import Derived.Test.YtmabejallkjjmaaReq
import Derived.Test.YtmabejallkjjmaaPut
import Derived.Test.YtmabejallkjjmaaGrD
import Derived.Test.YtmabejallkjjmaaGrK
namespace Go.Proofs.Ytmabejallkjjmaa
open Go.RowKit

/-- what a draw of a cache and a sequence gives -/
def PgPost (w : World) (B c : Nat) (vc : Value) (a : Int) (R : List Row) (e : Ending) (w' : World) : Prop :=
  ∃ (k n : Int) (v : Value) (X : List Int) (a' : Int), e = .returned (.tuple #[.int .i64 k, .int .i64 n, v]) ∧ (-1 ≤ k ∧ k ≤ 7) ∧ (0 ≤ n ∧ n ≤ 9) ∧ X.length ≤ 100 ∧ (∀ x ∈ X, -10 ≤ x ∧ x ≤ 1000) ∧ a ≤ a' ∧ a' ≤ a + 1100 ∧ CurAt w' B c vc a' (intRowOf 3 v X :: R) ∧ Below B w w'
set_option maxHeartbeats 1600000 in
set_option maxRecDepth 100000 in
theorem paging_any {w0 w : World} [Ext w0 w] {vc : Value} {nb : Nat} (hc : IsBytes w0 vc nb) {B c : Nat} {a : Int} {R : List Row} (own : CurAt w B c vc a R) (hwB : w0.heap.size ≤ B) (ha : 0 ≤ a) (ha2 : a ≤ 1000000) :
    Calls Try.prog 59 #[.pointer (some ⟨c, 0, none⟩)] w (PgPost w B c vc a R) := by
  have hBw := own.size
  have hE : ∀ u, Below B w u → Ext w0 u := fun u h => ⟨(‹Ext w0 w›).below.trans (h.mono hwB)⟩
  replace hE := hid hE
  have b0 : Below B w w := Below.refl _ _
  go_enter Try.func59, Try.ntmps59
  go_wp2_with fail
  refine (among_any (w0 := w0) hc (own.lit [1,2,2,3,3,4,6] own.size rfl rfl (by decide)) hwB (by omega) (by omega) (by decide) (by decide)).mono ?_
  rintro e w1 ⟨k1, a1, rfl, h1, h1a, h1b, own1, b1⟩
  have own1d := own1.drop
  have b1d : Below B w w1 := b0.trans (((Below.refl B w).alloc own.size _).trans b1)
  have e1 : Ext w0 w1 := hE.out _ b1d
  have hk1 : 0 ≤ k1 ∧ k1 ≤ 7 := by simp at h1; omega
  clear h1 own own1 b1 b0
  go_wp2_with fail
  refine (one_any (w0 := w0) hc own1d hwB (by omega) (by omega)).mono ?_
  rintro e w2 ⟨q2, a2, rfl, h2a, h2b, own2, b2⟩
  have b2' := b1d.trans b2
  have e2 : Ext w0 w2 := hE.out _ b2'
  clear own1d b1d b2 e1
  cases q2 with
  | true =>
    go_wp2_with fail
    refine (among_any (w0 := w0) hc (own2.lit [0,7,-1] own2.size rfl rfl (by decide)) hwB (by omega) (by omega) (by decide) (by decide)).mono ?_
    rintro e w3 ⟨k3, a3, rfl, h3, h3a, h3b, own3, b3⟩
    have own3d := own3.drop
    have b3d : Below B w w3 := b2'.trans (((Below.refl B w2).alloc own2.size _).trans b3)
    have e3 : Ext w0 w3 := hE.out _ b3d
    have hk3 : -1 ≤ k3 ∧ k3 ≤ 7 := by simp at h3; omega
    clear h3 own2 own3 b3 b2'
    go_wp2_with fail
    refine (among_any (w0 := w0) hc (own3d.lit [2,3,4,4,5,5,8] own3d.size rfl rfl (by decide)) hwB (by omega) (by omega) (by decide) (by decide)).mono ?_
    rintro e w4 ⟨n4, a4, rfl, h4, h4a, h4b, own4, b4⟩
    have own4d := own4.drop
    have b4d : Below B w w4 := b3d.trans (((Below.refl B w3).alloc own3d.size _).trans b4)
    have e4 : Ext w0 w4 := hE.out _ b4d
    have hn4 : 0 ≤ n4 ∧ n4 ≤ 9 := by simp at h4; omega
    clear h4 own3d own4 b4 b3d
    go_wp2_with fail
    refine (one_any (w0 := w0) hc own4d hwB (by omega) (by omega)).mono ?_
    rintro e w5 ⟨q5, a5, rfl, h5a, h5b, own5, b5⟩
    have b5' := b4d.trans b5
    have e5 : Ext w0 w5 := hE.out _ b5'
    clear own4d b4d b5 e4
    cases q5 with
    | true =>
      go_wp2_with fail
      refine (among_any (w0 := w0) hc (own5.lit [1,0,9] own5.size rfl rfl (by decide)) hwB (by omega) (by omega) (by decide) (by decide)).mono ?_
      rintro e w6 ⟨n6, a6, rfl, h6, h6a, h6b, own6, b6⟩
      have own6d := own6.drop
      have b6d : Below B w w6 := b5'.trans (((Below.refl B w5).alloc own5.size _).trans b6)
      have e6 : Ext w0 w6 := hE.out _ b6d
      have hn6 : 0 ≤ n6 ∧ n6 ≤ 9 := by simp at h6; omega
      clear h6 own5 own6 b6 b5'
      go_wp2_with fail
      refine (requests_any (w0 := w0) hc own6d hwB (by omega) (by omega) (n := n6) (by omega)).mono ?_
      rintro e w7 ⟨v7, X, a7, rfl, hXl, hXb, h7a, h7b, own7, b7⟩
      go_wp2_with fail
      refine bodyPost_ret (v := .tuple #[.int .i64 k3, .int .i64 n6, v7]) (by simp [results, Try.results59, go_sem]) rfl ?_
      exact ⟨k3, n6, v7, X, a7, rfl, hk3, hn6, hXl, hXb, by omega, by omega, own7, b6d.trans b7⟩
    | false =>
      go_wp2_with fail
      refine (requests_any (w0 := w0) hc own5 hwB (by omega) (by omega) (n := n4) (by omega)).mono ?_
      rintro e w7 ⟨v7, X, a7, rfl, hXl, hXb, h7a, h7b, own7, b7⟩
      go_wp2_with fail
      refine bodyPost_ret (v := .tuple #[.int .i64 k3, .int .i64 n4, v7]) (by simp [results, Try.results59, go_sem]) rfl ?_
      exact ⟨k3, n4, v7, X, a7, rfl, hk3, hn4, hXl, hXb, by omega, by omega, own7, b5'.trans b7⟩
  | false =>
    have hk3 : -1 ≤ k1 ∧ k1 ≤ 7 := by omega
    go_wp2_with fail
    refine (among_any (w0 := w0) hc (own2.lit [2,3,4,4,5,5,8] own2.size rfl rfl (by decide)) hwB (by omega) (by omega) (by decide) (by decide)).mono ?_
    rintro e w4 ⟨n4, a4, rfl, h4, h4a, h4b, own4, b4⟩
    have own4d := own4.drop
    have b4d : Below B w w4 := b2'.trans (((Below.refl B w2).alloc own2.size _).trans b4)
    have e4 : Ext w0 w4 := hE.out _ b4d
    have hn4 : 0 ≤ n4 ∧ n4 ≤ 9 := by simp at h4; omega
    clear h4 own2 own4 b4 b2'
    go_wp2_with fail
    refine (one_any (w0 := w0) hc own4d hwB (by omega) (by omega)).mono ?_
    rintro e w5 ⟨q5, a5, rfl, h5a, h5b, own5, b5⟩
    have b5' := b4d.trans b5
    have e5 : Ext w0 w5 := hE.out _ b5'
    clear own4d b4d b5 e4
    cases q5 with
    | true =>
      go_wp2_with fail
      refine (among_any (w0 := w0) hc (own5.lit [1,0,9] own5.size rfl rfl (by decide)) hwB (by omega) (by omega) (by decide) (by decide)).mono ?_
      rintro e w6 ⟨n6, a6, rfl, h6, h6a, h6b, own6, b6⟩
      have own6d := own6.drop
      have b6d : Below B w w6 := b5'.trans (((Below.refl B w5).alloc own5.size _).trans b6)
      have e6 : Ext w0 w6 := hE.out _ b6d
      have hn6 : 0 ≤ n6 ∧ n6 ≤ 9 := by simp at h6; omega
      clear h6 own5 own6 b6 b5'
      go_wp2_with fail
      refine (requests_any (w0 := w0) hc own6d hwB (by omega) (by omega) (n := n6) (by omega)).mono ?_
      rintro e w7 ⟨v7, X, a7, rfl, hXl, hXb, h7a, h7b, own7, b7⟩
      go_wp2_with fail
      refine bodyPost_ret (v := .tuple #[.int .i64 k1, .int .i64 n6, v7]) (by simp [results, Try.results59, go_sem]) rfl ?_
      exact ⟨k1, n6, v7, X, a7, rfl, hk3, hn6, hXl, hXb, by omega, by omega, own7, b6d.trans b7⟩
    | false =>
      go_wp2_with fail
      refine (requests_any (w0 := w0) hc own5 hwB (by omega) (by omega) (n := n4) (by omega)).mono ?_
      rintro e w7 ⟨v7, X, a7, rfl, hXl, hXb, h7a, h7b, own7, b7⟩
      go_wp2_with fail
      refine bodyPost_ret (v := .tuple #[.int .i64 k1, .int .i64 n4, v7]) (by simp [results, Try.results59, go_sem]) rfl ?_
      exact ⟨k1, n4, v7, X, a7, rfl, hk3, hn4, hXl, hXb, by omega, by omega, own7, b5'.trans b7⟩

/-- a list without a number -/
def outL (L : List Int) (x : Int) : List Int := L.filter fun y => y != x
theorem outL_take {L : List Int} {x : Int} {k : Nat} (h : k < L.length) : outL (L.take (k + 1)) x = if nth L k = x then outL (L.take k) x else outL (L.take k) x ++ [nth L k] := by
  rw [take_succ_nth h, outL, List.filter_append]
  by_cases e : nth L k = x
  · rw [if_pos e]; simp [e, outL]
  · rw [if_neg e]; simp [e, outL]
theorem outL_len (L : List Int) (x : Int) : (outL L x).length ≤ L.length := List.length_filter_le _ _
theorem mem_outL {L : List Int} {x y : Int} : y ∈ outL L x ↔ y ∈ L ∧ y ≠ x := by simp [outL]

end Go.Proofs.Ytmabejallkjjmaa
