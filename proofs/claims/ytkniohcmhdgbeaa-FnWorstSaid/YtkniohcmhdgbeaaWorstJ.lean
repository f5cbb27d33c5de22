/- The function that the program hands to its sequences. -/
import Derived.Test.YtkniohcmhdgbeaaWorstI
namespace Go.Proofs.Ytkniohcmhdgbeaa
open Go.RowKit

/-- what a call has done: nothing to what was there, or the two stores -/
def worst1Post (mst dk : Int) (bb mb : Nat) (X : List Int) (W w' : World) : Prop := ∃ W1, Ext W W1 ∧
  ((mst < dk ∧ ∃ d m, w' = (W1.setCell ⟨bb, 0, none⟩ (.slice d X.length m)).setCell ⟨mb, 0, none⟩ (.int .i64 dk) ∧ Own W1 W.heap.size [intRowOf 3 (.slice d X.length m) X]) ∨ (¬ mst < dk ∧ w' = W1))

set_option maxHeartbeats 1600000 in
set_option maxRecDepth 100000 in
theorem worst1_any {v1 v2 v3 v4 : Value} {M S N : List (List Int)} {s mst dk : Int} {X : List Int} {pb nb sb mb bb bn bm : Nat} {bd : Option Addr} {w0 W : World} [Ext w0 W]
    (hM : IsRows w0 v1 M) (hS : IsRows w0 v2 S) (hN : IsRows w0 v4 N) (hx : IsInts W v3 X) (hst : startB M S s X = true) (ha : algB M S N = true)
    (hdk : dk = sumA M S N s X X.length - optL M S (row M s.toNat) X) (hdb : -100000 ≤ dk ∧ dk ≤ 100000)
    (hp0 : W.cell? ⟨pb, 0, none⟩ = some v1) (hp1 : W.cell? ⟨pb, 1, none⟩ = some v2) (hn0 : W.cell? ⟨nb, 0, none⟩ = some v4) (hs0 : W.cell? ⟨sb, 0, none⟩ = some (.int .i64 s))
    (hm0 : W.cell? ⟨mb, 0, none⟩ = some (.int .i64 mst)) (hmf : W.frozen? ⟨mb, 0, none⟩ = false) (hb0 : W.cell? ⟨bb, 0, none⟩ = some (.slice bd bn bm)) (hbf : W.frozen? ⟨bb, 0, none⟩ = false) (hne : bb ≠ mb) :
    Calls Try.prog 40 #[v3, .pointer (some ⟨pb, 0, none⟩), .pointer (some ⟨nb, 0, none⟩), .pointer (some ⟨sb, 0, none⟩), .pointer (some ⟨mb, 0, none⟩), .pointer (some ⟨bb, 0, none⟩)] W fun e w' => e = .returned (.tuple #[]) ∧ worst1Post mst dk bb mb X W w' := by
  have hM' := hM.ext (w' := W)
  have hS' := hS.ext (w' := W)
  have hN' := hN.ext (w' := W)
  have hx' := hx
  obtain ⟨a1, c1, rfl, l1⟩ := hM.form
  obtain ⟨a2, c2, rfl, l2⟩ := hS.form
  obtain ⟨a4, c4, rfl, l4⟩ := hN.form
  obtain ⟨a3, c3, rfl, l3⟩ := hx.form
  replace hst := hid hst
  replace ha := hid ha
  have hdw := hid (show IntKind.i64.wrap (sumA M S N s X X.length - optL M S (row M s.toNat) X) = dk by rw [← hdk]; exact IntWalk.i64_in _ (by omega))
  replace hdk := hid hdk
  go_enter Try.func40, Try.ntmps40
  go_wp2_with fail
  refine (ran_any (w0 := W) hM' hS' hN' hx' hst.out ha.out).mono ?_
  rintro e w1 ⟨d1, m1, rfl, own1, hb1⟩
  replace hp0 := hb1.cell hp0
  replace hp1 := hb1.cell hp1
  replace hs0 := hb1.cell hs0
  clear own1
  go_wp2_with fail
  refine (leastCost_any (w0 := W) hM' hS' hx' hst.out).mono ?_
  generalize hsa : sumA M S N s X X.length = sa at *
  generalize hol : optL M S (row M s.toNat) X = ol at *
  replace hsa := hid hsa
  replace hol := hid hol
  rintro e w2 ⟨rfl, hb2⟩
  have e2 : Ext W w2 := Ext.trans hb1 hb2
  have k0 := e2.cell hm0
  have k1 := e2.cell hb0
  have kf0 := e2.frozen hm0 hmf
  have kf1 := e2.frozen hb0 hbf
  have hdw64 : wrap64 (sa - ol) = dk := by rw [← IntWalk.i64_left]; exact hdw.out
  by_cases hlt : mst < dk
  · have hlt' : decide (mst < dk) = true := by simpa using hlt
    replace hlt := hid hlt
    go_wp2_with fail
    refine (cloneInts_any (w0 := W) hx').mono ?_
    rintro e w3 ⟨d, m, rfl, own, hb3⟩
    have e3 : Ext W w3 := Ext.trans e2 hb3
    have q0 := hb3.cell k0
    have q1 := hb3.cell k1
    have qf0 := hb3.frozen k0 kf0
    have qf1 := hb3.frozen k1 kf1
    have u0 : (w3.setCell ⟨bb, 0, none⟩ (.slice d X.length m)).cell? ⟨mb, 0, none⟩ = some (.int .i64 mst) := (World.cell?_of_block (w := w3) (Below.heap_setCell _ _ _ _ (Ne.symm hne))).trans q0
    have uf0 : (w3.setCell ⟨bb, 0, none⟩ (.slice d X.length m)).frozen? ⟨mb, 0, none⟩ = false := (World.frozen?_of_block (w := w3) (Below.heap_setCell _ _ _ _ (Ne.symm hne))).trans qf0
    go_wp2_with fail
    refine bodyPost_end (v := .tuple #[]) (by simp [results, Try.results40, go_sem]) rfl ⟨rfl, w3, e3, .inl ⟨by have := hlt.out; omega, d, m, rfl, own.mono e2.size⟩⟩
  · have hlt' : decide (mst < dk) = false := by simpa using hlt
    replace hlt := hid hlt
    go_wp2_with fail
    refine bodyPost_end (v := .tuple #[]) (by simp [results, Try.results40, go_sem]) rfl ⟨rfl, w2, e2, .inr ⟨by have := hlt.out; omega, rfl⟩⟩

end Go.Proofs.Ytkniohcmhdgbeaa
