/- The reference's best matching and least prices walked: l7Flow, l7Rise, LeastPrices. -/
import Derived.Test.YtllfchcocgdcjaaGreatRcA
namespace Go.Proofs.YtllfchcocgdcjaaGreat
open Go.RowKit

def FlowPost (k : Nat) (c : Nat → Nat → Int) (i m : Nat) (w : World) (e : Ending) (w' : World) : Prop :=
  ∃ d n g p q, e = .returned (.slice d i n) ∧ IsInts w' (.slice d i n) (lsN i g) ∧ FlowOk k c i m g p q ∧ Ext w w'
theorem FlowOk.nil {k : Nat} {c : Nat → Nat → Int} {m : Nat} {f : Nat → Nat} : FlowOk k c 0 m f (fun _ => 0) (fun _ => 0) :=
  ⟨⟨fun i hi => by omega, fun i j hi => by omega⟩, ⟨⟨fun _ _ => Int.le_refl _, fun i l hi => by omega⟩, fun i hi => by omega, fun _ _ _ => rfl⟩, fun x hx => by omega⟩
set_option maxHeartbeats 1600000 in
set_option maxRecDepth 100000 in
theorem l7Flow_any {v va vX : Value} {M : List (List Int)} {a X : List Int} {w0 w : World} [Ext w0 w] (hm : IsMet w0 v M) (ha : IsInts w0 va a) (hXi : IsInts w0 vX X) (hs : srvB M a X = true) :
    Calls Tryz.prog 26 #[v, va, vX] w (FlowPost a.length (flC M a X) X.length (a.length + X.length) w) := by
  have hm' := hm
  have ha' := ha
  have hX' := hXi
  have hAd := hid (show ∀ (u : World), Ext w0 u → ∀ vb i f p q, IsInts u vb (lsN i f) → i < X.length → FlowOk a.length (flC M a X) i (a.length + X.length) f p q → Calls Tryz.prog 50 #[v, va, vX, vb] u (AddPost a.length (flC M a X) i (a.length + X.length) u) from fun u eu vb i f p q hb hi hF => l7Add_any (w0 := u) (w := u) (hm'.ext (e := eu)) (ha'.ext (e := eu)) (hX'.ext (e := eu)) hb hs hi hF)
  obtain ⟨v1, rfl, hR⟩ := hm
  obtain ⟨a1, c1, rfl, l1⟩ := hR.form
  obtain ⟨da, ma, rfl, la⟩ := ha.form
  obtain ⟨dx, mx, rfl, lx⟩ := hXi.form
  obtain ⟨hM, hal, hab, hXb, hXl⟩ := srv_pts hs
  clear hs hM hab hXb
  go_enter Tryz.func26, Tryz.ntmps26
  go_upto_region 1 with fail
  have e1 : Ext w (w.alloc (.cells #[.slice a1 M.length c1] 26)) := inferInstance
  have x0 : (w.alloc (.cells #[.slice a1 M.length c1] 26)).cell? ⟨w.heap.size, 0, none⟩ = some (.slice a1 M.length c1) := by go_simp
  obtain ⟨bx, hbx⟩ : ∃ q, q = w.heap.size := ⟨_, rfl⟩
  rw [← hbx] at x0 ⊢
  generalize w.alloc (.cells #[.slice a1 M.length c1] 26) = w1 at *
  replace hbx := hid hbx
  have e01 : Ext w0 w1 := Ext.trans ‹Ext w0 w› e1
  go_upto_region 2 with fail
  have e2 : Ext w1 (w1.alloc (.cells #[] 3)) := inferInstance
  have hi0 : IsInts (w1.alloc (.cells #[] 3)) (.slice (some ⟨w1.heap.size, 0, none⟩) 0 0) (lsN 0 (fun _ => 0)) := ⟨_, _, rfl, ⟨Nat.zero_le _, Nat.zero_le _⟩, by simp [lsN], fun j hj => by simp [lsN] at hj⟩
  generalize w1.alloc (.cells #[] 3) = w2 at *
  generalize w1.heap.size = b2 at *
  have hF0 := hid (FlowOk.nil (k := a.length) (c := flC M a X) (m := a.length + X.length) (f := fun _ => 0))
  go_loopg [7] X.length (fun gk uv wr => ∃ (i : Nat) (d : Option Addr) (n : Nat) (f : Nat → Nat) (p q : Nat → Int), uv = .slice d i n ∧ i ≤ X.length ∧ gk = X.length - i ∧ IsInts wr (.slice d i n) (lsN i f) ∧ Hid (FlowOk a.length (flC M a X) i (a.length + X.length) f p q) ∧ Ext w2 wr)
  case atStart => exact ⟨0, _, _, _, _, _, rfl, by omega, rfl, hi0, hF0, Ext.refl _⟩
  case round =>
    clear hi0 hF0
    obtain ⟨i, d, n, f, p, q, rfl, hi, hgk, hb, hF, he⟩ := hrel
    obtain ⟨wo, rfl⟩ : ∃ y : World, y = wr := ⟨_, rfl⟩
    have eo : Ext w1 wo := Ext.trans e2 he
    by_cases hlt : i < X.length
    · have hC := hid (hAd.out wo (Ext.trans e01 eo) _ i f p q hb hlt hF.out)
      have xo := eo.cell x0
      go_wp2_with fail
      with_reducible refine hC.out.mono ?_
      rintro e w5 ⟨d5, n5, g5, p5, q5, rfl, h5, hF5, e5⟩
      replace hF5 := hid hF5
      clear hb hF hC
      go_wp2_with fail
      go_roundg (X.length - (i + 1))
      case rel => exact ⟨i + 1, d5, n5, g5, p5, q5, rfl, by omega, rfl, h5, hF5, Ext.trans he e5⟩
      case measure => omega
    · have hil : i = X.length := by omega
      subst hil
      have eF : Ext w wo := Ext.trans e1 eo
      clear hgk
      go_wp2_with fail
      refine bodyPost_ret (v := .slice d X.length n) (by simp [results, Tryz.results26, go_sem]) rfl ?_
      exact ⟨d, n, f, p, q, rfl, hb, hF.out, eF⟩
end Go.Proofs.YtllfchcocgdcjaaGreat
