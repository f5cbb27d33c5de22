/- 'laws.FnExactBestPlan' walked: it returns true for every input. Written by lawgen2.py. -/
import Derived.Test.YtkdbgobhgnjoaaaPagI
import Derived.Test.YtkdbgobhgnjoaaaMark
import Derived.Deep.RegionWith
import Derived.Deep.Cut
import Derived.Deep.DeepCutAuto
namespace Go.Proofs.Ytkdbgobhgnjoaaa
open Go.RowKit

set_option maxHeartbeats 3200000 in
set_option maxRecDepth 100000 in
theorem lawFnExactBestPlan_any {n0 : Int} {n1 : Int} {v2 : Value} {X2 : List Int} {w : World} (a0 : I64 n0) (a1 : I64 n1) (a2 : IsInts w v2 X2) :
    Calls Try.prog 3 #[.int .i64 n0, .int .i64 n1, v2] w fun e w' => e = .returned (.bool true) ∧ Ext w w' := by
  obtain ⟨f2, c2, rfl, l2⟩ := a2.form
  by_cases g2 : (1048576 : Int) < X2.length
  · have g2' : decide ((1048576 : Int) < X2.length) = true := by simpa using g2
    go_enter Try.func3, Try.ntmps3
    go_wp2_with fail
    go_ret
    exact ⟨rfl, inferInstance⟩
  · have g2' : decide ((1048576 : Int) < X2.length) = false := by simpa using g2
    -- all sizes are right
    have heq2 := hid (show eqL X2 X2 = true from eqL_iff.2 rfl)
    go_enter Try.func3, Try.ntmps3
    have e1 : Ext w w := Ext.refl w
    go_wp2_with fail
    refine (toIntS_any (w0 := w) a2).mono ?_
    rintro e w1 ⟨s2_d, s2_m, rfl, s2_own, hb⟩
    have s2 := s2_own.reads' a2
    clear s2_own
    have hbw1 : Ext w w1 := Ext.trans inferInstance hb
    replace a2 := a2.ext (w' := w1)
    replace e1 := Ext.trans e1 hbw1
    go_wp2_with fail
    refine (specBP_any (w0 := w1) a0 a1 s2).mono ?_
    rintro e w2 ⟨z0_d, z0_m, rfl, z0, hb⟩
    have hbw2 : Ext w1 w2 := Ext.trans inferInstance hb
    replace a2 := a2.ext (w' := w2)
    replace s2 := s2.ext (w' := w2)
    replace e1 := Ext.trans e1 hbw2
    clear s2
    have EB : Ext w2 w2 := Ext.refl w2
    have hBo : w2.heap.size ≤ w2.heap.size := Nat.le_refl _
    go_wp2_with fail
    refine (toIntS_any (w0 := w2) a2).mono ?_
    rintro e w3 ⟨x_2_d, x_2_m, rfl, x_2_own, hb⟩
    have x_2 := x_2_own.reads' a2
    have OW := x_2_own
    clear x_2_own
    try simp only [List.append_assoc] at OW
    have hbw3 : Ext w2 w3 := Ext.trans inferInstance hb
    replace EB := Ext.trans EB hbw3
    replace hBo : w2.heap.size ≤ w3.heap.size := EB.size
    go_wp2_with fail
    refine (implBP_any (w0 := w3) a0 a1 x_2).mono ?_
    rintro e w4 ⟨g0_d, g0_m, rfl, g_own, hb⟩
    replace OW := Own.add g_own OW hb hBo
    clear g_own
    try simp only [List.append_assoc] at OW
    have hbw4 : Ext w3 w4 := Ext.trans inferInstance hb
    replace x_2 := x_2.ext (w' := w4)
    replace EB := Ext.trans EB hbw4
    replace hBo : w2.heap.size ≤ w4.heap.size := EB.size
    have hbd0 := hid (bpR_len (k := n0) (n := n1) (X := X2))
    generalize hr0 : (bpR n0 n1 X2) = r0 at *
    replace hr0 := hid hr0
    have hq0 := hid (show eqL r0 r0 = true from eqL_iff.2 rfl)
    generalize hr1 : (pagB n0 n1 X2) = r1 at *
    replace hr1 := hid hr1
    have hn1 : (r1 != r1) = false := by simp
    have EX : Ext w4 w4 := Ext.refl w4
    replace OW := Own.nilr OW
    simp only [List.append_assoc] at OW
    have rd0_4 := (Own.one OW).reads' z0
    go_wp2_with fail
    refine (eqIntS_any (w0 := w4) rd0_4 (z0.ext (w' := w4))).mono ?_
    rw [hq0.out]
    rintro e w5 ⟨rfl, hdr⟩
    have hb := hdr.ext
    clear hdr
    have hbw5 : Ext w4 w5 := Ext.trans inferInstance hb
    replace EB := Ext.trans EB hbw5
    replace EX := Ext.trans EX hbw5
    replace OW := OW.ext (w' := w5)
    go_wp2_with fail
    refine (toIntS_any (w0 := w2) a2).mono ?_
    rintro e w6 ⟨q2_d, q2_m, rfl, q2_own, hb⟩
    have q2 := q2_own.reads' a2
    clear q2_own
    have hbw6 : Ext w5 w6 := Ext.trans inferInstance hb
    replace EB := Ext.trans EB hbw6
    replace EX := Ext.trans EX hbw6
    replace OW := OW.ext (w' := w6)
    go_wp2_with fail
    refine (eqIntS_any (w0 := w6) (x_2.ext (w' := w6)) q2).mono ?_
    rw [heq2.out]
    rintro e w7 ⟨rfl, hdr⟩
    have hb := hdr.ext
    clear hdr
    have hbw7 : Ext w6 w7 := Ext.trans inferInstance hb
    replace q2 := q2.ext (w' := w7)
    replace EB := Ext.trans EB hbw7
    replace EX := Ext.trans EX hbw7
    replace OW := OW.ext (w' := w7)
    clear q2
    -- the marks
    replace hBo : w2.heap.size ≤ w7.heap.size := EB.size
    have hsz2 := (show X2.length ≤ 1048576 by omega)
    go_wp2_with fail
    replace OW := Own.rot OW
    simp only [List.append_assoc] at OW
    refine (markIntS_any (k := 1) (Own.one OW) hBo (by omega) (by omega) (by omega)).mono ?_
    rintro e w8 ⟨rfl, OW', hbm⟩
    replace OW' := Own.eno OW'
    replace OW := OW'
    clear OW'
    replace EB := Ext.mark EB hbm
    clear hbm
    replace hBo : w2.heap.size ≤ w8.heap.size := EB.size
    obtain ⟨k1, hk1, hk1a, hk1b⟩ : ∃ x : Int, 1 + X2.length = x ∧ 0 ≤ x ∧ x ≤ 1048577 := ⟨_, rfl, by omega, by omega⟩
    rw [hk1]
    clear hk1
    replace OW := Own.rot OW
    simp only [List.append_assoc] at OW
    replace OW := Own.rot OW
    simp only [List.append_assoc] at OW
    have rd0_8 := (Own.one OW).reads' z0
    go_wp2_with fail
    refine (eqIntS_any (w0 := w8) rd0_8 (z0.ext (w' := w8))).mono ?_
    rw [hq0.out]
    rintro e w9 ⟨rfl, hdr⟩
    have hb := hdr.ext
    clear hdr
    have hbw9 : Ext w8 w9 := Ext.trans inferInstance hb
    replace EB := Ext.trans EB hbw9
    replace OW := OW.ext (w' := w9)
    replace hBo : w2.heap.size ≤ w9.heap.size := EB.size
    -- the marks in the results
    have hbq0 := hbd0.out
    go_wp2_with fail
    refine (markIntS_any (k := 1) (Own.one OW) hBo (by omega) (by omega) (by omega)).mono ?_
    rintro e w10 ⟨rfl, OW', hbm⟩
    replace OW' := Own.eno OW'
    replace OW := OW'
    clear OW'
    replace EB := Ext.mark EB hbm
    clear hbm
    replace hBo : w2.heap.size ≤ w10.heap.size := EB.size
    obtain ⟨m1, hm1, hm1a, hm1b⟩ : ∃ x : Int, 1 + r0.length = x ∧ 0 ≤ x ∧ x ≤ 4000001 := ⟨_, rfl, by omega, by omega⟩
    rw [hm1]
    have hmm : (m1 != m1) = false := by simp
    go_wp2_with fail
    have hd0_10 := (Own.one OW).readsIota (by omega) (by omega) hbd0.out
    refine (heldIntS_any (w0 := w10) (k := 1) hd0_10 (by omega) (by omega)).mono ?_
    rw [heldK_iota, hm1]
    rintro e w11 ⟨rfl, hdr⟩
    have hb := hdr.ext
    clear hdr
    have hbw11 : Ext w10 w11 := Ext.trans inferInstance hb
    replace EB := Ext.trans EB hbw11
    replace OW := OW.ext (w' := w11)
    -- the second call
    go_wp2_with fail
    refine (toIntS_any (w0 := w2) a2).mono ?_
    rintro e w12 ⟨t_2_d, t_2_m, rfl, t_2_own, hb⟩
    have t_2 := t_2_own.reads' a2
    clear t_2_own
    have hbw12 : Ext w11 w12 := Ext.trans inferInstance hb
    replace EB := Ext.trans EB hbw12
    replace OW := OW.ext (w' := w12)
    go_wp2_with fail
    refine (implBP_any (w0 := w12) a0 a1 t_2).mono ?_
    rw [hr0.out, hr1.out]
    rintro e w13 ⟨h0_d, h0_m, rfl, h_own, hb⟩
    have hbw13 : Ext w12 w13 := Ext.trans inferInstance hb
    replace t_2 := t_2.ext (w' := w13)
    replace EB := Ext.trans EB hbw13
    replace OW := OW.ext (w' := w13)
    have hh0 := h_own.reads' z0
    have EH : Ext w13 w13 := Ext.refl w13
    go_wp2_with fail
    refine (eqIntS_any (w0 := w13) (hh0.ext (w' := w13)) (z0.ext (w' := w13))).mono ?_
    rw [hq0.out]
    rintro e w14 ⟨rfl, hdr⟩
    have hb := hdr.ext
    clear hdr
    have hbw14 : Ext w13 w14 := Ext.trans inferInstance hb
    replace EB := Ext.trans EB hbw14
    replace EH := Ext.trans EH hbw14
    replace OW := OW.ext (w' := w14)
    go_wp2_with fail
    have hd0_14 := (Own.one OW).readsIota (by omega) (by omega) hbd0.out
    refine (heldIntS_any (w0 := w14) (k := 1) hd0_14 (by omega) (by omega)).mono ?_
    rw [heldK_iota, hm1]
    rintro e w15 ⟨rfl, hdr⟩
    have hb := hdr.ext
    clear hdr
    have hbw15 : Ext w14 w15 := Ext.trans inferInstance hb
    replace EB := Ext.trans EB hbw15
    replace EH := Ext.trans EH hbw15
    replace OW := OW.ext (w' := w15)
    go_wp2_with fail
    go_ret
    exact ⟨rfl, Ext.trans e1 EB⟩

end Go.Proofs.Ytkdbgobhgnjoaaa
