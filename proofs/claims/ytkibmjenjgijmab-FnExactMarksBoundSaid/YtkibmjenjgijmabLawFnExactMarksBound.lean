/- 'laws.FnExactMarksBound' walked: it returns true for every input. Written by lawgen.py. -/
import Derived.Test.YtkibmjenjgijmabMbI
import Derived.Test.YtkibmjenjgijmabMbS
import Derived.Test.YtkibmjenjgijmabGrA
import Derived.Deep.RegionWith
import Derived.Deep.Cut
import Derived.Deep.DeepCutAuto
namespace Go.Proofs.Ytkibmjenjgijmab
open Go.RowKit

set_option maxHeartbeats 1600000 in
set_option maxRecDepth 100000 in
theorem lawFnExactMarksBound_any {n0 : Int} {n1 : Int} {v2 : Value} {X2 : List Int} {v3 : Value} {X3 : List Int} {w : World} (a0 : I64 n0) (a1 : I64 n1) (a2 : IsInts w v2 X2) (a3 : IsInts w v3 X3) :
    Calls Try.prog 3 #[.int .i64 n0, .int .i64 n1, v2, v3] w fun e w' => e = .returned (.bool true) ∧ Ext w w' := by
  obtain ⟨f2, c2, rfl, l2⟩ := a2.form
  obtain ⟨f3, c3, rfl, l3⟩ := a3.form
  by_cases g2 : (1048576 : Int) < X2.length
  · have g2' : decide ((1048576 : Int) < X2.length) = true := by simpa using g2
    go_enter Try.func3, Try.ntmps3
    go_wp2_with fail
    go_ret
    exact ⟨rfl, inferInstance⟩
  · have g2' : decide ((1048576 : Int) < X2.length) = false := by simpa using g2
    by_cases g3 : (1048576 : Int) < X3.length
    · have g3' : decide ((1048576 : Int) < X3.length) = true := by simpa using g3
      go_enter Try.func3, Try.ntmps3
      go_wp2_with fail
      go_ret
      exact ⟨rfl, inferInstance⟩
    · have g3' : decide ((1048576 : Int) < X3.length) = false := by simpa using g3
      -- all sizes are right
      have heq2 := hid (show eqL X2 X2 = true from eqL_iff.2 rfl)
      have heq3 := hid (show eqL X3 X3 = true from eqL_iff.2 rfl)
      go_enter Try.func3, Try.ntmps3
      go_wp2_with fail
      refine (toIntS_any (w0 := w) a2).mono ?_
      rintro e w1 ⟨s2_d, s2_m, rfl, s2_own, hb⟩
      have s2 := s2_own.reads' a2
      have hbw1 : Ext w w1 := Ext.trans inferInstance hb
      clear hb
      replace a2 := a2.ext (w' := w1)
      replace a3 := a3.ext (w' := w1)
      have e1 : Ext w w1 := hbw1
      clear s2_own
      go_wp2_with fail
      refine (toIntS_any (w0 := w1) a3).mono ?_
      rintro e w2 ⟨s3_d, s3_m, rfl, s3_own, hb⟩
      have s3 := s3_own.reads' a3
      have hbw2 : Ext w1 w2 := Ext.trans inferInstance hb
      clear hb
      replace a2 := a2.ext (w' := w2)
      replace a3 := a3.ext (w' := w2)
      replace s2 := s2.ext (w' := w2)
      replace e1 := Ext.trans e1 hbw2
      clear s3_own
      go_wp2_with fail
      refine (specMB_any (w0 := w2) a0 a1 s2 s3).mono ?_
      rintro e w3 ⟨rfl, hb⟩
      have hbw3 : Ext w2 w3 := Ext.trans inferInstance hb
      clear hb
      replace a2 := a2.ext (w' := w3)
      replace a3 := a3.ext (w' := w3)
      replace s2 := s2.ext (w' := w3)
      replace s3 := s3.ext (w' := w3)
      replace e1 := Ext.trans e1 hbw3
      go_wp2_with fail
      refine (toIntS_any (w0 := w3) a2).mono ?_
      rintro e w4 ⟨x_2_d, x_2_m, rfl, x_2_own, hb⟩
      have x_2 := x_2_own.reads' a2
      have hbw4 : Ext w3 w4 := Ext.trans inferInstance hb
      clear hb
      replace a2 := a2.ext (w' := w4)
      replace a3 := a3.ext (w' := w4)
      replace e1 := Ext.trans e1 hbw4
      clear x_2_own
      go_wp2_with fail
      refine (toIntS_any (w0 := w4) a3).mono ?_
      rintro e w5 ⟨x_3_d, x_3_m, rfl, x_3_own, hb⟩
      have x_3 := x_3_own.reads' a3
      have hbw5 : Ext w4 w5 := Ext.trans inferInstance hb
      clear hb
      replace a2 := a2.ext (w' := w5)
      replace a3 := a3.ext (w' := w5)
      replace x_2 := x_2.ext (w' := w5)
      replace e1 := Ext.trans e1 hbw5
      clear x_3_own
      go_wp2_with fail
      refine (implMB_any (w0 := w5) a0 a1 x_2 x_3).mono ?_
      rintro e w6 ⟨rfl, hb⟩
      have hbw6 : Ext w5 w6 := Ext.trans inferInstance hb
      clear hb
      replace a2 := a2.ext (w' := w6)
      replace a3 := a3.ext (w' := w6)
      replace x_2 := x_2.ext (w' := w6)
      replace x_3 := x_3.ext (w' := w6)
      replace e1 := Ext.trans e1 hbw6
      generalize hr0 : (mbR n0 n1 X2 X3) = r0 at *
      replace hr0 := hid hr0
      have hn0 : (r0 != r0) = false := by simp
      generalize hr1 : (mbOk n0 n1 X2 X3) = r1 at *
      replace hr1 := hid hr1
      have hn1 : (r1 != r1) = false := by simp
      go_wp2_with fail
      refine (toIntS_any (w0 := w6) a2).mono ?_
      rintro e w7 ⟨q2_d, q2_m, rfl, q2_own, hb⟩
      have q2 := q2_own.reads' a2
      have hbw7 : Ext w6 w7 := Ext.trans inferInstance hb
      clear hb
      replace a2 := a2.ext (w' := w7)
      replace a3 := a3.ext (w' := w7)
      replace x_2 := x_2.ext (w' := w7)
      replace x_3 := x_3.ext (w' := w7)
      replace e1 := Ext.trans e1 hbw7
      clear q2_own
      go_wp2_with fail
      refine (eqIntS_any (w0 := w7) x_2 q2).mono ?_
      rw [heq2.out]
      rintro e w8 ⟨rfl, hdr⟩
      have hb := hdr.ext
      clear hdr
      have hbw8 : Ext w7 w8 := Ext.trans inferInstance hb
      clear hb
      replace a2 := a2.ext (w' := w8)
      replace a3 := a3.ext (w' := w8)
      replace x_2 := x_2.ext (w' := w8)
      replace x_3 := x_3.ext (w' := w8)
      replace q2 := q2.ext (w' := w8)
      replace e1 := Ext.trans e1 hbw8
      go_wp2_with fail
      refine (toIntS_any (w0 := w8) a3).mono ?_
      rintro e w9 ⟨q3_d, q3_m, rfl, q3_own, hb⟩
      have q3 := q3_own.reads' a3
      have hbw9 : Ext w8 w9 := Ext.trans inferInstance hb
      clear hb
      replace a2 := a2.ext (w' := w9)
      replace a3 := a3.ext (w' := w9)
      replace x_2 := x_2.ext (w' := w9)
      replace x_3 := x_3.ext (w' := w9)
      replace q2 := q2.ext (w' := w9)
      replace e1 := Ext.trans e1 hbw9
      clear q3_own
      go_wp2_with fail
      refine (eqIntS_any (w0 := w9) x_3 q3).mono ?_
      rw [heq3.out]
      rintro e w10 ⟨rfl, hdr⟩
      have hb := hdr.ext
      clear hdr
      have hbw10 : Ext w9 w10 := Ext.trans inferInstance hb
      clear hb
      replace a2 := a2.ext (w' := w10)
      replace a3 := a3.ext (w' := w10)
      replace x_2 := x_2.ext (w' := w10)
      replace x_3 := x_3.ext (w' := w10)
      replace q2 := q2.ext (w' := w10)
      replace q3 := q3.ext (w' := w10)
      replace e1 := Ext.trans e1 hbw10
      go_wp2_with fail
      go_ret
      exact ⟨rfl, e1⟩

end Go.Proofs.Ytkibmjenjgijmab
