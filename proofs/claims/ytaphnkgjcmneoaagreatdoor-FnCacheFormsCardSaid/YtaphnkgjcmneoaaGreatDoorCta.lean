/- The page that a fault takes out. -/
import Derived.Test.YtaphnkgjcmneoaaGreatDoorCsv
namespace Go.Proofs.YtaphnkgjcmneoaaGreatDoor
open Go.RowKit

set_option maxHeartbeats 1600000 in
set_option maxRecDepth 100000 in
theorem l4Victim3_any {n k : Nat} {P M : List Int} {dP dM : Option Addr} {cP cM : Nat} {w0 w : World} [Ext w0 w] (_hM : IsInts w0 (.slice dM M.length cM) M) (_s : ST 3 n P M k) (h0 : 0 < P.length) (_hl6 : P.length ≤ 6) :
    Calls Tryz.prog 98 #[.agg #[.int .i64 3, .int .i64 n, .slice dP P.length cP, .slice dM M.length cM, .int .i64 k]] w fun e w' => ∃ r : Nat, e = .returned (.int .i64 r) ∧ r < P.length ∧ Ext w w' := by
  obtain ⟨W, hW⟩ : ∃ W, W = w.alloc (.cells #[.int .i64 3, .int .i64 n, .slice dP P.length cP, .slice dM M.length cM, .int .i64 k] 26) := ⟨_, rfl⟩
  go_enter Tryz.func98, Tryz.ntmps98
  go_upto_region 1 with fail
  rw [← hW]
  have eW : Ext w W := by rw [hW]; infer_instance
  have hA : BX W w.heap.size (.int .i64 3) (.int .i64 n) (.slice dP P.length cP) (.slice dM M.length cM) (.int .i64 k) := by
    rw [hW]
    exact BX.alloc w 26 (.int .i64 3) (.int .i64 n) (.slice dP P.length cP) (.slice dM M.length cM) (.int .i64 k)
  replace hW := hid hW
  obtain ⟨b0, b1, b2, b3, b4, -, -, -, -, -⟩ := hA
  go_wp2_with fail
  go_ret
  exact ⟨0, rfl, h0, eW⟩
set_option maxHeartbeats 1600000 in
set_option maxRecDepth 100000 in
theorem l4Victim7_any {n k : Nat} {P M : List Int} {dP dM : Option Addr} {cP cM : Nat} {w0 w : World} [Ext w0 w] (_hM : IsInts w0 (.slice dM M.length cM) M) (_s : ST 7 n P M k) (h0 : 0 < P.length) (_hl6 : P.length ≤ 6) :
    Calls Tryz.prog 98 #[.agg #[.int .i64 7, .int .i64 n, .slice dP P.length cP, .slice dM M.length cM, .int .i64 k]] w fun e w' => ∃ r : Nat, e = .returned (.int .i64 r) ∧ r < P.length ∧ Ext w w' := by
  obtain ⟨W, hW⟩ : ∃ W, W = w.alloc (.cells #[.int .i64 7, .int .i64 n, .slice dP P.length cP, .slice dM M.length cM, .int .i64 k] 26) := ⟨_, rfl⟩
  go_enter Tryz.func98, Tryz.ntmps98
  go_upto_region 1 with fail
  rw [← hW]
  have eW : Ext w W := by rw [hW]; infer_instance
  have hA : BX W w.heap.size (.int .i64 7) (.int .i64 n) (.slice dP P.length cP) (.slice dM M.length cM) (.int .i64 k) := by
    rw [hW]
    exact BX.alloc w 26 (.int .i64 7) (.int .i64 n) (.slice dP P.length cP) (.slice dM M.length cM) (.int .i64 k)
  replace hW := hid hW
  obtain ⟨b0, b1, b2, b3, b4, -, -, -, -, -⟩ := hA
  go_wp2_with fail
  go_ret
  exact ⟨0, rfl, h0, eW⟩
set_option maxHeartbeats 1600000 in
set_option maxRecDepth 100000 in
theorem l4Victim1_any {n k : Nat} {P M : List Int} {dP dM : Option Addr} {cP cM : Nat} {w0 w : World} [Ext w0 w] (_hM : IsInts w0 (.slice dM M.length cM) M) (_s : ST 1 n P M k) (h0 : 0 < P.length) (hl6 : P.length ≤ 6) :
    Calls Tryz.prog 98 #[.agg #[.int .i64 1, .int .i64 n, .slice dP P.length cP, .slice dM M.length cM, .int .i64 k]] w fun e w' => ∃ r : Nat, e = .returned (.int .i64 r) ∧ r < P.length ∧ Ext w w' := by
  obtain ⟨W, hW⟩ : ∃ W, W = w.alloc (.cells #[.int .i64 1, .int .i64 n, .slice dP P.length cP, .slice dM M.length cM, .int .i64 k] 26) := ⟨_, rfl⟩
  go_enter Tryz.func98, Tryz.ntmps98
  go_upto_region 1 with fail
  rw [← hW]
  have eW : Ext w W := by rw [hW]; infer_instance
  have hA : BX W w.heap.size (.int .i64 1) (.int .i64 n) (.slice dP P.length cP) (.slice dM M.length cM) (.int .i64 k) := by
    rw [hW]
    exact BX.alloc w 26 (.int .i64 1) (.int .i64 n) (.slice dP P.length cP) (.slice dM M.length cM) (.int .i64 k)
  replace hW := hid hW
  obtain ⟨b0, b1, b2, b3, b4, -, -, -, -, -⟩ := hA
  go_wp2_with fail
  go_ret
  exact ⟨P.length - 1, by go_num, by omega, eW⟩
set_option maxHeartbeats 1600000 in
set_option maxRecDepth 100000 in
theorem l4Victim2_any {n k : Nat} {P M : List Int} {dP dM : Option Addr} {cP cM : Nat} {w0 w : World} [Ext w0 w] (_hM : IsInts w0 (.slice dM M.length cM) M) (_s : ST 2 n P M k) (h0 : 0 < P.length) (hl6 : P.length ≤ 6) :
    Calls Tryz.prog 98 #[.agg #[.int .i64 2, .int .i64 n, .slice dP P.length cP, .slice dM M.length cM, .int .i64 k]] w fun e w' => ∃ r : Nat, e = .returned (.int .i64 r) ∧ r < P.length ∧ Ext w w' := by
  obtain ⟨W, hW⟩ : ∃ W, W = w.alloc (.cells #[.int .i64 2, .int .i64 n, .slice dP P.length cP, .slice dM M.length cM, .int .i64 k] 26) := ⟨_, rfl⟩
  go_enter Tryz.func98, Tryz.ntmps98
  go_upto_region 1 with fail
  rw [← hW]
  have eW : Ext w W := by rw [hW]; infer_instance
  have hA : BX W w.heap.size (.int .i64 2) (.int .i64 n) (.slice dP P.length cP) (.slice dM M.length cM) (.int .i64 k) := by
    rw [hW]
    exact BX.alloc w 26 (.int .i64 2) (.int .i64 n) (.slice dP P.length cP) (.slice dM M.length cM) (.int .i64 k)
  replace hW := hid hW
  obtain ⟨b0, b1, b2, b3, b4, -, -, -, -, -⟩ := hA
  go_wp2_with fail
  go_ret
  exact ⟨P.length - 1, by go_num, by omega, eW⟩
set_option maxHeartbeats 1600000 in
set_option maxRecDepth 100000 in
theorem l4Victim4_any {n k : Nat} {P M : List Int} {dP dM : Option Addr} {cP cM : Nat} {w0 w : World} [Ext w0 w] (_hM : IsInts w0 (.slice dM M.length cM) M) (_s : ST 4 n P M k) (h0 : 0 < P.length) (hl6 : P.length ≤ 6) :
    Calls Tryz.prog 98 #[.agg #[.int .i64 4, .int .i64 n, .slice dP P.length cP, .slice dM M.length cM, .int .i64 k]] w fun e w' => ∃ r : Nat, e = .returned (.int .i64 r) ∧ r < P.length ∧ Ext w w' := by
  obtain ⟨W, hW⟩ : ∃ W, W = w.alloc (.cells #[.int .i64 4, .int .i64 n, .slice dP P.length cP, .slice dM M.length cM, .int .i64 k] 26) := ⟨_, rfl⟩
  go_enter Tryz.func98, Tryz.ntmps98
  go_upto_region 1 with fail
  rw [← hW]
  have eW : Ext w W := by rw [hW]; infer_instance
  have hA : BX W w.heap.size (.int .i64 4) (.int .i64 n) (.slice dP P.length cP) (.slice dM M.length cM) (.int .i64 k) := by
    rw [hW]
    exact BX.alloc w 26 (.int .i64 4) (.int .i64 n) (.slice dP P.length cP) (.slice dM M.length cM) (.int .i64 k)
  replace hW := hid hW
  obtain ⟨b0, b1, b2, b3, b4, -, -, -, -, -⟩ := hA
  go_wp2_with fail
  go_ret
  exact ⟨P.length - 1, by go_num, by omega, eW⟩
set_option maxHeartbeats 1600000 in
set_option maxRecDepth 100000 in
theorem l4Victim5_any {n k : Nat} {P M : List Int} {dP dM : Option Addr} {cP cM : Nat} {w0 w : World} [Ext w0 w] (hM : IsInts w0 (.slice dM M.length cM) M) (s : ST 5 n P M k) (h0 : 0 < P.length) (_hl6 : P.length ≤ 6) :
    Calls Tryz.prog 98 #[.agg #[.int .i64 5, .int .i64 n, .slice dP P.length cP, .slice dM M.length cM, .int .i64 k]] w fun e w' => ∃ r : Nat, e = .returned (.int .i64 r) ∧ r < P.length ∧ Ext w w' := by
  have hml := s.mks (.inl rfl)
  have hRa := hid (fun (u : World) (e : Ext w0 u) => @l4Rarest_any _ M w0 u e hM (by omega))
  replace hml := hid hml
  obtain ⟨W, hW⟩ : ∃ W, W = w.alloc (.cells #[.int .i64 5, .int .i64 n, .slice dP P.length cP, .slice dM M.length cM, .int .i64 k] 26) := ⟨_, rfl⟩
  go_enter Tryz.func98, Tryz.ntmps98
  go_upto_region 1 with fail
  rw [← hW]
  have eW : Ext w W := by rw [hW]; infer_instance
  have hA : BX W w.heap.size (.int .i64 5) (.int .i64 n) (.slice dP P.length cP) (.slice dM M.length cM) (.int .i64 k) := by
    rw [hW]
    exact BX.alloc w 26 (.int .i64 5) (.int .i64 n) (.slice dP P.length cP) (.slice dM M.length cM) (.int .i64 k)
  replace hW := hid hW
  obtain ⟨b0, b1, b2, b3, b4, -, -, -, -, -⟩ := hA
  go_wp2_with fail
  refine (hRa.out W (Ext.trans ‹Ext w0 w› eW)).mono ?_
  rintro e w1 ⟨r, rfl, hr, e1⟩
  go_wp2_with fail
  go_ret
  exact ⟨r, rfl, by have := hml.out; omega, Ext.trans eW e1⟩
end Go.Proofs.YtaphnkgjcmneoaaGreatDoor
