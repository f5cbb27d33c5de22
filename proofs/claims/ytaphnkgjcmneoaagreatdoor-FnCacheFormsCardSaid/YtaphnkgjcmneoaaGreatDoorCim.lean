/- Caches walked: the marks of a cache: the reference's. -/
import Derived.Test.YtaphnkgjcmneoaaGreatDoorCir
namespace Go.Proofs.YtaphnkgjcmneoaaGreatDoor
open Go.RowKit

theorem memNth {a : List Int} {x : Int} (h : x ∈ a) : ∃ k, k < a.length ∧ nth a k = x := by
  obtain ⟨k, hk, e⟩ := List.getElem_of_mem h
  exact ⟨k, hk, by rw [← e]; simp [nth, hk]⟩
theorem mrk_yes {p : Int} {P M : List Int} (hk : mkd p = true) (hl : M.length = P.length) (h : ∀ j, j < M.length → inB (nth M j) (loM p) (hiM p) = true) : marksB p P M = true := by
  rw [← marks_any hk hl, Bool.not_eq_true', List.any_eq_false]
  intro x hx
  obtain ⟨j, hj, rfl⟩ := memNth hx
  rw [h j hj]
  simp
theorem mrk_no {p : Int} {P M : List Int} (hk : mkd p = true) (hl : M.length = P.length) {j : Nat} (hj : j < M.length) (h : inB (nth M j) (loM p) (hiM p) = false) : marksB p P M = false := by
  rw [← marks_any hk hl, Bool.not_eq_false', List.any_eq_true]
  exact ⟨nth M j, nth_mem hj, by rw [h]; rfl⟩
set_option maxHeartbeats 1600000 in
theorem l4Marks_any {p z h : Int} {P M : List Int} {dP dM : Option Addr} {cP cM : Nat} {w0 w : World} [Ext w0 w] (hP : IsInts w0 (.slice dP P.length cP) P) (hM : IsInts w0 (.slice dM M.length cM) M) :
    Calls Tryz.prog 69 #[.agg #[.int .i64 p, .int .i64 z, .slice dP P.length cP, .slice dM M.length cM, .int .i64 h]] w fun e w' => e = .returned (.bool (marksB p P M)) ∧ Ext w w' := by
  have lM : M.length ≤ 281474976710656 := by obtain ⟨_, _, _, h, _⟩ := hM; unfold Short at h; omega
  have lP : P.length ≤ 281474976710656 := by obtain ⟨_, _, _, h, _⟩ := hP; unfold Short at h; omega
  obtain ⟨W, hW⟩ : ∃ W, W = w.alloc (.cells #[.int .i64 p, .int .i64 z, .slice dP P.length cP, .slice dM M.length cM, .int .i64 h] 26) := ⟨_, rfl⟩
  have eW : Ext w W := by rw [hW]; infer_instance
  have x0 : W.cell? ⟨w.heap.size, 0, none⟩ = some (.int .i64 p) := by rw [hW]; go_simp
  have x1 : W.cell? ⟨w.heap.size, 1, none⟩ = some (.int .i64 z) := by rw [hW]; go_simp
  have x2 : W.cell? ⟨w.heap.size, 2, none⟩ = some (.slice dP P.length cP) := by rw [hW]; go_simp
  have x3 : W.cell? ⟨w.heap.size, 3, none⟩ = some (.slice dM M.length cM) := by rw [hW]; go_simp
  have x4 : W.cell? ⟨w.heap.size, 4, none⟩ = some (.int .i64 h) := by rw [hW]; go_simp
  cases hk : mkd p with
  | false =>
    have hr := hid (show ((M.length : Int) == 0) = marksB p P M by
      unfold marksB
      rw [hk, if_neg (by simp), Bool.eq_iff_iff, beq_iff_eq, decide_eq_true_eq]
      omega)
    go_enter Tryz.func69, Tryz.ntmps69
    go_upto_region 1 with fail
    rw [← hW]
    replace hW := hid hW
    go_wp2_with fail
    refine (l4Marked_any p W).mono ?_
    rw [hk]
    rintro e w1 ⟨rfl, rfl⟩
    go_wp2_with fail
    go_ret
    exact ⟨ret_bool hr.out, eW⟩
  | true =>
    have e0W : Ext w0 W := Ext.trans ‹Ext w0 w› eW
    have hM' := hM
    go_enter Tryz.func69, Tryz.ntmps69
    go_upto_region 1 with fail
    rw [← hW]
    replace hW := hid hW
    go_wp2_with fail
    refine (l4Marked_any p W).mono ?_
    rw [hk]
    rintro e w1 ⟨rfl, rfl⟩
    by_cases hl : M.length = P.length
    · have hle : ((M.length : Int) != (P.length : Int)) = false := by simp; omega
      by_cases h6 : p = 6
      · have hlo := hid (show loM p = 0 by unfold loM; rw [if_pos h6])
        have hhi := hid (show hiM p = 1 by unfold hiM; rw [if_pos h6])
        replace hk := hid hk
        replace hl := hid hl
        have h5' : (p == 5) = false := beq_eq_false_iff_ne.2 (by omega)
        have h6' : (p == 6) = true := beq_iff_eq.2 h6
        replace h6 := hid h6
        go_wp2_with fail
        go_loopw [3] (fun iv wr => ∃ k : Nat, k ≤ M.length ∧ iv = .int .i64 k ∧ Hid (∀ j, j < k → inB (nth M j) (loM p) (hiM p) = true) ∧ Ext W wr) (fun iv _ => M.length - (intOf iv).toNat)
        case atStart => exact ⟨0, by omega, rfl, by intro j hj; omega, Ext.refl _⟩
        case round =>
          obtain ⟨k, hkl, rfl, hok, hq⟩ := hrel
          obtain ⟨wo, rfl⟩ : ∃ y : World, y = wr := ⟨_, rfl⟩
          have x0 := hq.cell x0
          have x3 := hq.cell x3
          have e0o : Ext w0 wo := Ext.trans e0W hq
          by_cases hlt : k < M.length
          · obtain ⟨b, o, hda, hc⟩ := hM'.at (w' := wo) hlt
            cases hda
            obtain ⟨x, hx⟩ : ∃ x, x = nth M k := ⟨_, rfl⟩
            rw [← hx] at hc
            cases hin : inB x 0 1 with
            | true =>
              have hok2 := hid (show ∀ j, j < k + 1 → inB (nth M j) (loM p) (hiM p) = true from fun j hj => by
                by_cases e : j = k
                · rw [e, ← hx, hlo.out, hhi.out, hin]
                · exact hok.out j (by omega))
              replace hin := hid hin
              replace hx := hid hx
              go_wp2_with fail
              refine (l1In_any _ _ _ _).mono ?_; rw [hin.out]; rintro e w1 ⟨rfl, rfl⟩
              go_wp2_with fail
              go_roundw
              case rel => exact ⟨k + 1, by omega, by go_num, hok2, hq⟩
              case measure => simp [intOf]; omega
            | false =>
              have hv := hid (mrk_no hk.out hl.out hlt (by rw [← hx, hlo.out, hhi.out, hin]))
              replace hin := hid hin
              replace hx := hid hx
              go_wp2_with fail
              refine (l1In_any _ _ _ _).mono ?_; rw [hin.out]; rintro e w1 ⟨rfl, rfl⟩
              go_wp2_with fail
              go_ret
              exact ⟨ret_bool hv.out.symm, Ext.trans eW hq⟩
          · have hv := hid (mrk_yes hk.out hl.out fun j hj => hok.out j (by omega))
            go_wp2_with fail
            go_ret
            exact ⟨ret_bool hv.out.symm, Ext.trans eW hq⟩
      · have h5 : p = 5 := by
          unfold mkd at hk
          rw [Bool.or_eq_true, beq_iff_eq, beq_iff_eq] at hk
          omega
        have hlo := hid (show loM p = 1 by unfold loM; rw [if_neg h6])
        have hhi := hid (show hiM p = 60 by unfold hiM; rw [if_neg h6])
        replace hk := hid hk
        replace hl := hid hl
        have h5' : (p == 5) = true := beq_iff_eq.2 h5
        have h6' : (p == 6) = false := beq_eq_false_iff_ne.2 h6
        replace h6 := hid h6
        replace h5 := hid h5
        go_wp2_with fail
        go_loopw [3] (fun iv wr => ∃ k : Nat, k ≤ M.length ∧ iv = .int .i64 k ∧ Hid (∀ j, j < k → inB (nth M j) (loM p) (hiM p) = true) ∧ Ext W wr) (fun iv _ => M.length - (intOf iv).toNat)
        case atStart => exact ⟨0, by omega, rfl, by intro j hj; omega, Ext.refl _⟩
        case round =>
          obtain ⟨k, hkl, rfl, hok, hq⟩ := hrel
          obtain ⟨wo, rfl⟩ : ∃ y : World, y = wr := ⟨_, rfl⟩
          have x0 := hq.cell x0
          have x3 := hq.cell x3
          have e0o : Ext w0 wo := Ext.trans e0W hq
          by_cases hlt : k < M.length
          · obtain ⟨b, o, hda, hc⟩ := hM'.at (w' := wo) hlt
            cases hda
            obtain ⟨x, hx⟩ : ∃ x, x = nth M k := ⟨_, rfl⟩
            rw [← hx] at hc
            cases hin : inB x 1 60 with
            | true =>
              have hok2 := hid (show ∀ j, j < k + 1 → inB (nth M j) (loM p) (hiM p) = true from fun j hj => by
                by_cases e : j = k
                · rw [e, ← hx, hlo.out, hhi.out, hin]
                · exact hok.out j (by omega))
              replace hin := hid hin
              replace hx := hid hx
              go_wp2_with fail
              refine (l1In_any _ _ _ _).mono ?_; rw [hin.out]; rintro e w1 ⟨rfl, rfl⟩
              go_wp2_with fail
              go_roundw
              case rel => exact ⟨k + 1, by omega, by go_num, hok2, hq⟩
              case measure => simp [intOf]; omega
            | false =>
              have hv := hid (mrk_no hk.out hl.out hlt (by rw [← hx, hlo.out, hhi.out, hin]))
              replace hin := hid hin
              replace hx := hid hx
              go_wp2_with fail
              refine (l1In_any _ _ _ _).mono ?_; rw [hin.out]; rintro e w1 ⟨rfl, rfl⟩
              go_wp2_with fail
              go_ret
              exact ⟨ret_bool hv.out.symm, Ext.trans eW hq⟩
          · have hv := hid (mrk_yes hk.out hl.out fun j hj => hok.out j (by omega))
            go_wp2_with fail
            go_ret
            exact ⟨ret_bool hv.out.symm, Ext.trans eW hq⟩
    · have hle : ((M.length : Int) != (P.length : Int)) = true := by simp; omega
      have hv := hid (marks_len hk hl)
      replace hl := hid hl
      go_wp2_with fail
      go_ret
      exact ⟨ret_bool hv.out.symm, eW⟩
end Go.Proofs.YtaphnkgjcmneoaaGreatDoor
