/- The given statement of 'laws.FnExactProblemText', proved: for every input the law returns true, and each argument reads behind the call as it read before. -/
import Derived.Test.YtdohjmbhgjfcaaaDoorFacts
import Derived.Test.YtdohjmbhgjfcaaaDoorLawPx
import Derived.Test.YtdohjmbhgjfcaaaDoorOpen
import Derived.Test.YtdohjmbhgjfcaaaDoorLaidW
import Derived.Test.YtdohjmbhgjfcaaaDoorTie
import Derived.Test.YtdohjmbhgjfcaaaDoorCards
import Derived.SevenTiedAt
namespace Go.Proofs.YtdohjmbhgjfcaaaDoor
open Go
open Go.ChangeShapes Go.WideShapes Go.ChangeAt Go.RowKit

theorem closedFnExactProblemText : lawFacts Tryd.prog 4 Tryd.f4 Rows.fnExactProblemTextSpec Rows.fnExactProblemTextRow = true := by kernel_rfl

set_option maxRecDepth 100000 in
theorem liftedFnExactProblemText (os : Os) (started : os.Started) (H : Type) (enc : TypeId × Value → H) :
    ReturnsInHanded {} Tryd.checked os 4 .any (fun w args => (Rows.fnExactProblemTextSpec.pre enc Tryd.prog Tryd.f4 Rows.fnExactProblemTextRow.domain false w args ∧ laidMetH Tryd.prog Rows.fnExactProblemTextRow.laid w) ∧ sizedMet enc Tryd.prog Tryd.f4 (OpenSpec.ofChange Rows.fnExactProblemTextSpec) false w args) (Rows.fnExactProblemTextSpec.post enc Tryd.prog Tryd.f4 false true false false) := by
  refine returnsInHanded_laid (C := Tryd.checked) (L := Rows.fnExactProblemTextRow.laid) factOwn started (by kernel_rfl) Tryd.func4
    (ChangeSpec.witness_shaped (enc := enc) (C := Tryd.checked) (os := os) (X := fun w _ => laidMetH Tryd.prog Rows.fnExactProblemTextRow.laid w) false (World.laidAll Tryd.prog os Rows.fnExactProblemTextRow.laid) #[.agg #[.slice none 0 0, .slice none 0 0]] 8 (World.laidAll_os _ _ _)
      (World.shaped_of_ZipB (by kernel_rfl) (by kernel_rfl)) (by kernel_rfl) (by kernel_rfl) (by kernel_rfl)
      (by rw [MakeChecks.laidMetH_plain _ _ _ (by kernel_rfl)]; exact laidMet_laidAll _ (by kernel_rfl) (by kernel_rfl))) ?_
  intro W base args ds gs before hval0 hW hcnd hsz0 hL hsh _
  have hval : ∀ (j : Nat) t v, Tryd.f4.params[j]? = some t → args[j]? = some v → Value.okWide Tryd.prog W .any base t v := hval0
  have hsz : (DataW.weightsEach Tryd.prog (Tryd.f4.params.toList ++ Rows.fnExactProblemTextSpec.plain.varTypes Tryd.prog) (ds ++ gs)).all (· ≤ reachBytes) = true := hsz0
  have hW' := hW
  obtain ⟨p, q, hA0, hV, rfl, hfz, hnd⟩ := hW
  have hA : DataW.TrodAll enc Tryd.prog W 0 (fun _ => true) true Tryd.f4.params.toList args.toList ds p := hA0
  rw [Tryd.params4] at hA hval hsz
  obtain ⟨v0, vs0, d0, ds0, p0, q0, hargs, rfl, rfl, h0, r0⟩ := trodAll_cons hA
  obtain ⟨rfl, rfl, rfl⟩ := trodAll_nil r0
  obtain rfl : args = #[v0] := by cases args; simp_all
  obtain ⟨rfl, rfl⟩ := trodVars_none hV
  have k0 := h0
  have lt0 : ∀ x ∈ p0, x.block < W.heap.size := by obtain ⟨m, hm⟩ := k0; exact DataW.trod_lt m _ _ _ hm
  have hw0 := weights_of hsz (j := 0) (t := 34) (d := d0) rfl rfl
  obtain ⟨M0, S0, a0⟩ := isProb_of_trod (hval 0 34 v0 rfl rfl) h0 hw0
  clear hA0 hval0 hsz0
  rw [MakeChecks.laidMetH_plain _ _ _ (by kernel_rfl)] at hL
  have ftens : Tens W := tens_of_laid hL
  have fmost : Most W := most_of_shape hsh
  refine (lawProblemText_any a0 ftens fmost).mono fun e W' ⟨he, hext⟩ => ?_
  subst he
  have bel := hext.below
  exact ⟨_, rfl, _, _, _, [], _, [], hW', trodAll_mk1 (shut_bool Tryd.underlying4 _), (trodAll_cons_mk (Below.trod factLaid (by kernel_rfl) (of_decide_eq_true (by kernel_rfl)) k0 bel lt0) trodAll_mk0), rfl, bel.frame _, fun h => by cases h⟩

theorem holdsFnExactProblemText : Rows.FnExactProblemTextSaid :=
  OpenClaim.holds_of_wide 4 Tryd.f4 rfl rfl rfl rfl rfl rfl rfl ⟨rfl, rfl, rfl, rfl, rfl⟩ rfl rfl rfl rfl rfl (by kernel_rfl) Tryd.func4 (joined_here closedFnExactProblemText)
    (of_decide_eq_true (by kernel_rfl)) (by unfold Func.isWrapper; first | (rw [if_pos (by decide +kernel)]; kernel_rfl) | (rw [if_neg (by decide +kernel)]; exact ⟨rfl, rfl⟩))
    (fun os started H enc _ => liftedFnExactProblemText os started H enc)

set_option maxRecDepth 100000 in
theorem holdsFnExactProblemTextCard : Rows.FnExactProblemTextCardSaid :=
  Claim7.holds_tied_plain_at .later [] [.data, .data, .data, .data, .pinned] true (true, "4a96e569d64017ea47c089ccbf86547a824ff699f9b4509091682e60e9711e3a") true
    holdsFnExactProblemText (fun _ h => by cases h) (by kernel_rfl) (fun _ h => by cases h) fnExactProblemText_row_tie rfl ⟨rfl, rfl⟩ (by kernel_rfl) rfl
    (fun f fn hf hfn => by
      obtain rfl : f = 4 := Option.some.inj ((show Tryd.prog.funcNamed "loop.example/g01087/laws.FnExactProblemText" = some 4 by kernel_rfl).symm.trans hf) |>.symm
      obtain rfl : fn = Tryd.f4 := (Option.some.inj (Tryd.func4.symm.trans hfn)).symm
      exact ⟨by kernel_rfl, fun j t ht => by
        rw [Tryd.params4] at ht
        have hm : t ∈ [34] := by simpa using Array.mem_of_getElem? ht
        have hall : ([34].all fun u => !Tryd.prog.wantsStandIn u) = true := by kernel_rfl
        exact (show Tryd.prog.wantsStandIn t = false by simpa using List.all_eq_true.1 hall t hm)⟩)
    (by kernel_rfl)

#print axioms holdsFnExactProblemTextCard
end Go.Proofs.YtdohjmbhgjfcaaaDoor
