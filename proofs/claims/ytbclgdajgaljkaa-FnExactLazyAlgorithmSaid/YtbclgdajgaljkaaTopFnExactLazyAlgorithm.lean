/- The given statement of 'laws.FnExactLazyAlgorithm', proved: for every input the law returns true, and each argument reads behind the call as it read before. -/
import Derived.Test.YtbclgdajgaljkaaFacts
import Derived.Test.YtbclgdajgaljkaaLawFnExactLazyAlgorithm
import Derived.Test.YtbclgdajgaljkaaOpen
namespace Go.Proofs.Ytbclgdajgaljkaa
open Go.ChangeShapes Go.WideShapes Go.ChangeAt Go.RowKit

theorem closedFnExactLazyAlgorithm : lawFacts Try.prog 10 Try.f10 Rows.fnExactLazyAlgorithmSpec Rows.fnExactLazyAlgorithmRow = true := by kernel_rfl

set_option maxRecDepth 100000 in
theorem liftedFnExactLazyAlgorithm (os : Os) (started : os.Started) (H : Type) (enc : TypeId × Value → H) :
    ReturnsInHanded {} Try.checked os 10 .any (Rows.fnExactLazyAlgorithmSpec.pre6 enc Try.prog Try.f10 Rows.fnExactLazyAlgorithmRow.domain false) (Rows.fnExactLazyAlgorithmSpec.post enc Try.prog Try.f10 false true false false) := by
  refine returnsInHanded_of_change_sized (C := Try.checked) factOwn started (by kernel_rfl) Try.func10
    (ChangeSpec.witness6 (enc := enc) (C := Try.checked) false ⟨#[], #[.agg #[.slice none 0 0, .slice none 0 0]], []⟩ 8 (by kernel_rfl) (by kernel_rfl) (by kernel_rfl) (by kernel_rfl)) ?_
  intro W base args ds gs before hval0 hW hcnd hsz0 _
  have hval : ∀ (j : Nat) t v, Try.f10.params[j]? = some t → args[j]? = some v → Value.okWide Try.prog W .any base t v := hval0
  have hsz : (DataW.weightsEach Try.prog (Try.f10.params.toList ++ Rows.fnExactLazyAlgorithmSpec.plain.varTypes Try.prog) (ds ++ gs)).all (· ≤ reachBytes) = true := hsz0
  have hW' := hW
  obtain ⟨p, q, hA0, hV, rfl, hfz, hnd⟩ := hW
  have hA : DataW.TrodAll enc Try.prog W 0 (fun _ => true) true Try.f10.params.toList args.toList ds p := hA0
  rw [Try.params10] at hA hval hsz
  obtain ⟨v0, vs0, d0, ds0, p0, q0, hargs, rfl, rfl, h0, r0⟩ := trodAll_cons hA
  obtain ⟨rfl, rfl, rfl⟩ := trodAll_nil r0
  obtain rfl : args = #[v0] := by cases args; simp_all
  obtain ⟨rfl, rfl⟩ := trodVars_none hV
  have k0 := h0
  have lt0 : ∀ x ∈ p0, x.block < W.heap.size := by obtain ⟨m, hm⟩ := k0; exact DataW.trod_lt m _ _ _ hm
  have hw0 := weights_of hsz (j := 0) (t := 24) (d := d0) rfl rfl
  obtain ⟨M0, S0, a0⟩ := isProb_of_trod (hval 0 24 v0 rfl rfl) h0 hw0
  clear hA0 hval0 hsz0
  refine (lawFnExactLazyAlgorithm_any a0).mono fun e W' ⟨he, hext⟩ => ?_
  subst he
  have bel := hext.below
  exact ⟨_, rfl, _, _, _, [], _, [], hW', trodAll_mk1 (shut_bool Try.underlying4 _), (trodAll_cons_mk (Below.trod factLaid (by kernel_rfl) (of_decide_eq_true (by kernel_rfl)) k0 bel lt0) trodAll_mk0), rfl, bel.frame _, fun h => by cases h⟩

theorem holdsFnExactLazyAlgorithm : Rows.FnExactLazyAlgorithmSaid :=
  OpenClaim.holds_of_wide 10 Try.f10 rfl rfl rfl rfl rfl rfl rfl ⟨rfl, rfl, rfl, rfl, rfl⟩ rfl rfl rfl rfl rfl (by kernel_rfl) Try.func10 (joined_here closedFnExactLazyAlgorithm)
    (of_decide_eq_true (by kernel_rfl)) (by unfold Func.isWrapper; first | (rw [if_pos (by decide +kernel)]; kernel_rfl) | (rw [if_neg (by decide +kernel)]; exact ⟨rfl, rfl⟩))
    (fun os started H enc _ => liftedFnExactLazyAlgorithm os started H enc)

#print axioms holdsFnExactLazyAlgorithm
end Go.Proofs.Ytbclgdajgaljkaa
