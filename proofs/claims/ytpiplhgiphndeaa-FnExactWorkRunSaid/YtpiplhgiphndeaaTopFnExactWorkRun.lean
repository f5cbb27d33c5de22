/- The given statement of 'laws.FnExactWorkRun', proved: for every input the law returns true, and each argument reads behind the call as it read before. -/
import Derived.Test.YtpiplhgiphndeaaFacts
import Derived.Test.YtpiplhgiphndeaaLawFnExactWorkRun
import Derived.Test.YtpiplhgiphndeaaOpenM
import Derived.Test.YtpiplhgiphndeaaOpen
namespace Go.Proofs.Ytpiplhgiphndeaa
open Go.ChangeShapes Go.WideShapes Go.ChangeAt Go.RowKit

theorem closedFnExactWorkRun : lawFacts Try.prog 5 Try.f5 Rows.fnExactWorkRunSpec Rows.fnExactWorkRunRow = true := by kernel_rfl

set_option maxRecDepth 100000 in
theorem liftedFnExactWorkRun (os : Os) (started : os.Started) (H : Type) (enc : TypeId × Value → H) :
    ReturnsInHanded {} Try.checked os 5 .any (Rows.fnExactWorkRunSpec.pre6 enc Try.prog Try.f5 Rows.fnExactWorkRunRow.domain false) (Rows.fnExactWorkRunSpec.post enc Try.prog Try.f5 false true false false) := by
  refine returnsInHanded_of_change_sized (C := Try.checked) factOwn started (by kernel_rfl) Try.func5
    (ChangeSpec.witness6 (enc := enc) (C := Try.checked) false ⟨#[], #[.agg #[.slice none 0 0], .slice none 0 0, .slice none 0 0], []⟩ 8 (by kernel_rfl) (by kernel_rfl) (by kernel_rfl) (by kernel_rfl)) ?_
  intro W base args ds gs before hval0 hW hcnd hsz0 _
  have hval : ∀ (j : Nat) t v, Try.f5.params[j]? = some t → args[j]? = some v → Value.okWide Try.prog W .any base t v := hval0
  have hsz : (DataW.weightsEach Try.prog (Try.f5.params.toList ++ Rows.fnExactWorkRunSpec.plain.varTypes Try.prog) (ds ++ gs)).all (· ≤ reachBytes) = true := hsz0
  have hW' := hW
  obtain ⟨p, q, hA0, hV, rfl, hfz, hnd⟩ := hW
  have hA : DataW.TrodAll enc Try.prog W 0 (fun _ => true) true Try.f5.params.toList args.toList ds p := hA0
  rw [Try.params5] at hA hval hsz
  obtain ⟨v0, vs0, d0, ds0, p0, q0, hargs, rfl, rfl, h0, r0⟩ := trodAll_cons hA
  obtain ⟨v1, vs1, d1, ds1, p1, q1, rfl, rfl, rfl, h1, r1⟩ := trodAll_cons r0
  obtain ⟨v2, vs2, d2, ds2, p2, q2, rfl, rfl, rfl, h2, r2⟩ := trodAll_cons r1
  obtain ⟨rfl, rfl, rfl⟩ := trodAll_nil r2
  obtain rfl : args = #[v0, v1, v2] := by cases args; simp_all
  obtain ⟨rfl, rfl⟩ := trodVars_none hV
  have k0 := h0
  have lt0 : ∀ x ∈ p0, x.block < W.heap.size := by obtain ⟨m, hm⟩ := k0; exact DataW.trod_lt m _ _ _ hm
  have hw0 := weights_of hsz (j := 0) (t := 24) (d := d0) rfl rfl
  obtain ⟨M0, a0⟩ := isMet_of_trod (hval 0 24 v0 rfl rfl) h0 hw0
  have k1 := h1
  have lt1 : ∀ x ∈ p1, x.block < W.heap.size := by obtain ⟨m, hm⟩ := k1; exact DataW.trod_lt m _ _ _ hm
  have hw1 := weights_of hsz (j := 1) (t := 25) (d := d1) rfl rfl
  obtain ⟨a, l, c, rfl⟩ := okWide_slice Try.underlying25 (hval 1 25 v1 rfl rfl)
  obtain ⟨x1, a1⟩ : ∃ x, IsInts W (.slice a l c) x := by
    obtain ⟨fuel, hf⟩ := h1
    exact isInts_of_trod hf hw1
  have k2 := h2
  have lt2 : ∀ x ∈ p2, x.block < W.heap.size := by obtain ⟨m, hm⟩ := k2; exact DataW.trod_lt m _ _ _ hm
  have hw2 := weights_of hsz (j := 2) (t := 25) (d := d2) rfl rfl
  obtain ⟨a, l, c, rfl⟩ := okWide_slice Try.underlying25 (hval 2 25 v2 rfl rfl)
  obtain ⟨x2, a2⟩ : ∃ x, IsInts W (.slice a l c) x := by
    obtain ⟨fuel, hf⟩ := h2
    exact isInts_of_trod hf hw2
  clear hA0 hval0 hsz0
  refine (lawFnExactWorkRun_any a0 a1 a2).mono fun e W' ⟨he, hext⟩ => ?_
  subst he
  have bel := hext.below
  exact ⟨_, rfl, _, _, _, [], _, [], hW', trodAll_mk1 (shut_bool Try.underlying4 _), (trodAll_cons_mk (Below.trod factLaid (by kernel_rfl) (of_decide_eq_true (by kernel_rfl)) k0 bel lt0) (trodAll_cons_mk (Below.trod factLaid (by kernel_rfl) (of_decide_eq_true (by kernel_rfl)) k1 bel lt1) (trodAll_cons_mk (Below.trod factLaid (by kernel_rfl) (of_decide_eq_true (by kernel_rfl)) k2 bel lt2) trodAll_mk0))), rfl, bel.frame _, fun h => by cases h⟩

theorem holdsFnExactWorkRun : Rows.FnExactWorkRunSaid :=
  OpenClaim.holds_of_wide 5 Try.f5 rfl rfl rfl rfl rfl rfl rfl ⟨rfl, rfl, rfl, rfl, rfl⟩ rfl rfl rfl rfl rfl (by kernel_rfl) Try.func5 (joined_here closedFnExactWorkRun)
    (of_decide_eq_true (by kernel_rfl)) (by unfold Func.isWrapper; first | (rw [if_pos (by decide +kernel)]; kernel_rfl) | (rw [if_neg (by decide +kernel)]; exact ⟨rfl, rfl⟩))
    (fun os started H enc _ => liftedFnExactWorkRun os started H enc)

#print axioms holdsFnExactWorkRun
end Go.Proofs.Ytpiplhgiphndeaa
