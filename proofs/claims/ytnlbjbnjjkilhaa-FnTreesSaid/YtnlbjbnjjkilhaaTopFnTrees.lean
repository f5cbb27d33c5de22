/- Several texts in one (merge.py). -/
import Derived.Test.YtnlbjbnjjkilhaaPackA
import Derived.Test.YtnlbjbnjjkilhaaCur
import Derived.Test.YtnlbjbnjjkilhaaLawTr
namespace Go.Proofs.Ytnlbjbnjjkilhaa
open Go.RowKit
open Go.ChangeShapes Go.WideShapes Go.ChangeAt Go.RowKit Go.Deep Go.Joins

theorem Try.cellsByte : Try.prog.cellsOf 5 = 1 := by kernel_rfl
theorem isBytes_of_trod {H : Type} {enc : TypeId × Value → H} {w : World} {fuel : Nat} {v : Value} {x : DataW H × List MemPlace} (h : DataW.trod enc Try.prog w 0 (fun _ => true) true fuel 22 [v] = some x) : ∃ n, IsBytes w v n := by
  rcases open_ints Try.underlying22 Try.underlying5 Try.cellsByte h with ⟨hcs, _⟩ | ⟨a, l, c, zs, hcs, _, hl, hm, hz, hx, hcell, hwz⟩
  · simp only [List.cons.injEq, and_true] at hcs
    subst hcs
    exact ⟨0, none, 0, rfl, fun j hj => by omega⟩
  · simp only [List.cons.injEq, and_true] at hcs
    subst hcs
    have hz' : zs.length = c := by simpa using hz
    refine ⟨l, some a, c, rfl, fun j hj => ?_⟩
    have hc := hcell j (by omega)
    obtain ⟨b, o, rfl⟩ := spot_of_cell (hcell 0 (by omega))
    rw [addr_add_nil] at hc
    have hmem : zs.getD j 0 ∈ zs := by
      rw [List.getD_eq_getElem?_getD, List.getElem?_eq_getElem (by omega)]
      exact List.getElem_mem _
    have hwf := hwz _ hmem
    refine ⟨b, o, zs.getD j 0, rfl, hc, ?_⟩
    simp [Lit.wf] at hwf
    have h1 : IntKind.u8.min = 0 := by decide
    have h2 : IntKind.u8.max = 255 := by decide
    rw [h1, h2] at hwf
    rw [List.getD_eq_getElem?_getD]
    omega
open Go.ChangeShapes Go.WideShapes Go.ChangeAt Go.RowKit

theorem closedFnTrees : lawFacts Try.prog 3 Try.f3 Rows.fnTreesSpec Rows.fnTreesRow = true := by kernel_rfl
set_option maxRecDepth 100000 in
theorem liftedFnTrees (os : Os) (started : os.Started) (H : Type) (enc : TypeId × Value → H) :
    ReturnsInHanded {} Try.checked os 3 .any (Rows.fnTreesSpec.pre6 enc Try.prog Try.f3 Rows.fnTreesRow.domain false) (Rows.fnTreesSpec.post enc Try.prog Try.f3 false true false false) := by
  refine returnsInHanded_of_change_sized (C := Try.checked) factOwn started (by kernel_rfl) Try.func3
    (ChangeSpec.witness6 (enc := enc) (C := Try.checked) false ⟨#[], #[.slice none 0 0], []⟩ 8 (by kernel_rfl) (by kernel_rfl) (by kernel_rfl) (by kernel_rfl)) ?_
  intro W base args ds gs before hval0 hW hcnd hsz0 _
  have hval : ∀ (j : Nat) t v, Try.f3.params[j]? = some t → args[j]? = some v → Value.okWide Try.prog W .any base t v := hval0
  have hsz : (DataW.weightsEach Try.prog (Try.f3.params.toList ++ Rows.fnTreesSpec.plain.varTypes Try.prog) (ds ++ gs)).all (· ≤ reachBytes) = true := hsz0
  have hW' := hW
  obtain ⟨p, q, hA0, hV, rfl, hfz, hnd⟩ := hW
  have hA : DataW.TrodAll enc Try.prog W 0 (fun _ => true) true Try.f3.params.toList args.toList ds p := hA0
  rw [Try.params3] at hA hval hsz
  obtain ⟨v0, vs0, d0, ds0, p0, q0, hargs, rfl, rfl, h0, r0⟩ := trodAll_cons hA
  obtain ⟨rfl, rfl, rfl⟩ := trodAll_nil r0
  obtain rfl : args = #[v0] := by cases args; simp_all
  obtain ⟨rfl, rfl⟩ := trodVars_none hV
  have k0 := h0
  have lt0 : ∀ x ∈ p0, x.block < W.heap.size := by obtain ⟨m, hm⟩ := k0; exact DataW.trod_lt m _ _ _ hm
  have hw0 := weights_of hsz (j := 0) (t := 22) (d := d0) rfl rfl
  obtain ⟨a, l, c, rfl⟩ := okWide_slice Try.underlying22 (hval 0 22 v0 rfl rfl)
  obtain ⟨x0, a0⟩ : ∃ x, IsBytes W (.slice a l c) x := by
    obtain ⟨fuel, hf⟩ := h0
    exact isBytes_of_trod hf
  clear hA0 hval0 hsz0
  refine (lawFnTrees_any a0).mono fun e W' ⟨he, hext⟩ => ?_
  subst he
  have bel := hext.below
  exact ⟨_, rfl, _, _, _, [], _, [], hW', trodAll_mk1 (shut_bool Try.underlying4 _), (trodAll_cons_mk (Below.trod factLaid (by kernel_rfl) (of_decide_eq_true (by kernel_rfl)) k0 bel lt0) trodAll_mk0), rfl, bel.frame _, fun h => by cases h⟩
theorem holdsFnTrees : Rows.FnTreesSaid :=
  OpenClaim.holds_of_wide 3 Try.f3 rfl rfl rfl rfl rfl rfl rfl ⟨rfl, rfl, rfl, rfl, rfl⟩ rfl rfl rfl rfl rfl (by kernel_rfl) Try.func3 (joined_here closedFnTrees)
    (of_decide_eq_true (by kernel_rfl)) (by unfold Func.isWrapper; first | (rw [if_pos (by decide +kernel)]; kernel_rfl) | (rw [if_neg (by decide +kernel)]; exact ⟨rfl, rfl⟩))
    (fun os started H enc _ => liftedFnTrees os started H enc)
#print axioms holdsFnTrees
end Go.Proofs.Ytnlbjbnjjkilhaa
