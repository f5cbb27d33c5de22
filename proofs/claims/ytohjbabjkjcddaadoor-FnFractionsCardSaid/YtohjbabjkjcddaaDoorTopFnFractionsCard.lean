/- Several texts in one (merge.py). -/
import Derived.Test.YtohjbabjkjcddaaDoorOpen
import Derived.Test.YtohjbabjkjcddaaDoorCur
import Derived.Test.YtohjbabjkjcddaaDoorFacts
import Derived.Test.YtohjbabjkjcddaaDoorLawFr
import Derived.Test.YtohjbabjkjcddaaDoorLaidW
import Derived.Test.YtohjbabjkjcddaaDoorTie
import Derived.Test.YtohjbabjkjcddaaDoorCards
import Derived.SevenTiedAt
namespace Go.Proofs.YtohjbabjkjcddaaDoor
open Go.RowKit
/- An argument that came in, read as bytes. -/
open Go.ChangeShapes Go.WideShapes Go.ChangeAt Go.RowKit Go.Deep Go.Joins

theorem Tryd.cellsByte : Tryd.prog.cellsOf 5 = 1 := by kernel_rfl
theorem isBytes_of_trod {H : Type} {enc : TypeId × Value → H} {w : World} {fuel : Nat} {v : Value} {x : DataW H × List MemPlace} (h : DataW.trod enc Tryd.prog w 0 (fun _ => true) true fuel 22 [v] = some x) : ∃ n, IsBytes w v n := by
  rcases open_ints Tryd.underlying22 Tryd.underlying5 Tryd.cellsByte h with ⟨hcs, _⟩ | ⟨a, l, c, zs, hcs, _, hl, hm, hz, hx, hcell, hwz⟩
  · simp only [List.cons.injEq, and_true] at hcs
    subst hcs
    exact ⟨0, none, 0, rfl, fun j hj => by omega⟩
  · simp only [List.cons.injEq, and_true] at hcs
    subst hcs
    have hz' : zs.length = c := by simpa using hz
    refine ⟨l, some a, c, rfl, fun j hj => ?_⟩
    have hc := hcell j (by omega)
    obtain ⟨b, o, rfl⟩ := spot_of_cell (hcell 0 (by omega))
    rw [addr_add_nil] at hc
    have hmem : zs.getD j 0 ∈ zs := by
      rw [List.getD_eq_getElem?_getD, List.getElem?_eq_getElem (by omega)]
      exact List.getElem_mem _
    have hwf := hwz _ hmem
    refine ⟨b, o, zs.getD j 0, rfl, hc, ?_⟩
    simp [Lit.wf] at hwf
    have h1 : IntKind.u8.min = 0 := by decide
    have h2 : IntKind.u8.max = 255 := by decide
    rw [h1, h2] at hwf
    rw [List.getD_eq_getElem?_getD]
    omega

/- The given statement of 'laws.FnFractions', proved: for every input the law returns true, and each argument reads behind the call as it read before. -/
open Go
open Go.ChangeShapes Go.WideShapes Go.ChangeAt Go.RowKit

theorem closedFnFractions : lawFacts Tryd.prog 3 Tryd.f3 Rows.fnFractionsSpec Rows.fnFractionsRow = true := by kernel_rfl

set_option maxRecDepth 100000 in
theorem liftedFnFractions (os : Os) (started : os.Started) (H : Type) (enc : TypeId × Value → H) :
    ReturnsInHanded {} Tryd.checked os 3 .any (fun w args => (Rows.fnFractionsSpec.pre enc Tryd.prog Tryd.f3 Rows.fnFractionsRow.domain false w args ∧ laidMetH Tryd.prog Rows.fnFractionsRow.laid w) ∧ sizedMet enc Tryd.prog Tryd.f3 (OpenSpec.ofChange Rows.fnFractionsSpec) false w args) (Rows.fnFractionsSpec.post enc Tryd.prog Tryd.f3 false true false false) := by
  refine returnsInHanded_laid (C := Tryd.checked) (L := Rows.fnFractionsRow.laid) factOwn started (by kernel_rfl) Tryd.func3
    (ChangeSpec.witness_shaped (enc := enc) (C := Tryd.checked) (os := os) (X := fun w _ => laidMetH Tryd.prog Rows.fnFractionsRow.laid w) false (World.laidAll Tryd.prog os Rows.fnFractionsRow.laid) #[.slice none 0 0] 8 (World.laidAll_os _ _ _)
      (World.shaped_of_ZipB (by kernel_rfl) (by kernel_rfl)) (by kernel_rfl) (by kernel_rfl) (by kernel_rfl)
      (by rw [MakeChecks.laidMetH_plain _ _ _ (by kernel_rfl)]; exact laidMet_laidAll _ (by kernel_rfl) (by kernel_rfl))) ?_
  intro W base args ds gs before hval0 hW hcnd hsz0 hL hsh _
  have hval : ∀ (j : Nat) t v, Tryd.f3.params[j]? = some t → args[j]? = some v → Value.okWide Tryd.prog W .any base t v := hval0
  have hsz : (DataW.weightsEach Tryd.prog (Tryd.f3.params.toList ++ Rows.fnFractionsSpec.plain.varTypes Tryd.prog) (ds ++ gs)).all (· ≤ reachBytes) = true := hsz0
  have hW' := hW
  obtain ⟨p, q, hA0, hV, rfl, hfz, hnd⟩ := hW
  have hA : DataW.TrodAll enc Tryd.prog W 0 (fun _ => true) true Tryd.f3.params.toList args.toList ds p := hA0
  rw [Tryd.params3] at hA hval hsz
  obtain ⟨v0, vs0, d0, ds0, p0, q0, hargs, rfl, rfl, h0, r0⟩ := trodAll_cons hA
  obtain ⟨rfl, rfl, rfl⟩ := trodAll_nil r0
  obtain rfl : args = #[v0] := by cases args; simp_all
  obtain ⟨rfl, rfl⟩ := trodVars_none hV
  have k0 := h0
  have lt0 : ∀ x ∈ p0, x.block < W.heap.size := by obtain ⟨m, hm⟩ := k0; exact DataW.trod_lt m _ _ _ hm
  have hw0 := weights_of hsz (j := 0) (t := 22) (d := d0) rfl rfl
  obtain ⟨a, l, c, rfl⟩ := okWide_slice Tryd.underlying22 (hval 0 22 v0 rfl rfl)
  obtain ⟨x0, a0⟩ : ∃ x, IsBytes W (.slice a l c) x := by
    obtain ⟨fuel, hf⟩ := h0
    exact isBytes_of_trod hf
  clear hA0 hval0 hsz0
  rw [MakeChecks.laidMetH_plain _ _ _ (by kernel_rfl)] at hL
  have ftens : Tens W := tens_of_laid hL
  have ferrs : Errs W := errs_of_laid hL
  have fmost : Most W := most_of_shape hsh
  refine (lawFnFractions_any a0 ftens ferrs fmost).mono fun e W' ⟨he, hext⟩ => ?_
  subst he
  have bel := hext.below
  exact ⟨_, rfl, _, _, _, [], _, [], hW', trodAll_mk1 (shut_bool Tryd.underlying4 _), (trodAll_cons_mk (Below.trod factLaid (by kernel_rfl) (of_decide_eq_true (by kernel_rfl)) k0 bel lt0) trodAll_mk0), rfl, bel.frame _, fun h => by cases h⟩

theorem holdsFnFractions : Rows.FnFractionsSaid :=
  OpenClaim.holds_of_wide 3 Tryd.f3 rfl rfl rfl rfl rfl rfl rfl ⟨rfl, rfl, rfl, rfl, rfl⟩ rfl rfl rfl rfl rfl (by kernel_rfl) Tryd.func3 (joined_here closedFnFractions)
    (of_decide_eq_true (by kernel_rfl)) (by unfold Func.isWrapper; first | (rw [if_pos (by decide +kernel)]; kernel_rfl) | (rw [if_neg (by decide +kernel)]; exact ⟨rfl, rfl⟩))
    (fun os started H enc _ => liftedFnFractions os started H enc)

set_option maxRecDepth 100000 in
theorem holdsFnFractionsCard : Rows.FnFractionsCardSaid :=
  Claim7.holds_tied_plain_at .later [] [.data, .data, .data, .sentinel, .sentinel] true (true, "0f9bc968c404f0b3537f8f540f1a442fedd105f8e7bf917e88360ccebb400982") true
    holdsFnFractions (fun _ h => by cases h) (by kernel_rfl) (fun _ h => by cases h) fnFractions_row_tie rfl ⟨rfl, rfl⟩ (by kernel_rfl) rfl
    (fun f fn hf hfn => by
      obtain rfl : f = 3 := Option.some.inj ((show Tryd.prog.funcNamed "loop.example/g01087/laws.FnFractions" = some 3 by kernel_rfl).symm.trans hf) |>.symm
      obtain rfl : fn = Tryd.f3 := (Option.some.inj (Tryd.func3.symm.trans hfn)).symm
      exact ⟨by kernel_rfl, fun j t ht => by
        rw [Tryd.params3] at ht
        have hm : t ∈ [22] := by simpa using Array.mem_of_getElem? ht
        have hall : ([22].all fun u => !Tryd.prog.wantsStandIn u) = true := by kernel_rfl
        exact (show Tryd.prog.wantsStandIn t = false by simpa using List.all_eq_true.1 hall t hm)⟩)
    (by kernel_rfl)

#print axioms holdsFnFractionsCard

end Go.Proofs.YtohjbabjkjcddaaDoor
