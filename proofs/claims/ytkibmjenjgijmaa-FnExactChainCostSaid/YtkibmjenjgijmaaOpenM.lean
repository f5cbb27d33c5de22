/- A metric as an argument. -/
import Derived.Test.YtkibmjenjgijmaaOpen
import Derived.Test.YtkibmjenjgijmaaLawM
namespace Go.Proofs.Ytkibmjenjgijmaa
open Go.ChangeShapes Go.WideShapes Go.ChangeAt Go.RowKit Go.Deep Go.Joins
section
variable {H : Type} {enc : TypeId × Value → H} {w : World}
theorem open_agg1 {P : Program} {base : Nat} {spare : Nat → Bool} {held : Bool} {r : Reach} {b0 : Nat} {t : TypeId} {f0 : Field} {v : Value} {d : DataW H} {p : List MemPlace} (hs : P.underlying t = some (.struct #[f0])) (hone : oneCellFields P #[f0] = true) (hC : P.cellsOf t = 1)
    (hv : Value.okWide P w r b0 t v) (h : DataW.Trod enc P w base spare held t v d p) :
    ∃ (v0 : Value) (y0 : DataW H × List MemPlace) (n : Nat), v = .agg #[v0] ∧ d = .agg [y0.1] ∧ p = y0.2 ∧ DataW.trod enc P w base spare held n f0.type [v0] = some y0 := by
  obtain ⟨cs, rfl, hsz⟩ := okWide_struct hs hv
  obtain ⟨c0, rfl⟩ : ∃ c0, cs = #[c0] := by
    obtain ⟨l⟩ := cs
    match l, hsz.trans hC with
    | [c0], _ => exact ⟨c0, rfl⟩
  obtain ⟨fuel, hf⟩ := h
  obtain ⟨xs, n, _, hx, hl, hlen, hf⟩ := DataW.trod_struct hs hf
  obtain ⟨o0, k0⟩ := hone_of hone 0 f0 rfl
  match xs, hlen with
  | [y0], _ =>
    simp only [Prod.mk.injEq] at hx
    have h0 := hf 0 f0 rfl
    exact ⟨c0, y0, n, rfl, by simpa using hx.1, by simpa using hx.2, by simpa [Value.cells, o0, k0] using h0⟩

set_option maxRecDepth 100000 in
theorem isMet_of_trod {r : Reach} {b0 : Nat} {v : Value} {d : DataW H} {p : List MemPlace} (hv : Value.okWide Try.prog w r b0 41 v) (h : DataW.Trod enc Try.prog w 0 (fun _ => true) true 41 v d p)
    (hw : ∀ n ∈ d.weights Try.prog 41, n ≤ reachBytes) : ∃ M, IsMet w v M := by
  obtain ⟨c0, y0, m, rfl, rfl, rfl, hy0⟩ := open_agg1 Try.underlying41 (by kernel_rfl) (by kernel_rfl) hv h
  simp only [DataW.weights, Try.underlying41, DataW.weightsEach, List.map_cons, List.map_nil, List.mem_append] at hw
  obtain ⟨M, hM⟩ := isRows_of_trod hy0 (fun n hn => hw n (.inl hn))
  exact ⟨M, c0, rfl, hM⟩
end
end Go.Proofs.Ytkibmjenjgijmaa
