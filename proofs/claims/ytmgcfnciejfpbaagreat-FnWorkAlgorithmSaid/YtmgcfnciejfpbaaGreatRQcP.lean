/- Work lists after sequences are quasi-convex: points of two configurations can always be exchanged. -/
import Derived.Test.YtmgcfnciejfpbaaGreatRGrI
namespace Go.Proofs.YtmgcfnciejfpbaaGreat
open Go.RowKit

--PURE
/-- the value of a work list at the configuration of some points -/
def qW (P : List (List Int)) (ws x : List Int) : Int := nth ws (atR P (sortL x))
theorem sort_eq {x y : List Int} (p : x.Perm y) : sortL x = sortL y := asc_uniq (sortL_asc x) (sortL_asc y) (((sortL_perm x).trans p).trans (sortL_perm y).symm)
theorem qW_perm {P : List (List Int)} {ws x y : List Int} (p : x.Perm y) : qW P ws x = qW P ws y := by rw [qW, qW, sort_eq p]
/-- the two mixes of pairs by marks -/
def mxA (t : Bool × Int × Int) : Int := if t.1 then t.2.1 else t.2.2
def mxB (t : Bool × Int × Int) : Int := if t.1 then t.2.2 else t.2.1
/-- pairs whose exchanges never raise the sum of the values -/
def QC (P : List (List Int)) (ws : List Int) (L : List (Int × Int)) : Prop := ∀ T : List (Bool × Int × Int), T.map Prod.snd = L → qW P ws (T.map mxA) + qW P ws (T.map mxB) ≤ qW P ws (L.map Prod.fst) + qW P ws (L.map Prod.snd)
theorem QC.perm {P : List (List Int)} {ws : List Int} {L K : List (Int × Int)} (h : QC P ws L) (p : L.Perm K) : QC P ws K := by
  intro T hT
  obtain ⟨T', hp, hT'⟩ := map_perm_inv Prod.snd p T hT.symm
  have h1 := h T' hT'.symm
  rw [qW_perm (hp.map mxA), qW_perm (hp.map mxB), qW_perm (p.map Prod.fst), qW_perm (p.map Prod.snd)] at h1
  exact h1
end Go.Proofs.YtmgcfnciejfpbaaGreat
