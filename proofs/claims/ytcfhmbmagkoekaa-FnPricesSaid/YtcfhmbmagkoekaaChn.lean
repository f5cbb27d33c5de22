/- The cost of a chain list: both sides. -/
import Derived.Test.YtcfhmbmagkoekaaChP
import Derived.Test.YtcfhmbmagkoekaaFlo
import Derived.Test.YtcfhmbmagkoekaaRis
import Derived.Test.YtcfhmbmagkoekaaGrF
import Derived.Test.YtcfhmbmagkoekaaSrs
import Derived.Test.YtcfhmbmagkoekaaGrI
namespace Go.Proofs.Ytcfhmbmagkoekaa
open Go.RowKit

/-- what the first t of a chain list cost -/
def ccTo (M : List (List Int)) (a X b : List Int) (t : Nat) : Int := sgTo (fun i => flC M a X i (nth b i).toNat) t
def ccOk (M : List (List Int)) (a X b : List Int) : Bool := srvB M a X && chnB a.length X b
def ccR (M : List (List Int)) (a X b : List Int) : Int := if ccOk M a X b then ccTo M a X b X.length else 0
theorem srv_pts {M : List (List Int)} {a X : List Int} (h : srvB M a X = true) : metB M = true ∧ (1 ≤ a.length ∧ a.length ≤ 3) ∧ (∀ x ∈ a, 0 ≤ x ∧ x < (M.length : Int)) ∧ (∀ x ∈ X, 0 ≤ x ∧ x < (M.length : Int)) ∧ X.length ≤ 60 := by
  obtain ⟨h1, h2, h3, h4⟩ := srvB_iff.1 h
  obtain ⟨hd, hk, hc, hX, hl⟩ := srv_all h
  obtain ⟨_, hp⟩ := conf_pts hc
  exact ⟨h1, hk, hp, fun x hx => by
    obtain ⟨j, hj, rfl⟩ := mem_iff_nth.1 hx
    exact hX j hj, hl⟩

theorem ccTo_bd {M : List (List Int)} {a X b : List Int} (hs : srvB M a X = true) (hc : chnB a.length X b = true) : ∀ {t : Nat}, t ≤ X.length → 0 ≤ ccTo M a X b t ∧ ccTo M a X b t ≤ 99 * (t : Int)
  | 0, _ => by simp [ccTo, sgTo]
  | t + 1, ht => by
    have ih := ccTo_bd hs hc (t := t) (by omega)
    obtain ⟨h1, _, h3, h4, _⟩ := srv_pts hs
    obtain ⟨c1, _, c3⟩ := chn_iff.1 hc
    have hb := c3 t (by omega)
    have := flC_bd h1 h3 h4 (i := t) (k := (nth b t).toNat) (by omega) (by omega)
    simp only [ccTo, sgTo] at ih ⊢
    have h2 := this.2.1 (by omega)
    omega
theorem flRow_at {M : List (List Int)} {a X : List Int} {i k : Nat} (hk : k < a.length + X.length) : nth (flRow M a X i) k = flC M a X i k := by
  simp [flRow, nth, hk]

end Go.Proofs.Ytcfhmbmagkoekaa
