/- The run of double coverage, in plain words. -/
import Derived.Test.YtohjbabjkjcddaaDcP
namespace Go.Proofs.Ytohjbabjkjcddaa
open Go.RowKit

def dcA (a X : List Int) : Nat → List Int
  | 0 => a
  | q + 1 => covL (dcA a X q) (nth X q)
def dcS (a X : List Int) : Nat → Int
  | 0 => 0
  | q + 1 => dcS a X q + apL (dcA a X q) (dcA a X (q + 1))
def dcT (a X : List Int) : Nat → List (List Int)
  | 0 => []
  | q + 1 => dcT a X q ++ [dcA a X (q + 1)]
theorem dcT_len (a X : List Int) : ∀ q, (dcT a X q).length = q
  | 0 => rfl
  | q + 1 => by
    show (dcT a X q ++ [dcA a X (q + 1)]).length = q + 1
    rw [List.length_append, dcT_len a X q]; rfl
theorem dcA_cons (a : List Int) (r : Int) (X : List Int) : ∀ q, dcA a (r :: X) (q + 1) = dcA (covL a r) X q
  | 0 => rfl
  | q + 1 => by
    show covL (dcA a (r :: X) (q + 1)) (nth X q) = covL (dcA (covL a r) X q) (nth X q)
    rw [dcA_cons a r X q]
theorem dcS_cons (a : List Int) (r : Int) (X : List Int) : ∀ q, dcS a (r :: X) (q + 1) = apL a (covL a r) + dcS (covL a r) X q
  | 0 => by
    show 0 + apL a (covL a r) = apL a (covL a r) + 0
    omega
  | q + 1 => by
    show dcS a (r :: X) (q + 1) + apL (dcA a (r :: X) (q + 1)) (dcA a (r :: X) (q + 2)) = apL a (covL a r) + (dcS (covL a r) X q + apL (dcA (covL a r) X q) (dcA (covL a r) X (q + 1)))
    rw [dcS_cons a r X q, dcA_cons, dcA_cons]
    omega
theorem dcS_all : ∀ (X a : List Int), dcS a X X.length = dcC X a
  | [], _ => rfl
  | r :: X, a => by
    show dcS a (r :: X) (X.length + 1) = _
    rw [dcS_cons, dcS_all X]
    rfl
end Go.Proofs.Ytohjbabjkjcddaa
