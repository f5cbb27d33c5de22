/- The marks that a law lays into what it owns, and their reading. -/
import Derived.Test.YtohjbabjkjcddaaReads
namespace Go.Proofs.Ytohjbabjkjcddaa
open Go.RowKit

theorem Ext.mark {a b c : World} (h : Ext a b) (k : Below a.heap.size b c) : Ext a c := ⟨h.below.trans k⟩
theorem Own.add {w u w' : World} {B : Nat} {R S : List Row} (hn : Own w' u.heap.size S) (h : Own w B R) [e : Ext w u] (e' : Ext u w') (hB : B ≤ w.heap.size) : Own w' B (S ++ R) :=
  Own.join (h.ext (w' := u)) hn (hB := Nat.le_trans hB e.size)
theorem Own.rot {w : World} {B : Nat} {A L : List Row} (h : Own w B (A ++ L)) : Own w B (L ++ A) := h.swap
theorem Own.nilr {w : World} {B : Nat} {A : List Row} (h : Own w B A) : Own w B (A ++ []) := by rw [List.append_nil]; exact h
theorem Own.one {w : World} {B : Nat} {r : Row} {L : List Row} (h : Own w B ([r] ++ L)) : Own w B (r :: L) := h
theorem Own.eno {w : World} {B : Nat} {r : Row} {L : List Row} (h : Own w B (r :: L)) : Own w B ([r] ++ L) := h
theorem Own.readsAll2 {w w0 : World} {B e1 e2 : Nat} {u v0 : Value} {vs : List Value} {M : List (List Int)} {R : List Row} (h : Own w B (rowsOf e1 e2 u vs M ++ R)) (hl : vs.length = M.length) (h0 : IsRows w0 v0 M) : IsRows w u M :=
  h.readsAll hl h0.all.1 h0.all.2.1 h0.all.2.2

theorem iota_i64 {k : Int} {n : Nat} (h0 : 0 ≤ k) (h1 : k + n ≤ 17592186044415) : ∀ x ∈ iota k n, I64 x := by
  intro x hx
  obtain ⟨i, hi, rfl⟩ := List.mem_map.1 hx
  have := List.mem_range.1 hi
  unfold I64
  omega
theorem heldK_iota {k : Int} {n : Nat} : heldK (iota k n) k = k + n := by rw [heldK, iota_length, if_pos rfl]
theorem Own.readsIota {w : World} {B e : Nat} {v : Value} {k : Int} {n : Nat} {R : List Row} (h : Own w B (intRowOf e v (iota k n) :: R)) (h0 : 0 ≤ k) (hk : k ≤ 4000000) (hn : n ≤ 4000000) : IsInts w v (iota k n) :=
  h.reads (by rw [iota_length]; unfold Short; omega) (iota_i64 h0 (by omega))

theorem sumLen_take_mark : ∀ (M : List (List Int)) (k : Int) (n : Nat), sumLen ((markR M k).take n) = sumLen (M.take n)
  | [], _, _ => rfl
  | _ :: _, _, 0 => rfl
  | r :: M, k, n + 1 => by
    simp only [markR, List.take_succ_cons, sumLen, iota_length]
    rw [sumLen_take_mark M _ n]
theorem markR_idem (M : List (List Int)) (k : Int) : markR (markR M k) k = markR M k := by
  refine eq_of_row (by simp [markR_length]) fun j hj => ?_
  rw [markR_length, markR_length] at hj
  rw [markR_row (by rw [markR_length]; exact hj), markR_row hj, iota_length, sumLen_take_mark]
theorem heldR_mark {M : List (List Int)} {k : Int} : heldR (markR M k) k = k + sumLen M := by rw [heldR, if_pos (markR_idem M k).symm, markR_sumLen]
theorem Own.readsMark {w : World} {B e1 e2 : Nat} {v : Value} {vs : List Value} {M : List (List Int)} {k : Int} {R : List Row} (h : Own w B (rowsOf e1 e2 v vs (markR M k) ++ R)) (hl : vs.length = M.length) (h0 : 0 ≤ k) (hk : k ≤ 4000000) (hm : M.length ≤ 4000000) (hs : sumLen M ≤ 4000000) : IsRows w v (markR M k) := by
  have hr : ∀ r ∈ markR M k, Short r.length ∧ ∀ x ∈ r, I64 x := by
    intro r hr
    obtain ⟨j, hj, rfl⟩ := mem_iff_row.1 hr
    rw [markR_length] at hj
    have h1 := sumLen_row_le hj
    have h2 := sumLen_take_le M j
    rw [markR_row hj, iota_length]
    exact ⟨by unfold Short; omega, iota_i64 (by omega) (by omega)⟩
  exact h.readsAll (by rw [hl, markR_length]) (by rw [markR_length]; unfold ShortRows; omega) (fun r h => (hr r h).1) (fun r h => (hr r h).2)

theorem sumLen_le {n : Nat} : ∀ {l : List (List Int)}, (∀ x ∈ l, x.length ≤ n) → sumLen l ≤ l.length * n
  | [], _ => by simp [sumLen]
  | x :: l, h => by
    have h1 := h x (by simp)
    have h2 := sumLen_le (l := l) (fun y hy => h y (by simp [hy]))
    simp only [sumLen, List.length_cons, Nat.add_mul, Nat.one_mul]
    omega


end Go.Proofs.Ytohjbabjkjcddaa
