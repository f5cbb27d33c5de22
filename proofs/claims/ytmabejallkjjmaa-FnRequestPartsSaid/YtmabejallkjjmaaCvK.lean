/- How often each page is requested: the program's. -/
import Derived.Test.YtmabejallkjjmaaCvO
namespace Go.Proofs.Ytmabejallkjjmaa
open Go.RowKit

def cnL (n : Nat) (X : List Int) (t : Nat) : List Int := (List.range n).map fun (p : Nat) => ((X.take t).count (p : Int) : Int)
theorem cnL_len (n : Nat) (X : List Int) (t : Nat) : (cnL n X t).length = n := by simp [cnL]
theorem cnL_at {n : Nat} {X : List Int} {t p : Nat} (h : p < n) : nth (cnL n X t) p = ((X.take t).count (p : Int) : Int) := by simp [cnL, nth, h]
theorem cnL_zero (n : Nat) (X : List Int) : cnL n X 0 = List.replicate n 0 := by
  apply List.ext_getElem
  · simp [cnL]
  · intro i h1 h2
    simp [cnL]
theorem cnL_step {n : Nat} {X : List Int} {t q : Nat} (ht : t < X.length) (hq : nth X t = q) (_hqn : q < n) : (cnL n X t).set q (nth (cnL n X t) q + 1) = cnL n X (t + 1) := by
  have e1 : X[t] = (q : Int) := by rw [← hq]; simp [nth, ht]
  apply List.ext_getElem
  · simp [cnL]
  · intro i h1 h2
    have hi : i < n := by simpa [cnL] using h2
    rw [List.getElem_set]
    have e2 : X.take (t + 1) = X.take t ++ [(q : Int)] := by rw [List.take_add_one, List.getElem?_eq_getElem ht, e1]; rfl
    have e3 : (cnL n X (t + 1))[i] = ((X.take (t + 1)).count (i : Int) : Int) := by simp [cnL]
    have e4 : ∀ h, (cnL n X t)[i]'h = ((X.take t).count (i : Int) : Int) := fun h => by simp [cnL]
    rw [e3, e2, List.count_append]
    by_cases e : q = i
    · subst e
      rw [if_pos rfl, cnL_at hi]
      simp
    · have h5 : List.count (i : Int) [(q : Int)] = 0 := List.count_eq_zero.2 (by simp; omega)
      rw [if_neg e, e4, h5]
      simp
theorem cnL_bd {n : Nat} {X : List Int} {t p : Nat} (hp : p < n) : 0 ≤ nth (cnL n X t) p ∧ nth (cnL n X t) p ≤ X.length := by
  rw [cnL_at hp]
  have h1 := List.count_le_length (a := (p : Int)) (l := X.take t)
  have h2 : (X.take t).length ≤ X.length := by rw [List.length_take]; omega
  omega
def cnR (n : Int) (X : List Int) : List Int := if seqOk n X then cnL n.toNat X X.length else []

set_option maxHeartbeats 800000 in
set_option maxRecDepth 100000 in
theorem implCn_any {vX : Value} {n : Int} {X : List Int} {w0 w : World} [Ext w0 w] (hX : IsInts w0 vX X) (_hn : -100 ≤ n ∧ n ≤ 100) :
    Calls Try.prog 20 #[.int .i64 n, vX] w fun e w' => ∃ u, e = .returned (.tuple #[u, .bool (seqOk n X)]) ∧ IsInts w' u (cnR n X) ∧ Ext w w' := by
  have hX' := hX
  obtain ⟨dx, mx, rfl, lx⟩ := hX.form
  cases hp : seqOk n X with
  | false =>
    have hv := hid (show cnR n X = [] by rw [cnR, hp]; rfl)
    have hp' := hid (show (inB n 1 8 && (decide (X.length ≤ 60) && belowB n X)) = false from hp)
    replace hp := hid hp
    go_enter Try.func20, Try.ntmps20
    go_wp2_with fail
    with_reducible refine (implRequests_any (w0 := w0) hX').mono ?_
    rw [hp'.out]
    rintro e w2 ⟨rfl, e2⟩
    go_wp2_with fail
    go_ret2
    rw [hv.out]
    exact ⟨_, rfl, ints_nil _ _ _, e2⟩
  | true =>
    have hp' := hid (show (inB n 1 8 && (decide (X.length ≤ 60) && belowB n X)) = true from hp)
    obtain ⟨hn2, hl, hpg⟩ := seqOk_in hp
    obtain ⟨n', rfl⟩ := Int.eq_ofNat_of_zero_le (show 0 ≤ n by omega)
    rw [Int.toNat_natCast] at hpg
    have hv := hid (show cnR n' X = cnL n' X X.length by rw [cnR, hp]; rfl)
    replace hp := hid hp
    replace hpg := hid hpg
    go_enter Try.func20, Try.ntmps20
    go_wp2_with fail
    with_reducible refine (implRequests_any (w0 := w0) hX').mono ?_
    rw [hp'.out]
    rintro e w2 ⟨rfl, e2⟩
    go_upto_region 4 with (at_make; refine wpList_makeOwn rfl _ _ _ rfl elemInt n' rfl rfl (by omega) (by omega) rfl ?_; intro hown)
    have own1 : Own (w2.alloc (.cells (Array.replicate n' (.int .i64 0)) 3)) w2.heap.size [⟨3, 1, .slice (some ⟨w2.heap.size, 0, none⟩) n' n', n', (cnL n' X 0).map (Value.int .i64)⟩] := by
      rw [cnL_zero, List.map_replicate]
      exact hown
    have e3 : Ext w2 (w2.alloc (.cells (Array.replicate n' (.int .i64 0)) 3)) := inferInstance
    obtain ⟨B, hB⟩ : ∃ b, b = w2.heap.size := ⟨_, rfl⟩
    rw [← hB] at own1 ⊢
    have b1 : Below B w2 (w2.alloc (.cells (Array.replicate n' (.int .i64 0)) 3)) := by rw [hB]; exact e3.below
    have hEx := hid (show ∀ u, Below B w2 u → Ext w2 u from fun u h => ⟨by rw [← hB]; exact h⟩)
    replace hB := hid hB
    clear hown e3
    generalize w2.alloc (.cells (Array.replicate n' (.int .i64 0)) 3) = w3 at *
    go_wp2_with fail
    go_loopw [8, 17] (fun _ iv wr => ∃ t : Nat, t ≤ X.length ∧ iv = .int .i64 t ∧ Own wr B [⟨3, 1, .slice (some ⟨B, 0, none⟩) n' n', n', (cnL n' X t).map (Value.int .i64)⟩] ∧ Below B w2 wr) (fun _ iv _ => X.length - (intOf iv).toNat)
    case atStart => exact ⟨0, by omega, rfl, own1, b1⟩
    case round =>
      clear own1 b1
      obtain ⟨t, ht, rfl, own, hb⟩ := hrel
      obtain ⟨wo, rfl⟩ : ∃ y : World, y = wr := ⟨_, rfl⟩
      have eo : Ext w2 wo := hEx.out _ hb
      have e0 : Ext w0 wo := Ext.trans ‹Ext w0 w› (Ext.trans e2 eo)
      by_cases hlt : t < X.length
      · obtain ⟨bx, ox, hdx, hcx⟩ := hX'.at (w' := wo) hlt
        cases hdx
        have hx2 := hpg.out t hlt
        obtain ⟨q, hq⟩ : ∃ q : Nat, nth X t = q := ⟨(nth X t).toNat, by omega⟩
        rw [hq] at hcx hx2
        have hqn : q < n' := by omega
        have hcq : wo.cell? ⟨B, q, none⟩ = some (.int .i64 (nth (cnL n' X t) q)) := by
          rw [own.cellAt (w' := wo) hqn]
          simp [nth, cnL_len, hqn]
        have hfq := own.frozenAt q
        have own2 := own.set q (.int .i64 (nth (cnL n' X t) q + 1))
        rw [← List.map_set, cnL_step hlt hq hqn] at own2
        have b2 : Below B w2 (wo.setCell ⟨B, q, none⟩ (.int .i64 (nth (cnL n' X t) q + 1))) := hb.setCell own.lt.1 _
        have hbd := cnL_bd (n := n') (X := X) (t := t) hqn
        obtain ⟨z, hz⟩ : ∃ z, z = nth (cnL n' X t) q := ⟨_, rfl⟩
        rw [← hz] at hcq own2 b2 hbd
        replace hz := hid hz
        replace hq := hid hq
        clear own
        go_wp2_with fail
        go_roundw
        case rel => exact ⟨t + 1, by omega, by go_num, own2, b2⟩
        case measure => simp [intOf]; omega
      · have htl : t = X.length := by omega
        rw [htl] at own
        have hlL := hid (cnL_len n' X X.length)
        have hrd : IsInts wo (.slice (some ⟨B, 0, none⟩) n' n') (cnL n' X X.length) := own.readsN (e := 3) hlL.out (by omega) (fun y hy => by
          obtain ⟨j, hj, rfl⟩ := mem_iff_nth.1 hy
          rw [hlL.out] at hj
          have := cnL_bd (n := n') (X := X) (t := X.length) hj
          unfold I64; omega)
        have htl' := hid htl
        clear htl own
        go_wp2_with fail
        go_ret2
        rw [hv.out]
        exact ⟨_, rfl, hrd, Ext.trans e2 eo⟩
/-- how many of the first i pages are requested -/
def dfTo (X : List Int) (i : Nat) : Nat := ((List.range i).filter fun (p : Nat) => decide ((p : Int) ∈ X)).length
theorem dfTo_succ (X : List Int) (i : Nat) : dfTo X (i + 1) = dfTo X i + if (i : Int) ∈ X then 1 else 0 := by
  unfold dfTo
  rw [List.range_succ, List.filter_append, List.length_append]
  by_cases h : (i : Int) ∈ X <;> simp [h]
theorem dfTo_le (X : List Int) : ∀ i, dfTo X i ≤ i
  | 0 => by simp [dfTo]
  | i + 1 => by
    have := dfTo_le X i
    rw [dfTo_succ]
    split <;> omega
theorem sasc_range (X : List Int) : ∀ n, SAsc (((List.range n).filter fun (p : Nat) => decide ((p : Int) ∈ X)).map fun (p : Nat) => (p : Int))
  | 0 => by simp [SAsc]
  | n + 1 => by
    rw [List.range_succ, List.filter_append, List.map_append]
    unfold SAsc
    rw [List.pairwise_append]
    refine ⟨sasc_range X n, by by_cases h : (n : Int) ∈ X <;> simp [h], fun a ha b hb => ?_⟩
    obtain ⟨p, hp, rfl⟩ := List.mem_map.1 ha
    obtain ⟨r, hr, rfl⟩ := List.mem_map.1 hb
    have h1 := List.mem_range.1 (List.mem_filter.1 hp).1
    have h2 := List.mem_singleton.1 (List.mem_filter.1 hr).1
    omega
theorem dfTo_all {n : Nat} {X : List Int} (h : pagesB n X) : dfTo X n = (difL X).length := by
  have he : (((List.range n).filter fun (p : Nat) => decide ((p : Int) ∈ X)).map fun (p : Nat) => (p : Int)) = difL X := by
    refine sasc_uniq (sasc_range X n) (difL_sasc X) fun y => ?_
    rw [mem_difL]
    constructor
    · intro hy
      obtain ⟨p, hp, rfl⟩ := List.mem_map.1 hy
      exact of_decide_eq_true (List.mem_filter.1 hp).2
    · intro hy
      obtain ⟨j, hj, e⟩ := mem_iff_nth.1 hy
      have hb := h j hj
      rw [e] at hb
      exact List.mem_map.2 ⟨y.toNat, List.mem_filter.2 ⟨List.mem_range.2 (by omega), by simp; rw [show max y 0 = y by omega]; exact hy⟩, by omega⟩
  rw [← he, List.length_map]
  rfl
end Go.Proofs.Ytmabejallkjjmaa
