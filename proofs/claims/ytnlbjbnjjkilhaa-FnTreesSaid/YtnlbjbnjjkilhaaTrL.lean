/- What the law of trees asks, in plain words. -/
import Derived.Test.YtnlbjbnjjkilhaaTrD
import Derived.Test.YtnlbjbnjjkilhaaTsD
import Derived.Test.YtnlbjbnjjkilhaaTjB
namespace Go.Proofs.Ytnlbjbnjjkilhaa
open Go.RowKit

theorem tmB_parts {P L : List Int} (h : tmB P L = true) : P.length ≤ 5 ∧ L.length = P.length ∧ (∀ i, i < P.length → edOk P L i) ∧ metB (tmT P L) = true := by
  unfold tmB tmOk at h
  simp only [Bool.and_eq_true, decide_eq_true_eq] at h
  exact ⟨h.1.1.1, h.1.1.2, h.1.2, h.2⟩
theorem tmT_cell {P L : List Int} {x y : Nat} (hx : x < P.length + 1) (hy : y < P.length + 1) : cell (tmT P L) x y = trD (paL P) (leL L) (P.length + 1) x y := trT_at hx hy
theorem tmT_len {P L : List Int} : (tmT P L).length = P.length + 1 := trT_len
/-- metrics of trees are like trees -/
theorem tl_four {P L : List Int} (h : tmB P L = true) : Four (tmM P L) := by
  obtain ⟨h1, h2, h3, _⟩ := tmB_parts h
  rw [tm_on h]
  intro x y z u hx hy hz hu
  rw [tmT_len] at hx hy hz hu
  rw [tmT_cell hx hy, tmT_cell hz hu, tmT_cell hx hz, tmT_cell hy hu, tmT_cell hx hu, tmT_cell hy hz]
  exact trD_four (tm_tr h2 h3).1 x y z u hx hy hz hu
theorem tl_met {P L : List Int} (h : tmB P L = true) : metB (tmM P L) = true := by
  rw [tm_on h]; exact (tmB_parts h).2.2.2
theorem tl_small {P L : List Int} (h : tmB P L = true) : L.length ≤ 5 ∧ ∀ i, i < L.length → 1 ≤ nth L i ∧ nth L i ≤ 99 := by
  obtain ⟨h1, h2, h3, _⟩ := tmB_parts h
  refine ⟨by omega, fun i hi => ?_⟩
  have := h3 i (by omega)
  unfold edOk at this
  omega
/-- the sum of the first lengths -/
def suL (L : List Int) (i : Nat) : Int := ((List.range i).map fun j => nth L j).sum
theorem suL_zero {L : List Int} : suL L 0 = 0 := rfl
theorem suL_succ {L : List Int} {i : Nat} : suL L (i + 1) = suL L i + nth L i := by
  unfold suL
  rw [List.range_succ, List.map_append]
  have : ∀ (l : List Int) (x : Int), (l ++ [x]).sum = l.sum + x := by
    intro l x
    induction l with
    | nil => simp
    | cons y l ih => rw [List.cons_append, List.sum_cons, List.sum_cons, ih]; omega
  exact this _ _
theorem suL_le {P L : List Int} (h : tmB P L = true) : ∀ i, i ≤ L.length → 0 ≤ suL L i ∧ suL L i ≤ 99 * i
  | 0, _ => by rw [suL_zero]; omega
  | i + 1, hi => by
    have h1 := suL_le h i (by omega)
    have h2 := (tl_small h).2 i (by omega)
    rw [suL_succ]
    omega
/-- the spanning tree of the distances of a tree costs what the tree costs -/
theorem tl_sum {P L : List Int} (h : tmB P L = true) {T : List (Nat × Nat)} {s : Int} (hs : StOk (tmM P L) T s) : s = suL L L.length := by
  unfold StOk at hs
  rw [if_pos (tl_met h)] at hs
  obtain ⟨hk, rfl⟩ := hs
  rw [tm_on h] at hk ⊢
  obtain ⟨h1, h2, h3, h4⟩ := tmB_parts h
  have hS := met_srt h4
  rw [tmT_len] at hS hk
  have hlt := hS.lt
  have hS2 : Srt (edL (cell (tmT P L)) (P.length + 1)) (P.length + 1) (trD (paL P) (leL L) (P.length + 1)) := ⟨hS.all, fun A B hE a b ha hb => by
    have qa := hlt a (by rw [hE]; exact List.mem_append_left _ ha)
    have qb := hlt b (by rw [hE]; exact List.mem_append_right _ hb)
    rw [← tmT_cell qa.1 qa.2, ← tmT_cell qb.1 qb.2]
    exact hS.asc A B hE a b ha hb⟩
  have hT := tm_tr h2 h3
  have hd : ∀ u v, u < P.length + 1 → v < P.length + 1 → trD (paL P) (leL L) (P.length + 1) u v ≤ ((99 : Nat) : Int) := by
    intro u v hu hv
    rw [← tmT_cell hu hv]
    exact ((dst_of_met h4).pos u v (by rw [tmT_len]; exact hu) (by rw [tmT_len]; exact hv)).2
  have hkt := kr_tree hT.1 (by omega) hS2 hk hd
  have e1 : smT (cell (tmT P L)) T = (T.map fun e => trD (paL P) (leL L) (P.length + 1) e.1 e.2).sum := by
    unfold smT
    congr 1
    refine List.map_congr_left fun e he => ?_
    have q := hlt e (hk.sub e he)
    exact tmT_cell q.1 q.2
  rw [e1, hkt, h2]
  rfl
/-- what is like a line is like a tree -/
theorem ll_four {M : List (List Int)} {p : Nat → Int} (h : ∀ x y, x < M.length → y < M.length → cell M x y = max (p x - p y) (p y - p x)) : Four M := by
  intro x y z u hx hy hz hu
  rw [h x y hx hy, h z u hz hu, h x z hx hz, h y u hy hu, h x u hx hu, h y z hy hz]
  exact line_four p x y z u
theorem cell_symm {M : List (List Int)} (hM : metB M = true) (u v : Nat) : cell M u v = cell M v u := by
  by_cases hu : u < M.length
  · by_cases hv : v < M.length
    · exact (dst_of_met hM).symm u v hu hv
    · have e1 : cell M u v = 0 := by
        unfold cell
        have := tr_row hM hu
        simp [nth, this, hv]
      have e2 : cell M v u = 0 := by
        unfold cell
        simp [nth, row, hv]
      rw [e1, e2]
  · by_cases hv : v < M.length
    · have e1 : cell M v u = 0 := by
        unfold cell
        have := tr_row hM hv
        simp [nth, this, hu]
      have e2 : cell M u v = 0 := by
        unfold cell
        simp [nth, row, hu]
      rw [e1, e2]
    · have e1 : cell M v u = 0 := by
        unfold cell
        simp [nth, row, hv]
      have e2 : cell M u v = 0 := by
        unfold cell
        simp [nth, row, hu]
      rw [e1, e2]
/-- the spanning tree costs the least that cuts allow -/
theorem ct_law {M : List (List Int)} {T : List (Nat × Nat)} {s : Int} {C : List (List Int)} (hM : metB M = true) (hs : StOk M T s) (hC : CtOk M C) :
    T.length + 1 = M.length ∧ C.length = T.length ∧ (∀ e, e ∈ T → e.1 < M.length ∧ e.2 < M.length) ∧
      ∀ (i : Nat) (e : Nat × Nat) (x y : Nat), T[i]? = some e → x < M.length → y < M.length → (x : Int) ∈ row C i → (y : Int) ∉ row C i → cell M e.1 e.2 ≤ cell M x y := by
  unfold StOk at hs
  unfold CtOk at hC
  rw [if_pos hM] at hs hC
  obtain ⟨hk, _⟩ := hs
  obtain ⟨T', hk', hl, hc⟩ := hC
  obtain rfl := hk.uniq hk'
  have hS := met_srt hM
  refine ⟨kr_len hS hk (met_len hM).1, hl, fun e he => hS.lt e (hk.sub e he), fun i e x y hi hx hy hxi hyi => ?_⟩
  have hd := hc i e hi
  have hil : i < T.length := by
    rcases Nat.lt_or_ge i T.length with q | q
    · exact q
    · rw [List.getElem?_eq_none q] at hi; cases hi
  have hTe : T = T.take i ++ e :: T.drop (i + 1) := by
    rw [List.getElem?_eq_getElem hil] at hi
    cases hi
    rw [List.getElem_cons_drop, List.take_append_drop]
  refine hk.cut hTe (cell_symm hM) (fun E1 E2 hE q hq => hS.asc (E1 ++ [e]) E2 (by rw [hE]; simp) e q (by simp) hq) (fun u v h1 h2 => (hS.all u v).2 ⟨h1, h2⟩) hx hy (hd.has.1 hxi) fun q => hyi (hd.has.2 q)
end Go.Proofs.Ytnlbjbnjjkilhaa
