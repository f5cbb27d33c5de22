/- Arguments that came in, read as lists of ints, as rows of ints, as a problem. -/
import Derived.Test.YtdohjmbhgjfcaaaDoorLawC
import Derived.ProofKit
import Derived.OpenShut
import Derived.SizedLaws
import Derived.Lib.SmallJoins
import Derived.Deep.Matrix
namespace Go.Proofs.YtdohjmbhgjfcaaaDoor
open Go.ChangeShapes Go.WideShapes Go.ChangeAt Go.RowKit Go.Deep Go.Joins

theorem Tryd.cellsInts : Tryd.prog.cellsOf 41 = 1 := by kernel_rfl
theorem Tryd.cellsInt : Tryd.prog.cellsOf 3 = 1 := by kernel_rfl
theorem Tryd.bytesInts : Tryd.prog.bytesOf 41 = 24 := by kernel_rfl
theorem Tryd.bytesInt : Tryd.prog.bytesOf 3 = 8 := by kernel_rfl

theorem i64_of_wf {n : Int} (h : (Lit.int .i64 n).wf = true) : I64 n := by
  have := bounds_i64 h
  unfold I64
  omega

theorem addr_add_nil {b o j : Nat} : (⟨b, o, none⟩ : Addr).add j = ⟨b, o + j, none⟩ := by
  unfold Addr.add; split <;> simp_all

theorem spot_of_cell {w : World} {a : Addr} {u : Value} (h : w.cell? (a.add 0) = some u) : ∃ b o, a = ⟨b, o, none⟩ := by
  obtain ⟨b, o, s⟩ := a
  have hs := World.cell?_spot h
  simp [Addr.add] at hs
  subst hs
  exact ⟨b, o, rfl⟩

/-- A row as open_int_rows tells it. -/
theorem isInts_of_row {w : World} {A : Option Addr} {L C : Nat} {Z : List Int} (h1 : L ≤ C) (h2 : Z.length = C) (h3 : ∀ n ∈ Z, (Lit.int .i64 n).wf = true) (h4 : A = none → C = 0)
    (h5 : ∀ a', A = some a' → ∀ c, c < C → w.cell? (a'.add c) = some (.int .i64 (Z.getD c 0))) (hs : Short C) : IsInts w (.slice A L C) (Z.take L) := by
  have hl : (Z.take L).length = L := by simp; omega
  refine ⟨A, C, by rw [hl], ⟨by rw [hl]; exact Nat.le_trans h1 hs, by rw [hl]; exact h1⟩, fun x hx => i64_of_wf (h3 x (List.mem_of_mem_take hx)), fun j hj => ?_⟩
  rw [hl] at hj
  cases A with
  | none => have := h4 rfl; omega
  | some a =>
    have hc := h5 a rfl j (by omega)
    obtain ⟨b, o, rfl⟩ := spot_of_cell (h5 a rfl 0 (by omega))
    refine ⟨b, o, rfl, ?_⟩
    rw [addr_add_nil] at hc
    rw [hc]
    simp [nth, List.getD_eq_getElem?_getD, hj]

section
variable {H : Type} {enc : TypeId × Value → H} {w : World}

theorem isInts_of_trod {fuel : Nat} {v : Value} {x : DataW H × List MemPlace} (h : DataW.trod enc Tryd.prog w 0 (fun _ => true) true fuel 41 [v] = some x)
    (hw : ∀ n ∈ x.1.weights Tryd.prog 41, n ≤ reachBytes) : ∃ xs, IsInts w v xs := by
  rcases open_ints Tryd.underlying41 Tryd.underlying3 Tryd.cellsInt h with ⟨hcs, _⟩ | ⟨a, l, c, zs, hcs, _, hl, hm, hz, hx, hcell, hwz⟩
  · simp only [List.cons.injEq, and_true] at hcs
    subst hcs
    exact ⟨[], IsInts.nil w⟩
  · simp only [List.cons.injEq, and_true] at hcs
    subst hcs
    have hz' : zs.length = c := by simpa using hz
    subst hx
    have hb := hw ((zs.take l).length * 1 * 8 + (zs.drop l).length * 8) (by
      simp only [DataW.weights, Tryd.underlying41, Tryd.bytesInt, List.mem_cons]
      left
      simp [lits]
      omega)
    simp only [reachBytes, List.length_take, List.length_drop] at hb
    refine ⟨zs.take l, isInts_of_row hl hz' hwz (fun h => by cases h) (fun a' ha c' hc' => ?_) (by unfold Short; omega)⟩
    cases ha
    exact hcell c' (by omega)

theorem isRows_of_trod {fuel : Nat} {v : Value} {x : DataW H × List MemPlace} (h : DataW.trod enc Tryd.prog w 0 (fun _ => true) true fuel 32 [v] = some x)
    (hw : ∀ n ∈ x.1.weights Tryd.prog 32, n ≤ reachBytes) : ∃ M, IsRows w v M := by
  rcases open_int_rows Tryd.underlying32 Tryd.underlying41 Tryd.underlying3 Tryd.cellsInts Tryd.cellsInt h with ⟨hcs, _⟩ | ⟨a, len, cap, A, L, C, Z, hcs, _, hl, hm, hx, hrow⟩
  · simp only [List.cons.injEq, and_true] at hcs
    subst hcs
    exact ⟨[], IsRows.nil w⟩
  · simp only [List.cons.injEq, and_true] at hcs
    subst hcs
    subst hx
    have hb := hw (cap * 24) (by
      simp only [DataW.weights, Tryd.underlying32, Tryd.bytesInts, List.mem_cons]
      left
      simp
      omega)
    simp only [reachBytes] at hb
    have hlen : ((List.range len).map fun r => (Z r).take (L r)).length = len := by simp
    refine ⟨(List.range len).map fun r => (Z r).take (L r), some a, cap, by rw [hlen], by rw [hlen]; unfold ShortRows; omega, fun j hj => ?_⟩
    rw [hlen] at hj
    obtain ⟨hc, h1, _, h3, h4, h5, h6⟩ := hrow j (by omega)
    obtain ⟨b, o, rfl⟩ := spot_of_cell (hrow 0 (by omega)).1
    rw [addr_add_nil] at hc
    have hr : row ((List.range len).map fun r => (Z r).take (L r)) j = (Z j).take (L j) := by simp [row, hj]
    refine ⟨b, o, _, rfl, hc, ?_⟩
    rw [hr]
    refine isInts_of_row h1 h3 h4 h5 (fun a' ha c hc' => (h6 a' ha).2 c hc') ?_
    cases hA : A j with
    | none => rw [h5 hA]; unfold Short; omega
    | some a' =>
      have hb2 := hw (C j * 8) (by
        simp only [DataW.weights, Tryd.underlying32, List.mem_cons, List.mem_append]
        right; left
        have hmem : (intRow .i64 (A j) (L j) (Z j) : DataW H) ∈ (List.range len).map fun r => intRow .i64 (A r) (L r) (Z r) := List.mem_map.2 ⟨j, List.mem_range.2 hj, rfl⟩
        have hin : C j * 8 ∈ (intRow .i64 (A j) (L j) (Z j) : DataW H).weights Tryd.prog 41 := by
          rw [hA]
          simp only [intRow, DataW.weights, Tryd.underlying41, Tryd.bytesInt, List.mem_cons]
          left
          simp [lits]
          omega
        generalize (List.range len).map (fun r => (intRow .i64 (A r) (L r) (Z r) : DataW H)) = l at hmem
        clear hw h
        induction l with
        | nil => cases hmem
        | cons d l ih =>
          simp only [DataW.weightsAll, List.mem_append]
          rcases List.mem_cons.1 hmem with rfl | hmem
          · exact .inl hin
          · exact .inr (ih hmem))
      simp only [reachBytes] at hb2
      unfold Short
      omega

set_option maxRecDepth 100000 in
theorem isProb_of_trod {r : Reach} {b0 : Nat} {v : Value} {d : DataW H} {p : List MemPlace} (hv : Value.okWide Tryd.prog w r b0 34 v) (h : DataW.Trod enc Tryd.prog w 0 (fun _ => true) true 34 v d p)
    (hw : ∀ n ∈ d.weights Tryd.prog 34, n ≤ reachBytes) : ∃ M S, IsProb w v M S := by
  obtain ⟨c0, c1, y0, y1, m, rfl, rfl, rfl, hy0, hy1⟩ := open_agg2 Tryd.underlying34 (by kernel_rfl) (by kernel_rfl) hv h
  simp only [DataW.weights, Tryd.underlying34, DataW.weightsEach, List.map_cons, List.map_nil, List.mem_append] at hw
  obtain ⟨M, hM⟩ := isRows_of_trod hy0 (fun n hn => hw n (.inl hn))
  obtain ⟨S, hS⟩ := isRows_of_trod hy1 (fun n hn => hw n (.inr (.inl hn)))
  exact ⟨M, S, c0, c1, rfl, hM, hS⟩
theorem weights_of {ts : List TypeId} {ds : List (DataW H)} (h : (DataW.weightsEach Tryd.prog ts ds).all (· ≤ reachBytes) = true) {j : Nat} {t : TypeId} {d : DataW H} (ht : ts[j]? = some t) (hd : ds[j]? = some d) :
    ∀ n ∈ d.weights Tryd.prog t, n ≤ reachBytes := fun n hn => by
  simpa using List.all_eq_true.1 h _ (DataW.weights_mem_each ht hd n hn)
end
end Go.Proofs.YtdohjmbhgjfcaaaDoor
