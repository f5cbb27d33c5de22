/- Arguments that came in, read as lists of ints, as rows of ints, as a problem. -/
import Derived.Test.YtcfhmbmagkoekaaGrA
import Derived.ProofKit
import Derived.OpenShut
import Derived.SizedLaws
import Derived.Lib.SmallJoins
import Derived.Deep.Matrix
namespace Go.Proofs.Ytcfhmbmagkoekaa
open Go.ChangeShapes Go.WideShapes Go.ChangeAt Go.RowKit Go.Deep Go.Joins

theorem Try.cellsInts : Try.prog.cellsOf 24 = 1 := by kernel_rfl
theorem Try.cellsInt : Try.prog.cellsOf 3 = 1 := by kernel_rfl
theorem Try.bytesInts : Try.prog.bytesOf 24 = 24 := by kernel_rfl
theorem Try.bytesInt : Try.prog.bytesOf 3 = 8 := by kernel_rfl

theorem i64_of_wf {n : Int} (h : (Lit.int .i64 n).wf = true) : I64 n := by
  have := bounds_i64 h
  unfold I64
  omega

theorem addr_add_nil {b o j : Nat} : (⟨b, o, none⟩ : Addr).add j = ⟨b, o + j, none⟩ := by
  unfold Addr.add; split <;> simp_all

theorem spot_of_cell {w : World} {a : Addr} {u : Value} (h : w.cell? (a.add 0) = some u) : ∃ b o, a = ⟨b, o, none⟩ := by
  obtain ⟨b, o, s⟩ := a
  have hs := World.cell?_spot h
  simp [Addr.add] at hs
  subst hs
  exact ⟨b, o, rfl⟩

/-- A row as open_int_rows tells it. -/
theorem isInts_of_row {w : World} {A : Option Addr} {L C : Nat} {Z : List Int} (h1 : L ≤ C) (h2 : Z.length = C) (h3 : ∀ n ∈ Z, (Lit.int .i64 n).wf = true) (h4 : A = none → C = 0)
    (h5 : ∀ a', A = some a' → ∀ c, c < C → w.cell? (a'.add c) = some (.int .i64 (Z.getD c 0))) (hs : Short C) : IsInts w (.slice A L C) (Z.take L) := by
  have hl : (Z.take L).length = L := by simp; omega
  refine ⟨A, C, by rw [hl], ⟨by rw [hl]; exact Nat.le_trans h1 hs, by rw [hl]; exact h1⟩, fun x hx => i64_of_wf (h3 x (List.mem_of_mem_take hx)), fun j hj => ?_⟩
  rw [hl] at hj
  cases A with
  | none => have := h4 rfl; omega
  | some a =>
    have hc := h5 a rfl j (by omega)
    obtain ⟨b, o, rfl⟩ := spot_of_cell (h5 a rfl 0 (by omega))
    refine ⟨b, o, rfl, ?_⟩
    rw [addr_add_nil] at hc
    rw [hc]
    simp [nth, List.getD_eq_getElem?_getD, hj]

section
variable {H : Type} {enc : TypeId × Value → H} {w : World}

theorem isInts_of_trod {fuel : Nat} {v : Value} {x : DataW H × List MemPlace} (h : DataW.trod enc Try.prog w 0 (fun _ => true) true fuel 24 [v] = some x)
    (hw : ∀ n ∈ x.1.weights Try.prog 24, n ≤ reachBytes) : ∃ xs, IsInts w v xs := by
  rcases open_ints Try.underlying24 Try.underlying3 Try.cellsInt h with ⟨hcs, _⟩ | ⟨a, l, c, zs, hcs, _, hl, hm, hz, hx, hcell, hwz⟩
  · simp only [List.cons.injEq, and_true] at hcs
    subst hcs
    exact ⟨[], IsInts.nil w⟩
  · simp only [List.cons.injEq, and_true] at hcs
    subst hcs
    have hz' : zs.length = c := by simpa using hz
    subst hx
    have hb := hw ((zs.take l).length * 1 * 8 + (zs.drop l).length * 8) (by
      simp only [DataW.weights, Try.underlying24, Try.bytesInt, List.mem_cons]
      left
      simp [lits]
      omega)
    simp only [reachBytes, List.length_take, List.length_drop] at hb
    refine ⟨zs.take l, isInts_of_row hl hz' hwz (fun h => by cases h) (fun a' ha c' hc' => ?_) (by unfold Short; omega)⟩
    cases ha
    exact hcell c' (by omega)

theorem isRows_of_trod {fuel : Nat} {v : Value} {x : DataW H × List MemPlace} (h : DataW.trod enc Try.prog w 0 (fun _ => true) true fuel 27 [v] = some x)
    (hw : ∀ n ∈ x.1.weights Try.prog 27, n ≤ reachBytes) : ∃ M, IsRows w v M := by
  rcases open_int_rows Try.underlying27 Try.underlying24 Try.underlying3 Try.cellsInts Try.cellsInt h with ⟨hcs, _⟩ | ⟨a, len, cap, A, L, C, Z, hcs, _, hl, hm, hx, hrow⟩
  · simp only [List.cons.injEq, and_true] at hcs
    subst hcs
    exact ⟨[], IsRows.nil w⟩
  · simp only [List.cons.injEq, and_true] at hcs
    subst hcs
    subst hx
    have hb := hw (cap * 24) (by
      simp only [DataW.weights, Try.underlying27, Try.bytesInts, List.mem_cons]
      left
      simp
      omega)
    simp only [reachBytes] at hb
    have hlen : ((List.range len).map fun r => (Z r).take (L r)).length = len := by simp
    refine ⟨(List.range len).map fun r => (Z r).take (L r), some a, cap, by rw [hlen], by rw [hlen]; unfold ShortRows; omega, fun j hj => ?_⟩
    rw [hlen] at hj
    obtain ⟨hc, h1, _, h3, h4, h5, h6⟩ := hrow j (by omega)
    obtain ⟨b, o, rfl⟩ := spot_of_cell (hrow 0 (by omega)).1
    rw [addr_add_nil] at hc
    have hr : row ((List.range len).map fun r => (Z r).take (L r)) j = (Z j).take (L j) := by simp [row, hj]
    refine ⟨b, o, _, rfl, hc, ?_⟩
    rw [hr]
    refine isInts_of_row h1 h3 h4 h5 (fun a' ha c hc' => (h6 a' ha).2 c hc') ?_
    cases hA : A j with
    | none => rw [h5 hA]; unfold Short; omega
    | some a' =>
      have hb2 := hw (C j * 8) (by
        simp only [DataW.weights, Try.underlying27, List.mem_cons, List.mem_append]
        right; left
        have hmem : (intRow .i64 (A j) (L j) (Z j) : DataW H) ∈ (List.range len).map fun r => intRow .i64 (A r) (L r) (Z r) := List.mem_map.2 ⟨j, List.mem_range.2 hj, rfl⟩
        have hin : C j * 8 ∈ (intRow .i64 (A j) (L j) (Z j) : DataW H).weights Try.prog 24 := by
          rw [hA]
          simp only [intRow, DataW.weights, Try.underlying24, Try.bytesInt, List.mem_cons]
          left
          simp [lits]
          omega
        generalize (List.range len).map (fun r => (intRow .i64 (A r) (L r) (Z r) : DataW H)) = l at hmem
        clear hw h
        induction l with
        | nil => cases hmem
        | cons d l ih =>
          simp only [DataW.weightsAll, List.mem_append]
          rcases List.mem_cons.1 hmem with rfl | hmem
          · exact .inl hin
          · exact .inr (ih hmem))
      simp only [reachBytes] at hb2
      unfold Short
      omega

theorem weights_of {ts : List TypeId} {ds : List (DataW H)} (h : (DataW.weightsEach Try.prog ts ds).all (· ≤ reachBytes) = true) {j : Nat} {t : TypeId} {d : DataW H} (ht : ts[j]? = some t) (hd : ds[j]? = some d) :
    ∀ n ∈ d.weights Try.prog t, n ≤ reachBytes := fun n hn => by
  simpa using List.all_eq_true.1 h _ (DataW.weights_mem_each ht hd n hn)
end
end Go.Proofs.Ytcfhmbmagkoekaa
