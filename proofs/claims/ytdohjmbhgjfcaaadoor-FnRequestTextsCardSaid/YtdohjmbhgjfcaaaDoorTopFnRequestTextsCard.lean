/- Several texts in one: the last ones and the statement. -/
import Derived.Test.YtdohjmbhgjfcaaaDoorLawC
import Derived.ProofKit
import Derived.OpenShut
import Derived.SizedLaws
import Derived.Lib.SmallJoins
import Derived.Deep.Matrix
import Derived.Test.YtdohjmbhgjfcaaaDoorRows
import Derived.JoinedOf
import Derived.KernelRfl
import Derived.Test.YtdohjmbhgjfcaaaDoorLawA
import Derived.Test.YtdohjmbhgjfcaaaDoorCur
import Derived.Test.YtdohjmbhgjfcaaaDoorMks
import Derived.Test.YtdohjmbhgjfcaaaDoorRqd
import Derived.Test.YtdohjmbhgjfcaaaDoorCutB
import Derived.Test.YtdohjmbhgjfcaaaDoorTxc
import Derived.Test.YtdohjmbhgjfcaaaDoorNmi
import Derived.HandedShaped
import Derived.LaidMore
import Derived.Lay
import Derived.Lib.LaidTab
import Derived.Stop.LaidErr
import Derived.Stop.Joined
import Derived.Test.YtdohjmbhgjfcaaaDoorTie
import Derived.Test.YtdohjmbhgjfcaaaDoorCards
import Derived.SevenTiedAt
/- Arguments that came in, read as lists of ints, as rows of ints, as a problem. -/
namespace Go.Proofs.YtdohjmbhgjfcaaaDoor
open Go.ChangeShapes Go.WideShapes Go.ChangeAt Go.RowKit Go.Deep Go.Joins

theorem Tryd.cellsInts : Tryd.prog.cellsOf 41 = 1 := by kernel_rfl
theorem Tryd.cellsInt : Tryd.prog.cellsOf 3 = 1 := by kernel_rfl
theorem Tryd.bytesInts : Tryd.prog.bytesOf 41 = 24 := by kernel_rfl
theorem Tryd.bytesInt : Tryd.prog.bytesOf 3 = 8 := by kernel_rfl

theorem i64_of_wf {n : Int} (h : (Lit.int .i64 n).wf = true) : I64 n := by
  have := bounds_i64 h
  unfold I64
  omega

theorem addr_add_nil {b o j : Nat} : (⟨b, o, none⟩ : Addr).add j = ⟨b, o + j, none⟩ := by
  unfold Addr.add; split <;> simp_all

theorem spot_of_cell {w : World} {a : Addr} {u : Value} (h : w.cell? (a.add 0) = some u) : ∃ b o, a = ⟨b, o, none⟩ := by
  obtain ⟨b, o, s⟩ := a
  have hs := World.cell?_spot h
  simp [Addr.add] at hs
  subst hs
  exact ⟨b, o, rfl⟩

/-- A row as open_int_rows tells it. -/
theorem isInts_of_row {w : World} {A : Option Addr} {L C : Nat} {Z : List Int} (h1 : L ≤ C) (h2 : Z.length = C) (h3 : ∀ n ∈ Z, (Lit.int .i64 n).wf = true) (h4 : A = none → C = 0)
    (h5 : ∀ a', A = some a' → ∀ c, c < C → w.cell? (a'.add c) = some (.int .i64 (Z.getD c 0))) (hs : Short C) : IsInts w (.slice A L C) (Z.take L) := by
  have hl : (Z.take L).length = L := by simp; omega
  refine ⟨A, C, by rw [hl], ⟨by rw [hl]; exact Nat.le_trans h1 hs, by rw [hl]; exact h1⟩, fun x hx => i64_of_wf (h3 x (List.mem_of_mem_take hx)), fun j hj => ?_⟩
  rw [hl] at hj
  cases A with
  | none => have := h4 rfl; omega
  | some a =>
    have hc := h5 a rfl j (by omega)
    obtain ⟨b, o, rfl⟩ := spot_of_cell (h5 a rfl 0 (by omega))
    refine ⟨b, o, rfl, ?_⟩
    rw [addr_add_nil] at hc
    rw [hc]
    simp [nth, List.getD_eq_getElem?_getD, hj]

section
variable {H : Type} {enc : TypeId × Value → H} {w : World}

theorem isInts_of_trod {fuel : Nat} {v : Value} {x : DataW H × List MemPlace} (h : DataW.trod enc Tryd.prog w 0 (fun _ => true) true fuel 41 [v] = some x)
    (hw : ∀ n ∈ x.1.weights Tryd.prog 41, n ≤ reachBytes) : ∃ xs, IsInts w v xs := by
  rcases open_ints Tryd.underlying41 Tryd.underlying3 Tryd.cellsInt h with ⟨hcs, _⟩ | ⟨a, l, c, zs, hcs, _, hl, hm, hz, hx, hcell, hwz⟩
  · simp only [List.cons.injEq, and_true] at hcs
    subst hcs
    exact ⟨[], IsInts.nil w⟩
  · simp only [List.cons.injEq, and_true] at hcs
    subst hcs
    have hz' : zs.length = c := by simpa using hz
    subst hx
    have hb := hw ((zs.take l).length * 1 * 8 + (zs.drop l).length * 8) (by
      simp only [DataW.weights, Tryd.underlying41, Tryd.bytesInt, List.mem_cons]
      left
      simp [lits]
      omega)
    simp only [reachBytes, List.length_take, List.length_drop] at hb
    refine ⟨zs.take l, isInts_of_row hl hz' hwz (fun h => by cases h) (fun a' ha c' hc' => ?_) (by unfold Short; omega)⟩
    cases ha
    exact hcell c' (by omega)

theorem isRows_of_trod {fuel : Nat} {v : Value} {x : DataW H × List MemPlace} (h : DataW.trod enc Tryd.prog w 0 (fun _ => true) true fuel 32 [v] = some x)
    (hw : ∀ n ∈ x.1.weights Tryd.prog 32, n ≤ reachBytes) : ∃ M, IsRows w v M := by
  rcases open_int_rows Tryd.underlying32 Tryd.underlying41 Tryd.underlying3 Tryd.cellsInts Tryd.cellsInt h with ⟨hcs, _⟩ | ⟨a, len, cap, A, L, C, Z, hcs, _, hl, hm, hx, hrow⟩
  · simp only [List.cons.injEq, and_true] at hcs
    subst hcs
    exact ⟨[], IsRows.nil w⟩
  · simp only [List.cons.injEq, and_true] at hcs
    subst hcs
    subst hx
    have hb := hw (cap * 24) (by
      simp only [DataW.weights, Tryd.underlying32, Tryd.bytesInts, List.mem_cons]
      left
      simp
      omega)
    simp only [reachBytes] at hb
    have hlen : ((List.range len).map fun r => (Z r).take (L r)).length = len := by simp
    refine ⟨(List.range len).map fun r => (Z r).take (L r), some a, cap, by rw [hlen], by rw [hlen]; unfold ShortRows; omega, fun j hj => ?_⟩
    rw [hlen] at hj
    obtain ⟨hc, h1, _, h3, h4, h5, h6⟩ := hrow j (by omega)
    obtain ⟨b, o, rfl⟩ := spot_of_cell (hrow 0 (by omega)).1
    rw [addr_add_nil] at hc
    have hr : row ((List.range len).map fun r => (Z r).take (L r)) j = (Z j).take (L j) := by simp [row, hj]
    refine ⟨b, o, _, rfl, hc, ?_⟩
    rw [hr]
    refine isInts_of_row h1 h3 h4 h5 (fun a' ha c hc' => (h6 a' ha).2 c hc') ?_
    cases hA : A j with
    | none => rw [h5 hA]; unfold Short; omega
    | some a' =>
      have hb2 := hw (C j * 8) (by
        simp only [DataW.weights, Tryd.underlying32, List.mem_cons, List.mem_append]
        right; left
        have hmem : (intRow .i64 (A j) (L j) (Z j) : DataW H) ∈ (List.range len).map fun r => intRow .i64 (A r) (L r) (Z r) := List.mem_map.2 ⟨j, List.mem_range.2 hj, rfl⟩
        have hin : C j * 8 ∈ (intRow .i64 (A j) (L j) (Z j) : DataW H).weights Tryd.prog 41 := by
          rw [hA]
          simp only [intRow, DataW.weights, Tryd.underlying41, Tryd.bytesInt, List.mem_cons]
          left
          simp [lits]
          omega
        generalize (List.range len).map (fun r => (intRow .i64 (A r) (L r) (Z r) : DataW H)) = l at hmem
        clear hw h
        induction l with
        | nil => cases hmem
        | cons d l ih =>
          simp only [DataW.weightsAll, List.mem_append]
          rcases List.mem_cons.1 hmem with rfl | hmem
          · exact .inl hin
          · exact .inr (ih hmem))
      simp only [reachBytes] at hb2
      unfold Short
      omega

set_option maxRecDepth 100000 in
theorem isProb_of_trod {r : Reach} {b0 : Nat} {v : Value} {d : DataW H} {p : List MemPlace} (hv : Value.okWide Tryd.prog w r b0 34 v) (h : DataW.Trod enc Tryd.prog w 0 (fun _ => true) true 34 v d p)
    (hw : ∀ n ∈ d.weights Tryd.prog 34, n ≤ reachBytes) : ∃ M S, IsProb w v M S := by
  obtain ⟨c0, c1, y0, y1, m, rfl, rfl, rfl, hy0, hy1⟩ := open_agg2 Tryd.underlying34 (by kernel_rfl) (by kernel_rfl) hv h
  simp only [DataW.weights, Tryd.underlying34, DataW.weightsEach, List.map_cons, List.map_nil, List.mem_append] at hw
  obtain ⟨M, hM⟩ := isRows_of_trod hy0 (fun n hn => hw n (.inl hn))
  obtain ⟨S, hS⟩ := isRows_of_trod hy1 (fun n hn => hw n (.inr (.inl hn)))
  exact ⟨M, S, c0, c1, rfl, hM, hS⟩
theorem weights_of {ts : List TypeId} {ds : List (DataW H)} (h : (DataW.weightsEach Tryd.prog ts ds).all (· ≤ reachBytes) = true) {j : Nat} {t : TypeId} {d : DataW H} (ht : ts[j]? = some t) (hd : ds[j]? = some d) :
    ∀ n ∈ d.weights Tryd.prog t, n ≤ reachBytes := fun n hn => by
  simpa using List.all_eq_true.1 h _ (DataW.weights_mem_each ht hd n hn)
end
end Go.Proofs.YtdohjmbhgjfcaaaDoor

/- Closed facts of the program that every row asks: each by itself. -/
namespace Go.Proofs.YtdohjmbhgjfcaaaDoor

/-- the letters of the program's head -/
def headSigns : List Char := [Char.ofNat 104, Char.ofNat 97, Char.ofNat 114, Char.ofNat 110, Char.ofNat 101, Char.ofNat 115, Char.ofNat 115, Char.ofNat 32, Char.ofNat 52, Char.ofNat 97, Char.ofNat 57, Char.ofNat 54, Char.ofNat 101, Char.ofNat 53, Char.ofNat 54, Char.ofNat 57, Char.ofNat 100, Char.ofNat 54, Char.ofNat 52, Char.ofNat 48, Char.ofNat 49, Char.ofNat 55, Char.ofNat 101, Char.ofNat 97, Char.ofNat 52, Char.ofNat 55, Char.ofNat 99, Char.ofNat 48, Char.ofNat 56, Char.ofNat 57, Char.ofNat 99, Char.ofNat 99, Char.ofNat 98, Char.ofNat 102, Char.ofNat 56, Char.ofNat 54, Char.ofNat 53, Char.ofNat 52, Char.ofNat 55, Char.ofNat 97, Char.ofNat 56, Char.ofNat 50, Char.ofNat 52, Char.ofNat 102, Char.ofNat 102, Char.ofNat 54, Char.ofNat 57, Char.ofNat 57, Char.ofNat 102, Char.ofNat 57, Char.ofNat 98, Char.ofNat 52, Char.ofNat 53, Char.ofNat 48, Char.ofNat 57, Char.ofNat 48, Char.ofNat 57, Char.ofNat 49, Char.ofNat 54, Char.ofNat 56, Char.ofNat 50, Char.ofNat 101, Char.ofNat 54, Char.ofNat 48, Char.ofNat 101, Char.ofNat 57, Char.ofNat 55, Char.ofNat 49, Char.ofNat 49, Char.ofNat 101, Char.ofNat 51, Char.ofNat 97, Char.ofNat 32, Char.ofNat 99, Char.ofNat 117, Char.ofNat 116, Char.ofNat 32, Char.ofNat 97, Char.ofNat 116, Char.ofNat 32, Char.ofNat 108, Char.ofNat 111, Char.ofNat 111, Char.ofNat 112, Char.ofNat 46, Char.ofNat 101, Char.ofNat 120, Char.ofNat 97, Char.ofNat 109, Char.ofNat 112, Char.ofNat 108, Char.ofNat 101, Char.ofNat 47, Char.ofNat 103, Char.ofNat 48, Char.ofNat 49, Char.ofNat 48, Char.ofNat 56, Char.ofNat 55, Char.ofNat 47, Char.ofNat 108, Char.ofNat 97, Char.ofNat 119, Char.ofNat 115, Char.ofNat 46, Char.ofNat 70, Char.ofNat 110, Char.ofNat 83, Char.ofNat 116, Char.ofNat 114, Char.ofNat 105, Char.ofNat 110, Char.ofNat 103, Char.ofNat 115, Char.ofNat 32, Char.ofNat 108, Char.ofNat 111, Char.ofNat 111, Char.ofNat 112, Char.ofNat 46, Char.ofNat 101, Char.ofNat 120, Char.ofNat 97, Char.ofNat 109, Char.ofNat 112, Char.ofNat 108, Char.ofNat 101, Char.ofNat 47, Char.ofNat 103, Char.ofNat 48, Char.ofNat 49, Char.ofNat 48, Char.ofNat 56, Char.ofNat 55, Char.ofNat 47, Char.ofNat 108, Char.ofNat 97, Char.ofNat 119, Char.ofNat 115, Char.ofNat 46, Char.ofNat 70, Char.ofNat 110, Char.ofNat 69, Char.ofNat 120, Char.ofNat 97, Char.ofNat 99, Char.ofNat 116, Char.ofNat 80, Char.ofNat 114, Char.ofNat 111, Char.ofNat 98, Char.ofNat 108, Char.ofNat 101, Char.ofNat 109, Char.ofNat 84, Char.ofNat 101, Char.ofNat 120, Char.ofNat 116, Char.ofNat 32, Char.ofNat 108, Char.ofNat 111, Char.ofNat 111, Char.ofNat 112, Char.ofNat 46, Char.ofNat 101, Char.ofNat 120, Char.ofNat 97, Char.ofNat 109, Char.ofNat 112, Char.ofNat 108, Char.ofNat 101, Char.ofNat 47, Char.ofNat 103, Char.ofNat 48, Char.ofNat 49, Char.ofNat 48, Char.ofNat 56, Char.ofNat 55, Char.ofNat 47, Char.ofNat 108, Char.ofNat 97, Char.ofNat 119, Char.ofNat 115, Char.ofNat 46, Char.ofNat 70, Char.ofNat 110, Char.ofNat 82, Char.ofNat 101, Char.ofNat 113, Char.ofNat 117, Char.ofNat 101, Char.ofNat 115, Char.ofNat 116, Char.ofNat 84, Char.ofNat 101, Char.ofNat 120, Char.ofNat 116, Char.ofNat 115, Char.ofNat 32, Char.ofNat 108, Char.ofNat 111, Char.ofNat 111, Char.ofNat 112, Char.ofNat 46, Char.ofNat 101, Char.ofNat 120, Char.ofNat 97, Char.ofNat 109, Char.ofNat 112, Char.ofNat 108, Char.ofNat 101, Char.ofNat 47, Char.ofNat 103, Char.ofNat 48, Char.ofNat 49, Char.ofNat 48, Char.ofNat 56, Char.ofNat 55, Char.ofNat 47, Char.ofNat 108, Char.ofNat 97, Char.ofNat 119, Char.ofNat 115, Char.ofNat 46, Char.ofNat 70, Char.ofNat 110, Char.ofNat 70, Char.ofNat 114, Char.ofNat 97, Char.ofNat 99, Char.ofNat 116, Char.ofNat 105, Char.ofNat 111, Char.ofNat 110, Char.ofNat 115]

set_option maxRecDepth 100000 in
theorem factHead : Tryd.prog.initOrder = String.ofList headSigns := by kernel_rfl
theorem factSigns : Tryd.prog.initOrder.toList = headSigns := by rw [factHead, String.toList_ofList]
theorem factLaid : laidOutB Tryd.prog = true := by kernel_rfl
theorem factMaps : mapsRowed Tryd.prog = true := by kernel_rfl
theorem factStops : (Tryd.prog.stops == []) = true := by kernel_rfl
theorem factKnobs : (Tryd.prog.stopKnobs == []) = true := by kernel_rfl
theorem factKeys : Tryd.prog.plainKeys = true := by kernel_rfl
theorem factOwn : ownKnob Tryd.prog.godebug = none := by kernel_rfl
theorem headFirst : (behindMainWord (wordsSigns headSigns)).head? = some "cut".toList := by kernel_rfl
theorem factHeard : Tryd.prog.stopsHeard = true := by kernel_rfl
theorem factLater : Tryd.prog.laysLater = false := by kernel_rfl
theorem factReflect : Tryd.prog.bearsReflect = false := by kernel_rfl
theorem factDoor : Tryd.prog.doorFits [] = true := by kernel_rfl

theorem factStrip (rest : List (List Char)) : stripLifts liftWords ("cut".toList :: rest) = ([], "cut".toList :: rest) := by rfl
theorem make_of {P : Program} {L : List Char} (h : P.initOrder.toList = L) (h0 : (behindMainWord (wordsSigns L)).head? = some "cut".toList) : P.make = some .cut := by
  unfold Program.make
  rw [h]
  generalize behindMainWord (wordsSigns L) = l at h0
  cases l with
  | nil => cases h0
  | cons c rest =>
    have hc : c = "cut".toList := Option.some.inj h0
    subst hc
    rfl
theorem lifts_of {P : Program} {L : List Char} (h : P.initOrder.toList = L) (h0 : (behindMainWord (wordsSigns L)).head? = some "cut".toList) : P.liftsFinal = false := by
  unfold Program.liftsFinal Program.headLifts
  rw [h]
  generalize behindMainWord (wordsSigns L) = l at h0
  cases l with
  | nil => cases h0
  | cons c rest =>
    have hc : c = "cut".toList := Option.some.inj h0
    subst hc
    simp only [factStrip]
    rfl
theorem enter_of {P : Program} {L : List Char} (h : P.initOrder.toList = L) (h0 : (behindMainWord (wordsSigns L)).head? = some "cut".toList) (h1 : P.laysLater = false) (h2 : P.bearsReflect = false) (h3 : P.doorFits [] = true) : P.mayEnter = true := by
  unfold Program.mayEnter
  rw [h]
  generalize behindMainWord (wordsSigns L) = l at h0
  cases l with
  | nil => cases h0
  | cons c rest =>
    have hc : c = "cut".toList := Option.some.inj h0
    subst hc
    simp only [factStrip, h1, h2, h3]
    rfl
theorem factMake : Tryd.prog.make = some .cut := make_of factSigns headFirst
theorem factLifts : Tryd.prog.liftsFinal = false := lifts_of factSigns headFirst
theorem factEnter : Tryd.prog.mayEnter = true := enter_of factSigns headFirst factLater factReflect factDoor

/-- What a row asks besides the program's own facts. -/
def lawFacts (P : Program) (f : FuncId) (fn : Func) (s : ChangeSpec) (c : OpenClaim) : Bool :=
  c.wf (OpenSpec.ofChange s) && fn.params.all (P.readableRec ·) && namedTie P c.named s.vars && (c.stops == []) && (c.knobs == []) &&
  (c.inPlace == P.inPlace f) && (c.unfollowed == P.unfollowed f) && (c.recurses == P.recurses f) && (c.named == P.varsNamed f) &&
  (c.maps == (fn.params.toList ++ s.plain.varTypes P).any (P.mapsRec ·)) && (c.ifaces == (fn.params.toList ++ s.plain.varTypes P).any (P.ifacesRec ·)) && (c.mapsOut == P.mapsAmong fn.resultTypes.toList) &&
  (c.loops == (fn.params.toList ++ s.plain.varTypes P).any (P.loopsFrom ·)) && (c.wideKeys == (fn.params.toList ++ s.plain.varTypes P ++ fn.resultTypes.toList).any (P.wideKeysFrom ·)) &&
  s.vars.all (P.varReadable ·) && fn.resultTypes.all (fun t => P.readableRec t && decide (t < P.types.size)) && (c.ifacesOut == fn.resultTypes.toList.any (P.ifacesRec ·)) && (c.loopsOut == fn.resultTypes.toList.any (P.loopsFrom ·)) && (c.plainKeys == true) && c.shortTexts.isNone && (c.lifted == false) && (some Make.cut == some c.make) && (c.kinds == (if c.domain.isEmpty then [] else fn.params.toList.map fun t => match P.underlying t with | some (.int k) => some k | _ => none)) && (c.pinned == c.pinnedBy) &&
  (c.veiled == (fn.params.toList ++ s.plain.varTypes P ++ fn.resultTypes.toList).any (P.veiledRec ·)) && c.veiledFits P fn.params.toList (fn.params.toList ++ s.plain.varTypes P ++ fn.resultTypes.toList)

theorem joined_of {P : Program} {f : FuncId} {fn : Func} {s : ChangeSpec} {c : OpenClaim} (h1 : laidOutB P = true) (h2 : mapsRowed P = true) (h3 : (P.stops == []) = true) (h4 : (P.stopKnobs == []) = true)
    (h5 : P.stopsHeard = true) (h6 : P.mayEnter = true) (h7 : P.liftsFinal = false) (h8 : P.make = some .cut) (h9 : P.plainKeys = true) (h : lawFacts P f fn s c = true) : joinedFacts P f fn s c = true := by
  unfold joinedFacts
  rw [h1, h2, h3, h4, h5, h6, h7, h8, h9]
  unfold lawFacts at h
  simp only [Bool.and_eq_true] at h ⊢
  obtain ⟨⟨⟨⟨⟨⟨⟨⟨⟨⟨⟨⟨⟨⟨⟨⟨⟨⟨⟨⟨⟨⟨⟨⟨⟨k1, k2⟩, k3⟩, k4⟩, k5⟩, k6⟩, k7⟩, k8⟩, k9⟩, k10⟩, k11⟩, k12⟩, k13⟩, k14⟩, k15⟩, k16⟩, k17⟩, k18⟩, k19⟩, k20⟩, k21⟩, k22⟩, k23⟩, k24⟩, k25⟩, k26⟩ := h
  simp only [k1, k2, k3, k4, k5, k6, k7, k8, k9, k10, k11, k12, k13, k14, k15, k16, k17, k18, k19, k20, k21, k22, k24, k25, k26, and_self]
  exact ⟨⟨⟨⟨trivial, k23⟩, trivial⟩, trivial⟩, trivial⟩

theorem joined_here {f : FuncId} {fn : Func} {s : ChangeSpec} {c : OpenClaim} (h : lawFacts Tryd.prog f fn s c = true) : joinedFacts Tryd.prog f fn s c = true :=
  joined_of factLaid factMaps factStops factKnobs factHeard factEnter factLifts factMake factKeys h

end Go.Proofs.YtdohjmbhgjfcaaaDoor

/- Whether a list has a number, and where first. -/
namespace Go.Proofs.YtdohjmbhgjfcaaaDoor
open Go.RowKit

def hasB (xs : List Int) (x : Int) : Bool := decide (x ∈ xs)
theorem hasB_true {xs : List Int} {x : Int} : hasB xs x = true ↔ x ∈ xs := by simp [hasB]
theorem hasB_false {xs : List Int} {x : Int} : hasB xs x = false ↔ x ∉ xs := by simp [hasB]
/-- the place where a number stands first, or -1 -/
def ixOf (xs : List Int) (x : Int) : Int := if x ∈ xs then (xs.idxOf x : Int) else -1
theorem ixOf_at {xs : List Int} {x : Int} {k : Nat} (hk : k < xs.length) (h : nth xs k = x) (hno : ∀ j, j < k → nth xs j ≠ x) : ixOf xs x = k := by
  have hm : x ∈ xs := mem_iff_nth.2 ⟨k, hk, h⟩
  rw [ixOf, if_pos hm]
  have hlt := List.idxOf_lt_length_of_mem hm
  have h1 : nth xs (xs.idxOf x) = x := by
    simp [nth, hlt]
  by_cases h2 : xs.idxOf x < k
  · exact absurd h1 (hno _ h2)
  · by_cases h3 : xs.idxOf x = k
    · rw [h3]
    · exfalso
      have h4 : k < xs.idxOf x := by omega
      have h5 := List.not_of_lt_findIdx (p := fun y => y == x) (xs := xs) (i := k) h4
      have h6 : xs[k]'hk = x := by simpa [nth, hk] using h
      rw [h6] at h5
      simp at h5
theorem ixOf_none {xs : List Int} {x : Int} (h : x ∉ xs) : ixOf xs x = -1 := by rw [ixOf, if_neg h]
theorem ixOf_in {xs : List Int} {x : Int} (h : x ∈ xs) : 0 ≤ ixOf xs x ∧ ixOf xs x < xs.length ∧ nth xs (ixOf xs x).toNat = x := by
  rw [ixOf, if_pos h]
  have hlt := List.idxOf_lt_length_of_mem h
  refine ⟨by omega, by omega, ?_⟩
  simp [nth, hlt]
theorem ixOf_ge {xs : List Int} {x : Int} : decide (0 ≤ ixOf xs x) = hasB xs x := by
  by_cases h : x ∈ xs
  · have := (ixOf_in h).1
    rw [hasB_true.2 h]; simpa using this
  · rw [hasB_false.2 h, ixOf_none h]; rfl

end Go.Proofs.YtdohjmbhgjfcaaaDoor

/- What the laws compare with: lists with both answers, tables where both sides are equal. Written by vlaw.py. -/
namespace Go.Proofs.YtdohjmbhgjfcaaaDoor
open Go.RowKit


set_option maxHeartbeats 400000 in
theorem rBig_l {v : Value} {n : Nat} {w : World} (hv : IsBytes w v n) :
    Calls Tryd.prog 43 #[v] w fun e w' => e = .returned (.bool (decide (65536 < n))) ∧ w = w' := by
  obtain ⟨a, c, rfl⟩ := hv.form
  by_cases h : 65536 < n
  · go_enter Tryd.func43, Tryd.ntmps43
    go_wp2
    go_ret
    exact ⟨ret_bool (decide_eq_decide.2 (by omega)), rfl⟩
  · go_enter Tryd.func43, Tryd.ntmps43
    go_wp2
    go_ret
    exact ⟨ret_bool (decide_eq_decide.2 (by omega)), rfl⟩

set_option maxHeartbeats 800000 in
set_option maxRecDepth 100000 in
theorem vInts_any {v1 v2 : Value} {xs ys : List Int} {w0 w : World} [Ext w0 w] (hx : IsInts w0 v1 xs) (hy : IsInts w0 v2 ys) :
    Calls Tryd.prog 30 #[v1, v2] w fun e w' => e = .returned (.bool (decide (xs = ys))) ∧ Ext w w' := by
  obtain ⟨a, ca, rfl, la⟩ := hx.form
  obtain ⟨b, cb, rfl, lb⟩ := hy.form
  by_cases hn : xs.length = ys.length
  · have hne : ((xs.length : Int) != ys.length) = false := by simp [hn]
    replace hn := hid hn
    go_enter Tryd.func30, Tryd.ntmps30
    go_wp2
    go_loopw [5] (fun i wr => ∃ k : Nat, k ≤ xs.length ∧ i = .int .i64 k ∧ Hid (∀ j, j < k → nth xs j = nth ys j) ∧ Drew w wr) (fun i _ => xs.length - (intOf i).toNat)
    case atStart => exact ⟨0, by omega, rfl, by intro j hj; omega, Drew.refl _⟩
    case round =>
      obtain ⟨k, hk, rfl, heq, hd⟩ := hrel
      have ed : Ext w wr := hd.ext
      have e0 : Ext w0 wr := Ext.trans ‹Ext w0 w› ed
      by_cases hlt : k < xs.length
      · have hlt2 : k < ys.length := by have := hn.out; omega
        have hlt2' : (k : Int) < (ys.length : Int) := by omega
        obtain ⟨b1, o1, rfl, hc1⟩ := hx.at (w' := wr) hlt
        obtain ⟨b2, o2, rfl, hc2⟩ := hy.at (w' := wr) hlt2
        by_cases hc : nth xs k = nth ys k
        · have hc' : (nth xs k != nth ys k) = false := by simp [hc]
          replace hc := hid hc
          go_wp2_with (go_quiet (fail))
          go_roundw
          case rel =>
            refine ⟨k + 1, by omega, by go_num, ?_, hd.step _⟩
            intro j hj
            by_cases hjk : j = k
            · subst hjk; exact hc.out
            · exact heq.out j (by omega)
          case measure => simp [intOf]; omega
        · have hc' : (nth xs k != nth ys k) = true := by simpa using hc
          have hfin := hid (show decide (xs = ys) = false from decide_eq_false (fun h => hc (by rw [h])))
          replace hc := hid hc
          go_wp2_with (go_quiet (fail))
          go_ret
          exact ⟨ret_bool hfin.out.symm, Ext.trans ed inferInstance⟩
      · have hfin := hid (show decide (xs = ys) = true from decide_eq_true (eq_of_nth hn.out (fun j hj => heq.out j (by omega))))
        go_wp2
        go_ret
        exact ⟨ret_bool hfin.out.symm, ed⟩
  · have hne : ((xs.length : Int) != ys.length) = true := by simp; omega
    have hfin := hid (show decide (xs = ys) = false from decide_eq_false (fun h => hn (by rw [h])))
    replace hn := hid hn
    go_enter Tryd.func30, Tryd.ntmps30
    go_wp2
    go_ret
    exact ⟨ret_bool hfin.out.symm, Ext.refl _⟩

theorem vInts_same {v u : Value} {X : List Int} {w0 w : World} [Ext w0 w] (hv : IsInts w0 v X) (hu : IsInts w0 u X) :
    Calls Tryd.prog 30 #[v, u] w fun e w' => e = .returned (.bool true) ∧ Ext w w' := by
  refine (vInts_any hv hu).mono ?_
  rintro e w' ⟨rfl, e1⟩
  exact ⟨by rw [decide_eq_true rfl], e1⟩

set_option maxHeartbeats 400000 in
theorem vBig_l {v : Value} {n : Nat} {w : World} (hv : IsBytes w v n) :
    Calls Tryd.prog 7 #[v] w fun e w' => e = .returned (.bool (decide (65536 < n))) ∧ w = w' := by
  obtain ⟨a, c, rfl⟩ := hv.form
  by_cases h : 65536 < n
  · go_enter Tryd.func7, Tryd.ntmps7
    go_wp2
    go_ret
    exact ⟨ret_bool (decide_eq_decide.2 (by omega)), rfl⟩
  · go_enter Tryd.func7, Tryd.ntmps7
    go_wp2
    go_ret
    exact ⟨ret_bool (decide_eq_decide.2 (by omega)), rfl⟩

end Go.Proofs.YtdohjmbhgjfcaaaDoor

/- 'laws.FnRequestTexts': for every code the law returns true. -/
namespace Go.Proofs.YtdohjmbhgjfcaaaDoor
open Go.RowKit

theorem rqT_len {n : Int} {X : List Int} : (rqT n X).length ≤ 100000 := by
  unfold rqT
  split
  · rename_i h
    unfold sqB at h
    rw [Bool.and_eq_true, Bool.and_eq_true, decide_eq_true_eq] at h
    unfold rtL
    split
    · decide
    · have hb : ∀ x ∈ X, -1000000000000000 ≤ x ∧ x ≤ 1000000000000000 := fun x hx => by
        have h1 := h.2.2
        have h0 := h.1
        unfold belowB at h1
        rw [decide_eq_true_eq] at h1
        have h2 := h1 x hx
        rw [inB_true] at h2 h0
        omega
      have h1 := spL_len (X := X) (i := X.length) (by omega) hb
      rw [List.take_length] at h1
      omega
  · simp
theorem lo_len {n k l : Int} (h : loB n k l = true) : ((loR n k l).length : Int) = l := by
  unfold loR
  rw [h]
  unfold loB at h
  rw [Bool.and_eq_true, Bool.and_eq_true, inB_true, inB_true, inB_true] at h
  rw [if_pos rfl, natL_len]; omega
theorem sd_len {n l s : Int} (h : sdB n l s = true) : ((sdR n l s).length : Int) = l ∧ sqB n (sdR n l s) = true := by
  unfold sdR
  rw [h]
  unfold sdB at h
  rw [Bool.and_eq_true, Bool.and_eq_true] at h
  obtain ⟨h1, h2, h3⟩ := h
  have h1' := h1
  rw [inB_true] at h1' h2 h3
  rw [if_pos rfl, natL_len]
  refine ⟨by omega, ?_⟩
  unfold sqB
  rw [h1, natL_len, decide_eq_true (by omega)]
  unfold belowB
  simp only [Bool.true_and, decide_eq_true_eq]
  intro x hx
  obtain ⟨i, hi, rfl⟩ := natL_mem hx
  rw [inB_true]
  have := Nat.mod_lt (stS s.toNat (i + 1) / 16) (show 0 < n.toNat by omega)
  omega
theorem ne_len {n l q s : Int} (h : nrB n l q s = true) : ((nrR n l q s).length : Int) = l := by
  unfold nrR
  rw [h]
  unfold nrB at h
  rw [Bool.and_eq_true, Bool.and_eq_true, Bool.and_eq_true, inB_true, inB_true, inB_true, inB_true] at h
  rw [if_pos rfl, natL_len]; omega
set_option maxHeartbeats 6400000 in
set_option maxRecDepth 100000 in
theorem lawFnRequestTexts_any {v : Value} {nb : Nat} {w : World} (hc : IsCode w v nb) (ht : Tens w) (he : Errs w) :
    Calls Tryd.prog 5 #[v] w fun e w' => e = .returned (.bool true) ∧ Ext w w' := by
  have hc' := hc
  obtain ⟨ac, cc, rfl⟩ := hc.bytes.form
  replace ht := hid ht
  replace he := hid he

  by_cases hbig : 65536 < nb
  · have hd := hid (decide_eq_true hbig)
    go_enter Tryd.func5, Tryd.ntmps5
    go_wp2_with fail
    refine (vBig_l hc'.bytes).mono ?_
    rw [hd.out]
    rintro e w1 ⟨rfl, rfl⟩
    go_wp2_with fail
    go_ret
    exact ⟨rfl, Ext.refl _⟩
  · have hd := hid (decide_eq_false hbig)
    have hnb : nb ≤ 65536 := by omega
    have cz : Ext w w := Ext.refl _
    go_enter Tryd.func5, Tryd.ntmps5
    go_wp2_with fail
    refine (vBig_l hc'.bytes).mono ?_
    rw [hd.out]
    rintro e wz ⟨rfl, rfl⟩
    go_wp2_with fail
    refine (drawIs_any (w0 := w) (w := w) hc'.bytes).mono ?_
    rintro e w1 ⟨n1, vX, X, rfl, hn1, hX, hXl, e1⟩
    replace cz := Ext.trans cz e1
    have c1 : Ext w1 w1 := Ext.refl _
    obtain ⟨dX, mX, rfl, lX⟩ := hX.form
    obtain ⟨Q1, hQ1⟩ : ∃ q, q = sqB n1 X := ⟨_, rfl⟩
    replace hQ1 := hid hQ1
    obtain ⟨L1, hL1⟩ : ∃ q, q = rqT n1 X := ⟨_, rfl⟩
    have hL1l : L1.length ≤ 100000 := by rw [hL1]; exact rqT_len
    obtain ⟨S1, hS1⟩ : ∃ q, q = bsOf L1 := ⟨_, rfl⟩
    replace hL1 := hid hL1
    replace hS1 := hid hS1
    have qQ1 : (Q1 != Q1) = false := by simp
    go_wp2_with fail
    with_reducible refine (implRequests_any (n := n1) (w0 := w1) (w := w1) hX).mono ?_
    rw [sqB_def, ← hQ1.out]
    rintro e w2 ⟨rfl, e2⟩
    replace cz := Ext.trans cz e2
    replace c1 := Ext.trans c1 e2
    have c2 : Ext w2 w2 := Ext.refl _
    go_wp2_with fail
    with_reducible refine (implRt_any (n := n1) (w0 := w1) (w := w2) hX (ht.out.ext (w' := w1))).mono ?_
    rw [← hL1.out, ← hS1.out, ← hQ1.out]
    rintro e w3 ⟨rfl, e3⟩
    replace cz := Ext.trans cz e3
    replace c1 := Ext.trans c1 e3
    replace c2 := Ext.trans c2 e3
    have c3 : Ext w3 w3 := Ext.refl _
    go_wp2_with fail
    with_reducible refine (specRt_any (n := n1) (w0 := w1) (w := w3) hX).mono ?_
    rw [← hL1.out, ← hS1.out, ← hQ1.out]
    rintro e w4 ⟨rfl, e4⟩
    replace cz := Ext.trans cz e4
    replace c1 := Ext.trans c1 e4
    replace c2 := Ext.trans c2 e4
    replace c3 := Ext.trans c3 e4
    have c4 : Ext w4 w4 := Ext.refl _
    go_wp2_with fail
    with_reducible refine (specIs_any (n := n1) (w0 := w1) (w := w4) hX).mono ?_
    rw [← hQ1.out]
    rintro e w5 ⟨rfl, e5⟩
    replace cz := Ext.trans cz e5
    replace c1 := Ext.trans c1 e5
    replace c2 := Ext.trans c2 e5
    replace c3 := Ext.trans c3 e5
    replace c4 := Ext.trans c4 e5
    have c5 : Ext w5 w5 := Ext.refl _
    obtain ⟨P1, hP1⟩ : ∃ q, q = prB n1 L1 := ⟨_, rfl⟩
    obtain ⟨R1, hR1⟩ : ∃ q, q = prR n1 L1 := ⟨_, rfl⟩
    have hPr1 := fun (u : World) (h1 : Tens u) (h2 : Errs u) => implPr_any (n := n1) (L := L1) (w := u) hL1l h1 h2
    rw [← hS1.out, ← hP1, ← hR1] at hPr1
    replace hPr1 := hid hPr1
    replace hP1 := hid hP1
    replace hR1 := hid hR1
    have htc := hid (ht.out.ext (w' := w5))
    have hec := hid (he.out.ext (w' := w5))
    go_wp2_with fail
    with_reducible refine (hPr1.out w5 htc.out hec.out).mono ?_
    rintro e w6 ⟨u1, rfl, hU1, e6⟩
    replace cz := Ext.trans cz e6
    replace c1 := Ext.trans c1 e6
    replace c2 := Ext.trans c2 e6
    replace c3 := Ext.trans c3 e6
    replace c4 := Ext.trans c4 e6
    replace c5 := Ext.trans c5 e6
    have c6 : Ext w6 w6 := Ext.refl _
    obtain ⟨dU1, mU1, rfl, lU1⟩ := hU1.form
    have hXb := hX.ext (e := c1)
    go_upto_region 10 with fail
    go_cut [98] (fun cv wx => cv = .bool false ∧ Ext w6 wx)
    case first =>
      have ecx : Ext w6 w6 := Ext.refl _
      cases Q1 with
      | false =>
        go_wp2_with fail
        go_meet
        exact ⟨rfl, ecx⟩
      | true =>
        have hb := pr_back (n := n1) (X := X) hQ1.out.symm
        have hLr : L1 = rtL X := by rw [hL1.out, rqT, ← hQ1.out]; rfl
        rw [← hLr, ← hP1.out, ← hR1.out] at hb
        obtain ⟨hbP, hbR⟩ := hb
        subst hbP
        have hU1 : IsInts w6 (.slice dU1 R1.length mU1) X := by rw [← hbR]; exact hU1
        replace hbR := hid hbR
        replace hLr := hid hLr
        go_wp2_with fail
        with_reducible refine (vInts_same (w0 := w6) (w := w6) hU1 hXb).mono ?_
        rintro e wa ⟨rfl, ea⟩
        go_wp2_with fail
        go_meet
        exact ⟨rfl, ea⟩
    case rest =>
      obtain ⟨rfl, hcut⟩ := hcut
      obtain ⟨wg, rfl⟩ : ∃ y : World, y = wc := ⟨_, rfl⟩
      replace cz := Ext.trans cz hcut
      clear hU1 hXb hX
      clear c1 c2 c3 c4 c5 c6
      go_wp2_with fail
      refine (vCut_any (w0 := w) (w := wg) hc' (n := 1) (by omega) hnb).mono ?_
      rintro e w7 ⟨vc1, nc1, rfl, hcc1, e7⟩
      replace cz := Ext.trans cz e7
      have c7 : Ext w7 w7 := Ext.refl _
      obtain ⟨ac1, mc1, rfl⟩ := hcc1.form
      go_wp2_with fail
      refine (drawPr_any (w0 := w7) (w := w7) hcc1).mono ?_
      rintro e w8 ⟨n2, L2, rfl, hn2, hL2l, e8⟩
      replace cz := Ext.trans cz e8
      replace c7 := Ext.trans c7 e8
      have c8 : Ext w8 w8 := Ext.refl _
      obtain ⟨S2, hS2⟩ : ∃ q, q = bsOf L2 := ⟨_, rfl⟩
      rw [← hS2]
      obtain ⟨P2, hP2⟩ : ∃ q, q = prB n2 L2 := ⟨_, rfl⟩
      obtain ⟨R2, hR2⟩ : ∃ q, q = prR n2 L2 := ⟨_, rfl⟩
      have qP2 : (P2 != P2) = false := by simp
      have hPr2 := fun (u : World) (h1 : Tens u) (h2 : Errs u) => implPr_any (n := n2) (L := L2) (w := u) (by omega) h1 h2
      have hPr3 := fun (u : World) => specPr_any (n := n2) (L := L2) (w := u) (by omega)
      rw [← hS2, ← hP2, ← hR2] at hPr2 hPr3
      replace hPr2 := hid hPr2
      replace hPr3 := hid hPr3
      replace hS2 := hid hS2
      replace hP2 := hid hP2
      replace hR2 := hid hR2
      have htc := hid (ht.out.ext (w' := w8))
      have hec := hid (he.out.ext (w' := w8))
      go_wp2_with fail
      with_reducible refine (hPr2.out w8 htc.out hec.out).mono ?_
      rintro e w9 ⟨u2, rfl, hU2, e9⟩
      replace cz := Ext.trans cz e9
      replace c7 := Ext.trans c7 e9
      replace c8 := Ext.trans c8 e9
      have c9 : Ext w9 w9 := Ext.refl _
      obtain ⟨dU2, mU2, rfl, lU2⟩ := hU2.form
      go_wp2_with fail
      with_reducible refine (hPr3.out w9).mono ?_
      rintro e w10 ⟨u3, rfl, hU3, e10⟩
      replace cz := Ext.trans cz e10
      replace c7 := Ext.trans c7 e10
      replace c8 := Ext.trans c8 e10
      replace c9 := Ext.trans c9 e10
      have c10 : Ext w10 w10 := Ext.refl _
      obtain ⟨dU3, mU3, rfl, lU3⟩ := hU3.form
      have hU2 := hU2.ext (e := c9)
      go_wp2_with fail
      with_reducible refine (vInts_same (w0 := w10) (w := w10) hU2 hU3).mono ?_
      rintro e w11 ⟨rfl, e11⟩
      replace cz := Ext.trans cz e11
      replace c7 := Ext.trans c7 e11
      replace c8 := Ext.trans c8 e11
      replace c9 := Ext.trans c9 e11
      replace c10 := Ext.trans c10 e11
      have c11 : Ext w11 w11 := Ext.refl _
      clear hU2 hU3
      go_wp2_with fail
      refine (vCut_any (w0 := w) (w := w11) hc' (n := 2) (by omega) hnb).mono ?_
      rintro e w12 ⟨vc2, nc2, rfl, hcc2, e12⟩
      replace cz := Ext.trans cz e12
      replace c7 := Ext.trans c7 e12
      replace c8 := Ext.trans c8 e12
      replace c9 := Ext.trans c9 e12
      replace c10 := Ext.trans c10 e12
      replace c11 := Ext.trans c11 e12
      have c12 : Ext w12 w12 := Ext.refl _
      obtain ⟨ac2, mc2, rfl⟩ := hcc2.form
      go_wp2_with fail
      refine (drawLo_any (w0 := w12) (w := w12) hcc2).mono ?_
      rintro e w13 ⟨a1, a2, a3, rfl, ha1, ha2, ha3, e13⟩
      replace cz := Ext.trans cz e13
      replace c7 := Ext.trans c7 e13
      replace c8 := Ext.trans c8 e13
      replace c9 := Ext.trans c9 e13
      replace c10 := Ext.trans c10 e13
      replace c11 := Ext.trans c11 e13
      replace c12 := Ext.trans c12 e13
      have c13 : Ext w13 w13 := Ext.refl _
      obtain ⟨QA, hQA⟩ : ∃ q, q = loB a1 a2 a3 := ⟨_, rfl⟩
      obtain ⟨MA, hMA⟩ : ∃ q, q = loR a1 a2 a3 := ⟨_, rfl⟩
      have qA : (QA != QA) = false := by simp
      have hIA := fun (u : World) => implLo_any a1 a2 a3 u
      have hJA := fun (u : World) => specLo_any a1 a2 a3 u
      rw [← hQA, ← hMA] at hIA hJA
      replace hIA := hid hIA
      replace hJA := hid hJA
      replace hQA := hid hQA
      replace hMA := hid hMA
      go_wp2_with fail
      with_reducible refine (hIA.out w13).mono ?_
      rintro e w14 ⟨uiA, rfl, hUA, e14⟩
      replace cz := Ext.trans cz e14
      replace c7 := Ext.trans c7 e14
      replace c8 := Ext.trans c8 e14
      replace c9 := Ext.trans c9 e14
      replace c10 := Ext.trans c10 e14
      replace c11 := Ext.trans c11 e14
      replace c12 := Ext.trans c12 e14
      replace c13 := Ext.trans c13 e14
      have c14 : Ext w14 w14 := Ext.refl _
      obtain ⟨dUA, mUA, rfl, lUA⟩ := hUA.form
      go_wp2_with fail
      with_reducible refine (hJA.out w14).mono ?_
      rintro e w15 ⟨ujA, rfl, hVA, e15⟩
      replace cz := Ext.trans cz e15
      replace c7 := Ext.trans c7 e15
      replace c8 := Ext.trans c8 e15
      replace c9 := Ext.trans c9 e15
      replace c10 := Ext.trans c10 e15
      replace c11 := Ext.trans c11 e15
      replace c12 := Ext.trans c12 e15
      replace c13 := Ext.trans c13 e15
      replace c14 := Ext.trans c14 e15
      have c15 : Ext w15 w15 := Ext.refl _
      obtain ⟨dVA, mVA, rfl, lVA⟩ := hVA.form
      go_wp2_with fail
      refine (vCut_any (w0 := w) (w := w15) hc' (n := 3) (by omega) hnb).mono ?_
      rintro e w16 ⟨vc3, nc3, rfl, hcc3, e16⟩
      replace cz := Ext.trans cz e16
      replace c7 := Ext.trans c7 e16
      replace c8 := Ext.trans c8 e16
      replace c9 := Ext.trans c9 e16
      replace c10 := Ext.trans c10 e16
      replace c11 := Ext.trans c11 e16
      replace c12 := Ext.trans c12 e16
      replace c13 := Ext.trans c13 e16
      replace c14 := Ext.trans c14 e16
      replace c15 := Ext.trans c15 e16
      have c16 : Ext w16 w16 := Ext.refl _
      obtain ⟨ac3, mc3, rfl⟩ := hcc3.form
      go_wp2_with fail
      refine (drawSd_any (w0 := w16) (w := w16) hcc3).mono ?_
      rintro e w17 ⟨b1, b2, b3, rfl, hb1, hb2, hb3, e17⟩
      replace cz := Ext.trans cz e17
      replace c7 := Ext.trans c7 e17
      replace c8 := Ext.trans c8 e17
      replace c9 := Ext.trans c9 e17
      replace c10 := Ext.trans c10 e17
      replace c11 := Ext.trans c11 e17
      replace c12 := Ext.trans c12 e17
      replace c13 := Ext.trans c13 e17
      replace c14 := Ext.trans c14 e17
      replace c15 := Ext.trans c15 e17
      replace c16 := Ext.trans c16 e17
      have c17 : Ext w17 w17 := Ext.refl _
      obtain ⟨QB, hQB⟩ : ∃ q, q = sdB b1 b2 b3 := ⟨_, rfl⟩
      obtain ⟨MB, hMB⟩ : ∃ q, q = sdR b1 b2 b3 := ⟨_, rfl⟩
      have qB : (QB != QB) = false := by simp
      have hIB := fun (u : World) => implSd_any b1 b2 b3 u
      have hJB := fun (u : World) => specSd_any b1 b2 b3 u
      rw [← hQB, ← hMB] at hIB hJB
      replace hIB := hid hIB
      replace hJB := hid hJB
      replace hQB := hid hQB
      replace hMB := hid hMB
      go_wp2_with fail
      with_reducible refine (hIB.out w17).mono ?_
      rintro e w18 ⟨uiB, rfl, hUB, e18⟩
      replace cz := Ext.trans cz e18
      replace c7 := Ext.trans c7 e18
      replace c8 := Ext.trans c8 e18
      replace c9 := Ext.trans c9 e18
      replace c10 := Ext.trans c10 e18
      replace c11 := Ext.trans c11 e18
      replace c12 := Ext.trans c12 e18
      replace c13 := Ext.trans c13 e18
      replace c14 := Ext.trans c14 e18
      replace c15 := Ext.trans c15 e18
      replace c16 := Ext.trans c16 e18
      replace c17 := Ext.trans c17 e18
      have c18 : Ext w18 w18 := Ext.refl _
      obtain ⟨dUB, mUB, rfl, lUB⟩ := hUB.form
      go_wp2_with fail
      with_reducible refine (hJB.out w18).mono ?_
      rintro e w19 ⟨ujB, rfl, hVB, e19⟩
      replace cz := Ext.trans cz e19
      replace c7 := Ext.trans c7 e19
      replace c8 := Ext.trans c8 e19
      replace c9 := Ext.trans c9 e19
      replace c10 := Ext.trans c10 e19
      replace c11 := Ext.trans c11 e19
      replace c12 := Ext.trans c12 e19
      replace c13 := Ext.trans c13 e19
      replace c14 := Ext.trans c14 e19
      replace c15 := Ext.trans c15 e19
      replace c16 := Ext.trans c16 e19
      replace c17 := Ext.trans c17 e19
      replace c18 := Ext.trans c18 e19
      have c19 : Ext w19 w19 := Ext.refl _
      obtain ⟨dVB, mVB, rfl, lVB⟩ := hVB.form
      go_wp2_with fail
      refine (vCut_any (w0 := w) (w := w19) hc' (n := 4) (by omega) hnb).mono ?_
      rintro e w20 ⟨vc4, nc4, rfl, hcc4, e20⟩
      replace cz := Ext.trans cz e20
      replace c7 := Ext.trans c7 e20
      replace c8 := Ext.trans c8 e20
      replace c9 := Ext.trans c9 e20
      replace c10 := Ext.trans c10 e20
      replace c11 := Ext.trans c11 e20
      replace c12 := Ext.trans c12 e20
      replace c13 := Ext.trans c13 e20
      replace c14 := Ext.trans c14 e20
      replace c15 := Ext.trans c15 e20
      replace c16 := Ext.trans c16 e20
      replace c17 := Ext.trans c17 e20
      replace c18 := Ext.trans c18 e20
      replace c19 := Ext.trans c19 e20
      have c20 : Ext w20 w20 := Ext.refl _
      obtain ⟨ac4, mc4, rfl⟩ := hcc4.form
      go_wp2_with fail
      refine (drawNe_any (w0 := w20) (w := w20) hcc4).mono ?_
      rintro e w21 ⟨g1, g2, g3, g4, rfl, hg1, hg2, hg3, hg4, e21⟩
      replace cz := Ext.trans cz e21
      replace c7 := Ext.trans c7 e21
      replace c8 := Ext.trans c8 e21
      replace c9 := Ext.trans c9 e21
      replace c10 := Ext.trans c10 e21
      replace c11 := Ext.trans c11 e21
      replace c12 := Ext.trans c12 e21
      replace c13 := Ext.trans c13 e21
      replace c14 := Ext.trans c14 e21
      replace c15 := Ext.trans c15 e21
      replace c16 := Ext.trans c16 e21
      replace c17 := Ext.trans c17 e21
      replace c18 := Ext.trans c18 e21
      replace c19 := Ext.trans c19 e21
      replace c20 := Ext.trans c20 e21
      have c21 : Ext w21 w21 := Ext.refl _
      obtain ⟨QC, hQC⟩ : ∃ q, q = nrB g1 g2 g3 g4 := ⟨_, rfl⟩
      obtain ⟨MC, hMC⟩ : ∃ q, q = nrR g1 g2 g3 g4 := ⟨_, rfl⟩
      have qC : (QC != QC) = false := by simp
      have hIC := fun (u : World) => implNr_any g1 g2 g3 g4 u
      have hJC := fun (u : World) => specNr_any g1 g2 g3 g4 u
      rw [← hQC, ← hMC] at hIC hJC
      replace hIC := hid hIC
      replace hJC := hid hJC
      replace hQC := hid hQC
      replace hMC := hid hMC
      go_wp2_with fail
      with_reducible refine (hIC.out w21).mono ?_
      rintro e w22 ⟨uiC, rfl, hUC, e22⟩
      replace cz := Ext.trans cz e22
      replace c7 := Ext.trans c7 e22
      replace c8 := Ext.trans c8 e22
      replace c9 := Ext.trans c9 e22
      replace c10 := Ext.trans c10 e22
      replace c11 := Ext.trans c11 e22
      replace c12 := Ext.trans c12 e22
      replace c13 := Ext.trans c13 e22
      replace c14 := Ext.trans c14 e22
      replace c15 := Ext.trans c15 e22
      replace c16 := Ext.trans c16 e22
      replace c17 := Ext.trans c17 e22
      replace c18 := Ext.trans c18 e22
      replace c19 := Ext.trans c19 e22
      replace c20 := Ext.trans c20 e22
      replace c21 := Ext.trans c21 e22
      have c22 : Ext w22 w22 := Ext.refl _
      obtain ⟨dUC, mUC, rfl, lUC⟩ := hUC.form
      go_wp2_with fail
      with_reducible refine (hJC.out w22).mono ?_
      rintro e w23 ⟨ujC, rfl, hVC, e23⟩
      replace cz := Ext.trans cz e23
      replace c7 := Ext.trans c7 e23
      replace c8 := Ext.trans c8 e23
      replace c9 := Ext.trans c9 e23
      replace c10 := Ext.trans c10 e23
      replace c11 := Ext.trans c11 e23
      replace c12 := Ext.trans c12 e23
      replace c13 := Ext.trans c13 e23
      replace c14 := Ext.trans c14 e23
      replace c15 := Ext.trans c15 e23
      replace c16 := Ext.trans c16 e23
      replace c17 := Ext.trans c17 e23
      replace c18 := Ext.trans c18 e23
      replace c19 := Ext.trans c19 e23
      replace c20 := Ext.trans c20 e23
      replace c21 := Ext.trans c21 e23
      replace c22 := Ext.trans c22 e23
      have c23 : Ext w23 w23 := Ext.refl _
      obtain ⟨dVC, mVC, rfl, lVC⟩ := hVC.form
      have hUA := hUA.ext (e := c14)
      have hVA := hVA.ext (e := c15)
      have hUB := hUB.ext (e := c18)
      have hVB := hVB.ext (e := c19)
      have hUC := hUC.ext (e := c22)
      have hVC := hVC.ext (e := c23)
      clear c7 c8 c9 c10 c11 c12 c13 c14 c15 c16 c17 c18 c19 c20 c21 c22
      go_upto_region 26 with fail
      go_cut [222] (fun cv wx => cv = .bool false ∧ Ext w23 wx)
      case first =>
        go_wp2_with fail
        with_reducible refine (vInts_same (w0 := w23) (w := w23) hUA hVA).mono ?_
        rintro e w24 ⟨rfl, e24⟩
        replace cz := Ext.trans cz e24
        replace c23 := Ext.trans c23 e24
        have c24 : Ext w24 w24 := Ext.refl _
        go_wp2_with fail
        with_reducible refine (vInts_same (w0 := w23) (w := w24) hUB hVB).mono ?_
        rintro e w25 ⟨rfl, e25⟩
        replace cz := Ext.trans cz e25
        replace c23 := Ext.trans c23 e25
        replace c24 := Ext.trans c24 e25
        have c25 : Ext w25 w25 := Ext.refl _
        go_wp2_with fail
        with_reducible refine (vInts_same (w0 := w23) (w := w25) hUC hVC).mono ?_
        rintro e w26 ⟨rfl, e26⟩
        replace cz := Ext.trans cz e26
        replace c23 := Ext.trans c23 e26
        replace c24 := Ext.trans c24 e26
        replace c25 := Ext.trans c25 e26
        have c26 : Ext w26 w26 := Ext.refl _
        go_wp2_with fail
        go_meet
        exact ⟨rfl, c23⟩
      case rest =>
        obtain ⟨rfl, hcut⟩ := hcut
        obtain ⟨wh, rfl⟩ : ∃ y : World, y = wc := ⟨_, rfl⟩
        replace cz := Ext.trans cz hcut
        have hUB := hUB.ext (w' := wh)
        clear hVA hVB hVC hUA hUC
        cases QA with
        | false =>
          cases QB with
          | false =>
            cases QC with
            | false =>
              go_wp2_with fail
              go_ret
              exact ⟨rfl, cz⟩
            | true =>
              have hlC : ((MC.length : Int) == g2) = true := by rw [hMC.out, ne_len hQC.out.symm]; simp
              go_wp2_with fail
              go_ret
              exact ⟨rfl, cz⟩
          | true =>
            have hlB : ((MB.length : Int) == b2) = true := by rw [hMB.out, (sd_len hQB.out.symm).1]; simp
            have hsB := hid (show sqB b1 MB = true by rw [hMB.out]; exact (sd_len hQB.out.symm).2)
            cases QC with
            | false =>
              go_wp2_with fail
              with_reducible refine (implRequests_any (n := b1) (w0 := wh) (w := wh) hUB).mono ?_
              rw [sqB_def, hsB.out]
              rintro e wi ⟨rfl, ei⟩
              go_wp2_with fail
              go_ret
              exact ⟨rfl, Ext.trans cz ei⟩
            | true =>
              have hlC : ((MC.length : Int) == g2) = true := by rw [hMC.out, ne_len hQC.out.symm]; simp
              go_wp2_with fail
              with_reducible refine (implRequests_any (n := b1) (w0 := wh) (w := wh) hUB).mono ?_
              rw [sqB_def, hsB.out]
              rintro e wi ⟨rfl, ei⟩
              go_wp2_with fail
              go_ret
              exact ⟨rfl, Ext.trans cz ei⟩
        | true =>
          have hlA : ((MA.length : Int) == a3) = true := by rw [hMA.out, lo_len hQA.out.symm]; simp
          cases QB with
          | false =>
            cases QC with
            | false =>
              go_wp2_with fail
              go_ret
              exact ⟨rfl, cz⟩
            | true =>
              have hlC : ((MC.length : Int) == g2) = true := by rw [hMC.out, ne_len hQC.out.symm]; simp
              go_wp2_with fail
              go_ret
              exact ⟨rfl, cz⟩
          | true =>
            have hlB : ((MB.length : Int) == b2) = true := by rw [hMB.out, (sd_len hQB.out.symm).1]; simp
            have hsB := hid (show sqB b1 MB = true by rw [hMB.out]; exact (sd_len hQB.out.symm).2)
            cases QC with
            | false =>
              go_wp2_with fail
              with_reducible refine (implRequests_any (n := b1) (w0 := wh) (w := wh) hUB).mono ?_
              rw [sqB_def, hsB.out]
              rintro e wi ⟨rfl, ei⟩
              go_wp2_with fail
              go_ret
              exact ⟨rfl, Ext.trans cz ei⟩
            | true =>
              have hlC : ((MC.length : Int) == g2) = true := by rw [hMC.out, ne_len hQC.out.symm]; simp
              go_wp2_with fail
              with_reducible refine (implRequests_any (n := b1) (w0 := wh) (w := wh) hUB).mono ?_
              rw [sqB_def, hsB.out]
              rintro e wi ⟨rfl, ei⟩
              go_wp2_with fail
              go_ret
              exact ⟨rfl, Ext.trans cz ei⟩
end Go.Proofs.YtdohjmbhgjfcaaaDoor

/- A law's row that lists tables: what its condition and its world's shape give the walk. -/
namespace Go.Proofs.YtdohjmbhgjfcaaaDoor
open Go Go.RowKit

/-- a row over listed tables: its contract is handed the reach, the tables and the shape -/
theorem returnsInHanded_laid {H : Type} {enc : TypeId × Value → H} {a : Assume} {C : Checked} {os : Os} {f : FuncId} {fn : Func} {s : ChangeSpec} {conds : List PathCond} {apart fresh handsOn again : Bool} {L : List (String × DataW Unit)}
    (own : ownKnob C.prog.godebug = none) (started : os.Started) (noInit : C.prog.inits.idxOf? f = none) (hfn : C.prog.funcs[f]? = some fn)
    (witness : ∃ (w : World) (tape : Tape) (i : Input), w.os = os ∧ (w.forCall tape i).Shaped C.prog ∧ i.vars = [] ∧ Input.okWide C.prog (w.forCall tape i) .any w.heap.size f i ∧
      ((s.pre enc C.prog fn conds apart (w.forCall tape i).memory i.args ∧ laidMetH C.prog L (w.forCall tape i).memory) ∧ sizedMet enc C.prog fn (OpenSpec.ofChange s) apart (w.forCall tape i).memory i.args) ∧ a.holds C.prog (lone (Frame.enter C.prog f i.args .normal) [] (w.forCall tape i)))
    (contract : ∀ (W : World) (base : Nat) (args : Array Value) (ds gs : List (DataW H)) (before : List MemPlace),
      (∀ (j : Nat) t v, fn.params[j]? = some t → args[j]? = some v → Value.okWide C.prog W .any base t v) →
      DataW.Whole enc C.prog fn.params.toList s.vars apart W args.toList ds gs before →
      conds.all (PathCond.test C.prog ⟨fn.params.toList, ds, s.plain.varTypes C.prog, gs⟩) = true →
      (DataW.weightsEach C.prog (fn.params.toList ++ s.plain.varTypes C.prog) (ds ++ gs)).all (· ≤ reachBytes) = true → laidMetH C.prog L W → W.ShapedOpen C.prog →
      a.holds C.prog (lone (Frame.enter C.prog f args .normal) [] W) →
      Calls C.prog f args W fun e W' => ∃ v, e = .returned v ∧ s.post enc C.prog fn apart fresh handsOn again W args v W') :
    ReturnsInHanded a C os f .any (fun w args => (s.pre enc C.prog fn conds apart w args ∧ laidMetH C.prog L w) ∧ sizedMet enc C.prog fn (OpenSpec.ofChange s) apart w args) (s.post enc C.prog fn apart fresh handsOn again) := by
  refine returnsInHanded_of_calls own started noInit witness ?_
  intro w tape i _ hsh _ hok hpre hholds
  obtain ⟨_, _, _, fn', hfn', _, _, _, _, hval⟩ := hok
  have e : fn' = fn := Option.some.inj (hfn'.symm.trans hfn)
  subst e
  obtain ⟨⟨⟨ds, gs, before, hw, hc⟩, hx⟩, hz⟩ := hpre
  have hw' := DataW.Whole.of_heap (w' := w.forCall tape i) (by rfl) hw
  have hx' : laidMetH C.prog L (w.forCall tape i) := hx.of_heap (by rfl)
  refine (contract (w.forCall tape i) w.heap.size i.args ds gs before hval hw' hc (hz.weights hw) hx' hsh hholds).mono fun e W' ⟨v, he, hp⟩ => ?_
  subst he
  exact ChangeSpec.post_blind hp

theorem tens_data : (Rows.laid_internal_strconv_uint64pow10 : DataW Unit) = Lib.tabData .u64 Lib.pow10Tab := by kernel_rfl
theorem tens_of_laid {W : World} {x y : String × DataW Unit} {rest : List (String × DataW Unit)} (h : laidMet Tryd.prog (x :: y :: ("internal/strconv.uint64pow10", Rows.laid_internal_strconv_uint64pow10) :: rest) W) : Tens W := by
  rw [tens_data] at h
  exact Lib.tabIs_of_head (g := 5) (by kernel_rfl) (by kernel_rfl) Tryd.underlying168 Tryd.underlying71 (by kernel_rfl) (by kernel_rfl) h.tail.tail
theorem most_of_shape {W : World} (h : W.ShapedOpen Tryd.prog) : Most W := Tryd.laysM155.s1_3 W h
theorem errStar : "*" ++ "errors.errorString" = "*errors.errorString" := by decide
theorem errRow (u : TypeId) (h : Tryd.prog.typeName? 3 u = some "*errors.errorString") : u = 173 :=
  typeName_ptr_named (nm := "errors.errorString") (by rw [errStar]; kernel_rfl) (by kernel_rfl) (by decide) u (by rw [errStar]; exact h)
theorem errs_of_laid {W : World} {x y z : String × DataW Unit} {rest : List (String × DataW Unit)} (h : laidMet Tryd.prog (x :: y :: z :: ("strconv.ErrRange", Rows.laid_strconv_ErrRange) :: ("strconv.ErrSyntax", Rows.laid_strconv_ErrSyntax) :: rest) W) : Errs W := by
  have h1 := h.tail.tail.tail
  have h2 := h1.tail
  obtain ⟨a0, s0, hv0, _⟩ := laid_sentinel (g := 2) (ti := 113) (te := 175) (ts := 9) h1 (by kernel_rfl) (by kernel_rfl) Tryd.underlying113 errRow Tryd.underlying173 Tryd.underlying175 rfl rfl Tryd.underlying9 (by kernel_rfl) (by kernel_rfl)
  obtain ⟨a1, s1, hv1, _⟩ := laid_sentinel (g := 1) (ti := 113) (te := 175) (ts := 9) h2 (by kernel_rfl) (by kernel_rfl) Tryd.underlying113 errRow Tryd.underlying173 Tryd.underlying175 rfl rfl Tryd.underlying9 (by kernel_rfl) (by kernel_rfl)
  exact ⟨⟨_, _, hv1⟩, _, _, hv0⟩
end Go.Proofs.YtdohjmbhgjfcaaaDoor

/- Several texts in one (merge.py). -/
namespace Go.Proofs.YtdohjmbhgjfcaaaDoor
open Go.RowKit
/- An argument that came in, read as bytes. -/
open Go.ChangeShapes Go.WideShapes Go.ChangeAt Go.RowKit Go.Deep Go.Joins

theorem Tryd.cellsByte : Tryd.prog.cellsOf 5 = 1 := by kernel_rfl
theorem isBytes_of_trod {H : Type} {enc : TypeId × Value → H} {w : World} {fuel : Nat} {v : Value} {x : DataW H × List MemPlace} (h : DataW.trod enc Tryd.prog w 0 (fun _ => true) true fuel 22 [v] = some x) : ∃ n, IsBytes w v n := by
  rcases open_ints Tryd.underlying22 Tryd.underlying5 Tryd.cellsByte h with ⟨hcs, _⟩ | ⟨a, l, c, zs, hcs, _, hl, hm, hz, hx, hcell, hwz⟩
  · simp only [List.cons.injEq, and_true] at hcs
    subst hcs
    exact ⟨0, none, 0, rfl, fun j hj => by omega⟩
  · simp only [List.cons.injEq, and_true] at hcs
    subst hcs
    have hz' : zs.length = c := by simpa using hz
    refine ⟨l, some a, c, rfl, fun j hj => ?_⟩
    have hc := hcell j (by omega)
    obtain ⟨b, o, rfl⟩ := spot_of_cell (hcell 0 (by omega))
    rw [addr_add_nil] at hc
    have hmem : zs.getD j 0 ∈ zs := by
      rw [List.getD_eq_getElem?_getD, List.getElem?_eq_getElem (by omega)]
      exact List.getElem_mem _
    have hwf := hwz _ hmem
    refine ⟨b, o, zs.getD j 0, rfl, hc, ?_⟩
    simp [Lit.wf] at hwf
    have h1 : IntKind.u8.min = 0 := by decide
    have h2 : IntKind.u8.max = 255 := by decide
    rw [h1, h2] at hwf
    rw [List.getD_eq_getElem?_getD]
    omega

/- An argument that came in, read as a code. -/
open Go.ChangeShapes Go.WideShapes Go.ChangeAt Go.RowKit Go.Deep Go.Joins

theorem isCode_of_trod {H : Type} {enc : TypeId × Value → H} {w : World} {fuel : Nat} {v : Value} {x : DataW H × List MemPlace} (h : DataW.trod enc Tryd.prog w 0 (fun _ => true) true fuel 22 [v] = some x) : ∃ n, IsCode w v n := by
  obtain ⟨n, hb⟩ := isBytes_of_trod h
  refine ⟨n, hb, ?_⟩
  obtain ⟨a0, c0, rfl⟩ := hb.form
  rcases open_ints Tryd.underlying22 Tryd.underlying5 Tryd.cellsByte h with ⟨hcs, _⟩ | ⟨a, l, c, zs, hcs, _, hl, hm, hz, hx, hcell, hwz⟩
  · simp only [List.cons.injEq, and_true, Value.slice.injEq] at hcs
    obtain ⟨rfl, rfl, rfl⟩ := hcs
    exact ⟨_, _, rfl, Nat.le_refl _, by unfold maxLen; omega, .inl rfl⟩
  · simp only [List.cons.injEq, and_true, Value.slice.injEq] at hcs
    obtain ⟨rfl, rfl, rfl⟩ := hcs
    have hz' : zs.length = c0 := by simpa using hz
    refine ⟨_, _, rfl, hl, hm, ?_⟩
    by_cases h0 : c0 = 0
    · exact .inl h0
    · obtain ⟨b, o, rfl⟩ := spot_of_cell (hcell 0 (by omega))
      exact .inr ⟨b, o, rfl⟩

/- The given statement of 'laws.FnRequestTexts', proved: for every input the law returns true, and each argument reads behind the call as it read before. -/
open Go
open Go.ChangeShapes Go.WideShapes Go.ChangeAt Go.RowKit

theorem closedFnRequestTexts : lawFacts Tryd.prog 5 Tryd.f5 Rows.fnRequestTextsSpec Rows.fnRequestTextsRow = true := by kernel_rfl

set_option maxRecDepth 100000 in
theorem liftedFnRequestTexts (os : Os) (started : os.Started) (H : Type) (enc : TypeId × Value → H) :
    ReturnsInHanded {} Tryd.checked os 5 .any (fun w args => (Rows.fnRequestTextsSpec.pre enc Tryd.prog Tryd.f5 Rows.fnRequestTextsRow.domain false w args ∧ laidMetH Tryd.prog Rows.fnRequestTextsRow.laid w) ∧ sizedMet enc Tryd.prog Tryd.f5 (OpenSpec.ofChange Rows.fnRequestTextsSpec) false w args) (Rows.fnRequestTextsSpec.post enc Tryd.prog Tryd.f5 false true false false) := by
  refine returnsInHanded_laid (C := Tryd.checked) (L := Rows.fnRequestTextsRow.laid) factOwn started (by kernel_rfl) Tryd.func5
    (ChangeSpec.witness_shaped (enc := enc) (C := Tryd.checked) (os := os) (X := fun w _ => laidMetH Tryd.prog Rows.fnRequestTextsRow.laid w) false (World.laidAll Tryd.prog os Rows.fnRequestTextsRow.laid) #[.slice none 0 0] 8 (World.laidAll_os _ _ _)
      (World.shaped_of_ZipB (by kernel_rfl) (by kernel_rfl)) (by kernel_rfl) (by kernel_rfl) (by kernel_rfl)
      (by rw [MakeChecks.laidMetH_plain _ _ _ (by kernel_rfl)]; exact laidMet_laidAll _ (by kernel_rfl) (by kernel_rfl))) ?_
  intro W base args ds gs before hval0 hW hcnd hsz0 hL hsh _
  have hval : ∀ (j : Nat) t v, Tryd.f5.params[j]? = some t → args[j]? = some v → Value.okWide Tryd.prog W .any base t v := hval0
  have hsz : (DataW.weightsEach Tryd.prog (Tryd.f5.params.toList ++ Rows.fnRequestTextsSpec.plain.varTypes Tryd.prog) (ds ++ gs)).all (· ≤ reachBytes) = true := hsz0
  have hW' := hW
  obtain ⟨p, q, hA0, hV, rfl, hfz, hnd⟩ := hW
  have hA : DataW.TrodAll enc Tryd.prog W 0 (fun _ => true) true Tryd.f5.params.toList args.toList ds p := hA0
  rw [Tryd.params5] at hA hval hsz
  obtain ⟨v0, vs0, d0, ds0, p0, q0, hargs, rfl, rfl, h0, r0⟩ := trodAll_cons hA
  obtain ⟨rfl, rfl, rfl⟩ := trodAll_nil r0
  obtain rfl : args = #[v0] := by cases args; simp_all
  obtain ⟨rfl, rfl⟩ := trodVars_none hV
  have k0 := h0
  have lt0 : ∀ x ∈ p0, x.block < W.heap.size := by obtain ⟨m, hm⟩ := k0; exact DataW.trod_lt m _ _ _ hm
  have hw0 := weights_of hsz (j := 0) (t := 22) (d := d0) rfl rfl
  obtain ⟨a, l, c, rfl⟩ := okWide_slice Tryd.underlying22 (hval 0 22 v0 rfl rfl)
  obtain ⟨x0, a0⟩ : ∃ x, IsCode W (.slice a l c) x := by
    obtain ⟨fuel, hf⟩ := h0
    exact isCode_of_trod hf
  clear hA0 hval0 hsz0
  rw [MakeChecks.laidMetH_plain _ _ _ (by kernel_rfl)] at hL
  have ftens : Tens W := tens_of_laid hL
  have ferrs : Errs W := errs_of_laid hL
  refine (lawFnRequestTexts_any a0 ftens ferrs).mono fun e W' ⟨he, hext⟩ => ?_
  subst he
  have bel := hext.below
  exact ⟨_, rfl, _, _, _, [], _, [], hW', trodAll_mk1 (shut_bool Tryd.underlying4 _), (trodAll_cons_mk (Below.trod factLaid (by kernel_rfl) (of_decide_eq_true (by kernel_rfl)) k0 bel lt0) trodAll_mk0), rfl, bel.frame _, fun h => by cases h⟩

theorem holdsFnRequestTexts : Rows.FnRequestTextsSaid :=
  OpenClaim.holds_of_wide 5 Tryd.f5 rfl rfl rfl rfl rfl rfl rfl ⟨rfl, rfl, rfl, rfl, rfl⟩ rfl rfl rfl rfl rfl (by kernel_rfl) Tryd.func5 (joined_here closedFnRequestTexts)
    (of_decide_eq_true (by kernel_rfl)) (by unfold Func.isWrapper; first | (rw [if_pos (by decide +kernel)]; kernel_rfl) | (rw [if_neg (by decide +kernel)]; exact ⟨rfl, rfl⟩))
    (fun os started H enc _ => liftedFnRequestTexts os started H enc)

set_option maxRecDepth 100000 in
theorem holdsFnRequestTextsCard : Rows.FnRequestTextsCardSaid :=
  Claim7.holds_tied_plain_at .later [] [.data, .data, .data, .sentinel, .sentinel] true (true, "4a96e569d64017ea47c089ccbf86547a824ff699f9b4509091682e60e9711e3a") true
    holdsFnRequestTexts (fun _ h => by cases h) (by kernel_rfl) (fun _ h => by cases h) fnRequestTexts_row_tie rfl ⟨rfl, rfl⟩ (by kernel_rfl) rfl
    (fun f fn hf hfn => by
      obtain rfl : f = 5 := Option.some.inj ((show Tryd.prog.funcNamed "loop.example/g01087/laws.FnRequestTexts" = some 5 by kernel_rfl).symm.trans hf) |>.symm
      obtain rfl : fn = Tryd.f5 := (Option.some.inj (Tryd.func5.symm.trans hfn)).symm
      exact ⟨by kernel_rfl, fun j t ht => by
        rw [Tryd.params5] at ht
        have hm : t ∈ [22] := by simpa using Array.mem_of_getElem? ht
        have hall : ([22].all fun u => !Tryd.prog.wantsStandIn u) = true := by kernel_rfl
        exact (show Tryd.prog.wantsStandIn t = false by simpa using List.all_eq_true.1 hall t hm)⟩)
    (by kernel_rfl)

#print axioms holdsFnRequestTextsCard

end Go.Proofs.YtdohjmbhgjfcaaaDoor

