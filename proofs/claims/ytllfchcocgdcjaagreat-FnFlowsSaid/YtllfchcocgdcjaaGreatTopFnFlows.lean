/- Several texts in one: the last ones and the statement. -/
import Derived.Test.YtllfchcocgdcjaaGreatGrA
import Derived.ProofKit
import Derived.OpenShut
import Derived.SizedLaws
import Derived.Lib.SmallJoins
import Derived.Deep.Matrix
import Derived.Test.YtllfchcocgdcjaaGreatRows
import Derived.JoinedOf
import Derived.KernelRfl
import Derived.Test.YtllfchcocgdcjaaGreatFwI
import Derived.Test.YtllfchcocgdcjaaGreatGrL
import Derived.Test.YtllfchcocgdcjaaGreatGrK
import Derived.Test.YtllfchcocgdcjaaGreatGrD
import Derived.Test.YtllfchcocgdcjaaGreatRzW
import Derived.Deep.DeepCutAuto
import Derived.Test.YtllfchcocgdcjaaGreatGrI
import Derived.Test.YtllfchcocgdcjaaGreatLpP
import Derived.Test.YtllfchcocgdcjaaGreatGrJ
import Derived.Test.YtllfchcocgdcjaaGreatGrC
/- Arguments that came in, read as lists of ints, as rows of ints, as a problem. -/
namespace Go.Proofs.YtllfchcocgdcjaaGreat
open Go.ChangeShapes Go.WideShapes Go.ChangeAt Go.RowKit Go.Deep Go.Joins

theorem Tryz.cellsInts : Tryz.prog.cellsOf 27 = 1 := by kernel_rfl
theorem Tryz.cellsInt : Tryz.prog.cellsOf 3 = 1 := by kernel_rfl
theorem Tryz.bytesInts : Tryz.prog.bytesOf 27 = 24 := by kernel_rfl
theorem Tryz.bytesInt : Tryz.prog.bytesOf 3 = 8 := by kernel_rfl

theorem i64_of_wf {n : Int} (h : (Lit.int .i64 n).wf = true) : I64 n := by
  have := bounds_i64 h
  unfold I64
  omega

theorem addr_add_nil {b o j : Nat} : (⟨b, o, none⟩ : Addr).add j = ⟨b, o + j, none⟩ := by
  unfold Addr.add; split <;> simp_all

theorem spot_of_cell {w : World} {a : Addr} {u : Value} (h : w.cell? (a.add 0) = some u) : ∃ b o, a = ⟨b, o, none⟩ := by
  obtain ⟨b, o, s⟩ := a
  have hs := World.cell?_spot h
  simp [Addr.add] at hs
  subst hs
  exact ⟨b, o, rfl⟩

/-- A row as open_int_rows tells it. -/
theorem isInts_of_row {w : World} {A : Option Addr} {L C : Nat} {Z : List Int} (h1 : L ≤ C) (h2 : Z.length = C) (h3 : ∀ n ∈ Z, (Lit.int .i64 n).wf = true) (h4 : A = none → C = 0)
    (h5 : ∀ a', A = some a' → ∀ c, c < C → w.cell? (a'.add c) = some (.int .i64 (Z.getD c 0))) (hs : Short C) : IsInts w (.slice A L C) (Z.take L) := by
  have hl : (Z.take L).length = L := by simp; omega
  refine ⟨A, C, by rw [hl], ⟨by rw [hl]; exact Nat.le_trans h1 hs, by rw [hl]; exact h1⟩, fun x hx => i64_of_wf (h3 x (List.mem_of_mem_take hx)), fun j hj => ?_⟩
  rw [hl] at hj
  cases A with
  | none => have := h4 rfl; omega
  | some a =>
    have hc := h5 a rfl j (by omega)
    obtain ⟨b, o, rfl⟩ := spot_of_cell (h5 a rfl 0 (by omega))
    refine ⟨b, o, rfl, ?_⟩
    rw [addr_add_nil] at hc
    rw [hc]
    simp [nth, List.getD_eq_getElem?_getD, hj]

section
variable {H : Type} {enc : TypeId × Value → H} {w : World}

theorem isInts_of_trod {fuel : Nat} {v : Value} {x : DataW H × List MemPlace} (h : DataW.trod enc Tryz.prog w 0 (fun _ => true) true fuel 27 [v] = some x)
    (hw : ∀ n ∈ x.1.weights Tryz.prog 27, n ≤ reachBytes) : ∃ xs, IsInts w v xs := by
  rcases open_ints Tryz.underlying27 Tryz.underlying3 Tryz.cellsInt h with ⟨hcs, _⟩ | ⟨a, l, c, zs, hcs, _, hl, hm, hz, hx, hcell, hwz⟩
  · simp only [List.cons.injEq, and_true] at hcs
    subst hcs
    exact ⟨[], IsInts.nil w⟩
  · simp only [List.cons.injEq, and_true] at hcs
    subst hcs
    have hz' : zs.length = c := by simpa using hz
    subst hx
    have hb := hw ((zs.take l).length * 1 * 8 + (zs.drop l).length * 8) (by
      simp only [DataW.weights, Tryz.underlying27, Tryz.bytesInt, List.mem_cons]
      left
      simp [lits]
      omega)
    simp only [reachBytes, List.length_take, List.length_drop] at hb
    refine ⟨zs.take l, isInts_of_row hl hz' hwz (fun h => by cases h) (fun a' ha c' hc' => ?_) (by unfold Short; omega)⟩
    cases ha
    exact hcell c' (by omega)

theorem isRows_of_trod {fuel : Nat} {v : Value} {x : DataW H × List MemPlace} (h : DataW.trod enc Tryz.prog w 0 (fun _ => true) true fuel 24 [v] = some x)
    (hw : ∀ n ∈ x.1.weights Tryz.prog 24, n ≤ reachBytes) : ∃ M, IsRows w v M := by
  rcases open_int_rows Tryz.underlying24 Tryz.underlying27 Tryz.underlying3 Tryz.cellsInts Tryz.cellsInt h with ⟨hcs, _⟩ | ⟨a, len, cap, A, L, C, Z, hcs, _, hl, hm, hx, hrow⟩
  · simp only [List.cons.injEq, and_true] at hcs
    subst hcs
    exact ⟨[], IsRows.nil w⟩
  · simp only [List.cons.injEq, and_true] at hcs
    subst hcs
    subst hx
    have hb := hw (cap * 24) (by
      simp only [DataW.weights, Tryz.underlying24, Tryz.bytesInts, List.mem_cons]
      left
      simp
      omega)
    simp only [reachBytes] at hb
    have hlen : ((List.range len).map fun r => (Z r).take (L r)).length = len := by simp
    refine ⟨(List.range len).map fun r => (Z r).take (L r), some a, cap, by rw [hlen], by rw [hlen]; unfold ShortRows; omega, fun j hj => ?_⟩
    rw [hlen] at hj
    obtain ⟨hc, h1, _, h3, h4, h5, h6⟩ := hrow j (by omega)
    obtain ⟨b, o, rfl⟩ := spot_of_cell (hrow 0 (by omega)).1
    rw [addr_add_nil] at hc
    have hr : row ((List.range len).map fun r => (Z r).take (L r)) j = (Z j).take (L j) := by simp [row, hj]
    refine ⟨b, o, _, rfl, hc, ?_⟩
    rw [hr]
    refine isInts_of_row h1 h3 h4 h5 (fun a' ha c hc' => (h6 a' ha).2 c hc') ?_
    cases hA : A j with
    | none => rw [h5 hA]; unfold Short; omega
    | some a' =>
      have hb2 := hw (C j * 8) (by
        simp only [DataW.weights, Tryz.underlying24, List.mem_cons, List.mem_append]
        right; left
        have hmem : (intRow .i64 (A j) (L j) (Z j) : DataW H) ∈ (List.range len).map fun r => intRow .i64 (A r) (L r) (Z r) := List.mem_map.2 ⟨j, List.mem_range.2 hj, rfl⟩
        have hin : C j * 8 ∈ (intRow .i64 (A j) (L j) (Z j) : DataW H).weights Tryz.prog 27 := by
          rw [hA]
          simp only [intRow, DataW.weights, Tryz.underlying27, Tryz.bytesInt, List.mem_cons]
          left
          simp [lits]
          omega
        generalize (List.range len).map (fun r => (intRow .i64 (A r) (L r) (Z r) : DataW H)) = l at hmem
        clear hw h
        induction l with
        | nil => cases hmem
        | cons d l ih =>
          simp only [DataW.weightsAll, List.mem_append]
          rcases List.mem_cons.1 hmem with rfl | hmem
          · exact .inl hin
          · exact .inr (ih hmem))
      simp only [reachBytes] at hb2
      unfold Short
      omega

theorem weights_of {ts : List TypeId} {ds : List (DataW H)} (h : (DataW.weightsEach Tryz.prog ts ds).all (· ≤ reachBytes) = true) {j : Nat} {t : TypeId} {d : DataW H} (ht : ts[j]? = some t) (hd : ds[j]? = some d) :
    ∀ n ∈ d.weights Tryz.prog t, n ≤ reachBytes := fun n hn => by
  simpa using List.all_eq_true.1 h _ (DataW.weights_mem_each ht hd n hn)
end
end Go.Proofs.YtllfchcocgdcjaaGreat

/- Closed facts of the program that every row asks: each by itself. -/
namespace Go.Proofs.YtllfchcocgdcjaaGreat

/-- the letters of the program's head -/
def headSigns : List Char := [Char.ofNat 104, Char.ofNat 97, Char.ofNat 114, Char.ofNat 110, Char.ofNat 101, Char.ofNat 115, Char.ofNat 115, Char.ofNat 32, Char.ofNat 57, Char.ofNat 50, Char.ofNat 57, Char.ofNat 51, Char.ofNat 99, Char.ofNat 57, Char.ofNat 99, Char.ofNat 99, Char.ofNat 100, Char.ofNat 50, Char.ofNat 98, Char.ofNat 56, Char.ofNat 54, Char.ofNat 54, Char.ofNat 56, Char.ofNat 101, Char.ofNat 101, Char.ofNat 48, Char.ofNat 52, Char.ofNat 52, Char.ofNat 50, Char.ofNat 52, Char.ofNat 48, Char.ofNat 53, Char.ofNat 56, Char.ofNat 57, Char.ofNat 101, Char.ofNat 97, Char.ofNat 98, Char.ofNat 54, Char.ofNat 54, Char.ofNat 98, Char.ofNat 48, Char.ofNat 52, Char.ofNat 57, Char.ofNat 53, Char.ofNat 54, Char.ofNat 101, Char.ofNat 101, Char.ofNat 57, Char.ofNat 52, Char.ofNat 99, Char.ofNat 49, Char.ofNat 49, Char.ofNat 98, Char.ofNat 101, Char.ofNat 55, Char.ofNat 98, Char.ofNat 56, Char.ofNat 101, Char.ofNat 98, Char.ofNat 100, Char.ofNat 100, Char.ofNat 100, Char.ofNat 53, Char.ofNat 57, Char.ofNat 49, Char.ofNat 53, Char.ofNat 55, Char.ofNat 54, Char.ofNat 48, Char.ofNat 101, Char.ofNat 55, Char.ofNat 50, Char.ofNat 32, Char.ofNat 99, Char.ofNat 117, Char.ofNat 116, Char.ofNat 32, Char.ofNat 97, Char.ofNat 116, Char.ofNat 32, Char.ofNat 108, Char.ofNat 111, Char.ofNat 111, Char.ofNat 112, Char.ofNat 46, Char.ofNat 101, Char.ofNat 120, Char.ofNat 97, Char.ofNat 109, Char.ofNat 112, Char.ofNat 108, Char.ofNat 101, Char.ofNat 47, Char.ofNat 103, Char.ofNat 48, Char.ofNat 49, Char.ofNat 48, Char.ofNat 56, Char.ofNat 55, Char.ofNat 47, Char.ofNat 108, Char.ofNat 97, Char.ofNat 119, Char.ofNat 115, Char.ofNat 46, Char.ofNat 70, Char.ofNat 110, Char.ofNat 70, Char.ofNat 108, Char.ofNat 111, Char.ofNat 119, Char.ofNat 115]

set_option maxRecDepth 100000 in
theorem factHead : Tryz.prog.initOrder = String.ofList headSigns := by kernel_rfl
theorem factSigns : Tryz.prog.initOrder.toList = headSigns := by rw [factHead, String.toList_ofList]
theorem factLaid : laidOutB Tryz.prog = true := by kernel_rfl
theorem factMaps : mapsRowed Tryz.prog = true := by kernel_rfl
theorem factStops : (Tryz.prog.stops == []) = true := by kernel_rfl
theorem factKnobs : (Tryz.prog.stopKnobs == []) = true := by kernel_rfl
theorem factKeys : Tryz.prog.plainKeys = true := by kernel_rfl
theorem factOwn : ownKnob Tryz.prog.godebug = none := by kernel_rfl
theorem headFirst : (behindMainWord (wordsSigns headSigns)).head? = some "cut".toList := by kernel_rfl
theorem factHeard : Tryz.prog.stopsHeard = true := by kernel_rfl
theorem factLater : Tryz.prog.laysLater = false := by kernel_rfl
theorem factReflect : Tryz.prog.bearsReflect = false := by kernel_rfl
theorem factDoor : Tryz.prog.doorFits [] = true := by kernel_rfl

theorem factStrip (rest : List (List Char)) : stripLifts liftWords ("cut".toList :: rest) = ([], "cut".toList :: rest) := by rfl
theorem make_of {P : Program} {L : List Char} (h : P.initOrder.toList = L) (h0 : (behindMainWord (wordsSigns L)).head? = some "cut".toList) : P.make = some .cut := by
  unfold Program.make
  rw [h]
  generalize behindMainWord (wordsSigns L) = l at h0
  cases l with
  | nil => cases h0
  | cons c rest =>
    have hc : c = "cut".toList := Option.some.inj h0
    subst hc
    rfl
theorem lifts_of {P : Program} {L : List Char} (h : P.initOrder.toList = L) (h0 : (behindMainWord (wordsSigns L)).head? = some "cut".toList) : P.liftsFinal = false := by
  unfold Program.liftsFinal Program.headLifts
  rw [h]
  generalize behindMainWord (wordsSigns L) = l at h0
  cases l with
  | nil => cases h0
  | cons c rest =>
    have hc : c = "cut".toList := Option.some.inj h0
    subst hc
    simp only [factStrip]
    rfl
theorem enter_of {P : Program} {L : List Char} (h : P.initOrder.toList = L) (h0 : (behindMainWord (wordsSigns L)).head? = some "cut".toList) (h1 : P.laysLater = false) (h2 : P.bearsReflect = false) (h3 : P.doorFits [] = true) : P.mayEnter = true := by
  unfold Program.mayEnter
  rw [h]
  generalize behindMainWord (wordsSigns L) = l at h0
  cases l with
  | nil => cases h0
  | cons c rest =>
    have hc : c = "cut".toList := Option.some.inj h0
    subst hc
    simp only [factStrip, h1, h2, h3]
    rfl
theorem factMake : Tryz.prog.make = some .cut := make_of factSigns headFirst
theorem factLifts : Tryz.prog.liftsFinal = false := lifts_of factSigns headFirst
theorem factEnter : Tryz.prog.mayEnter = true := enter_of factSigns headFirst factLater factReflect factDoor

/-- What a row asks besides the program's own facts. -/
def lawFacts (P : Program) (f : FuncId) (fn : Func) (s : ChangeSpec) (c : OpenClaim) : Bool :=
  c.wf (OpenSpec.ofChange s) && fn.params.all (P.readableRec ·) && namedTie P c.named s.vars && (c.stops == []) && (c.knobs == []) &&
  (c.inPlace == P.inPlace f) && (c.unfollowed == P.unfollowed f) && (c.recurses == P.recurses f) && (c.named == P.varsNamed f) &&
  (c.maps == (fn.params.toList ++ s.plain.varTypes P).any (P.mapsRec ·)) && (c.ifaces == (fn.params.toList ++ s.plain.varTypes P).any (P.ifacesRec ·)) && (c.mapsOut == P.mapsAmong fn.resultTypes.toList) &&
  (c.loops == (fn.params.toList ++ s.plain.varTypes P).any (P.loopsFrom ·)) && (c.wideKeys == (fn.params.toList ++ s.plain.varTypes P ++ fn.resultTypes.toList).any (P.wideKeysFrom ·)) &&
  s.vars.all (P.varReadable ·) && fn.resultTypes.all (fun t => P.readableRec t && decide (t < P.types.size)) && (c.ifacesOut == fn.resultTypes.toList.any (P.ifacesRec ·)) && (c.loopsOut == fn.resultTypes.toList.any (P.loopsFrom ·)) && (c.plainKeys == true) && c.shortTexts.isNone && (c.lifted == false) && (some Make.cut == some c.make) && (c.kinds == (if c.domain.isEmpty then [] else fn.params.toList.map fun t => match P.underlying t with | some (.int k) => some k | _ => none)) && (c.pinned == c.pinnedBy) &&
  (c.veiled == (fn.params.toList ++ s.plain.varTypes P ++ fn.resultTypes.toList).any (P.veiledRec ·)) && c.veiledFits P fn.params.toList (fn.params.toList ++ s.plain.varTypes P ++ fn.resultTypes.toList)

theorem joined_of {P : Program} {f : FuncId} {fn : Func} {s : ChangeSpec} {c : OpenClaim} (h1 : laidOutB P = true) (h2 : mapsRowed P = true) (h3 : (P.stops == []) = true) (h4 : (P.stopKnobs == []) = true)
    (h5 : P.stopsHeard = true) (h6 : P.mayEnter = true) (h7 : P.liftsFinal = false) (h8 : P.make = some .cut) (h9 : P.plainKeys = true) (h : lawFacts P f fn s c = true) : joinedFacts P f fn s c = true := by
  unfold joinedFacts
  rw [h1, h2, h3, h4, h5, h6, h7, h8, h9]
  unfold lawFacts at h
  simp only [Bool.and_eq_true] at h ⊢
  obtain ⟨⟨⟨⟨⟨⟨⟨⟨⟨⟨⟨⟨⟨⟨⟨⟨⟨⟨⟨⟨⟨⟨⟨⟨⟨k1, k2⟩, k3⟩, k4⟩, k5⟩, k6⟩, k7⟩, k8⟩, k9⟩, k10⟩, k11⟩, k12⟩, k13⟩, k14⟩, k15⟩, k16⟩, k17⟩, k18⟩, k19⟩, k20⟩, k21⟩, k22⟩, k23⟩, k24⟩, k25⟩, k26⟩ := h
  simp only [k1, k2, k3, k4, k5, k6, k7, k8, k9, k10, k11, k12, k13, k14, k15, k16, k17, k18, k19, k20, k21, k22, k24, k25, k26, and_self]
  exact ⟨⟨⟨⟨trivial, k23⟩, trivial⟩, trivial⟩, trivial⟩

theorem joined_here {f : FuncId} {fn : Func} {s : ChangeSpec} {c : OpenClaim} (h : lawFacts Tryz.prog f fn s c = true) : joinedFacts Tryz.prog f fn s c = true :=
  joined_of factLaid factMaps factStops factKnobs factHeard factEnter factLifts factMake factKeys h

end Go.Proofs.YtllfchcocgdcjaaGreat

/- The reference's flow cost walked. -/
namespace Go.Proofs.YtllfchcocgdcjaaGreat
open Go.RowKit

theorem lsN_chn {k n m : Nat} {X : List Int} {g : Nat → Nat} (hn : n = X.length) (h : Mtc (Al k) n m g) : chnB k X (lsN n g) = true := by
  rw [chn_iff]
  refine ⟨by rw [lsN_len, hn], ?_, fun i hi => ?_⟩
  · refine difL_full.2 fun i hi hm => ?_
    rw [lsN_len] at hi
    rw [lsN_at hi] at hm
    have e : (lsN n g).take i = lsN i g := by
      unfold lsN
      rw [← List.map_take, List.take_range, Nat.min_eq_left (by omega)]
    rw [e] at hm
    obtain ⟨j, hj, hje⟩ := List.mem_map.1 hm
    have hji := List.mem_range.1 hj
    have := h.2 j i (by omega) hi (by omega)
    omega
  · rw [lsN_len] at hi
    rw [lsN_at hi]
    have := (h.1 i hi).2
    rw [show Al k i (g i) = (alB k i (g i) = true) from rfl, alB_iff] at this
    omega
theorem ccTo_lsN {M : List (List Int)} {a X : List Int} {g : Nat → Nat} : ccTo M a X (lsN X.length g) X.length = mcost (flC M a X) g X.length := by
  refine sgTo_congr fun i hi => ?_
  show flC M a X i (nth (lsN X.length g) i).toNat = flC M a X i (g i)
  rw [lsN_at hi]
  rfl
/-- a list of chains as a matching -/
theorem chn_mtc {k : Nat} {X b : List Int} (h : chnB k X b = true) : Mtc (Al k) X.length (k + X.length) (fun i => (nth b i).toNat) := by
  obtain ⟨h1, h2, h3⟩ := chn_iff.1 h
  refine ⟨fun i hi => ?_, fun i j hi hj e => ?_⟩
  · have := h3 i (by omega)
    refine ⟨show (nth b i).toNat < _ by omega, ?_⟩
    show alB k i (nth b i).toNat = true
    rw [alB_iff]
    omega
  · have hn := difL_full.1 h2
    have e1 := h3 i (by omega)
    have e2 := h3 j (by omega)
    have e' : nth b i = nth b j := by
      have e0 : (nth b i).toNat = (nth b j).toNat := e
      omega
    have mem : ∀ x y : Nat, x < y → y < b.length → nth b x ∈ b.take y := fun x y hx hy => by
      rw [List.mem_iff_getElem]
      exact ⟨x, by rw [List.length_take]; omega, by simp [nth, show x < b.length by omega]⟩
    rcases Nat.lt_trichotomy i j with q | q | q
    · exact absurd (by rw [← e']; exact mem i j q (by omega)) (hn j (by omega))
    · exact q
    · exact absurd (by rw [e']; exact mem j i q (by omega)) (hn i (by omega))
set_option maxHeartbeats 1600000 in
set_option maxRecDepth 100000 in
theorem specFc_any {v va vX : Value} {M : List (List Int)} {a X : List Int} {w0 w : World} [Ext w0 w] (hm : IsMet w0 v M) (ha : IsInts w0 va a) (hXi : IsInts w0 vX X) :
    Calls Tryz.prog 9 #[v, va, vX] w (FcPost M a X w) := by
  have hm' := hm
  have ha' := ha
  have hX' := hXi
  have hFl := hid (fun (hs : srvB M a X = true) => show ∀ u, Ext w0 u → Calls Tryz.prog 26 #[v, va, vX] u (FlowPost a.length (flC M a X) X.length (a.length + X.length) u) from fun u eu => l7Flow_any (w0 := w0) (w := u) hm' ha' hX' hs)
  have hCo := hid (fun (hs : srvB M a X = true) => show ∀ u, Ext w0 u → ∀ vb b, IsInts u vb b → chnB a.length X b = true → Calls Tryz.prog 24 #[v, va, vX, vb] u (fun e w' => e = .returned (.int .i64 (ccTo M a X b X.length)) ∧ Ext u w') from fun u eu vb b hb hc => l7Cost_any (w0 := u) (w := u) (hm'.ext (e := eu)) (ha'.ext (e := eu)) (hX'.ext (e := eu)) hb hs hc)
  obtain ⟨v1, rfl, hR⟩ := hm
  obtain ⟨a1, c1, rfl, l1⟩ := hR.form
  obtain ⟨da, ma, rfl, la⟩ := ha.form
  obtain ⟨dx, mx, rfl, lx⟩ := hXi.form
  obtain ⟨sb, hsb⟩ : ∃ b, b = srvB M a X := ⟨_, rfl⟩
  obtain ⟨OK, hOK⟩ : ∃ P, P = FcOk M a X := ⟨_, rfl⟩
  unfold FcPost
  rw [← hsb, ← hOK]
  replace hsb := hid hsb
  replace hOK := hid hOK
  go_enter Tryz.func9, Tryz.ntmps9
  go_upto_region 1 with fail
  have e1 : Ext w (w.alloc (.cells #[.slice a1 M.length c1] 26)) := inferInstance
  have x0 : (w.alloc (.cells #[.slice a1 M.length c1] 26)).cell? ⟨w.heap.size, 0, none⟩ = some (.slice a1 M.length c1) := by go_simp
  have hbx : ∃ q, q = w.heap.size := ⟨_, rfl⟩
  obtain ⟨bx, hbx⟩ := hbx
  rw [← hbx] at x0 ⊢
  generalize w.alloc (.cells #[.slice a1 M.length c1] 26) = w1 at *
  replace hbx := hid hbx
  have e01 : Ext w0 w1 := Ext.trans ‹Ext w0 w› e1
  cases hM : metB M with
  | false =>
    have hs := hid (show srvB M a X = false by rw [srvB, hM]; rfl)
    have hcf := hid (show sb = false by rw [hsb.out, hs.out])
    have hno := hid (show OK 0 by rw [hOK.out]; exact FcOk.no hs.out)
    replace hM := hid hM
    go_wp2_with fail
    with_reducible refine (l6Good_any (w0 := w0) hm').mono ?_
    rw [hM.out]
    rintro e w2 ⟨rfl, e2⟩
    go_wp2_with fail
    go_ret2
    exact ⟨0, by rw [hcf.out]; rfl, hno.out, Ext.trans e1 e2⟩
  | true =>
    replace hM := hid hM
    cases hs : srvB M a X with
    | false =>
      have hcf := hid (show sb = false by rw [hsb.out, hs])
      have hno := hid (show OK 0 by rw [hOK.out]; exact FcOk.no hs)
      replace hs := hid hs
      go_wp2_with fail
      with_reducible refine (l6Good_any (w0 := w0) hm').mono ?_
      rw [hM.out]
      rintro e w2 ⟨rfl, e2⟩
      have x2 := e2.cell x0
      have e02 : Ext w0 w2 := Ext.trans e01 e2
      go_wp2_with fail
      with_reducible refine (l6Start_any (w0 := w0) (w := w2) hm' ha' hX').mono ?_
      rw [hs.out]
      rintro e w3 ⟨rfl, e3⟩
      go_wp2_with fail
      go_ret2
      exact ⟨0, by rw [hcf.out]; rfl, hno.out, Ext.trans e1 (Ext.trans e2 e3)⟩
    | true =>
      have hct := hid (show sb = true by rw [hsb.out, hs])
      have hs2 := hid hs
      clear hs
      go_wp2_with fail
      with_reducible refine (l6Good_any (w0 := w0) hm').mono ?_
      rw [hM.out]
      rintro e w2 ⟨rfl, e2⟩
      have x2 := e2.cell x0
      have e02 : Ext w0 w2 := Ext.trans e01 e2
      go_wp2_with fail
      with_reducible refine (l6Start_any (w0 := w0) (w := w2) hm' ha' hX').mono ?_
      rw [hs2.out]
      rintro e w3 ⟨rfl, e3⟩
      have x3 := e3.cell x2
      have e03 : Ext w0 w3 := Ext.trans e02 e3
      have e13 : Ext w1 w3 := Ext.trans e2 e3
      go_upto_region 3 with fail
      have hSx := hid (show ∀ u, Ext w3 u → u.cell? ⟨bx, 0, none⟩ = some (.slice a1 M.length c1) from fun u e => e.cell x3)
      refine region_held_from (w0 := w3) (S := fun u => u.cell? ⟨bx, 0, none⟩ = some (.slice a1 M.length c1)) (by kernel_rfl) hSx.out (fun wd ed hHeld0 => ?_)
      clear x3 x2
      refine wpAnyH_take (i := 0) (v := .agg #[.slice a1 M.length c1]) rfl (by kernel_rfl) (by kernel_rfl) (by kernel_rfl) (fun _ _ _ h => h) (Or.inl ⟨by rfl, by intro wx hx; go_simp⟩) (by assumption) ?_
      try simp only [List.getElem_toArray, List.getElem_cons_zero, Act.put, List.setIfInBounds_toArray, List.set_cons_zero, List.set_cons_succ]
      refine wpAnyH_take (i := 1) (v := .slice da a.length ma) rfl (by kernel_rfl) (by kernel_rfl) (by kernel_rfl) (fun _ _ _ h => h) (Or.inl ⟨by rfl, by intro wx hx; go_simp⟩) (by assumption) ?_
      try simp only [List.getElem_toArray, List.getElem_cons_succ, List.getElem_cons_zero, Act.put, List.setIfInBounds_toArray, List.set_cons_zero, List.set_cons_succ]
      refine wpAnyH_take (i := 2) (v := .slice dx X.length mx) rfl (by kernel_rfl) (by kernel_rfl) (by kernel_rfl) (fun _ _ _ h => h) (Or.inl ⟨by rfl, by intro wx hx; go_simp⟩) (by assumption) ?_
      try simp only [List.getElem_toArray, List.getElem_cons_succ, List.getElem_cons_zero, Act.put, List.setIfInBounds_toArray, List.set_cons_zero, List.set_cons_succ]
      refine wpAnyH_take (i := 3) (v := .agg #[.slice a1 M.length c1]) rfl (by kernel_rfl) (by kernel_rfl) (by kernel_rfl) (fun _ _ _ h => h) (Or.inl ⟨by rfl, by intro wx hx; go_simp⟩) (by assumption) ?_
      try simp only [List.getElem_toArray, List.getElem_cons_succ, List.getElem_cons_zero, Act.put, List.setIfInBounds_toArray, List.set_cons_zero, List.set_cons_succ]
      refine wpAnyH_take (i := 4) (v := .slice da a.length ma) rfl (by kernel_rfl) (by kernel_rfl) (by kernel_rfl) (fun _ _ _ h => h) (Or.inl ⟨by rfl, by intro wx hx; go_simp⟩) (by assumption) ?_
      try simp only [List.getElem_toArray, List.getElem_cons_succ, List.getElem_cons_zero, Act.put, List.setIfInBounds_toArray, List.set_cons_zero, List.set_cons_succ]
      refine wpAnyH_take (i := 5) (v := .slice dx X.length mx) rfl (by kernel_rfl) (by kernel_rfl) (by kernel_rfl) (fun _ _ _ h => h) (Or.inl ⟨by rfl, by intro wx hx; go_simp⟩) (by assumption) ?_
      try simp only [List.getElem_toArray, List.getElem_cons_succ, List.getElem_cons_zero, Act.put, List.setIfInBounds_toArray, List.set_cons_zero, List.set_cons_succ]
      refine wpAnyH_ready (rs := [6]) (by kernel_rfl) (by simp) ?_
      refine AllReadyH.cons rfl (fun K hK => ?_) AllReadyH.nil
      go_simp
      have e0d : Ext w0 wd := Ext.trans e03 ed
      go_at_call 26
      with_reducible refine (hFl.out hs2.out wd e0d).mono ?_
      rintro e w5 ⟨d5, n5, g5, p5, q5, rfl, h5, hF5, e5⟩
      have e35 : Ext w3 w5 := Ext.trans ed e5
      have hCc := hid (hCo.out hs2.out w5 (Ext.trans e03 e35) _ _ h5 (lsN_chn rfl hF5.1))
      rw [ccTo_lsN] at hCc
      have hfc := hid (show OK (mcost (flC M a X) g5 X.length) by
        rw [hOK.out]
        unfold FcOk
        rw [if_pos hs2.out]
        exact ⟨g5, hF5.1, rfl, fun g hg => hF5.2.1.opt hF5.1 hg⟩)
      clear hF5 h5 hCo hFl
      go_wp2_with fail
      refine hK.out _ _ (hSx.out w5 e35) (fun _ => ?_)
      clear hK K
      try simp only [List.getElem_toArray, List.getElem_cons_succ, List.getElem_cons_zero, Act.put, List.setIfInBounds_toArray, List.set_cons_zero, List.set_cons_succ]
      refine wpAnyH_ready (rs := [7]) (by kernel_rfl) (by simp) ?_
      refine AllReadyH.cons rfl (fun K hK => ?_) AllReadyH.nil
      go_simp
      go_at_call 24
      with_reducible refine hCc.out.mono ?_
      rintro e w6 ⟨rfl, e6⟩
      have e36 : Ext w3 w6 := Ext.trans e35 e6
      clear hCc
      go_wp2_with fail
      refine hK.out _ _ (hSx.out w6 e36) (fun _ => ?_)
      clear hK K
      try simp only [List.getElem_toArray, List.getElem_cons_succ, List.getElem_cons_zero, Act.put, List.setIfInBounds_toArray, List.set_cons_zero, List.set_cons_succ]
      refine wpAnyH_take (i := 8) (v := .int .i64 (mcost (flC M a X) g5 X.length)) rfl (by kernel_rfl) (by kernel_rfl) (by kernel_rfl) (fun _ _ _ h => h) (Or.inl ⟨by rfl, by intro wx hx; go_simp⟩) (by assumption) ?_
      try simp only [List.getElem_toArray, List.getElem_cons_succ, List.getElem_cons_zero, Act.put, List.setIfInBounds_toArray, List.set_cons_zero, List.set_cons_succ]
      refine wpAnyH_take (i := 9) (v := .bool true) rfl (by kernel_rfl) (by kernel_rfl) (by kernel_rfl) (fun _ _ _ h => h) (Or.inl ⟨by rfl, by intro wx hx; go_simp⟩) (by assumption) ?_
      try simp only [List.getElem_toArray, List.getElem_cons_succ, List.getElem_cons_zero, Act.put, List.setIfInBounds_toArray, List.set_cons_zero, List.set_cons_succ]
      refine wpAnyH_done (by kernel_rfl) ?_ _
      go_wp2_with fail
      go_ret2
      exact ⟨_, by rw [hct.out]; rfl, hfc.out, Ext.trans e1 (Ext.trans e13 e36)⟩
end Go.Proofs.YtllfchcocgdcjaaGreat

/- Several texts in one: MtG MtH Vlaw. -/
/- A metric, a configuration and a sequence that draws make. -/
namespace Go.Proofs.YtllfchcocgdcjaaGreat
open Go.RowKit

set_option maxHeartbeats 3200000 in
set_option maxRecDepth 100000 in
theorem reqs6_any {w0 w : World} [Ext w0 w] {vc : Value} {nb : Nat} (hc : IsBytes w0 vc nb) {B c : Nat} {a : Int} {R : List Row} (own : CurAt w B c vc a R) (hwB : w0.heap.size ≤ B) (ha : 0 ≤ a) (ha2 : a ≤ 2000000) {n : Int} (hn : 0 ≤ n ∧ n ≤ 1000) :
    Calls Tryz.prog 36 #[.pointer (some ⟨c, 0, none⟩), .int .i64 n] w fun e w' => ∃ v X a', e = .returned v ∧ X.length ≤ 100 ∧ (∀ x ∈ X, -1 ≤ x ∧ x ≤ 65535) ∧ a ≤ a' ∧ a' ≤ a + 100 ∧ CurAt w' B c vc a' (intRowOf 3 v X :: R) ∧ Below B w w' := by
  have hBw := own.size
  have hE : ∀ u, Below B w u → Ext w0 u := fun u h => ⟨(‹Ext w0 w›).below.trans (h.mono hwB)⟩
  replace hE := hid hE
  go_enter Tryz.func36, Tryz.ntmps36
  go_upto_region 2 with fail
  have own2 := own.lit (e := 3) (n := 0) (cs := #[]) [] own.size rfl rfl (by simp)
  have b2 : Below B w (w.alloc (.cells #[] 3)) := (Below.refl B w).alloc hBw _
  generalize w.alloc (.cells #[] 3) = w2 at *
  generalize w.heap.size = gl at *
  clear own
  have e2 : Ext w0 w2 := hE.out _ b2
  go_wp2_with fail
  refine (among_any (w0 := w0) hc (own2.lit [0, 1, 2, 3, 4, 6, 8] own2.size rfl rfl (by decide)) hwB (by omega) (by omega) (by decide) (by decide)).mono ?_
  rintro e w3 ⟨cnt, a3, rfl, hcnt, h31, h32, own3, b3⟩
  have own3' := own3.drop
  have b3' : Below B w w3 := b2.trans (((Below.refl B w2).alloc own2.size _).trans b3)
  have hc9 : 0 ≤ cnt ∧ cnt ≤ 8 := by simp at hcnt; omega
  obtain ⟨cnt, rfl⟩ := Int.eq_ofNat_of_zero_le hc9.1
  clear own3 own2 b2 b3 e2 hcnt
  go_wp2
  go_loopw [5, 6] (fun v t wr => ∃ k : Nat, k ≤ cnt ∧ t = .int .i64 k ∧ ∃ X ax, Hid (X.length + k = cnt) ∧ (∀ x ∈ X, -1 ≤ x ∧ x ≤ 65535) ∧ a ≤ ax ∧ ax ≤ a + 2 + 2 * X.length ∧ Below B w wr ∧ CurAt wr B c vc ax (intRowOf 3 v X :: R)) (fun _ t _ => (intOf t).toNat)
  case atStart => exact ⟨cnt, by omega, rfl, [], a3, hid (by simp), by simp, by omega, by simp; omega, b3', own3'⟩
  case round =>
    obtain ⟨k, hk, rfl, X, ax, hXl, hXb, hax1, hax2, b4, own4⟩ := hrel
    obtain ⟨w4, rfl⟩ : ∃ y : World, y = wr := ⟨_, rfl⟩
    obtain ⟨vd, vm, rfl⟩ := ow_ints own4.rows
    have hX10 : X.length ≤ 8 := by have := hXl.out; omega
    have e4 : Ext w0 w4 := hE.out _ b4
    clear own3' b3'
    by_cases hk0 : 0 < k
    · obtain ⟨k', hk'⟩ : ∃ y, k = y + 1 := ⟨k - 1, by omega⟩
      have hgt : (0 : Int) < (k : Int) := by omega
      have hk9 : k ≤ 8 := by omega
      have hkid := hid hk'
      clear hk'
      go_wp2_with fail
      refine (pick_any (w0 := w0) hc own4 hwB (by omega) (by omega)).mono ?_
      rintro e w5 ⟨x, a5, rfl, hx0, hx1, hx2, h51, h52, own5, b5⟩
      have b5' := b4.trans b5
      obtain ⟨s5, h5⟩ := own5
      have hB5 := CurAt.size ⟨s5, h5⟩
      have h5' := h5.perm (List.Perm.swap _ _ _)
      clear own4 b4 b5 e4 h5 hx2
      go_wp2_with (at_builtin; refine wpList_append1 rfl _ _ _ rfl elemInt rfl h5' hB5 rfl rfl (by omega) (by omega) ?_; intro v1 w6 ho hb6)
      go_roundw
      case rel =>
        exact ⟨k', by have := hkid.out; omega, congrArg (Value.int .i64) (by have := hkid.out; omega), X ++ [x], a5, hid (by have := hXl.out; have := hkid.out; simp; omega), app_i64 hXb (by omega), by omega, by simp; omega, b5'.trans hb6, ⟨s5, (ow_snoc ho rfl).perm (List.Perm.swap _ _ _)⟩⟩
      case measure => have := hkid.out; simp [intOf]; omega
    · have hk00 : k = 0 := by omega
      replace hk00 := hid hk00
      go_wp2_with fail
      refine (one_any (w0 := w0) hc own4 hwB (by omega) (by omega)).mono ?_
      rintro e w5 ⟨q5, a5, rfl, h51, h52, own5, b5⟩
      have b5' := b4.trans b5
      have e5 : Ext w0 w5 := hE.out _ b5'
      clear own4 b4 b5 e4
      cases q5 with
      | true =>
        go_wp2_with fail
        refine (among_any (w0 := w0) hc (own5.lit [-1, n] own5.size rfl rfl (by simp)) hwB (by omega) (by omega) (by simp) (by simp)).mono ?_
        rintro e w6 ⟨y, a6, rfl, hy, h61, h62, own6, b6⟩
        have hy' : -1 ≤ y ∧ y ≤ 65535 := by simp at hy; omega
        have b6' : Below B w w6 := b5'.trans (((Below.refl B w5).alloc own5.size _).trans b6)
        obtain ⟨s6, h6⟩ := own6.drop
        have hB6 := CurAt.size ⟨s6, h6⟩
        have h6' := h6.perm (List.Perm.swap _ _ _)
        clear own5 own6 b6 h6
        go_wp2_with (at_builtin; refine wpList_append1 rfl _ _ _ rfl elemInt rfl h6' hB6 rfl rfl (by omega) (by omega) ?_; intro v1 w7 ho hb7)
        go_ret
        exact ⟨v1, X ++ [y], a6, rfl, by simp; omega, app_i64 hXb hy', by omega, by omega, ⟨s6, (ow_snoc ho rfl).perm (List.Perm.swap _ _ _)⟩, b6'.trans hb7⟩
      | false =>
        go_wp2_with fail
        refine (one_any (w0 := w0) hc own5 hwB (by omega) (by omega)).mono ?_
        rintro e w6 ⟨q6, a6, rfl, h61, h62, own6, b6⟩
        have b6' := b5'.trans b6
        have e6 : Ext w0 w6 := hE.out _ b6'
        clear own5 b5' b6 e5
        cases q6 with
        | true =>
          go_wp2_with fail
          refine (pick_any (w0 := w0) hc own6 hwB (by omega) (by omega)).mono ?_
          rintro e w7 ⟨y, a7, rfl, hy0, hy1, hy2, h71, h72, own7, b7⟩
          have hy3 := hy2 (by omega)
          have b7' := b6'.trans b7
          clear own6 b6' b7 hy1 hy2 e6
          go_wp2
          go_loopw [5] (fun v wr => ∃ X', X'.length ≤ 61 ∧ (∀ x ∈ X', -1 ≤ x ∧ x ≤ 65535) ∧ Below B w wr ∧ CurAt wr B c vc a7 (intRowOf 3 v X' :: R)) (fun v _ => 100 - (match v with | .slice _ n _ => n | _ => 0))
          case atStart => exact ⟨X, by omega, hXb, b7', own7⟩
          case round =>
            obtain ⟨X', hXl', hXb', b8, own8⟩ := hrel
            obtain ⟨w8, rfl⟩ : ∃ y : World, y = wr := ⟨_, rfl⟩
            obtain ⟨vd', vm', rfl⟩ := ow_ints own8.rows
            by_cases hlt : (X'.length : Int) < 59 + y
            · obtain ⟨s8, h8⟩ := own8
              have hB8 := CurAt.size ⟨s8, h8⟩
              have h8' := h8.perm (List.Perm.swap _ _ _)
              clear h8
              go_wp2_with (at_builtin; refine wpList_append1 rfl _ _ _ rfl elemInt rfl h8' hB8 rfl rfl (by omega) (by omega) ?_; intro v1 w9 ho hb9; obtain ⟨vd1, vm1, hv1⟩ := ho.form; (obtain rfl : v1 = .slice vd1 (X'.length + 1) vm1 := hv1))
              go_roundw
              case rel =>
                exact ⟨X' ++ [0], by simp; omega, app_i64 hXb' (by omega), b8.trans hb9, ⟨s8, (ow_snoc ho rfl).perm (List.Perm.swap _ _ _)⟩⟩
              case measure => simp; omega
            · go_wp2
              go_ret
              exact ⟨_, rfl, X', by omega, hXb', a7, by omega, by omega, own8, b8⟩
        | false =>
          go_wp2
          go_ret
          exact ⟨_, X, a6, rfl, by omega, hXb, by omega, by omega, own6, b6'⟩

/-- what a draw of a metric, a configuration and a sequence gives -/
def SVPost (w : World) (B c : Nat) (vc : Value) (a : Int) (R : List Row) (e : Ending) (w' : World) : Prop :=
  ∃ d m av rv M A X Z a', e = .returned (.tuple #[.agg #[.slice d (M : List (List Int)).length m], av, rv]) ∧ MOk M ∧ (A : List Int).length ≤ 20 ∧ (X : List Int).length ≤ 100 ∧ a ≤ a' ∧ a' ≤ a + 1000 ∧ CurAt w' B c vc a' (Z ++ R) ∧ Hid (∀ u B', Own u B' Z → IsMet u (.agg #[.slice d M.length m]) M ∧ IsInts u av A ∧ IsInts u rv X) ∧ Below B w w'

set_option maxHeartbeats 3200000 in
set_option maxRecDepth 100000 in
theorem server7_any {w0 w : World} [Ext w0 w] {vc : Value} {nb : Nat} (hc : IsBytes w0 vc nb) {B c : Nat} {a : Int} {R : List Row} (own : CurAt w B c vc a R) (hwB : w0.heap.size ≤ B) (ha : 0 ≤ a) (ha2 : a ≤ 1000000) :
    Calls Tryz.prog 14 #[.pointer (some ⟨c, 0, none⟩)] w (SVPost w B c vc a R) := by
  have hBw := own.size
  have hE : ∀ u, Below B w u → Ext w0 u := fun u h => ⟨(‹Ext w0 w›).below.trans (h.mono hwB)⟩
  replace hE := hid hE
  go_enter Tryz.func14, Tryz.ntmps14
  go_upto_region 1 with fail
  have own1 := own.box 26 1 #[.slice none 0 0] hBw rfl
  have b1 : Below B w (w.alloc (.cells #[.slice none 0 0] 26)) := (Below.refl B w).alloc hBw _
  obtain ⟨r, hr⟩ : ∃ r, r = w.heap.size := ⟨_, rfl⟩
  rw [← hr] at own1 ⊢
  replace hr := hid hr
  generalize w.alloc (.cells #[.slice none 0 0] 26) = w1 at *
  have e1 : Ext w0 w1 := hE.out _ b1
  clear own
  go_wp2_with fail
  refine (metricD_any (w0 := w0) hc own1 hwB (by omega) (by omega)).mono ?_
  rintro e w2 ⟨dm, mm, vs, M, a2, rfl, hvs, hM, ha1, ha2', own2, b2⟩
  have b2' := b1.trans b2
  clear own1 b1 b2 e1
  have hn7 := hM.1
  replace hM := hid hM
  replace hvs := hid hvs
  have own4 := own2.box 26 1 #[.slice dm M.length mm] own2.size rfl
  have b4' : Below B w (w2.alloc (.cells #[.slice dm M.length mm] 26)) := b2'.alloc own2.size _
  obtain ⟨mb, hmb⟩ : ∃ r, r = w2.heap.size := ⟨_, rfl⟩
  go_upto_region 2 with fail
  generalize w2.alloc (.cells #[.slice dm M.length mm] 26) = w4 at *
  rw [← hmb] at own4 ⊢
  replace hmb := hid hmb
  clear own2 b2'
  have ownd := own4.ext (w' := w4.drew)
  have bd : Below B w w4.drew := b4'.drew
  have p0 : w4.drew.cell? ⟨mb, 0, none⟩ = some (.slice dm M.length mm) := (ownd.at (.head _) (j := 0) (by omega)).1
  clear own4 b4'
  refine wp_region_held_drew (S := fun w' => w'.cell? ⟨mb, 0, none⟩ = some (.slice dm M.length mm) ∧ True) (by kernel_rfl) ⟨p0, trivial⟩ (fun hHeld0 => ?_)
  generalize w4.drew = wd at *
  have ed : Ext w0 wd := hE.out _ bd
  refine wpAnyH_take (i := 0) (v := .pointer (some ⟨c, 0, none⟩)) rfl (by kernel_rfl) (by kernel_rfl) (by kernel_rfl) (fun _ _ _ h => h) (Or.inl ⟨by rfl, by intro wx hx; go_simp⟩) (by assumption) ?_
  try simp only [List.getElem_toArray, List.getElem_cons_zero, Act.put, List.setIfInBounds_toArray, List.set_cons_zero, List.set_cons_succ]
  refine wpAnyH_take (i := 1) (v := .pointer (some ⟨mb, 0, none⟩)) rfl (by kernel_rfl) (by kernel_rfl) (by kernel_rfl) (fun _ _ _ h => h) (Or.inl ⟨by rfl, by intro wx hx; go_simp⟩) (by assumption) ?_
  try simp only [List.getElem_toArray, List.getElem_cons_succ, List.getElem_cons_zero, Act.put, List.setIfInBounds_toArray, List.set_cons_zero, List.set_cons_succ]
  refine wpAnyH_take (i := 2) (v := .slice dm M.length mm) rfl (by kernel_rfl) (by kernel_rfl) (by kernel_rfl) (fun _ _ _ h => h) (Or.inl ⟨by rfl, by intro wx hx; obtain ⟨_, _⟩ := hx; go_simp⟩) (by assumption) ?_
  try simp only [List.getElem_toArray, List.getElem_cons_succ, List.getElem_cons_zero, Act.put, List.setIfInBounds_toArray, List.set_cons_zero, List.set_cons_succ]
  refine wpAnyH_take (i := 3) (v := .int .i64 M.length) rfl (by kernel_rfl) (by kernel_rfl) (by kernel_rfl) (fun _ _ _ h => h) (Or.inl ⟨by rfl, by intro wx hx; go_simp⟩) (by assumption) ?_
  try simp only [List.getElem_toArray, List.getElem_cons_succ, List.getElem_cons_zero, Act.put, List.setIfInBounds_toArray, List.set_cons_zero, List.set_cons_succ]
  refine wpAnyH_take (i := 4) (v := .pointer (some ⟨c, 0, none⟩)) rfl (by kernel_rfl) (by kernel_rfl) (by kernel_rfl) (fun _ _ _ h => h) (Or.inl ⟨by rfl, by intro wx hx; go_simp⟩) (by assumption) ?_
  try simp only [List.getElem_toArray, List.getElem_cons_succ, List.getElem_cons_zero, Act.put, List.setIfInBounds_toArray, List.set_cons_zero, List.set_cons_succ]
  refine wpAnyH_ready (rs := [5]) (by kernel_rfl) (by simp) ?_
  refine AllReadyH.cons rfl (fun K hK => ?_) AllReadyH.nil
  go_simp
  go_at_call 17
  refine (pick_any (w0 := w0) hc ownd hwB (by omega) (by omega)).mono ?_
  rintro e w5 ⟨x5, a5, rfl, h50, h51, h52, h53, h54, own5, b5⟩
  have b5' := bd.trans b5
  have hx5 := h52 (by omega)
  have p5 : w5.cell? ⟨mb, 0, none⟩ = some (.slice dm M.length mm) := (own5.at (.head _) (j := 0) (by omega)).1
  have e5 : Ext w0 w5 := hE.out _ b5'
  obtain ⟨k, hk⟩ : ∃ k : Nat, (k : Int) = 1 + x5 := ⟨(1 + x5).toNat, by omega⟩
  have hk10 : k ≤ 10 := by omega
  clear ownd bd ed p0 b5 h51 h52
  go_wp2_with fail
  refine hK.out _ _ ⟨p5, trivial⟩ (fun _ => ?_)
  clear hK K
  try simp only [List.getElem_toArray, List.getElem_cons_succ, List.getElem_cons_zero, Act.put, List.setIfInBounds_toArray, List.set_cons_zero, List.set_cons_succ]
  refine wpAnyH_take (i := 6) (v := .int .i64 (1 + x5)) rfl (by kernel_rfl) (by kernel_rfl) (by kernel_rfl) (fun _ _ _ h => h) (Or.inl ⟨by rfl, by intro wx hx; go_simp; exact IntWalk.i64_in _ (by omega)⟩) (by assumption) ?_
  try simp only [List.getElem_toArray, List.getElem_cons_succ, List.getElem_cons_zero, Act.put, List.setIfInBounds_toArray, List.set_cons_zero, List.set_cons_succ]
  rw [← hk]
  replace hk := hid hk
  refine wpAnyH_ready (rs := [7]) (by kernel_rfl) (by simp) ?_
  refine AllReadyH.cons rfl (fun K hK => ?_) AllReadyH.nil
  go_simp
  go_at_call 35
  refine (config_any (w0 := w0) hc own5 hwB (by omega) (by omega) (n := M.length) (k := k) (by omega) hk10).mono ?_
  rintro e w6 ⟨av, A, a6, rfl, hAl, hAb, h61, h62, own6, b6⟩
  have b6' := b5'.trans b6
  have p6 : w6.cell? ⟨mb, 0, none⟩ = some (.slice dm M.length mm) := (own6.at (.tail _ (.head _)) (j := 0) (by omega)).1
  clear own5 b5' b6 e5 p5
  go_wp2_with fail
  refine hK.out _ _ ⟨p6, trivial⟩ (fun _ => ?_)
  clear hK K
  try simp only [List.getElem_toArray, List.getElem_cons_succ, List.getElem_cons_zero, Act.put, List.setIfInBounds_toArray, List.set_cons_zero, List.set_cons_succ]
  refine wpAnyH_take (i := 8) (v := av) rfl (by kernel_rfl) (by kernel_rfl) (by kernel_rfl) (fun _ _ _ h => h) (Or.inl ⟨by rfl, by intro wx hx; go_simp⟩) (by assumption) ?_
  try simp only [List.getElem_toArray, List.getElem_cons_succ, List.getElem_cons_zero, Act.put, List.setIfInBounds_toArray, List.set_cons_zero, List.set_cons_succ]
  refine wpAnyH_done (by kernel_rfl) ?_ _
  go_upto_region 3 with fail
  have ownd := own6.ext (w' := w6.drew)
  have bd : Below B w w6.drew := b6'.drew
  have p0 : w6.drew.cell? ⟨mb, 0, none⟩ = some (.slice dm M.length mm) := (ownd.at (.tail _ (.head _)) (j := 0) (by omega)).1
  clear own6 b6' p6
  refine wp_region_held_drew (S := fun w' => w'.cell? ⟨mb, 0, none⟩ = some (.slice dm M.length mm) ∧ True) (by kernel_rfl) ⟨p0, trivial⟩ (fun hHeld0 => ?_)
  generalize w6.drew = wd at *
  have ed : Ext w0 wd := hE.out _ bd
  refine wpAnyH_take (i := 0) (v := .agg #[.slice dm M.length mm]) rfl (by kernel_rfl) (by kernel_rfl) (by kernel_rfl) (fun _ _ _ h => h) (Or.inl ⟨by rfl, by intro wx hx; obtain ⟨_, _⟩ := hx; go_simp⟩) (by assumption) ?_
  try simp only [List.getElem_toArray, List.getElem_cons_zero, Act.put, List.setIfInBounds_toArray, List.set_cons_zero, List.set_cons_succ]
  refine wpAnyH_take (i := 1) (v := av) rfl (by kernel_rfl) (by kernel_rfl) (by kernel_rfl) (fun _ _ _ h => h) (Or.inl ⟨by rfl, by intro wx hx; go_simp⟩) (by assumption) ?_
  try simp only [List.getElem_toArray, List.getElem_cons_succ, List.getElem_cons_zero, Act.put, List.setIfInBounds_toArray, List.set_cons_zero, List.set_cons_succ]
  refine wpAnyH_take (i := 2) (v := .pointer (some ⟨c, 0, none⟩)) rfl (by kernel_rfl) (by kernel_rfl) (by kernel_rfl) (fun _ _ _ h => h) (Or.inl ⟨by rfl, by intro wx hx; go_simp⟩) (by assumption) ?_
  try simp only [List.getElem_toArray, List.getElem_cons_succ, List.getElem_cons_zero, Act.put, List.setIfInBounds_toArray, List.set_cons_zero, List.set_cons_succ]
  refine wpAnyH_take (i := 3) (v := .pointer (some ⟨mb, 0, none⟩)) rfl (by kernel_rfl) (by kernel_rfl) (by kernel_rfl) (fun _ _ _ h => h) (Or.inl ⟨by rfl, by intro wx hx; go_simp⟩) (by assumption) ?_
  try simp only [List.getElem_toArray, List.getElem_cons_succ, List.getElem_cons_zero, Act.put, List.setIfInBounds_toArray, List.set_cons_zero, List.set_cons_succ]
  refine wpAnyH_take (i := 4) (v := .slice dm M.length mm) rfl (by kernel_rfl) (by kernel_rfl) (by kernel_rfl) (fun _ _ _ h => h) (Or.inl ⟨by rfl, by intro wx hx; obtain ⟨_, _⟩ := hx; go_simp⟩) (by assumption) ?_
  try simp only [List.getElem_toArray, List.getElem_cons_succ, List.getElem_cons_zero, Act.put, List.setIfInBounds_toArray, List.set_cons_zero, List.set_cons_succ]
  refine wpAnyH_take (i := 5) (v := .int .i64 M.length) rfl (by kernel_rfl) (by kernel_rfl) (by kernel_rfl) (fun _ _ _ h => h) (Or.inl ⟨by rfl, by intro wx hx; go_simp⟩) (by assumption) ?_
  try simp only [List.getElem_toArray, List.getElem_cons_succ, List.getElem_cons_zero, Act.put, List.setIfInBounds_toArray, List.set_cons_zero, List.set_cons_succ]
  refine wpAnyH_ready (rs := [6]) (by kernel_rfl) (by simp) ?_
  refine AllReadyH.cons rfl (fun K hK => ?_) AllReadyH.nil
  go_simp
  go_at_call 36
  refine (reqs6_any (w0 := w0) hc ownd hwB (by omega) (by omega) (n := M.length) (by omega)).mono ?_
  rintro e w9 ⟨rv, X, a9, rfl, hXl, hXb, h91, h92, own9, b9⟩
  have b9' := bd.trans b9
  have p9 : w9.cell? ⟨mb, 0, none⟩ = some (.slice dm M.length mm) := (own9.at (.tail _ (.tail _ (.head _))) (j := 0) (by omega)).1
  have hrm : boxRow 26 1 r [.slice none 0 0] ∈ intRowOf 3 rv X :: intRowOf 3 av A :: boxRow 26 1 mb (#[.slice dm M.length mm] : Array Value).toList :: (rowsOf 27 3 (.slice dm M.length mm) vs M ++ (boxRow 26 1 r [.slice none 0 0] :: R)) := by simp
  have r00 : w9.cell? ⟨r, 0, none⟩ = some (.slice none 0 0) := (own9.at hrm (j := 0) (by omega)).1
  have r01 := (own9.at hrm (j := 0) (by omega)).2
  clear ownd bd ed p0 b9
  go_wp2_with fail
  refine hK.out _ _ ⟨p9, trivial⟩ (fun _ => ?_)
  clear hK K
  try simp only [List.getElem_toArray, List.getElem_cons_succ, List.getElem_cons_zero, Act.put, List.setIfInBounds_toArray, List.set_cons_zero, List.set_cons_succ]
  have s1 := CurAt.set (A := intRowOf 3 rv X :: intRowOf 3 av A :: boxRow 26 1 mb (#[.slice dm M.length mm] : Array Value).toList :: rowsOf 27 3 (.slice dm M.length mm) vs M) (L := R) own9 0 (.slice dm M.length mm)
  have own10 := s1.1
  have b10 := b9'.setCell s1.2 (p := ⟨r, 0, none⟩) (.slice dm M.length mm)
  have t0 : (w9.setCell ⟨r, 0, none⟩ (.slice dm M.length mm)).cell? ⟨mb, 0, none⟩ = some (.slice dm M.length mm) := (own10.at (.tail _ (.tail _ (.head _))) (j := 0) (by omega)).1
  have y0 : (w9.setCell ⟨r, 0, none⟩ (.slice dm M.length mm)).cell? ⟨r, 0, none⟩ = some (.slice dm M.length mm) := by go_simp
  clear s1
  refine wpAnyH_ready (rs := [7]) (by kernel_rfl) (by simp) ?_
  refine AllReadyH.cons rfl (fun K hK => ?_) AllReadyH.nil
  go_simp
  refine hK.out _ _ ⟨t0, trivial⟩ (fun _ => ?_)
  clear hK K
  try simp only [List.getElem_toArray, List.getElem_cons_succ, List.getElem_cons_zero, Act.put, List.setIfInBounds_toArray, List.set_cons_zero, List.set_cons_succ]
  generalize w9.setCell ⟨r, 0, none⟩ (.slice dm M.length mm) = w10 at *
  refine wpAnyH_take (i := 8) (v := av) rfl (by kernel_rfl) (by kernel_rfl) (by kernel_rfl) (fun _ _ _ h => h) (Or.inl ⟨by rfl, by intro wx hx; go_simp⟩) (by assumption) ?_
  try simp only [List.getElem_toArray, List.getElem_cons_succ, List.getElem_cons_zero, Act.put, List.setIfInBounds_toArray, List.set_cons_zero, List.set_cons_succ]
  refine wpAnyH_take (i := 9) (v := rv) rfl (by kernel_rfl) (by kernel_rfl) (by kernel_rfl) (fun _ _ _ h => h) (Or.inl ⟨by rfl, by intro wx hx; go_simp⟩) (by assumption) ?_
  try simp only [List.getElem_toArray, List.getElem_cons_succ, List.getElem_cons_zero, Act.put, List.setIfInBounds_toArray, List.set_cons_zero, List.set_cons_succ]
  refine wpAnyH_done (by kernel_rfl) ?_ _
  go_wp2_with fail
  refine bodyPost_ret (v := .tuple #[.agg #[.slice dm M.length mm], av, rv]) (by simp [results, Tryz.results14, go_sem, y0]) rfl ?_
  refine ⟨_, _, av, rv, M, A, X, intRowOf 3 rv X :: intRowOf 3 av A :: (rowsOf 27 3 (.slice dm M.length mm) vs M ++ []), a9, rfl, hM.out, hAl, by omega, by omega, by omega, ?_, hid (fun u _ hu => ⟨met_own hu.tail.tail hvs.out hM.out, hu.tail.reads (by unfold Short; omega) (small_i64 hAb), hu.reads (by unfold Short; omega) (small_i64 hXb)⟩), b10⟩
  refine own10.sub ?_
  rw [List.append_nil]
  exact ((List.Sublist.append_left (List.sublist_cons_self _ _) _).trans (List.sublist_cons_self _ _)).cons_cons _ |>.cons_cons _
end Go.Proofs.YtllfchcocgdcjaaGreat

/- Draws of a metric, a configuration and a sequence or a number. -/
namespace Go.Proofs.YtllfchcocgdcjaaGreat
open Go.RowKit

/-- what such a draw gives: lists of its own that read as a metric and two lists -/
def DPost (w : World) (e : Ending) (w' : World) : Prop :=
  ∃ d m av rv M A X Z, e = .returned (.tuple #[.agg #[.slice d (M : List (List Int)).length m], av, rv]) ∧ MOk M ∧ (A : List Int).length ≤ 20 ∧ (X : List Int).length ≤ 100 ∧ Own w' w.heap.size Z ∧ Hid (∀ u B', Own u B' Z → IsMet u (.agg #[.slice d M.length m]) M ∧ IsInts u av A ∧ IsInts u rv X) ∧ Ext w w'

def CRPost (w : World) (e : Ending) (w' : World) : Prop :=
  ∃ d m av n M A Z, e = .returned (.tuple #[.agg #[.slice d (M : List (List Int)).length m], av, .int .i64 n]) ∧ MOk M ∧ (A : List Int).length ≤ 20 ∧ (-1 ≤ n ∧ n ≤ 100) ∧ Own w' w.heap.size Z ∧ Hid (∀ u B', Own u B' Z → IsMet u (.agg #[.slice d M.length m]) M ∧ IsInts u av A) ∧ Ext w w'
end Go.Proofs.YtllfchcocgdcjaaGreat

/- What the laws compare with: lists with both answers, tables where both sides are equal. Written by vlaw.py. -/
namespace Go.Proofs.YtllfchcocgdcjaaGreat
open Go.RowKit


set_option maxHeartbeats 800000 in
set_option maxRecDepth 100000 in
theorem vInts_any {v1 v2 : Value} {xs ys : List Int} {w0 w : World} [Ext w0 w] (hx : IsInts w0 v1 xs) (hy : IsInts w0 v2 ys) :
    Calls Tryz.prog 12 #[v1, v2] w fun e w' => e = .returned (.bool (decide (xs = ys))) ∧ Ext w w' := by
  obtain ⟨a, ca, rfl, la⟩ := hx.form
  obtain ⟨b, cb, rfl, lb⟩ := hy.form
  by_cases hn : xs.length = ys.length
  · have hne : ((xs.length : Int) != ys.length) = false := by simp [hn]
    replace hn := hid hn
    go_enter Tryz.func12, Tryz.ntmps12
    go_wp2
    go_loopw [5] (fun i wr => ∃ k : Nat, k ≤ xs.length ∧ i = .int .i64 k ∧ Hid (∀ j, j < k → nth xs j = nth ys j) ∧ Drew w wr) (fun i _ => xs.length - (intOf i).toNat)
    case atStart => exact ⟨0, by omega, rfl, by intro j hj; omega, Drew.refl _⟩
    case round =>
      obtain ⟨k, hk, rfl, heq, hd⟩ := hrel
      have ed : Ext w wr := hd.ext
      have e0 : Ext w0 wr := Ext.trans ‹Ext w0 w› ed
      by_cases hlt : k < xs.length
      · have hlt2 : k < ys.length := by have := hn.out; omega
        have hlt2' : (k : Int) < (ys.length : Int) := by omega
        obtain ⟨b1, o1, rfl, hc1⟩ := hx.at (w' := wr) hlt
        obtain ⟨b2, o2, rfl, hc2⟩ := hy.at (w' := wr) hlt2
        by_cases hc : nth xs k = nth ys k
        · have hc' : (nth xs k != nth ys k) = false := by simp [hc]
          replace hc := hid hc
          go_wp2_with (go_quiet (fail))
          go_roundw
          case rel =>
            refine ⟨k + 1, by omega, by go_num, ?_, hd.step _⟩
            intro j hj
            by_cases hjk : j = k
            · subst hjk; exact hc.out
            · exact heq.out j (by omega)
          case measure => simp [intOf]; omega
        · have hc' : (nth xs k != nth ys k) = true := by simpa using hc
          have hfin := hid (show decide (xs = ys) = false from decide_eq_false (fun h => hc (by rw [h])))
          replace hc := hid hc
          go_wp2_with (go_quiet (fail))
          go_ret
          exact ⟨ret_bool hfin.out.symm, Ext.trans ed inferInstance⟩
      · have hfin := hid (show decide (xs = ys) = true from decide_eq_true (eq_of_nth hn.out (fun j hj => heq.out j (by omega))))
        go_wp2
        go_ret
        exact ⟨ret_bool hfin.out.symm, ed⟩
  · have hne : ((xs.length : Int) != ys.length) = true := by simp; omega
    have hfin := hid (show decide (xs = ys) = false from decide_eq_false (fun h => hn (by rw [h])))
    replace hn := hid hn
    go_enter Tryz.func12, Tryz.ntmps12
    go_wp2
    go_ret
    exact ⟨ret_bool hfin.out.symm, Ext.refl _⟩

theorem vInts_same {v u : Value} {X : List Int} {w0 w : World} [Ext w0 w] (hv : IsInts w0 v X) (hu : IsInts w0 u X) :
    Calls Tryz.prog 12 #[v, u] w fun e w' => e = .returned (.bool true) ∧ Ext w w' := by
  refine (vInts_any hv hu).mono ?_
  rintro e w' ⟨rfl, e1⟩
  exact ⟨by rw [decide_eq_true rfl], e1⟩

set_option maxHeartbeats 400000 in
theorem vBig_l {v : Value} {n : Nat} {w : World} (hv : IsBytes w v n) :
    Calls Tryz.prog 4 #[v] w fun e w' => e = .returned (.bool (decide (65536 < n))) ∧ w = w' := by
  obtain ⟨a, c, rfl⟩ := hv.form
  by_cases h : 65536 < n
  · go_enter Tryz.func4, Tryz.ntmps4
    go_wp2
    go_ret
    exact ⟨ret_bool (decide_eq_decide.2 (by omega)), rfl⟩
  · go_enter Tryz.func4, Tryz.ntmps4
    go_wp2
    go_ret
    exact ⟨ret_bool (decide_eq_decide.2 (by omega)), rfl⟩

end Go.Proofs.YtllfchcocgdcjaaGreat


/- The draw of prices: DrawPriceBound. -/
namespace Go.Proofs.YtllfchcocgdcjaaGreat
open Go.RowKit

/-- a list of ints of one's own beside the cursor -/
abbrev liR (g n cp : Nat) (L : List Int) : Row := ⟨3, 1, .slice (some ⟨g, 0, none⟩) n cp, n, L.map (Value.int .i64)⟩
theorem CurAt.liAt {w : World} {B c g n cp : Nat} {vc : Value} {a : Int} {L : List Int} {R : List Row} (h : CurAt w B c vc a (liR g n cp L :: R)) (hn : L.length = n) {j : Nat} (hj : j < n) :
    (w.cell? ⟨g, j, none⟩ = some (.int .i64 (nth L j)) ∧ w.frozen? ⟨g, j, none⟩ = false) ∧ (∀ x, CurAt (w.setCell ⟨g, j, none⟩ (.int .i64 x)) B c vc a (liR g n cp (L.set j x) :: R)) ∧ B ≤ g := by
  obtain ⟨s, h⟩ := h
  have h1 := h.perm (List.Perm.swap _ _ _)
  refine ⟨⟨?_, h1.frozenAt j⟩, fun x => ⟨s, ?_⟩, h1.lt.1⟩
  · rw [h1.cellAt (w' := w) hj]
    simp [nth, show j < L.length by omega]
  · have h2 := h1.set j (.int .i64 x)
    rw [← List.map_set] at h2
    exact h2.perm (List.Perm.swap _ _ _)
theorem CurAt.joinR {w w' : World} {B c : Nat} {vc : Value} {a : Int} {R : List Row} {r : Row} (h : CurAt w B c vc a R) (hn : Own w' w.heap.size [r]) [e : Ext w w'] (hB : B ≤ w.heap.size) : CurAt w' B c vc a (r :: R) := by
  obtain ⟨s, h⟩ := h
  have h2 := Own.join h hn (hB := hB)
  exact ⟨s, h2.perm (List.Perm.swap _ _ _)⟩
def PBPost (w : World) (e : Ending) (w' : World) : Prop :=
  ∃ d m av rv pv M A X P Z, e = .returned (.tuple #[.agg #[.slice d (M : List (List Int)).length m], av, rv, pv]) ∧ MOk M ∧ (A : List Int).length ≤ 20 ∧ (X : List Int).length ≤ 100 ∧ (P : List Int).length ≤ 61 ∧ Own w' w.heap.size Z ∧ Hid (∀ u B', Own u B' Z → IsMet u (.agg #[.slice d M.length m]) M ∧ IsInts u av A ∧ IsInts u rv X ∧ IsInts u pv P) ∧ Ext w w'
/-- small numbers -/
def Sm (b : Int) (L : List Int) : Prop := ∀ x ∈ L, -1 ≤ x ∧ x ≤ b
theorem Sm.mono {b b' : Int} {L : List Int} (h : Sm b L) (hb : b ≤ b') : Sm b' L := fun x hx => ⟨(h x hx).1, Int.le_trans (h x hx).2 hb⟩
theorem Sm.set {b : Int} {L : List Int} (h : Sm b L) {j : Nat} {x : Int} (hx : -1 ≤ x ∧ x ≤ b) : Sm b (L.set j x) := fun y hy => by
  rcases List.mem_or_eq_of_mem_set hy with h1 | h1
  · exact h y h1
  · rw [h1]; exact hx
end Go.Proofs.YtllfchcocgdcjaaGreat

/- The draw of a list of chains: DrawChainCost. -/
namespace Go.Proofs.YtllfchcocgdcjaaGreat
open Go.RowKit

/-- a list of ints of one's own, its slice of any form -/
abbrev lsR (d : Option Addr) (n cp : Nat) (L : List Int) : Row := ⟨3, 1, .slice d n cp, n, L.map (Value.int .i64)⟩
theorem lsR_row {d : Option Addr} {n cp : Nat} {L : List Int} (h : L.length = n) : lsR d n cp L = intRowOf 3 (.slice d n cp) L := by
  unfold intRowOf
  rw [h]
theorem CurAt.lsAt {w : World} {B c n cp : Nat} {d : Option Addr} {vc : Value} {a : Int} {L : List Int} {R : List Row} (h : CurAt w B c vc a (lsR d n cp L :: R)) {j : Nat} (hj : j < n) : ∃ g, d = some ⟨g, 0, none⟩ :=
  h.rows.at hj
theorem lsR_reads {w : World} {B n cp : Nat} {d : Option Addr} {L : List Int} {R : List Row} {b : Int} (h : Own w B (lsR d n cp L :: R)) (hn : L.length = n) (hl : n ≤ 1000) (hs : Sm b L) (hb : b ≤ 2000000) : IsInts w (.slice d n cp) L := by
  rw [lsR_row hn] at h
  exact h.reads (by unfold Short; omega) (fun y hy => by have := hs y hy; unfold I64; omega)
theorem Sm.snoc {b : Int} {L : List Int} {x : Int} (h : Sm b L) (hx : -1 ≤ x ∧ x ≤ b) : Sm b (L ++ [x]) := fun y hy => by
  rcases List.mem_append.1 hy with h1 | h1
  · exact h y h1
  · rw [List.mem_singleton.1 h1]; exact hx
def CCPost (w : World) (e : Ending) (w' : World) : Prop :=
  ∃ d m av rv pv M A X P Z, e = .returned (.tuple #[.agg #[.slice d (M : List (List Int)).length m], av, rv, pv]) ∧ MOk M ∧ (A : List Int).length ≤ 20 ∧ (X : List Int).length ≤ 100 ∧ (P : List Int).length ≤ 101 ∧ Own w' w.heap.size Z ∧ Hid (∀ u B', Own u B' Z → IsMet u (.agg #[.slice d M.length m]) M ∧ IsInts u av A ∧ IsInts u rv X ∧ IsInts u pv P) ∧ Ext w w'
set_option maxHeartbeats 6400000 in
set_option maxRecDepth 100000 in
theorem drawCC_any {w0 w : World} [Ext w0 w] {vc : Value} {nb : Nat} (hc : IsBytes w0 vc nb) :
    Calls Tryz.prog 5 #[vc] w (CCPost w) := by
  obtain ⟨ac, cc, rfl⟩ := hc.form
  go_enter Tryz.func5, Tryz.ntmps5
  go_upto_region 2 with fail
  have hsz : w0.heap.size ≤ w.heap.size := (‹Ext w0 w›).size
  have own1 := CurAt.start (vc := .slice ac nb cc) (((Own.nil w w.heap.size).lit 26 1 1 #[.slice none 0 0] (Nat.le_refl _) (by unfold maxLen; omega) rfl)) (by simp)
  have e1 : Ext w ((w.alloc (.cells #[.slice none 0 0] 26)).alloc (.cells #[.slice ac nb cc, .int .i64 0, .int .u64 0] 39)) := inferInstance
  have hcs : (w.alloc (.cells #[.slice none 0 0] 26)).heap.size = w.heap.size + 1 := by simp
  rw [hcs] at own1
  obtain ⟨r, hr⟩ : ∃ r, r = w.heap.size := ⟨_, rfl⟩
  obtain ⟨c, hcd⟩ : ∃ c, c = w.heap.size + 1 := ⟨_, rfl⟩
  obtain ⟨B, hBd⟩ : ∃ B, B = w.heap.size := ⟨_, rfl⟩
  have own1' : CurAt ((w.alloc (.cells #[.slice none 0 0] 26)).alloc (.cells #[.slice ac nb cc, .int .i64 0, .int .u64 0] 39)) B c (.slice ac nb cc) 0 [boxRow 26 1 r [.slice none 0 0]] := by
    rw [hBd, hcd, hr]; exact own1
  have hwB : w0.heap.size ≤ B := by omega
  have b1 : Below B w ((w.alloc (.cells #[.slice none 0 0] 26)).alloc (.cells #[.slice ac nb cc, .int .i64 0, .int .u64 0] 39)) := by rw [hBd]; exact e1.below
  rw [← hcd, ← hr]
  generalize (w.alloc (.cells #[.slice none 0 0] 26)).alloc (.cells #[.slice ac nb cc, .int .i64 0, .int .u64 0] 39) = w1 at *
  replace hr := hid hr
  replace hcd := hid hcd
  have hBs := hid (show ∀ u, Below B w u → B ≤ u.heap.size from fun u h => by rw [hBd]; exact h.size)
  have hEw := hid (show ∀ u, Below B w u → Ext w u from fun u h => ⟨by rw [← hBd]; exact h⟩)
  replace hBd := hid hBd
  have hE : ∀ u, Below B w u → Ext w0 u := fun u h => ⟨(‹Ext w0 w›).below.trans (h.mono hwB)⟩
  replace hE := hid hE
  clear own1 e1 hcs
  have e1 : Ext w0 w1 := hE.out _ b1
  go_wp2_with fail
  with_reducible refine (server7_any (w0 := w0) hc own1' hwB (by omega) (by omega)).mono ?_
  rintro e w2 ⟨d, m, av, rv, M, A, X, Z, a2, rfl, hM, hAl, hXl, h1, h2, own2, hZ, b2⟩
  have b2' := b1.trans b2
  have hB2 := hBs.out _ b2'
  have own4 := own2.box 26 1 #[.slice d M.length m] hB2 rfl
  have b4 := b2'.alloc hB2 (.cells #[.slice d M.length m] 26)
  clear own1' b1 b2 b2' e1
  obtain ⟨da, ma, rfl, la⟩ := (hZ.out w2 B own2.rows.left).2.1.form
  obtain ⟨dx, mx, rfl, lx⟩ := (hZ.out w2 B own2.rows.left).2.2.form
  clear own2
  go_upto_region 3 with fail
  obtain ⟨q, hq⟩ : ∃ q, q = w2.heap.size := ⟨_, rfl⟩
  rw [← hq] at own4 ⊢
  replace hq := hid hq
  generalize w2.alloc (.cells #[.slice d M.length m] 26) = w4 at *
  have hB4 := hBs.out _ b4
  have own5 := CurAt.lit (e := 3) (n := 0) (cs := #[]) own4 [] hB4 rfl rfl (by simp)
  have b5 := b4.alloc hB4 (.cells #[] 3)
  clear own4 b4
  go_upto_region 5 with fail
  obtain ⟨g0, hg0⟩ : ∃ q, q = w4.heap.size := ⟨_, rfl⟩
  rw [← hg0] at own5 ⊢
  replace hg0 := hid hg0
  generalize w4.alloc (.cells #[] 3) = w5 at *
  have hrd := hid (show ∀ u pl a', CurAt u B c (.slice ac nb cc) a' (pl :: boxRow 26 1 q [.slice d M.length m] :: (Z ++ [boxRow 26 1 r [.slice none 0 0]])) → u.cell? ⟨q, 0, none⟩ = some (.slice d M.length m) ∧ IsMet u (.agg #[.slice d M.length m]) M ∧ IsInts u (.slice da A.length ma) A ∧ IsInts u (.slice dx X.length mx) X from fun u pl a' h => ⟨(h.at (.tail _ (.head _)) (j := 0) (by omega)).1, hZ.out u B (h.rows.tail.tail.left)⟩)
  generalize hr0 : boxRow 26 1 q [.slice d M.length m] :: (Z ++ [boxRow 26 1 r [.slice none 0 0]]) = R0 at own5
  replace hr0 := hid hr0
  have hSm0 : Hid (Sm 200 []) := hid (fun x hx => by simp at hx)
  have own5' : CurAt w5 B c (.slice ac nb cc) a2 (lsR (some ⟨g0, 0, none⟩) 0 0 [] :: R0) := own5
  clear own5
  go_loopw [10, 11] (fun bv iv wr => ∃ (i : Nat) (dB : Option Addr) (n p : Nat) (L : List Int) (a' : Int), bv = .slice dB n p ∧ iv = .int .i64 i ∧ i ≤ X.length ∧ n ≤ i ∧ Hid (L.length = n) ∧ Hid (Sm 200 L) ∧ a2 ≤ a' ∧ a' ≤ a2 + 2 * (i : Int) ∧ CurAt wr B c (.slice ac nb cc) a' (lsR dB n p L :: R0) ∧ Below B w wr) (fun _ iv _ => X.length - (intOf iv).toNat)
  case atStart => exact ⟨0, _, _, _, [], a2, rfl, rfl, by omega, by omega, hid rfl, hSm0, by omega, by omega, own5', b5⟩
  case round =>
    clear own5' b5 hSm0
    obtain ⟨i, dB, n, p, L, a3, rfl, rfl, hi, hni, hLn, hSm, h31, h32, own, hb⟩ := hrel
    obtain ⟨wo, rfl⟩ : ∃ y : World, y = wr := ⟨_, rfl⟩
    by_cases hlt : i < X.length
    · have hBo := hBs.out _ hb
      have own6 := CurAt.lit (e := 3) (n := 0) (cs := #[]) own [] hBo rfl rfl (by simp)
      have own6' : CurAt (wo.alloc (.cells #[] 3)) B c (.slice ac nb cc) a3 (lsR (some ⟨wo.heap.size, 0, none⟩) 0 0 [] :: lsR dB n p L :: R0) := own6
      have b6 := hb.alloc hBo (.cells #[] 3)
      clear own own6 hb hBo
      go_upto_region 9 with fail
      generalize wo.alloc (.cells #[] 3) = w6 at *
      generalize wo.heap.size = g6 at *
      go_loopw [12, 13] (fun fv lv wr => ∃ (l : Nat) (dF : Option Addr) (nF pF : Nat) (F : List Int), fv = .slice dF nF pF ∧ lv = .int .i64 l ∧ l ≤ A.length + i ∧ nF ≤ l ∧ Hid (F.length = nF) ∧ Hid (Sm 200 F) ∧ CurAt wr B c (.slice ac nb cc) a3 (lsR dF nF pF F :: lsR dB n p L :: R0) ∧ Below B w wr) (fun _ lv _ => A.length + i - (intOf lv).toNat)
      case atStart => exact ⟨0, _, _, _, [], rfl, rfl, by omega, by omega, hid rfl, hid (fun x hx => by simp at hx), own6', b6⟩
      case round =>
        clear own6' b6
        obtain ⟨l, dF, nF, pF, F, rfl, rfl, hl, hnl, hFn, hFs, own, hb⟩ := hrel
        obtain ⟨wp, rfl⟩ : ∃ y : World, y = wr := ⟨_, rfl⟩
        have hBp := hBs.out _ hb
        by_cases hll : l < A.length + i
        · have hLi : IsInts wp (.slice dB n p) L := lsR_reads own.rows.tail hLn.out (by omega) hSm.out (by omega)
          have hHa := hid (@l1Has_any (.slice dB n p) L (l : Int) wp wp (Ext.refl _) hLi)
          cases hh : hasB L (l : Int) with
          | true =>
            rw [hh] at hHa
            replace hh := hid hh
            go_wp2_with fail
            refine hHa.out.mono ?_
            rintro e w7 ⟨rfl, rfl⟩
            go_wp2_with fail
            go_roundw
            case rel => exact ⟨l + 1, dF, nF, pF, F, rfl, by go_num, by omega, by omega, hFn, hFs, own, hb⟩
            case measure => simp [intOf]; omega
          | false =>
            rw [hh] at hHa
            replace hh := hid hh
            obtain ⟨s7, o7⟩ := own
            have o7' : Own wp B (lsR dF nF pF F :: curRow c (.slice ac nb cc) a3 s7 :: lsR dB n p L :: R0) := o7.perm (List.Perm.swap _ _ _)
            clear o7
            go_wp2_with fail
            refine hHa.out.mono ?_
            rintro e w7 ⟨rfl, rfl⟩
            go_wp2_with (at_builtin; refine wpList_append1 rfl (.tmp 43) (.tmp 45) _ rfl elemInt rfl o7' hBp rfl rfl (by omega) (by omega) ?_; intro v6 w6' ho6 hb6; obtain ⟨d6, m6, hf6⟩ := ho6.form; (obtain rfl : v6 = .slice d6 (nF + 1) m6 := hf6))
            have own8 : CurAt w6' B c (.slice ac nb cc) a3 (lsR d6 (nF + 1) m6 (F ++ [(l : Int)]) :: lsR dB n p L :: R0) := ⟨s7, by
              have h := ho6.perm (List.Perm.swap _ _ _)
              unfold lsR
              rw [List.map_append]
              exact h⟩
            have hFn2 := hid (show (F ++ [(l : Int)]).length = nF + 1 by rw [List.length_append, hFn.out]; rfl)
            have hFs2 := hid (show Sm 200 (F ++ [(l : Int)]) from hFs.out.snoc ⟨by omega, by omega⟩)
            go_roundw
            case rel => exact ⟨l + 1, d6, nF + 1, m6, _, rfl, by go_num, by omega, by omega, hFn2, hFs2, own8, hb.trans hb6⟩
            case measure => simp [intOf]; omega
        · by_cases hnF : 0 < nF
          · have hnF' : (nF : Int) > 0 := by omega
            have own8 : CurAt wp B c (.slice ac nb cc) a3 (intRowOf 3 (.slice dF nF pF) F :: lsR dB n p L :: R0) := by rw [← lsR_row hFn.out]; exact own
            have hFl := hFn.out
            have e0p := hE.out _ hb
            have hAm := hid (among_any (w0 := w0) hc own8 hwB (by omega) (by omega) (by omega) (by omega))
            replace hFl := hid hFl
            clear own own8 e0p
            go_wp2_with fail
            with_reducible refine hAm.out.mono ?_
            rintro e w9 ⟨y, a9, rfl, hy, h91, h92, own9, b9⟩
            have hyb := hFs.out y hy
            have b9' := hb.trans b9
            have hB9 := hBs.out _ b9'
            obtain ⟨s9, o9⟩ := own9.drop
            have o9' : Own w9 B (lsR dB n p L :: curRow c (.slice ac nb cc) a9 s9 :: R0) := o9.perm (List.Perm.swap _ _ _)
            clear own9 o9 hAm hy hb
            go_wp2_with (at_builtin; refine wpList_append1 rfl (.tmp 50) (.tmp 54) _ rfl elemInt rfl o9' hB9 rfl rfl (by omega) (by omega) ?_; intro v6 w6' ho6 hb6; obtain ⟨d6, m6, hf6⟩ := ho6.form; (obtain rfl : v6 = .slice d6 (n + 1) m6 := hf6))
            have own8 : CurAt w6' B c (.slice ac nb cc) a9 (lsR d6 (n + 1) m6 (L ++ [y]) :: R0) := ⟨s9, by
              have h := ho6.perm (List.Perm.swap _ _ _)
              unfold lsR
              rw [List.map_append]
              exact h⟩
            have hLn2 := hid (show (L ++ [y]).length = n + 1 by rw [List.length_append, hLn.out]; rfl)
            have hSm2 := hid (show Sm 200 (L ++ [y]) from hSm.out.snoc hyb)
            go_roundw
            case rel => exact ⟨i + 1, d6, n + 1, m6, _, a9, rfl, by go_num, by omega, by omega, hLn2, hSm2, by omega, by omega, own8, b9'.trans hb6⟩
            case measure => simp [intOf]; omega
          · have hnF' : ¬ (nF : Int) > 0 := by omega
            have own8 := own.drop
            clear own
            go_wp2_with fail
            go_roundw
            case rel => exact ⟨i + 1, dB, n, p, L, a3, rfl, by go_num, by omega, by omega, hLn, hSm, by omega, by omega, own8, hb⟩
            case measure => simp [intOf]; omega
    · have hiX : i = X.length := by omega
      replace hiX := hid hiX
      have e0o := hE.out _ hb
      go_wp2_with fail
      with_reducible refine (pick_any (w0 := w0) hc own hwB (by omega) (by omega)).mono ?_
      rintro e w7 ⟨x, a7, rfl, hx0, _, hx2, h71, h72, own7, b7⟩
      have b7' := hb.trans b7
      have hB7 := hBs.out _ b7'
      clear own hb b7 e0o hx2
      by_cases hx0' : x = 0
      · subst hx0'
        obtain ⟨s7, o7⟩ := own7
        have o7' : Own w7 B (lsR dB n p L :: curRow c (.slice ac nb cc) a7 s7 :: R0) := o7.perm (List.Perm.swap _ _ _)
        clear o7
        go_upto_region 21 with (at_builtin; refine wpList_append1 rfl _ _ _ rfl elemInt rfl o7' hB7 rfl rfl (by omega) (by omega) ?_; intro v6 w6 ho6 hb6; obtain ⟨d6, m6, hf6⟩ := ho6.form; (obtain rfl : v6 = .slice d6 (n + 1) m6 := hf6))
        have b6' := b7'.trans hb6
        have own8 : CurAt w6 B c (.slice ac nb cc) a7 (lsR d6 (n + 1) m6 (L ++ [0]) :: R0) := ⟨s7, by
          have h := ho6.perm (List.Perm.swap _ _ _)
          unfold lsR
          rw [List.map_append]
          exact h⟩
        clear ho6 o7' hb6 b7'
        have ow := own8
        rw [← hr0.out] at ow
        have xq := (hrd.out _ _ _ ow).1
        have r0 := ow.at (e := 26) (z := 1) (b := r) (cs := [.slice none 0 0]) (.tail _ (.tail _ (List.mem_append_right _ (.head _)))) (j := 0) (by omega)
        have r00 : (w6).cell? ⟨r, 0, none⟩ = some (.slice none 0 0) := r0.1
        have r01 := r0.2
        have hset := CurAt.set (A := (lsR d6 (n + 1) m6 (L ++ [0])) :: boxRow 26 1 q [.slice d M.length m] :: Z) (L := []) ow 0 (.slice d M.length m)
        have y0 : ((w6).setCell ⟨r, 0, none⟩ (.slice d M.length m)).cell? ⟨r, 0, none⟩ = some (.slice d M.length m) := by go_simp
        have hz := hset.1.rows.sub (S := (lsR d6 (n + 1) m6 (L ++ [0])) :: Z) (List.Sublist.cons_cons _ (.cons _ (List.sublist_append_left _ _)))
        have b3 := (b6').setCell hset.2 (p := ⟨r, 0, none⟩) (.slice d M.length m)
        have hln := hid ((show (L ++ [0]).length = n + 1 by rw [List.length_append, hLn.out]; rfl))
        have hls := hid ((show Sm 200 (L ++ [0]) from hSm.out.snoc ⟨by omega, by omega⟩))
        have hnb := hid ((show n + 1 ≤ 101 by omega))
        clear r0 hset ow
        go_wp2_with fail
        refine bodyPost_ret (v := .tuple #[.agg #[.slice d M.length m], .slice da A.length ma, .slice dx X.length mx, (.slice d6 (n + 1) m6)]) (by simp [results, Tryz.results5, go_sem, y0]) rfl ?_
        exact ⟨d, m, .slice da A.length ma, .slice dx X.length mx, (.slice d6 (n + 1) m6), M, A, X, (L ++ [0]), (lsR d6 (n + 1) m6 (L ++ [0])) :: Z, rfl, hM, hAl, hXl, by rw [hln.out]; exact hnb.out, by rw [← hBd.out]; exact hz, hid (fun u B' h => ⟨(hZ.out u B' h.tail).1, (hZ.out u B' h.tail).2.1, (hZ.out u B' h.tail).2.2, lsR_reads h hln.out (Nat.le_trans hnb.out (by omega)) hls.out (by omega)⟩), hEw.out _ b3⟩
      · have hx0b : (x == 0) = false := beq_eq_false_iff_ne.2 hx0'
        by_cases hx1 : x = 1
        · subst hx1
          by_cases hnz : 0 < n
          · have hnz' : (n : Int) > 0 := by omega
            obtain ⟨g, rfl⟩ := own7.lsAt hnz
            have e07 := hE.out _ b7'
            have own7' : CurAt w7 B c (.slice ac nb cc) a7 (liR g n p L :: R0) := own7
            clear own7
            go_wp2_with fail
            with_reducible refine (pick_any (w0 := w0) hc own7' hwB (by omega) (by omega)).mono ?_
            rintro e w8 ⟨k0, a8, rfl, hk0, _, hk2, h81, h82, own8, b8⟩
            have hk3 := hk2 (by omega)
            obtain ⟨k, rfl⟩ := Int.eq_ofNat_of_zero_le hk0
            have hkn : k < n := by omega
            have b8' := b7'.trans b8
            have hB8 := hBs.out _ b8'
            have ownL := CurAt.lit (e := 3) (n := 5) (cs := #[.int .i64 (-1), .int .i64 0, .int .i64 1, .int .i64 63, .int .i64 A.length]) own8 [-1, 0, 1, 63, (A.length : Int)] hB8 rfl rfl (by simp)
            have bL := b8'.alloc hB8 (.cells #[.int .i64 (-1), .int .i64 0, .int .i64 1, .int .i64 63, .int .i64 A.length] 3)
            have e0L := hE.out _ bL
            clear own7' b7' own8 b8 b8' e07 hk2 hk0
            go_wp2_with fail
            with_reducible refine (among_any (w0 := w0) hc ownL hwB (by omega) (by omega) (by simp) (by simp)).mono ?_
            rintro e w9 ⟨y, a9, rfl, hy, h91, h92, own9, b9⟩
            have b9' := bL.trans b9
            have hyb : -1 ≤ y ∧ y ≤ 200 := by
              simp only [List.mem_cons, List.not_mem_nil, or_false] at hy
              omega
            have own10 := own9.drop
            obtain ⟨⟨z9, g9⟩, hset9, hBg9⟩ := own10.liAt hLn.out hkn
            have own11 := hset9 y
            have b11 := b9'.setCell hBg9 (p := ⟨g, k, none⟩) (.int .i64 y)
            clear ownL bL e0L own9 b9 b9' own10 hset9 hy
            go_upto_region 21 with fail
            generalize w9.setCell ⟨g, k, none⟩ (.int .i64 y) = w11 at *
            clear z9 g9
            have ow := own11
            rw [← hr0.out] at ow
            have xq := (hrd.out _ _ _ ow).1
            have r0 := ow.at (e := 26) (z := 1) (b := r) (cs := [.slice none 0 0]) (.tail _ (.tail _ (List.mem_append_right _ (.head _)))) (j := 0) (by omega)
            have r00 : (w11).cell? ⟨r, 0, none⟩ = some (.slice none 0 0) := r0.1
            have r01 := r0.2
            have hset := CurAt.set (A := (lsR (some ⟨g, 0, none⟩) n p (L.set k y)) :: boxRow 26 1 q [.slice d M.length m] :: Z) (L := []) ow 0 (.slice d M.length m)
            have y0 : ((w11).setCell ⟨r, 0, none⟩ (.slice d M.length m)).cell? ⟨r, 0, none⟩ = some (.slice d M.length m) := by go_simp
            have hz := hset.1.rows.sub (S := (lsR (some ⟨g, 0, none⟩) n p (L.set k y)) :: Z) (List.Sublist.cons_cons _ (.cons _ (List.sublist_append_left _ _)))
            have b3 := (b11).setCell hset.2 (p := ⟨r, 0, none⟩) (.slice d M.length m)
            have hln := hid ((show (L.set k y).length = n by rw [List.length_set]; exact hLn.out))
            have hls := hid ((show Sm 200 (L.set k y) from hSm.out.set hyb))
            have hnb := hid ((show n ≤ 101 by omega))
            clear r0 hset ow
            go_wp2_with fail
            refine bodyPost_ret (v := .tuple #[.agg #[.slice d M.length m], .slice da A.length ma, .slice dx X.length mx, (.slice (some ⟨g, 0, none⟩) n p)]) (by simp [results, Tryz.results5, go_sem, y0]) rfl ?_
            exact ⟨d, m, .slice da A.length ma, .slice dx X.length mx, (.slice (some ⟨g, 0, none⟩) n p), M, A, X, (L.set k y), (lsR (some ⟨g, 0, none⟩) n p (L.set k y)) :: Z, rfl, hM, hAl, hXl, by rw [hln.out]; exact hnb.out, by rw [← hBd.out]; exact hz, hid (fun u B' h => ⟨(hZ.out u B' h.tail).1, (hZ.out u B' h.tail).2.1, (hZ.out u B' h.tail).2.2, lsR_reads h hln.out (Nat.le_trans hnb.out (by omega)) hls.out (by omega)⟩), hEw.out _ b3⟩
          · have hnz' : ¬ (n : Int) > 0 := by omega
            have ow := own7
            rw [← hr0.out] at ow
            have xq := (hrd.out _ _ _ ow).1
            have r0 := ow.at (e := 26) (z := 1) (b := r) (cs := [.slice none 0 0]) (.tail _ (.tail _ (List.mem_append_right _ (.head _)))) (j := 0) (by omega)
            have r00 : (w7).cell? ⟨r, 0, none⟩ = some (.slice none 0 0) := r0.1
            have r01 := r0.2
            have hset := CurAt.set (A := (lsR dB n p L) :: boxRow 26 1 q [.slice d M.length m] :: Z) (L := []) ow 0 (.slice d M.length m)
            have y0 : ((w7).setCell ⟨r, 0, none⟩ (.slice d M.length m)).cell? ⟨r, 0, none⟩ = some (.slice d M.length m) := by go_simp
            have hz := hset.1.rows.sub (S := (lsR dB n p L) :: Z) (List.Sublist.cons_cons _ (.cons _ (List.sublist_append_left _ _)))
            have b3 := (b7').setCell hset.2 (p := ⟨r, 0, none⟩) (.slice d M.length m)
            have hln := hid (hLn.out)
            have hls := hid (hSm.out)
            have hnb := hid ((show n ≤ 101 by omega))
            clear r0 hset ow
            go_wp2_with fail
            refine bodyPost_ret (v := .tuple #[.agg #[.slice d M.length m], .slice da A.length ma, .slice dx X.length mx, (.slice dB n p)]) (by simp [results, Tryz.results5, go_sem, y0]) rfl ?_
            exact ⟨d, m, .slice da A.length ma, .slice dx X.length mx, (.slice dB n p), M, A, X, L, (lsR dB n p L) :: Z, rfl, hM, hAl, hXl, by rw [hln.out]; exact hnb.out, by rw [← hBd.out]; exact hz, hid (fun u B' h => ⟨(hZ.out u B' h.tail).1, (hZ.out u B' h.tail).2.1, (hZ.out u B' h.tail).2.2, lsR_reads h hln.out (Nat.le_trans hnb.out (by omega)) hls.out (by omega)⟩), hEw.out _ b3⟩
        · have hx1b : (x == 1) = false := beq_eq_false_iff_ne.2 hx1
          have ow := own7
          rw [← hr0.out] at ow
          have xq := (hrd.out _ _ _ ow).1
          have r0 := ow.at (e := 26) (z := 1) (b := r) (cs := [.slice none 0 0]) (.tail _ (.tail _ (List.mem_append_right _ (.head _)))) (j := 0) (by omega)
          have r00 : (w7).cell? ⟨r, 0, none⟩ = some (.slice none 0 0) := r0.1
          have r01 := r0.2
          have hset := CurAt.set (A := (lsR dB n p L) :: boxRow 26 1 q [.slice d M.length m] :: Z) (L := []) ow 0 (.slice d M.length m)
          have y0 : ((w7).setCell ⟨r, 0, none⟩ (.slice d M.length m)).cell? ⟨r, 0, none⟩ = some (.slice d M.length m) := by go_simp
          have hz := hset.1.rows.sub (S := (lsR dB n p L) :: Z) (List.Sublist.cons_cons _ (.cons _ (List.sublist_append_left _ _)))
          have b3 := (b7').setCell hset.2 (p := ⟨r, 0, none⟩) (.slice d M.length m)
          have hln := hid (hLn.out)
          have hls := hid (hSm.out)
          have hnb := hid ((show n ≤ 101 by omega))
          clear r0 hset ow
          go_wp2_with fail
          refine bodyPost_ret (v := .tuple #[.agg #[.slice d M.length m], .slice da A.length ma, .slice dx X.length mx, (.slice dB n p)]) (by simp [results, Tryz.results5, go_sem, y0]) rfl ?_
          exact ⟨d, m, .slice da A.length ma, .slice dx X.length mx, (.slice dB n p), M, A, X, L, (lsR dB n p L) :: Z, rfl, hM, hAl, hXl, by rw [hln.out]; exact hnb.out, by rw [← hBd.out]; exact hz, hid (fun u B' h => ⟨(hZ.out u B' h.tail).1, (hZ.out u B' h.tail).2.1, (hZ.out u B' h.tail).2.2, lsR_reads h hln.out (Nat.le_trans hnb.out (by omega)) hls.out (by omega)⟩), hEw.out _ b3⟩
end Go.Proofs.YtllfchcocgdcjaaGreat

/- The program's list walked: ChainsOf. -/
namespace Go.Proofs.YtllfchcocgdcjaaGreat
open Go.RowKit

theorem Own.memRow {w : World} {B : Nat} {r : Row} {R : List Row} (h : Own w B R) (hm : r ∈ R) : Own w B [r] := h.sub (List.singleton_sublist.2 hm)
theorem Own.rowsBy {w : World} {B e1 n m cp : Nat} {d : Option Addr} {vs : Nat → Value} {c : Nat → Nat → Int} {R : List Row} (h : Own w B (⟨e1, 1, .slice d n cp, n, (List.range n).map vs⟩ :: R)) (hn : n ≤ 1000) (hm : m ≤ 1000) (hi : ∀ j l, j < n → l < m → I64 (c j l))
    (hr : ∀ j, j < n → intRowOf 3 (vs j) ((List.range m).map (c j)) ∈ R) : IsRows w (.slice d n cp) (tabF c n m) := by
  refine ⟨d, cp, by rw [tabF_len], by rw [tabF_len]; unfold ShortRows; omega, fun j hj => ?_⟩
  rw [tabF_len] at hj
  obtain ⟨g, rfl⟩ := h.at hj
  refine ⟨g, 0, vs j, rfl, ?_, ?_⟩
  · rw [Nat.zero_add, h.cellAt (w' := w) hj]
    simp [hj]
  · rw [tabF_row hj]
    exact (h.tail.memRow (hr j hj)).reads (by unfold Short; simp; omega) (fun x hx => by
      obtain ⟨l, hl, rfl⟩ := List.mem_map.1 hx
      exact hi j l hj (List.mem_range.1 hl))
theorem Tab.byF {w : World} {B n m : Nat} {v : Value} {c : Nat → Nat → Int} {R : List Row} (h : Tab w B v (tabF c n m) R) :
    ∃ (vs : Nat → Value) (S : List Row), Own w B (⟨27, 1, v, n, (List.range n).map vs⟩ :: S) ∧ (∀ j, j < n → intRowOf 3 (vs j) ((List.range m).map (c j)) ∈ S) ∧ ∀ r ∈ R, r ∈ S := by
  obtain ⟨vs, hl, ho⟩ := h
  rw [tabF_len] at hl
  have e : (List.range n).map (fun j => vs.getD j undef) = vs := by
    apply List.ext_getElem
    · simp [hl]
    · intro i h1 h2
      simp [h2]
  refine ⟨fun j => vs.getD j undef, List.zipWith (intRowOf 3) vs (tabF c n m) ++ R, ?_, fun j hj => ?_, fun r hr => List.mem_append_right _ hr⟩
  · rw [e]
    unfold rowsOf at ho
    have e2 : valRowOf 27 v vs = ⟨27, 1, v, n, vs⟩ := by unfold valRowOf; rw [hl]
    rw [e2] at ho
    exact ho
  · refine List.mem_append_left _ ?_
    rw [List.mem_iff_getElem]
    refine ⟨j, by simp [hl, tabF, hj], ?_⟩
    rw [List.getElem_zipWith]
    have h1 : j < vs.length := by omega
    simp [tabF, h1]
theorem flo_cell {u : World} {B b : Nat} {cs : List Value} {R : List Row} (h : Own u B R) (hm : floRow b cs ∈ R) {j : Nat} (hj : j < 2) : u.cell? ⟨b, j, none⟩ = some (cs.getD j undef) := by
  have h3 := h.memRow hm
  have h1 := h3.head.cellAt j (show j < 1 * 2 by omega)
  have h2 : cs.length = 1 * 2 := h3.head.1
  have h1' : u.cell? ⟨b, j, none⟩ = cs[j]? := h1
  rw [h1']
  simp [show j < cs.length by omega]
def CiPost (M : List (List Int)) (a X : List Int) (w : World) (e : Ending) (w' : World) : Prop :=
  ∃ u L, e = .returned (.tuple #[u, .bool (chB M a X)]) ∧ IsInts w' u L ∧ ChsOk M a X L ∧ Ext w w'
theorem onlC_bd {c : Nat → Nat → Int} {n m : Nat} (hb : ∀ i x, i < n → x < m → 0 ≤ c i x ∧ c i x ≤ 1073741824) (L : List Int) : ∀ i x, i < n → x < m → 0 ≤ onlC c L i x ∧ onlC c L i x ≤ 1073741824 := by
  intro i x hi hx
  have := hb i x hi hx
  unfold onlC
  split
  · split <;> omega
  · exact this
theorem onlC_ge {c : Nat → Nat → Int} {L : List Int} {i : Nat} (h : L.length ≤ i) : onlC c L i = c i := by
  funext l
  unfold onlC
  rw [if_neg (by omega)]
theorem onlC_app {c : Nat → Nat → Int} {L : List Int} {x : Int} {i : Nat} (h : i ≠ L.length) : onlC c (L ++ [x]) i = onlC c L i := by
  funext l
  unfold onlC
  have e1 : i < (L ++ [x]).length ↔ i < L.length := by rw [List.length_append]; simp; omega
  simp only [e1]
  by_cases h1 : i < L.length
  · have hN : nth (L ++ [x]) i = nth L i := by rw [fw_app1, if_pos h1]
    rw [hN]
  · rw [if_neg h1, if_neg h1]
theorem onlC_new {c : Nat → Nat → Int} {L : List Int} {k : Nat} : onlC c (L ++ [(k : Int)]) L.length = updI (fun _ => 1073741824) k (c L.length k) := by
  have hN : nth (L ++ [(k : Int)]) L.length = (k : Int) := by rw [fw_app1, if_neg (by omega), if_pos rfl]
  have hl : L.length < (L ++ [(k : Int)]).length := by simp
  funext l
  unfold onlC updI
  rw [if_pos hl, hN]
  by_cases h : l = k
  · rw [if_pos h, if_pos (by rw [h]), h]
  · rw [if_neg h, if_neg (by intro e; exact h (by omega))]
set_option maxHeartbeats 3200000 in
set_option maxRecDepth 100000 in
theorem implCs_any {v va vX : Value} {M : List (List Int)} {a X : List Int} {w0 w : World} [Ext w0 w] (hm : IsMet w0 v M) (ha : IsInts w0 va a) (hXi : IsInts w0 vX X) :
    Calls Tryz.prog 10 #[v, va, vX] w (CiPost M a X w) := by
  have hm' := hm
  obtain ⟨v1, rfl, hR⟩ := hm
  obtain ⟨a1, c1, rfl, l1⟩ := hR.form
  have ha' := ha
  obtain ⟨da, ma, rfl, la⟩ := ha.form
  have hX' := hXi
  obtain ⟨dx, mx, rfl, lx⟩ := hXi.form
  obtain ⟨cb, hcb⟩ : ∃ b, b = chB M a X := ⟨_, rfl⟩
  obtain ⟨OK, hOK⟩ : ∃ P, P = ChsOk M a X := ⟨_, rfl⟩
  unfold CiPost
  rw [← hcb, ← hOK]
  replace hcb := hid hcb
  replace hOK := hid hOK
  go_enter Tryz.func10, Tryz.ntmps10
  go_upto_region 1 with fail
  have e1 : Ext w (w.alloc (.cells #[.slice a1 M.length c1] 26)) := inferInstance
  have x0 : (w.alloc (.cells #[.slice a1 M.length c1] 26)).cell? ⟨w.heap.size, 0, none⟩ = some (.slice a1 M.length c1) := by go_simp
  obtain ⟨bx, hbx⟩ : ∃ q, q = w.heap.size := ⟨_, rfl⟩
  rw [← hbx] at x0 ⊢
  generalize w.alloc (.cells #[.slice a1 M.length c1] 26) = w1 at *
  replace hbx := hid hbx
  have e01 : Ext w0 w1 := Ext.trans ‹Ext w0 w› e1
  cases hs : srvB M a X with
  | false =>
    have hcf := hid (show cb = false by rw [hcb.out, chB, hs]; rfl)
    have hno := hid (show OK [] by rw [hOK.out]; exact ChsOk.no (by rw [chB, hs]; rfl))
    replace hs := hid hs
    go_wp2_with fail
    with_reducible refine (isServed_any (w0 := w0) hm' ha' hX').mono ?_
    rw [hs.out]
    rintro e w2 ⟨rfl, e2⟩
    go_wp2_with fail
    refine bodyPost_ret (v := .tuple #[.slice none 0 0, .bool false]) (by simp [results, Tryz.results10, go_sem]) rfl ?_
    exact ⟨.slice none 0 0, [], by rw [hcf.out], ⟨none, 0, rfl, ⟨Nat.zero_le _, Nat.zero_le _⟩, by simp, fun j hj => by simp at hj⟩, hno.out, Ext.trans e1 e2⟩
  | true =>
    obtain ⟨hM, hal, hab, hXb, hXl⟩ := srv_pts hs
    have hs2 := hid hs
    have hfb := hid (fun (i l : Nat) (hi : i < X.length) (hl : l < a.length + X.length) => flC_bd hM hab hXb (i := i) (k := l) hi hl)
    clear hs
    replace hM := hid hM
    replace hab := hid hab
    replace hXb := hid hXb
    by_cases h24 : X.length ≤ 24
    · have hct := hid (show cb = true by rw [hcb.out, chB, hs2.out, decide_eq_true h24]; rfl)
      have h24' : ¬ (24 : Int) < (X.length : Int) := by omega
      have hyes := hid (fun L (h : Chs a.length (flC M a X) X.length (a.length + X.length) L X.length) => show OK L by rw [hOK.out]; exact ChsOk.yes (by rw [← hcb.out]; exact hct.out) h)
      go_wp2_with fail
      with_reducible refine (isServed_any (w0 := w0) hm' ha' hX').mono ?_
      rw [hs2.out]
      rintro e w2 ⟨rfl, e2⟩
      have x2 := e2.cell x0
      have e12 : Ext w w2 := Ext.trans e1 e2
      have e02 : Ext w0 w2 := Ext.trans ‹Ext w0 w› e12
      go_wp2_with fail
      with_reducible refine (flowOf_any (w0 := w0) (w := w2) hm' ha' hX' hM.out hab.out hXb.out hal hXl).mono ?_
      rintro e w3 ⟨bp, cv, B, rfl, tab, hB, e3⟩
      have e13 : Ext w w3 := Ext.trans e12 e3
      have y1 : w3.cell? ⟨bp, 1, none⟩ = some cv := (tab.boxAt (j := 1) (by omega)).1
      have hF : IsRows w3 cv (flL M a X) := tab.reads (by unfold ShortRows; rw [flL_len]; omega) (fun r hr => by
        obtain ⟨i, hi, rfl⟩ := List.mem_map.1 hr
        unfold Short; rw [flRow_len]; omega) (flL_i64 hM.out hab.out hXb.out)
      obtain ⟨dF, nF, mF, rfl, hnF⟩ := tab.formN
      have hnX : nF = X.length := by rw [hnF.out, flL_len]
      subst hnX
      have hcb2 := hid (show ∀ i x, i < X.length → x < a.length + X.length → 0 ≤ flC M a X i x ∧ flC M a X i x ≤ 1073741824 from fun i x hi hx => by
        have := hfb.out i x (by omega) (by omega)
        omega)
      have hc99 := hid (show ∀ i x, i < X.length → x < a.length + X.length → alB a.length i x = true → flC M a X i x ≤ 99 from fun i x hi hx h => (srv_cost hs2.out (by omega) h).2)
      have hcno := hid (show ∀ i x, i < X.length → x < a.length + X.length → alB a.length i x = false → flC M a X i x = 1073741824 from fun i x hi hx h => by
        unfold flC
        rw [if_neg]
        intro e
        rw [alB_iff.2 e] at h
        cases h)
      have hBw3 : B ≤ w3.heap.size := by
        have h := tab.rest.head.lt bp rfl
        omega
      obtain ⟨vs0, R0, own0, hv0, hr0⟩ := Tab.byF (c := flC M a X) (n := X.length) (m := a.length + X.length) tab
      have hAs := hid (assigned_of (c := flC M a X) (n := X.length) (m := a.length + X.length) (w0 := w3) (w := w3) hF (by omega) (by omega) (fun r l hr hl => by
        have := hfb.out r l hr hl
        omega))
      clear tab hnF x2 x0 hF
      go_wp2_with fail
      with_reducible refine hAs.out.mono ?_
      rintro e w4 ⟨xb, f, p, q, rfl, hbf, hf, hcT, hpb, e4⟩
      obtain ⟨db, nb, mb, rfl, -⟩ : ∃ d n m, xb = .slice d n m ∧ True := by
        obtain ⟨d, m, rfl, _⟩ := hbf.form
        exact ⟨d, _, m, rfl, trivial⟩
      have hA := hid (al_of hs2.out hf hcT)
      clear hbf hf hcT hpb hAs
      have hbest := hid (fun g' hg' => hA.out.2.opt hA.out.1 (g := g') hg')
      have hm1 : a.length + X.length ≤ 100 := by omega
      obtain ⟨V, hV⟩ : ∃ V, V = mcost (flC M a X) f X.length := ⟨_, rfl⟩
      rw [← hV]
      replace hV := hid hV
      have e14 : Ext w w4 := Ext.trans e13 e4
      have own4 := own0.ext (w' := w4) (e := e4)
      have hCh0 := hid (Chs.begin (k := a.length) (c := flC M a X) (n := X.length) (m := a.length + X.length) hA.out.1 hbest.out)
      have hq := hid (fun (L : List Int) (hL : L.length < X.length) (l : Nat) (f2 : Nat → Nat) (p2 q2 : Nat → Int) (h2 : Mtc (fun _ _ => True) X.length (a.length + X.length) f2) (h3 : Cert (fun _ _ => True) (onlC (flC M a X) (L ++ [(l : Int)])) X.length (a.length + X.length) f2 p2 q2) => bst_prog hcb2.out hc99.out hcno.out (by omega) hA.out.1 hbest.out hL h2 h3)
      obtain ⟨m, hmm⟩ : ∃ m, m = a.length + X.length := ⟨_, rfl⟩
      rw [← hmm] at hcb2 hc99 hcno hA hbest hCh0 hq hv0 hyes
      have hmb : 1 ≤ m ∧ m ≤ 100 ∧ X.length ≤ m := by omega
      have hal2 := hid (fun (L : List Int) (l : Nat) (h : Bst a.length (flC M a X) X.length m (L ++ [(l : Int)])) (hl : L.length < X.length) => h.in1 hl)
      have hnext := hid (fun (L : List Int) (h : Bst a.length (flC M a X) X.length m L) (hl : L.length < X.length) => h.next hl)
      have hflo := hid (hr0 _ (List.mem_singleton.2 rfl))
      have y4 := e4.cell y1
      have hB4 : B ≤ w4.heap.size := Nat.le_trans hBw3 e4.size
      have hEx := hid (show ∀ u, Below B w4 u → Ext w u from fun u h => ⟨e14.below.trans (h.mono (Nat.le_trans e12.size hB))⟩)
      have hv0' := hid (show ∀ j, j < X.length → intRowOf 3 (vs0 j) ((List.range m).map (onlC (flC M a X) [] j)) ∈ R0 from fun j hj => by
        rw [onlC_ge (by simp)]
        exact hv0 j hj)
      have own5 : Own (w4.alloc (.cells #[] 3)) B (intRowOf 3 (.slice (some ⟨w4.heap.size, 0, none⟩) 0 0) [] :: ⟨27, 1, .slice dF X.length mF, X.length, (List.range X.length).map vs0⟩ :: R0) := own4.lit 3 1 0 #[] hB4 (by unfold maxLen; omega) rfl
      have e5 : Ext w4 (w4.alloc (.cells #[] 3)) := inferInstance
      have b5 : Below B w4 (w4.alloc (.cells #[] 3)) := (Below.refl B w4).alloc hB4 _
      have hB5 : B ≤ (w4.alloc (.cells #[] 3)).heap.size := Nat.le_trans hB4 e5.size
      have y5 := e5.cell y4
      replace hmm := hid hmm
      clear hr0 own0 own4 hv0 y4 y1 hBw3 e13 e3 e4 e12 e02 e2 e14 hal hXl hm1
      go_upto_region 6 with fail
      generalize w4.alloc (.cells #[] 3) = w5 at *
      generalize w4.heap.size = g4 at *
      go_upto_region 7 with fail
      clear e5 y5
      go_loopw [11, 47] (fun ov iv wr => ∃ (i : Nat) (d : Option Addr) (q : Nat) (L : List Int) (vs : Nat → Value) (S : List Row), ov = .slice d i q ∧ iv = .int .i64 i ∧ i ≤ X.length ∧ Hid (Chs a.length (flC M a X) X.length m L i) ∧ Own wr B (intRowOf 3 (.slice d i q) L :: ⟨27, 1, .slice dF X.length mF, X.length, (List.range X.length).map vs⟩ :: S) ∧ Hid (∀ j, j < X.length → intRowOf 3 (vs j) ((List.range m).map (onlC (flC M a X) L j)) ∈ S) ∧ Hid (floRow bp [.int .i64 a.length, .slice dF X.length mF] ∈ S) ∧ Below B w4 wr ∧ B ≤ wr.heap.size) (fun _ iv _ => X.length - (intOf iv).toNat)
      case atStart => exact ⟨0, _, _, _, _, _, rfl, rfl, by omega, hCh0, own5, hv0', hflo, b5, hB5⟩
      case round =>
        clear own5 b5 hB5 hCh0 hv0' hflo
        obtain ⟨i, d, q, L, vs, S, rfl, rfl, hi, hCh, own, hv, hflo, hb, hBw⟩ := hrel
        obtain ⟨wo, rfl⟩ : ∃ y : World, y = wr := ⟨_, rfl⟩
        by_cases hlt : i < X.length
        · have hLl := hid hCh.out.len
          have hnx := hid (hnext.out L hCh.out.bst (by rw [hLl.out]; exact hlt))
          obtain ⟨bF, rfl⟩ := own.tail.at hlt
          have hvi := hv.out i hlt
          rw [onlC_ge (by rw [hLl.out]; exact Nat.le_refl _)] at hvi
          have hrow := own.tail.tail.memRow hvi
          obtain ⟨dr, mr, hfr⟩ := hrow.form
          have hfr' : vs i = .slice dr m mr := by
            have h : vs i = .slice dr ((List.range m).map (flC M a X i)).length mr := hfr
            rw [h]; simp
          clear hfr
          rw [hfr'] at hvi hrow
          have hrow' : Own wo B [⟨3, 1, .slice dr m mr, m, ((List.range m).map (flC M a X i)).map (Value.int .i64)⟩] := by
            have h := hrow
            unfold intRowOf at h
            rw [List.length_map, List.length_range] at h
            exact h
          obtain ⟨br, rfl⟩ := hrow'.at (j := 0) (by omega)
          clear hrow hrow'
          have z1 := (own.tail.aAt (k := 0) rfl (j := i) hlt).1
          rw [hfr'] at z1
          replace hfr' := hid hfr'
          replace hvi := hid hvi
          have hvj := hid (show ∀ j, j < X.length → j ≠ i → intRowOf 3 (vs j) ((List.range m).map (onlC (flC M a X) L j)) ∈ S from fun j hj _ => hv.out j hj)
          go_upto_region 10 with fail
          clear hv z1
          go_loopw [11, 54] (fun ov kv wr => ∃ (k : Nat) (vs : Nat → Value) (S : List Row), ov = .slice d i q ∧ kv = .int .i64 k ∧ k ≤ m ∧ Hid (∀ l' : Nat, l' < k → ¬ Bst a.length (flC M a X) X.length m (L ++ [(l' : Int)])) ∧ Own wr B (intRowOf 3 (.slice d i q) L :: ⟨27, 1, .slice (some ⟨bF, 0, none⟩) X.length mF, X.length, (List.range X.length).map vs⟩ :: S) ∧ Hid (∀ j, j < X.length → j ≠ i → intRowOf 3 (vs j) ((List.range m).map (onlC (flC M a X) L j)) ∈ S) ∧ Hid (intRowOf 3 (.slice (some ⟨br, 0, none⟩) m mr) ((List.range m).map (flC M a X i)) ∈ S) ∧ Hid (floRow bp [.int .i64 a.length, .slice (some ⟨bF, 0, none⟩) X.length mF] ∈ S) ∧ Below B w4 wr ∧ B ≤ wr.heap.size) (fun _ kv _ => m - (intOf kv).toNat)
          case atStart => exact ⟨0, _, _, rfl, rfl, by omega, hid (fun l' h => by omega), own, hvj, hvi, hflo, hb, hBw⟩
          case round =>
            clear own hvj hvi hflo hb hBw
            obtain ⟨k, vs, S, rfl, rfl, hk, hno, own, hvj, hvi, hflo, hb, hBw⟩ := hrel
            obtain ⟨wo, rfl⟩ : ∃ y : World, y = wr := ⟨_, rfl⟩
            by_cases hkm : k < m
            · have hRw : IsInts wo (.slice (some ⟨br, 0, none⟩) m mr) ((List.range m).map (flC M a X i)) := (own.tail.tail.memRow hvi.out).reads (by unfold Short; simp; omega) (fun x hx => by
                obtain ⟨l, hl, rfl⟩ := List.mem_map.1 hx
                have := hcb2.out i l hlt (List.mem_range.1 hl)
                unfold I64; omega)
              obtain ⟨br', or', hbr, hck⟩ := hRw.at (w' := wo) (k := k) (by simpa using hkm)
              cases hbr
              rw [nth_range hkm, Nat.zero_add] at hck
              have hxb := hcb2.out i k hlt hkm
              have hLi9 := hid (show ∀ x ∈ L ++ [(k : Int)], I64 x from fun x hx => by
                rcases List.mem_append.1 hx with h | h
                · obtain ⟨j, hj, rfl⟩ := fw_mem h
                  rw [hLl.out] at hj
                  have := hCh.out.nn j hj
                  unfold I64; omega
                · rw [List.mem_singleton] at h; subst h; unfold I64; omega)
              have hLo : IsInts wo (.slice d i q) L := own.head1.reads (by rw [hLl.out]; unfold Short; omega) (fun x hx => hLi9.out x (List.mem_append_left _ hx))
              have hHa := hid (@sContains_any (.slice d i q) L (k : Int) wo wo (Ext.refl _) hLo)
              have hin := hid (fun (h : Bst a.length (flC M a X) X.length m (L ++ [(k : Int)])) => hal2.out L k h (by rw [hLl.out]; exact hlt))
              obtain ⟨x, hx⟩ : ∃ x, x = flC M a X i k := ⟨_, rfl⟩
              rw [← hx] at hck hxb
              replace hx := hid hx
              by_cases hfar : x = 1073741824
              · have hnl := hid (show ¬ Bst a.length (flC M a X) X.length m (L ++ [(k : Int)]) from fun h => by
                  have h1 := (hin.out h).1
                  rw [hLl.out] at h1
                  have h2 := hc99.out i k hlt hkm h1
                  rw [← hx.out] at h2
                  omega)
                have hfb : (x == 1073741824) = true := beq_iff_eq.2 hfar
                replace hfar := hid hfar
                go_wp2_with fail
                go_roundw
                case rel => exact ⟨k + 1, vs, S, rfl, by go_num, by omega, hid (fun l' hl' => by
                  by_cases q : l' < k
                  · exact hno.out l' q
                  · obtain rfl : l' = k := by omega
                    exact hnl.out), own, hvj, hvi, hflo, hb, hBw⟩
                case measure => simp [intOf]; omega
              · have hfb : (x == 1073741824) = false := beq_eq_false_iff_ne.2 hfar
                replace hfar := hid hfar
                cases hh : hasB L (k : Int) with
                | true =>
                  have hnl := hid (show ¬ Bst a.length (flC M a X) X.length m (L ++ [(k : Int)]) from fun h => (hin.out h).2.2 (hasB_true.1 hh))
                  rw [hh] at hHa
                  replace hh := hid hh
                  go_wp2_with fail
                  refine hHa.out.mono ?_
                  rintro e w4 ⟨rfl, rfl⟩
                  go_wp2_with fail
                  go_roundw
                  case rel => exact ⟨k + 1, vs, S, rfl, by go_num, by omega, hid (fun l' hl' => by
                    by_cases q : l' < k
                    · exact hno.out l' q
                    · obtain rfl : l' = k := by omega
                      exact hnl.out), own, hvj, hvi, hflo, hb, hBw⟩
                  case measure => simp [intOf]; omega
                | false =>
                  rw [hh] at hHa
                  replace hh := hid hh
                  have hlit := litOne wo (x := 1073741824) (by unfold I64; omega)
                  have eL : Ext wo (wo.alloc (.cells #[.int .i64 1073741824] 3)) := inferInstance
                  have ownL := own.ext (e := eL)
                  have bL := hb.trans (eL.below.mono hBw)
                  have hBL : B ≤ (wo.alloc (.cells #[.int .i64 1073741824] 3)).heap.size := Nat.le_trans hBw eL.size
                  go_wp2_with fail
                  refine hHa.out.mono ?_
                  rintro e w4 ⟨rfl, rfl⟩
                  go_wp2_with fail
                  clear hck
                  generalize wo.alloc (.cells #[.int .i64 1073741824] 3) = wL at *
                  generalize wo.heap.size = gL at *
                  clear own hb eL hBw
                  with_reducible refine (repA_any (w0 := wL) (w := wL) (n := m) hlit (by omega) (by omega)).mono ?_
                  rintro e w7 ⟨b7, m7, rfl, hO, e7⟩
                  have o7 := hO _ _ ownL hBL
                  have hb7 := bL.trans (e7.below.mono hBL)
                  have hB7 := Nat.le_trans hBL e7.size
                  obtain ⟨c7, f7⟩ := o7.aAt (k := 0) rfl (j := k) hkm
                  have hlt7 := (o7.aLt (k := 0) rfl).1
                  have o8 : Own (w7.setCell ⟨b7, k, none⟩ (.int .i64 x)) B (iA b7 m m7 (updI (fun _ => 1073741824) k x) :: intRowOf 3 (.slice d i q) L :: aR 27 bF X.length mF vs :: S) := o7.iSet (k := 0) rfl k x
                  have hb8 : Below B w4 (w7.setCell ⟨b7, k, none⟩ (.int .i64 x)) := hb7.setCell (p := ⟨b7, k, none⟩) hlt7 _
                  have hB8 : B ≤ (w7.setCell ⟨b7, k, none⟩ (.int .i64 x)).heap.size := by
                    have e : (w7.setCell ⟨b7, k, none⟩ (.int .i64 x)).heap.size = w7.heap.size := by go_simp
                    rw [e]; exact hB7
                  clear ownL bL hBL hlit e7 o7 hb7 hB7 hO
                  go_upto_region 15 with fail
                  clear c7 f7
                  generalize w7.setCell ⟨b7, k, none⟩ (.int .i64 x) = w8 at *
                  have y8 : w8.cell? ⟨bp, 1, none⟩ = some (.slice (some ⟨bF, 0, none⟩) X.length mF) := flo_cell o8 (.tail _ (.tail _ (.tail _ hflo.out))) (j := 1) (by omega)
                  obtain ⟨c8, f8⟩ := o8.aAt (k := 2) rfl (j := i) hlt
                  have hlt8 := (o8.aLt (k := 2) rfl).1
                  have o9 : Own (w8.setCell ⟨bF, i, none⟩ (.slice (some ⟨b7, 0, none⟩) m m7)) B (iA b7 m m7 (updI (fun _ => 1073741824) k x) :: intRowOf 3 (.slice d i q) L :: aR 27 bF X.length mF (updV vs i (.slice (some ⟨b7, 0, none⟩) m m7)) :: S) := o8.aSet (k := 2) rfl i _
                  have hb9 : Below B w4 (w8.setCell ⟨bF, i, none⟩ (.slice (some ⟨b7, 0, none⟩) m m7)) := hb8.setCell (p := ⟨bF, i, none⟩) hlt8 _
                  have hB9 : B ≤ (w8.setCell ⟨bF, i, none⟩ (.slice (some ⟨b7, 0, none⟩) m m7)).heap.size := by
                    have e : (w8.setCell ⟨bF, i, none⟩ (.slice (some ⟨b7, 0, none⟩) m m7)).heap.size = w8.heap.size := by go_simp
                    rw [e]; exact hB8
                  clear o8 hb8 hB8
                  go_upto_region 16 with fail
                  clear c8 f8 y8
                  generalize w8.setCell ⟨bF, i, none⟩ (.slice (some ⟨b7, 0, none⟩) m m7) = w9 at *
                  have y9 : w9.cell? ⟨bp, 1, none⟩ = some (.slice (some ⟨bF, 0, none⟩) X.length mF) := flo_cell o9 (.tail _ (.tail _ (.tail _ hflo.out))) (j := 1) (by omega)
                  have o9' := o9.perm prm3.2.2.2.1.symm
                  clear o9
                  have hmem := hid (show ∀ j, j < X.length → intRowOf 3 (updV vs i (.slice (some ⟨b7, 0, none⟩) m m7) j) ((List.range m).map (onlC (flC M a X) (L ++ [(k : Int)]) j)) ∈ iA b7 m m7 (updI (fun _ => 1073741824) k x) :: S from fun j hj => by
                    have hN := onlC_new (c := flC M a X) (L := L) (k := k)
                    rw [hLl.out, ← hx.out] at hN
                    unfold updV
                    by_cases e : j = i
                    · rw [if_pos e, e, hN, iA_row]
                      exact .head _
                    · rw [if_neg e, onlC_app (by rw [hLl.out]; exact e)]
                      exact .tail _ (hvj.out j hj e))
                  have hR9 := o9'.tail.rowsBy (c := onlC (flC M a X) (L ++ [(k : Int)])) (m := m) (by omega) (by omega) (fun j l hj hl => by
                    have := onlC_bd hcb2.out (L ++ [(k : Int)]) j l hj hl
                    unfold I64; omega) hmem.out
                  have hA9 := hid (assigned_of (w0 := w9) (w := w9) hR9 (by omega) (by omega) (onlC_bd hcb2.out _))
                  clear hR9
                  go_wp2_with fail
                  with_reducible refine hA9.out.mono ?_
                  rintro e w10 ⟨xb, f2, p2, q2, rfl, hbf, h2, h3, -, e10⟩
                  obtain ⟨db2, nb2, mb2, rfl, -⟩ : ∃ d n m, xb = .slice d n m ∧ True := by
                    obtain ⟨d, m, rfl, _⟩ := hbf.form
                    exact ⟨d, _, m, rfl, trivial⟩
                  have hqq := hq.out L (by rw [hLl.out]; exact hlt) k f2 p2 q2 h2 h3
                  rw [← hV.out] at hqq
                  clear hbf h2 h3 hA9
                  obtain ⟨U, hU⟩ : ∃ U, U = mcost (onlC (flC M a X) (L ++ [(k : Int)])) f2 X.length := ⟨_, rfl⟩
                  rw [← hU] at hqq ⊢
                  replace hU := hid hU
                  have o10 := o9'.ext (e := e10)
                  have hb10 := hb9.trans (e10.below.mono hB9)
                  have hB10 := Nat.le_trans hB9 e10.size
                  clear o9' hb9 hB9
                  by_cases hUV : U = V
                  · have hCh' := hid (hCh.out.step hkm (hqq.1 hUV) hno.out)
                    have hbe : (U == V) = true := beq_iff_eq.2 hUV
                    replace hUV := hid hUV
                    replace hqq := hid hqq
                    have own11 : Own w10 B (⟨3, 1, .slice d i q, i, L.map (Value.int .i64)⟩ :: aR 27 bF X.length mF (updV vs i (.slice (some ⟨b7, 0, none⟩) m m7)) :: iA b7 m m7 (updI (fun _ => 1073741824) k x) :: S) := by
                      have h := o10
                      unfold intRowOf at h
                      rw [hLl.out] at h
                      exact h
                    clear o10
                    go_wp2_with (at_builtin; refine wpList_append1 rfl (.tmp 92) (.tmp 94) _ rfl elemInt rfl own11 hB10 rfl rfl (by omega) (by omega) ?_; intro v1 w1' ho1 hb1; obtain ⟨d1, m1, hv1⟩ := ho1.form; (obtain rfl : v1 = .slice d1 (i + 1) m1 := hv1))
                    have o2 : Own w1' B (intRowOf 3 (.slice d1 (i + 1) m1) (L ++ [(k : Int)]) :: aR 27 bF X.length mF (updV vs i (.slice (some ⟨b7, 0, none⟩) m m7)) :: iA b7 m m7 (updI (fun _ => 1073741824) k x) :: S) := by
                      unfold intRowOf
                      rw [List.length_append, hLl.out, List.map_append]
                      exact ho1
                    go_roundw
                    case rel => exact ⟨i + 1, d1, m1, L ++ [(k : Int)], _, _, rfl, by go_num, by omega, hCh', o2, hmem, hid (.tail _ hflo.out), hb10.trans hb1, Nat.le_trans hB10 hb1.size⟩
                    case measure => simp [intOf]; omega
                  · have hnl := hid (fun h => hUV (hqq.2 h))
                    have hbe : (U == V) = false := beq_eq_false_iff_ne.2 hUV
                    replace hUV := hid hUV
                    replace hqq := hid hqq
                    have hvj' := hid (show ∀ j, j < X.length → j ≠ i → intRowOf 3 (updV vs i (.slice (some ⟨b7, 0, none⟩) m m7) j) ((List.range m).map (onlC (flC M a X) L j)) ∈ iA b7 m m7 (updI (fun _ => 1073741824) k x) :: S from fun j hj e => by
                      unfold updV
                      rw [if_neg e]
                      exact .tail _ (hvj.out j hj e))
                    go_wp2_with fail
                    go_roundw
                    case rel => exact ⟨k + 1, _, _, rfl, by go_num, by omega, hid (fun l' hl' => by
                      by_cases q : l' < k
                      · exact hno.out l' q
                      · obtain rfl : l' = k := by omega
                        exact hnl.out), o10, hvj', hid (.tail _ hvi.out), hid (.tail _ hflo.out), hb10, hB10⟩
                    case measure => simp [intOf]; omega
            · exfalso
              obtain ⟨x, hx, hBx⟩ := hnx.out
              exact hno.out x (by omega) hBx
        · obtain rfl : i = X.length := by omega
          have hLl := hid hCh.out.len
          have hLo : IsInts wo (.slice d X.length q) L := own.head1.reads (by rw [hLl.out]; unfold Short; omega) (fun x hx => by
            obtain ⟨j, hj, rfl⟩ := fw_mem hx
            rw [hLl.out] at hj
            have := hCh.out.nn j hj
            unfold I64; omega)
          have eF := hEx.out wo hb
          go_wp2_with fail
          refine bodyPost_ret (v := .tuple #[.slice d X.length q, .bool true]) (by simp [results, Tryz.results10, go_sem]) rfl ?_
          exact ⟨_, L, by rw [hct.out], hLo, hyes.out L hCh.out, eF⟩
    · have hcf := hid (show cb = false by rw [hcb.out, chB, hs2.out, decide_eq_false h24]; rfl)
      have h24' : (24 : Int) < (X.length : Int) := by omega
      have hno := hid (show OK [] by rw [hOK.out]; exact ChsOk.no (by rw [← hcb.out]; exact hcf.out))
      go_wp2_with fail
      with_reducible refine (isServed_any (w0 := w0) hm' ha' hX').mono ?_
      rw [hs2.out]
      rintro e w2 ⟨rfl, e2⟩
      go_wp2_with fail
      refine bodyPost_ret (v := .tuple #[.slice none 0 0, .bool false]) (by simp [results, Tryz.results10, go_sem]) rfl ?_
      exact ⟨.slice none 0 0, [], by rw [hcf.out], ⟨none, 0, rfl, ⟨Nat.zero_le _, Nat.zero_le _⟩, by simp, fun j hj => by simp at hj⟩, hno.out, Ext.trans e1 e2⟩
end Go.Proofs.YtllfchcocgdcjaaGreat

/- The least cost of a chain list is the least cost of a schedule: plain words. -/
namespace Go.Proofs.YtllfchcocgdcjaaGreat
open Go.RowKit

/-- the points of the last things that the servers served -/
def ptF (a X : List Int) (k : Nat) (e : Nat → Nat) : List Int := (List.range k).map fun s => nth (a ++ X) (e s)
theorem ptF_len (a X : List Int) (k : Nat) (e : Nat → Nat) : (ptF a X k e).length = k := by simp [ptF]
theorem ptF_at {a X : List Int} {k : Nat} {e : Nat → Nat} {s : Nat} (h : s < k) : nth (ptF a X k e) s = nth (a ++ X) (e s) := by simp [ptF, nth, h]
theorem ptF_set {a X : List Int} {k : Nat} {e : Nat → Nat} {s l : Nat} : (ptF a X k e).set s (nth (a ++ X) l) = ptF a X k (updN e s l) := by
  apply List.ext_getElem
  · simp [ptF]
  · intro i h1 h2
    simp only [ptF, List.getElem_set, List.getElem_map, List.getElem_range, updN]
    by_cases h : s = i
    · rw [if_pos h, if_pos h.symm]
    · rw [if_neg h, if_neg (fun e => h e.symm)]
theorem nth_app_left {a X : List Int} {l : Nat} (h : l < a.length) : nth (a ++ X) l = nth a l := by
  unfold nth
  rw [List.getD_eq_getElem?_getD, List.getD_eq_getElem?_getD, List.getElem?_append_left h]
theorem nth_app_right {a X : List Int} {i : Nat} : nth (a ++ X) (a.length + i) = nth X i := by
  unfold nth
  rw [List.getD_eq_getElem?_getD, List.getD_eq_getElem?_getD, List.getElem?_append_right (by omega)]
  congr 2
  omega
theorem ptF_id (a X : List Int) : ptF a X a.length id = a := by
  apply List.ext_getElem
  · simp [ptF]
  · intro i h1 h2
    simp only [ptF, List.getElem_map, List.getElem_range, id]
    rw [nth_app_left h2]
    simp [nth, h2]
theorem ptF_pts {a X : List Int} {n k i : Nat} {e : Nat → Nat} (ha : Pts n a) (hX : ∀ j, j < X.length → 0 ≤ nth X j ∧ nth X j < (n : Int)) (hi : i ≤ X.length) (he : ∀ s, s < k → e s < a.length + i) : Pts n (ptF a X k e) := fun x hx => by
  obtain ⟨s, hs, rfl⟩ := List.mem_map.1 hx
  have h := he s (List.mem_range.1 hs)
  by_cases h1 : e s < a.length
  · rw [nth_app_left h1]
    exact ha _ (nth_mem h1)
  · rw [show e s = a.length + (e s - a.length) by omega, nth_app_right]
    exact hX _ (by omega)
theorem scTo_congr {M : List (List Int)} {a : List Int} {C D : List (List Int)} : ∀ {i : Nat}, (∀ j, j < i → row C j = row D j) → scTo M a C i = scTo M a D i
  | 0, _ => rfl
  | i + 1, h => by
    have h1 := scTo_congr (M := M) (a := a) (i := i) fun j hj => h j (by omega)
    have h2 : scP a C i = scP a D i := by
      unfold scP
      by_cases e : i = 0
      · rw [if_pos e, if_pos e]
      · rw [if_neg e, if_neg e]; exact h (i - 1) (by omega)
    simp only [scTo]
    rw [h1, h2, h i (by omega)]
theorem row_app {C : List (List Int)} {x : List Int} {j : Nat} (h : j < C.length) : row (C ++ [x]) j = row C j := by
  unfold row
  rw [List.getD_eq_getElem?_getD, List.getD_eq_getElem?_getD, List.getElem?_append_left h]
theorem row_last {C : List (List Int)} {x : List Int} : row (C ++ [x]) C.length = x := by simp [row]
theorem srt_conf {n k : Nat} {x : List Int} (hl : x.length = k) (hx : Pts n x) : sortL x ∈ confs n k 0 :=
  confs_iff.2 ⟨by rw [sortL_len, hl], sortL_asc x, fun q hq => by have := hx q ((sortL_perm x).mem_iff.1 hq); omega⟩
/-- a chain list is a way to serve: no schedule need cost more -/
theorem chain_sched {M : List (List Int)} {a X : List Int} (hs : srvB M a X = true) {f : Nat → Nat} (hf : Mtc (Al a.length) X.length (a.length + X.length) f) :
    ∀ i, i ≤ X.length → ∃ (e : Nat → Nat) (C : List (List Int)), C.length = i ∧ (∀ s, s < a.length → e s < a.length + i) ∧ (∀ l, l < a.length + i → (∀ j, j < i → f j ≠ l) → ∃ s, s < a.length ∧ e s = l) ∧
      (∀ j, j < i → row C j ∈ confs M.length a.length 0 ∧ nth X j ∈ row C j) ∧ (scP a C i).Perm (ptF a X a.length e) ∧ scTo M a C i ≤ sgTo (fun j => flC M a X j (f j)) i := by
  obtain ⟨hd, hk, ha, hX, hl⟩ := srv_all hs
  have hap := (conf_pts ha).2
  intro i
  induction i with
  | zero =>
    intro _
    refine ⟨id, [], rfl, fun s h => by simpa using h, fun l h _ => ⟨l, by simpa using h, rfl⟩, fun j h => by omega, ?_, Int.le_refl _⟩
    rw [ptF_id]
    exact List.Perm.refl _
  | succ i ih =>
    intro hi
    obtain ⟨e, C, h1, h2, h3, h4, h5, h6⟩ := ih (by omega)
    have hfi := hf.1 i (by omega)
    have hal := alB_iff.1 hfi.2
    obtain ⟨s, hsk, hes⟩ := h3 (f i) hal fun j hj e => by have := hf.2 j i (by omega) (by omega) e; omega
    have hpt := ptF_pts hap hX (i := i) (by omega) h2
    have hr := hX i (by omega)
    have e1 := ptF_set (a := a) (X := X) (k := a.length) (e := e) (s := s) (l := a.length + i)
    rw [nth_app_right] at e1
    have hpt2 : Pts M.length (ptF a X a.length (updN e s (a.length + i))) := by rw [← e1]; exact hpt.set hr
    have hv : ∀ t, updN e s (a.length + i) t = if t = s then a.length + i else e t := fun _ => rfl
    refine ⟨updN e s (a.length + i), C ++ [sortL (ptF a X a.length (updN e s (a.length + i)))], by simp [h1], fun t ht => ?_, fun l hl2 hne => ?_, fun j hj => ?_, ?_, ?_⟩
    · rw [hv]
      have := h2 t ht
      split <;> omega
    · by_cases e2 : l = a.length + i
      · exact ⟨s, hsk, by rw [hv, if_pos rfl, e2]⟩
      · obtain ⟨t, ht, het⟩ := h3 l (by omega) fun j hj => hne j (by omega)
        refine ⟨t, ht, ?_⟩
        rw [hv, if_neg, het]
        intro e3
        rw [e3, hes] at het
        exact hne i (by omega) het
    · by_cases e2 : j = i
      · subst e2
        have hrl : row (C ++ [sortL (ptF a X a.length (updN e s (a.length + j)))]) j = sortL (ptF a X a.length (updN e s (a.length + j))) := by
          have h := row_last (C := C) (x := sortL (ptF a X a.length (updN e s (a.length + j))))
          rw [h1] at h
          exact h
        rw [hrl]
        refine ⟨srt_conf (ptF_len _ _ _ _) hpt2, (sortL_perm _).mem_iff.2 ?_⟩
        have hm := nth_mem (xs := ptF a X a.length (updN e s (a.length + j))) (k := s) (by rw [ptF_len]; exact hsk)
        rw [ptF_at hsk, hv, if_pos rfl, nth_app_right] at hm
        exact hm
      · rw [row_app (by omega)]
        exact h4 j (by omega)
    · rw [scP_succ, ← h1, row_last]
      exact sortL_perm _
    · have g1 := scTo_congr (M := M) (a := a) (C := C ++ [sortL (ptF a X a.length (updN e s (a.length + i)))]) (D := C) (i := i) fun j hj => row_app (by omega)
      have g2 : scP a (C ++ [sortL (ptF a X a.length (updN e s (a.length + i)))]) i = scP a C i := by
        unfold scP
        by_cases e : i = 0
        · rw [if_pos e, if_pos e]
        · rw [if_neg e, if_neg e]; exact row_app (by omega)
      have g3 : row (C ++ [sortL (ptF a X a.length (updN e s (a.length + i)))]) i = sortL (ptF a X a.length (updN e s (a.length + i))) := by rw [← h1]; exact row_last
      have g4 : mvC M (scP a C i) (sortL (ptF a X a.length (updN e s (a.length + i)))) ≤ flC M a X i (f i) := by
        rw [mvC_permL hd h5.symm hpt ((hpt2).perm (sortL_perm _)) (by rw [sortL_len, ptF_len, ptF_len]) (by rw [ptF_len]; omega)]
        rw [mvC_permR hd (sortL_perm _).symm hpt hpt2 (by rw [ptF_len, ptF_len]) (by rw [ptF_len]; omega), ← e1]
        have h := mvC_set hd hpt hr (s := s) (by rw [ptF_len]; exact hsk) (by rw [ptF_len]; omega)
        rw [ptF_at hsk, hes] at h
        unfold flC
        rw [if_pos hal]
        exact h
      simp only [scTo, sgTo]
      rw [g1, g2, g3]
      omega
theorem chain_ge {M : List (List Int)} {a X : List Int} (hs : srvB M a X = true) {f : Nat → Nat} (hf : Mtc (Al a.length) X.length (a.length + X.length) f) : lwR M a X ≤ mcost (flC M a X) f X.length := by
  obtain ⟨e, C, h1, _, _, h4, _, h6⟩ := chain_sched hs hf X.length (Nat.le_refl _)
  obtain ⟨hd, hk, ha, hX, hl⟩ := srv_all hs
  have hB : smB M a X C = true := smB_iff.2 ⟨hs, h1, fun i hi => by
    obtain ⟨g1, g2⟩ := h4 i (by omega)
    obtain ⟨g3, g4, g5⟩ := confs_iff.1 g1
    refine smOk_iff.2 ⟨cfgB_iff.2 ⟨by rw [g3]; exact hk, (conf_pts g1).2, g4⟩, g3, hasB_true.2 g2⟩⟩
  have h := least_le hB
  rw [smR, if_pos hB] at h
  exact Int.le_trans h h6
/-- a schedule gives a chain list that costs no more -/
theorem sched_chain {M : List (List Int)} {a X : List Int} {C : List (List Int)} (hB : smB M a X C = true) :
    ∀ i, i ≤ X.length → ∃ (f e : Nat → Nat) (p : List Int), (∀ j, j < i → alB a.length j (f j) = true) ∧ (∀ j j', j < i → j' < i → f j = f j' → j = j') ∧ (∀ s, s < a.length → e s < a.length + i ∧ ∀ j, j < i → f j ≠ e s) ∧ (∀ s t, s < a.length → t < a.length → e s = e t → s = t) ∧
      p.Perm (scP a C i) ∧ sgTo (fun j => flC M a X j (f j)) i + costL M (ptF a X a.length e) p ≤ scTo M a C i := by
  obtain ⟨hs, hCl, hok⟩ := smB_iff.1 hB
  obtain ⟨hd, hk, ha, hX, hl⟩ := srv_all hs
  have hap := (conf_pts ha).2
  have hsc : ∀ i, i ≤ X.length → (scP a C i).length = a.length ∧ Pts M.length (scP a C i) := fun i hi => by
    unfold scP
    by_cases e : i = 0
    · rw [if_pos e]; exact ⟨rfl, hap⟩
    · rw [if_neg e]
      obtain ⟨g1, g2, _⟩ := smOk_iff.1 (hok (i - 1) (by omega))
      exact ⟨g2, (cfgB_iff.1 g1).2.1⟩
  intro i
  induction i with
  | zero =>
    intro _
    refine ⟨fun _ => 0, id, a, fun j h => by omega, fun j j' h => by omega, fun s h => ⟨by simpa using h, fun j h => by omega⟩, fun s t _ _ h => h, List.Perm.refl _, ?_⟩
    rw [ptF_id, costL_self (fun x hx => hd.self x hx) a hap]
    exact Int.le_refl _
  | succ i ih =>
    intro hi
    obtain ⟨f, e, p, h1, h2, h3, h4, h5, h6⟩ := ih (by omega)
    obtain ⟨q1, q2, q3⟩ := smOk_iff.1 (hok i (by omega))
    have hrow := (cfgB_iff.1 q1).2.1
    obtain ⟨s1, s2⟩ := hsc i (by omega)
    have hpp : Pts M.length p := s2.perm h5
    have hpl : p.length = a.length := by rw [h5.length_eq, s1]
    obtain ⟨⟨p', hp', hpc⟩, _⟩ := mvC_min hd hpp hrow (by rw [hpl, q2]) (by rw [hpl]; omega)
    have hp'p : Pts M.length p' := hrow.perm hp'
    have hp'l : p'.length = a.length := by rw [hp'.length_eq, q2]
    have hpt := ptF_pts hap hX (i := i) (by omega) fun s hs => (h3 s hs).1
    have hr := hX i (by omega)
    have htri := costL_tri hd.tri (ptF a X a.length e) p p' (by rw [ptF_len, hpl]) (by rw [hpl, hp'l]) hpt hpp hp'p
    have hmv : mvC M p (row C i) = mvC M (scP a C i) (row C i) := mvC_permL hd h5.symm s2 hrow (by rw [s1, q2]) (by rw [s1]; omega)
    have hmem : nth X i ∈ p' := hp'.mem_iff.2 (hasB_true.1 q3)
    obtain ⟨s, hsl, hse⟩ := List.getElem_of_mem hmem
    have hsk : s < a.length := by omega
    have hse' : nth p' s = nth X i := by simp [nth, hsl, hse]
    have hset := costL_set hd hpt hp'p (by rw [ptF_len, hp'l]) (s := s) (r := nth X i) (by rw [ptF_len]; exact hsk) hse'
    have e1 := ptF_set (a := a) (X := X) (k := a.length) (e := e) (s := s) (l := a.length + i)
    rw [nth_app_right] at e1
    rw [e1, ptF_at hsk] at hset
    have hes := h3 s hsk
    have hfl : flC M a X i (e s) = cell M (nth (a ++ X) (e s)).toNat (nth X i).toNat := by unfold flC; rw [if_pos hes.1]
    have hv : ∀ t, updN f i (e s) t = if t = i then e s else f t := fun _ => rfl
    have hv2 : ∀ t, updN e s (a.length + i) t = if t = s then a.length + i else e t := fun _ => rfl
    refine ⟨updN f i (e s), updN e s (a.length + i), p', fun j hj => ?_, fun j j' hj hj' he => ?_, fun t ht => ?_, fun t u ht hu he => ?_, ?_, ?_⟩
    · rw [hv]
      by_cases e2 : j = i
      · rw [if_pos e2, e2]; exact alB_iff.2 hes.1
      · rw [if_neg e2]; exact h1 j (by omega)
    · rw [hv, hv] at he
      by_cases e2 : j = i
      · rw [if_pos e2] at he
        by_cases e3 : j' = i
        · rw [e2, e3]
        · rw [if_neg e3] at he
          exact absurd he.symm (hes.2 j' (by omega))
      · rw [if_neg e2] at he
        by_cases e3 : j' = i
        · rw [if_pos e3] at he
          exact absurd he (hes.2 j (by omega))
        · rw [if_neg e3] at he
          exact h2 j j' (by omega) (by omega) he
    · rw [hv2]
      by_cases e2 : t = s
      · rw [if_pos e2]
        refine ⟨by omega, fun j hj => ?_⟩
        rw [hv]
        by_cases e3 : j = i
        · rw [if_pos e3]; omega
        · rw [if_neg e3]
          have := alB_iff.1 (h1 j (by omega))
          omega
      · rw [if_neg e2]
        have ht2 := h3 t ht
        refine ⟨by omega, fun j hj => ?_⟩
        rw [hv]
        by_cases e3 : j = i
        · rw [if_pos e3]
          exact fun h => e2 (h4 s t hsk ht h).symm
        · rw [if_neg e3]; exact ht2.2 j (by omega)
    · rw [hv2, hv2] at he
      by_cases e2 : t = s
      · rw [if_pos e2] at he
        by_cases e3 : u = s
        · rw [e2, e3]
        · rw [if_neg e3] at he
          have := (h3 u hu).1
          omega
      · rw [if_neg e2] at he
        by_cases e3 : u = s
        · rw [if_pos e3] at he
          have := (h3 t ht).1
          omega
        · rw [if_neg e3] at he
          exact h4 t u ht hu he
    · rw [scP_succ]; exact hp'
    · have g1 : sgTo (fun j => flC M a X j (updN f i (e s) j)) (i + 1) = sgTo (fun j => flC M a X j (f j)) i + flC M a X i (e s) := by
        have g2 : sgTo (fun j => flC M a X j (updN f i (e s) j)) i = sgTo (fun j => flC M a X j (f j)) i := sgTo_congr fun j hj => by rw [hv, if_neg (by omega)]
        rw [sgTo, g2, hv, if_pos rfl]
      rw [g1, scTo, hfl]
      rw [hmv] at hpc
      omega
theorem chain_le {M : List (List Int)} {a X : List Int} (hs : srvB M a X = true) : ∃ f, Mtc (Al a.length) X.length (a.length + X.length) f ∧ mcost (flC M a X) f X.length ≤ lwR M a X := by
  obtain ⟨hB, _⟩ := ls_sched hs
  have h0 := ls_least hs
  obtain ⟨hd, hk, ha, hX, hl⟩ := srv_all hs
  obtain ⟨f, e, p, h1, h2, h3, h4, h5, h6⟩ := sched_chain hB X.length (Nat.le_refl _)
  rw [smR, if_pos hB] at h0
  refine ⟨f, ⟨fun i hi => ⟨by have := alB_iff.1 (h1 i hi); omega, h1 i hi⟩, h2⟩, ?_⟩
  have hpt := ptF_pts (conf_pts ha).2 hX (i := X.length) (Nat.le_refl _) fun s hs => (h3 s hs).1
  have hpp : Pts M.length p := by
    refine Pts.perm ?_ h5
    unfold scP
    by_cases e : X.length = 0
    · rw [if_pos e]; exact (conf_pts ha).2
    · rw [if_neg e]
      obtain ⟨_, g, hok⟩ := smB_iff.1 hB
      exact (cfgB_iff.1 (smOk_iff.1 (hok (X.length - 1) (by omega))).1).2.1
  have hn := costL_nonneg (fun x y hx hy => (hd.pos x y hx hy).1) (ptF a X a.length e) p hpt hpp
  unfold mcost
  omega
/-- the least cost of the chain lists is that of the schedules -/
theorem chain_least {M : List (List Int)} {a X : List Int} (hs : srvB M a X = true) {f : Nat → Nat} {p q : Nat → Int} (hf : Mtc (Al a.length) X.length (a.length + X.length) f) (hc : Cert (Al a.length) (flC M a X) X.length (a.length + X.length) f p q) :
    mcost (flC M a X) f X.length = lwR M a X := by
  have h1 := chain_ge hs hf
  obtain ⟨g, hg, h2⟩ := chain_le hs
  have h3 := hc.opt hf hg
  omega
end Go.Proofs.YtllfchcocgdcjaaGreat

/- Several texts in one: Smv Val Lw. -/
/- The cost of a schedule's moves, both sides. -/
namespace Go.Proofs.YtllfchcocgdcjaaGreat
open Go.RowKit

theorem sm_srv {M : List (List Int)} {a X : List Int} {C : List (List Int)} (h : srvB M a X = false) : smB M a X C = false ∧ smR M a X C = 0 := by
  have : smB M a X C = false := by simp [smB, h]
  exact ⟨this, by simp [smR, this]⟩
theorem sm_len {M : List (List Int)} {a X : List Int} {C : List (List Int)} (h : C.length ≠ X.length) : smB M a X C = false ∧ smR M a X C = 0 := by
  have : smB M a X C = false := by simp [smB, h]
  exact ⟨this, by simp [smR, this]⟩
theorem sm_bad {M : List (List Int)} {a X : List Int} {C : List (List Int)} {t : Nat} (ht : t < C.length) (h : smOk M a X C t = false) : smB M a X C = false ∧ smR M a X C = 0 := by
  have : smB M a X C = false := by
    cases hb : smB M a X C with
    | false => rfl
    | true =>
      have := (smB_iff.1 hb).2.2 t ht
      rw [h] at this
      cases this
  exact ⟨this, by simp [smR, this]⟩
theorem sm_all {M : List (List Int)} {a X : List Int} {C : List (List Int)} (h : srvB M a X = true) (hl : C.length = X.length) (hok : ∀ z, z < C.length → smOk M a X C z = true) : smB M a X C = true ∧ smR M a X C = scTo M a C X.length := by
  have : smB M a X C = true := smB_iff.2 ⟨h, hl, hok⟩
  exact ⟨this, by simp [smR, this]⟩
/-- what the moves up to a place give -/
theorem sc_upto {M : List (List Int)} {a X : List Int} {C : List (List Int)} (h : srvB M a X = true) {t : Nat} (hok : ∀ z, z < t → smOk M a X C z = true) : scP a C t ∈ confs M.length a.length 0 ∧ 0 ≤ scTo M a C t ∧ scTo M a C t ≤ 297 * t := by
  obtain ⟨hd, hk, ha, _, _⟩ := srv_all h
  induction t with
  | zero => exact ⟨ha, by simp [scTo], by simp [scTo]⟩
  | succ t ih =>
    obtain ⟨h1, h2, h3⟩ := ih fun z hz => hok z (by omega)
    obtain ⟨h4, h5, _⟩ := smOk_iff.1 (hok t (by omega))
    have h6 : row C t ∈ confs M.length a.length 0 := by rw [← h5]; exact cfg_confs h4
    have := mv_confs hd hk.2 h1 h6
    rw [scP_succ, scTo]
    exact ⟨h6, by omega, by omega⟩

end Go.Proofs.YtllfchcocgdcjaaGreat

/- The work lists after the first requests, the reference's; the least costs of both sides. -/
namespace Go.Proofs.YtllfchcocgdcjaaGreat
open Go.RowKit

theorem wl_i64 {M : List (List Int)} {a X : List Int} (h : srvB M a X = true) : ∀ i, i ≤ X.length → ∀ x ∈ wlAt M (confs M.length a.length 0) a X i, I64 x := by
  obtain ⟨hd, hk, ha, hX, hl⟩ := srv_all h
  intro i hi x hx
  have hw := wl_good hd hk.1 hk.2 ha hX (by omega) i hi
  obtain ⟨j, hj, rfl⟩ := mem_iff_nth.1 hx
  have := hw.2 j (by rw [← hw.1.1]; exact hj)
  unfold I64
  omega
theorem wl_len {M : List (List Int)} {a X : List Int} (h : srvB M a X = true) {i : Nat} (hi : i ≤ X.length) : (wlAt M (confs M.length a.length 0) a X i).length = (confs M.length a.length 0).length := by
  obtain ⟨hd, hk, ha, hX, hl⟩ := srv_all h
  exact (wl_good hd hk.1 hk.2 ha hX (by omega) i hi).1.1
theorem wlL_ok {M : List (List Int)} {a X : List Int} (h : srvB M a X = true) {q : Nat} (hq : q ≤ X.length) : ShortRows (wlL M (confs M.length a.length 0) a X q).length ∧ (∀ r ∈ wlL M (confs M.length a.length 0) a X q, Short r.length) ∧ ∀ r ∈ wlL M (confs M.length a.length 0) a X q, ∀ x ∈ r, I64 x := by
  obtain ⟨hd, hk, ha, hX, hl⟩ := srv_all h
  have h216 := confs_216 (met_len (srvB_iff.1 h).1).2 hk.2
  refine ⟨by unfold ShortRows; rw [wlL_len]; omega, fun r hr => ?_, fun r hr => ?_⟩
  · obtain ⟨j, hj, rfl⟩ := List.mem_map.1 hr
    have := List.mem_range.1 hj
    rw [wl_len h (by omega)]
    unfold Short
    omega
  · obtain ⟨j, hj, rfl⟩ := List.mem_map.1 hr
    have := List.mem_range.1 hj
    exact wl_i64 h j (by omega)

end Go.Proofs.YtllfchcocgdcjaaGreat

/- The least costs and the work lists of servers, both sides. -/
namespace Go.Proofs.YtllfchcocgdcjaaGreat
open Go.RowKit

def wlR (M : List (List Int)) (a X : List Int) : List (List Int) := if srvB M a X then wlL M (confs M.length a.length 0) a X X.length else []
theorem wlR_yes {M : List (List Int)} {a X : List Int} (h : srvB M a X = true) : wlR M a X = wlL M (confs M.length a.length 0) a X X.length := by rw [wlR, if_pos h]
theorem wlR_no {M : List (List Int)} {a X : List Int} (h : srvB M a X = false) : wlR M a X = [] ∧ lwR M a X = 0 := by simp [wlR, lwR, h]
theorem rows_none (u : World) (d : Option Addr) (c : Nat) : IsRows u (.slice d 0 c) [] := ⟨d, c, rfl, by unfold ShortRows; simp, fun j hj => by simp at hj⟩

set_option maxHeartbeats 1600000 in
set_option maxRecDepth 100000 in
theorem leastWork_any {v va vX : Value} {M : List (List Int)} {a X : List Int} {w0 w : World} [Ext w0 w] (hm : IsMet w0 v M) (ha : IsInts w0 va a) (hXi : IsInts w0 vX X) (hS : srvB M a X = true) :
    Calls Tryz.prog 33 #[v, va, vX] w fun e w' => e = .returned (.int .i64 (lwR M a X)) ∧ Ext w w' := by
  have hm' := hm
  have ha' := ha
  have hX' := hXi
  obtain ⟨v1, rfl, hR⟩ := hm
  obtain ⟨a1, c1, rfl, l1⟩ := hR.form
  obtain ⟨da, ma, rfl, la⟩ := ha.form
  obtain ⟨aX, mX, rfl, lX⟩ := hXi.form
  have x0 : (w.alloc (.cells #[.slice a1 M.length c1] 26)).cell? ⟨w.heap.size, 0, none⟩ = some (.slice a1 M.length c1) := by go_simp
  obtain ⟨hM, hk, hac, hl, hX⟩ := srv_parts hS
  have hlok := hid (wlL_ok hS (Nat.le_refl X.length))
  have hne := hid (wl_ne hS (Nat.le_refl X.length))
  have hM' := hid hM
  have hac' := hid hac
  have hX2 := hid hX
  have hSS := hid hS
  clear hac hX hM
  replace hS := hid hS
  have hlw := hid (show lwR M a X = leastL (wlAt M (confs M.length a.length 0) a X X.length) by rw [lwR, if_pos hS.out])
  go_enter Tryz.func33, Tryz.ntmps33
  go_wp2_with fail
  with_reducible refine (worksOf_any (w0 := w0) hm' hM'.out hk.1 hk.2).mono ?_
  rintro e w2 ⟨u, rfl, hW, e2⟩
  have e2w : Ext w w2 := Ext.trans inferInstance e2
  have e02 : Ext w0 w2 := Ext.trans ‹Ext w0 w› e2w
  go_wp2_with fail
  with_reducible refine (lists_any (w0 := w2) (w := w2) hW hM'.out (ha'.ext (w' := w2)) (hX'.ext (w' := w2)) hk.1 hk.2 hac'.out (by omega) hX2.out).mono ?_
  rintro e w3 ⟨vT, rfl, tabT, e3⟩
  have hT : IsRows w3 vT (wlL M (confs M.length a.length 0) a X X.length) := tabT.reads hlok.out.1 hlok.out.2.1 hlok.out.2.2
  obtain ⟨dT, mT, rfl, lT⟩ := hT.form
  obtain ⟨bO, oO, dW, mW, rfl, hcW, hWI, _⟩ := hT.at (w' := w3) (k := X.length) (by rw [wlL_len]; omega)
  have hrq := hid (show row (wlL M (confs M.length a.length 0) a X X.length) X.length = wlAt M (confs M.length a.length 0) a X X.length from wlL_row (Nat.le_refl _))
  rw [hrq.out] at hcW hWI
  have hTl : (wlL M (confs M.length a.length 0) a X X.length).length = X.length + 1 := wlL_len
  have hW0 : 0 < (wlAt M (confs M.length a.length 0) a X X.length).length := List.length_pos_iff.2 hne.out
  generalize wlAt M (confs M.length a.length 0) a X X.length = W at *
  generalize wlL M (confs M.length a.length 0) a X X.length = T at *
  clear tabT
  go_wp2_with fail
  with_reducible refine (sMin_any (w0 := w3) (w := w3) hWI hW0).mono ?_
  rintro e w4 ⟨rfl, rfl⟩
  go_wp2_with fail
  go_ret
  exact ⟨ret_int hlw.out.symm, Ext.trans e2w e3⟩

set_option maxHeartbeats 1600000 in
set_option maxRecDepth 100000 in
theorem implLeast_any {v va vX : Value} {M : List (List Int)} {a X : List Int} {w0 w : World} [Ext w0 w] (hm : IsMet w0 v M) (ha : IsInts w0 va a) (hXi : IsInts w0 vX X) :
    Calls Tryz.prog 13 #[v, va, vX] w fun e w' => e = .returned (.tuple #[.int .i64 (lwR M a X), .bool (srvB M a X)]) ∧ Ext w w' := by
  have hm' := hm
  have ha' := ha
  have hX' := hXi
  obtain ⟨v1, rfl, hR⟩ := hm
  obtain ⟨a1, c1, rfl, l1⟩ := hR.form
  obtain ⟨da, ma, rfl, la⟩ := ha.form
  obtain ⟨aX, mX, rfl, lX⟩ := hXi.form
  have x0 : (w.alloc (.cells #[.slice a1 M.length c1] 26)).cell? ⟨w.heap.size, 0, none⟩ = some (.slice a1 M.length c1) := by go_simp
  cases hS : srvB M a X with
  | false =>
    have hr := hid (wlR_no hS)
    replace hS := hid hS
    go_enter Tryz.func13, Tryz.ntmps13
    go_wp2_with fail
    with_reducible refine (isServed_any (w0 := w0) hm' ha' hX').mono ?_
    rw [hS.out]
    rintro e w1 ⟨rfl, e1⟩
    have x1 := e1.cell x0
    have e1w : Ext w w1 := Ext.trans inferInstance e1
    have e01 : Ext w0 w1 := Ext.trans ‹Ext w0 w› e1w
    go_wp2_with fail
    go_ret2
    rw [hr.out.2]
    exact ⟨rfl, Ext.trans e1w inferInstance⟩
  | true =>
    have hSS := hS
    have hyes := hid (wlR_yes hS)
    obtain ⟨hM, hk, hac, hl, hX⟩ := srv_parts hS
    have hlok := hid (wlL_ok hS (Nat.le_refl X.length))
    have hne := hid (wl_ne hS (Nat.le_refl X.length))
    have hM' := hid hM
    have hac' := hid hac
    have hX2 := hid hX
    clear hac hX hM
    replace hS := hid hS
    go_enter Tryz.func13, Tryz.ntmps13
    go_wp2_with fail
    with_reducible refine (isServed_any (w0 := w0) hm' ha' hX').mono ?_
    rw [hS.out]
    rintro e w1 ⟨rfl, e1⟩
    have x1 := e1.cell x0
    have e1w : Ext w w1 := Ext.trans inferInstance e1
    have e01 : Ext w0 w1 := Ext.trans ‹Ext w0 w› e1w
    go_wp2_with fail
    with_reducible refine (leastWork_any (w0 := w0) hm' ha' hX' hS.out).mono ?_
    rintro e w2 ⟨rfl, e2⟩
    go_wp2_with fail
    go_ret2
    exact ⟨rfl, Ext.trans e1w e2⟩

end Go.Proofs.YtllfchcocgdcjaaGreat


/- 'laws.FnFlows': for every code the law returns true. -/
namespace Go.Proofs.YtllfchcocgdcjaaGreat
open Go.RowKit

/-- what the law asks -/
theorem fw_law {M : List (List Int)} {a X L : List Int} {F : Int} (hs : srvB M a X = true) (hF : FcOk M a X F) (hL : ChsOk M a X L) :
    F = lwR M a X ∧ (∀ b, ccOk M a X b = true → lwR M a X ≤ ccR M a X b) ∧ (chB M a X = true → ccOk M a X L = true ∧ ccR M a X L = F) := by
  unfold FcOk at hF
  rw [if_pos hs] at hF
  obtain ⟨f, f1, rfl, f3⟩ := hF
  obtain ⟨g, g1, g2⟩ := chain_le hs
  have h1 := chain_ge hs f1
  have h2 := f3 g g1
  have hlw : mcost (flC M a X) f X.length = lwR M a X := by omega
  refine ⟨hlw, fun b hb => ?_, fun hc => ?_⟩
  · have hb2 : chnB a.length X b = true := by
      rw [ccOk, Bool.and_eq_true] at hb
      exact hb.2
    rw [ccR, if_pos hb]
    exact chain_ge hs (chn_mtc hb2)
  · unfold ChsOk at hL
    rw [if_pos hc] at hL
    obtain ⟨h, h3, h4, h5⟩ := hL.bst
    have hLl := hL.len
    have e : L = lsN X.length h := by
      apply List.ext_getElem
      · rw [hLl, lsN_len]
      · intro i hi hi2
        have := h5 i hi
        simp [nth, hi] at this
        simp [lsN, this]
    have hok : ccOk M a X L = true := by
      rw [ccOk, hs, e, lsN_chn rfl h3]
      rfl
    refine ⟨hok, ?_⟩
    rw [ccR, if_pos hok, e, ccTo_lsN]
    have := h4 f f1
    have := f3 h h3
    omega
set_option maxHeartbeats 6400000 in
set_option maxRecDepth 100000 in
theorem lawFnFlows_any {v : Value} {nb : Nat} {w : World} (hc : IsBytes w v nb) :
    Calls Tryz.prog 3 #[v] w fun e w' => e = .returned (.bool true) ∧ Ext w w' := by
  have hc' := hc
  obtain ⟨ac, cc, rfl⟩ := hc.form
  by_cases hbig : 65536 < nb
  · have hd := hid (decide_eq_true hbig)
    go_enter Tryz.func3, Tryz.ntmps3
    go_wp2_with fail
    refine (vBig_l hc').mono ?_
    rw [hd.out]
    rintro e w1 ⟨rfl, rfl⟩
    go_wp2_with fail
    go_ret
    exact ⟨rfl, Ext.refl _⟩
  · have hd := hid (decide_eq_false hbig)
    go_enter Tryz.func3, Tryz.ntmps3
    go_wp2_with fail
    refine (vBig_l hc').mono ?_
    rw [hd.out]
    rintro e w1 ⟨rfl, rfl⟩
    go_wp2_with fail
    refine (drawCC_any (w0 := w) (w := w) hc').mono ?_
    rintro e w1 ⟨fM, cM, av, xv, pv, M, a, X, P, Z, rfl, hMok, hal, hXl, hPl, ownZ, hZ, e1⟩
    obtain ⟨hm, ha, hX, hP⟩ := hZ.out _ _ ownZ
    obtain ⟨da, ma, rfl, la⟩ := ha.form
    obtain ⟨dx, mx, rfl, lx⟩ := hX.form
    obtain ⟨dp, mp, rfl, lp⟩ := hP.form
    clear hZ ownZ
    go_upto_region 4 with fail
    have g2 : Ext w1 (w1.alloc (.cells #[.slice fM M.length cM] 26)) := inferInstance
    have x0_2 : (w1.alloc (.cells #[.slice fM M.length cM] 26)).cell? ⟨w1.heap.size, 0, none⟩ = some (.slice fM M.length cM) := by go_simp
    obtain ⟨p, hp⟩ : ∃ r, r = w1.heap.size := ⟨_, rfl⟩
    rw [← hp] at x0_2 ⊢
    replace hp := hid hp
    generalize w1.alloc (.cells #[.slice fM M.length cM] 26) = w2 at *
    obtain ⟨K, hK⟩ : ∃ q, q = lwR M a X := ⟨_, rfl⟩
    obtain ⟨Q, hQ⟩ : ∃ q, q = srvB M a X := ⟨_, rfl⟩
    obtain ⟨T, hT⟩ : ∃ q, q = ccR M a X P := ⟨_, rfl⟩
    obtain ⟨U, hU⟩ : ∃ q, q = ccOk M a X P := ⟨_, rfl⟩
    obtain ⟨H, hH⟩ : ∃ q, q = chB M a X := ⟨_, rfl⟩
    replace hK := hid hK
    replace hQ := hid hQ
    replace hT := hid hT
    replace hU := hid hU
    replace hH := hid hH
    go_wp2_with fail
    with_reducible refine (implCC_any (w0 := w1) (w := w2) hm ha hX hP).mono ?_
    rw [← hT.out, ← hU.out]
    rintro e w3 ⟨rfl, e3⟩
    have x0_3 := e3.cell x0_2
    have g3 : Ext w1 w3 := Ext.trans g2 e3
    clear x0_2
    go_wp2_with fail
    with_reducible refine (specCC_any (w0 := w1) (w := w3) hm ha hX hP).mono ?_
    rw [← hT.out, ← hU.out]
    rintro e w4 ⟨rfl, e4⟩
    have x0_4 := e4.cell x0_3
    have g4 : Ext w1 w4 := Ext.trans g3 e4
    clear x0_3
    go_wp2_with fail
    with_reducible refine (implFc_any (w0 := w1) (w := w4) hm ha hX).mono ?_
    rintro e w5 ⟨F, he5, hok5, e5⟩
    rw [← hQ.out] at he5
    subst he5
    have x0_5 := e5.cell x0_4
    have g5 : Ext w1 w5 := Ext.trans g4 e5
    clear x0_4
    replace hok5 := hid hok5
    go_wp2_with fail
    with_reducible refine (specFc_any (w0 := w1) (w := w5) hm ha hX).mono ?_
    rintro e w6 ⟨F6, he6, hok6, e6⟩
    rw [← hQ.out] at he6
    subst he6
    obtain rfl : F = F6 := hok5.out.uniq hok6
    have x0_6 := e6.cell x0_5
    have g6 : Ext w1 w6 := Ext.trans g5 e6
    clear x0_5 hok6
    go_wp2_with fail
    with_reducible refine (implCs_any (w0 := w1) (w := w6) hm ha hX).mono ?_
    rintro e w7 ⟨u7, L, he7, hL7, hok7, e7⟩
    rw [← hH.out] at he7
    subst he7
    have x0_7 := e7.cell x0_6
    have g7 : Ext w1 w7 := Ext.trans g6 e7
    obtain ⟨d7, m7, rfl, l7⟩ := hL7.form
    clear x0_6
    replace hok7 := hid hok7
    go_wp2_with fail
    with_reducible refine (specCs_any (w0 := w1) (w := w7) hm ha hX).mono ?_
    rintro e w8 ⟨d8, c8, L8, he8, hL8, hok8, e8⟩
    rw [← hH.out] at he8
    subst he8
    have x0_8 := e8.cell x0_7
    have g8 : Ext w1 w8 := Ext.trans g7 e8
    have hLL : L = L8 := hok7.out.uniq hok8
    have hL78 := hL7.ext (w' := w8)
    have hdc := hid (show decide (L = L8) = true from decide_eq_true hLL)
    replace hLL := hid hLL
    clear x0_7 hok8
    have hQQ : (Q != Q) = false := by simp
    have hUU : (U != U) = false := by simp
    have hHH : (H != H) = false := by simp
    have hTT : (T != T) = false := by simp
    have hFF : (F != F) = false := by simp
    go_wp2_with fail
    with_reducible refine (vInts_any (w0 := w8) (w := w8) hL78 hL8).mono ?_
    rw [hdc.out]
    rintro e w9 ⟨rfl, e9⟩
    have x0_9 := e9.cell x0_8
    have g9 : Ext w1 w9 := Ext.trans g8 e9
    have hL9 := hL78.ext (w' := w9)
    clear x0_8 hL7 hL78 hL8 hQQ hUU hTT hHH hFF
    cases Q with
    | false =>
      go_wp2_with fail
      go_ret
      exact ⟨rfl, Ext.trans e1 g9⟩
    | true =>
      obtain ⟨q1, q2, q3⟩ := fw_law hQ.out.symm hok5.out hok7.out
      rw [← hK.out] at q1 q2
      subst q1
      have hq2 := hid q2
      have hq3 := hid q3
      clear q2 q3
      have hm9 := hm.ext (w' := w9)
      have ha9 := ha.ext (w' := w9)
      have hX9 := hX.ext (w' := w9)
      have hFF : (F != F) = false := by simp
      go_wp2_with fail
      with_reducible refine (implLeast_any (w0 := w9) (w := w9) hm9 ha9 hX9).mono ?_
      rw [← hK.out, ← hQ.out]
      rintro e w10 ⟨rfl, e10⟩
      have x0_10 := e10.cell x0_9
      have g10 : Ext w w10 := Ext.trans (Ext.trans e1 g9) e10
      clear x0_9
      have hcmp := hid (show U = true → F ≤ T from fun h => by rw [hT.out]; exact hq2.out P (by rw [← hU.out]; exact h))
      obtain ⟨T2, hT2⟩ : ∃ q, q = ccR M a X L := ⟨_, rfl⟩
      obtain ⟨U2, hU2⟩ : ∃ q, q = ccOk M a X L := ⟨_, rfl⟩
      have hlast := hid (show H = true → U2 = true ∧ T2 = F from fun h => by rw [hU2, hT2]; exact hq3.out (by rw [← hH.out]; exact h))
      replace hT2 := hid hT2
      replace hU2 := hid hU2
      cases U with
      | false =>
        go_wp2_with fail
        with_reducible refine (implCC_any (w0 := w9) (w := w10) hm9 ha9 hX9 hL9).mono ?_
        rw [← hT2.out, ← hU2.out]
        rintro e w11 ⟨rfl, e11⟩
        have eF : Ext w w11 := Ext.trans g10 e11
        clear hFF
        cases H with
        | false =>
          go_wp2_with fail
          go_ret
          exact ⟨rfl, eF⟩
        | true =>
          obtain ⟨rfl, rfl⟩ := hlast.out rfl
          have hFb : (T2 == T2) = true := by simp
          go_wp2_with fail
          go_ret
          exact ⟨rfl, eF⟩
      | true =>
        have hle := hcmp.out rfl
        have hlt : ¬ T < F := by omega
        go_wp2_with fail
        with_reducible refine (implCC_any (w0 := w9) (w := w10) hm9 ha9 hX9 hL9).mono ?_
        rw [← hT2.out, ← hU2.out]
        rintro e w11 ⟨rfl, e11⟩
        have eF : Ext w w11 := Ext.trans g10 e11
        clear hFF
        cases H with
        | false =>
          go_wp2_with fail
          go_ret
          exact ⟨rfl, eF⟩
        | true =>
          obtain ⟨rfl, rfl⟩ := hlast.out rfl
          have hFb : (T2 == T2) = true := by simp
          go_wp2_with fail
          go_ret
          exact ⟨rfl, eF⟩
end Go.Proofs.YtllfchcocgdcjaaGreat

/- Several texts in one (merge.py). -/
namespace Go.Proofs.YtllfchcocgdcjaaGreat
open Go.RowKit
/- An argument that came in, read as bytes. -/
open Go.ChangeShapes Go.WideShapes Go.ChangeAt Go.RowKit Go.Deep Go.Joins

theorem Tryz.cellsByte : Tryz.prog.cellsOf 5 = 1 := by kernel_rfl
theorem isBytes_of_trod {H : Type} {enc : TypeId × Value → H} {w : World} {fuel : Nat} {v : Value} {x : DataW H × List MemPlace} (h : DataW.trod enc Tryz.prog w 0 (fun _ => true) true fuel 22 [v] = some x) : ∃ n, IsBytes w v n := by
  rcases open_ints Tryz.underlying22 Tryz.underlying5 Tryz.cellsByte h with ⟨hcs, _⟩ | ⟨a, l, c, zs, hcs, _, hl, hm, hz, hx, hcell, hwz⟩
  · simp only [List.cons.injEq, and_true] at hcs
    subst hcs
    exact ⟨0, none, 0, rfl, fun j hj => by omega⟩
  · simp only [List.cons.injEq, and_true] at hcs
    subst hcs
    have hz' : zs.length = c := by simpa using hz
    refine ⟨l, some a, c, rfl, fun j hj => ?_⟩
    have hc := hcell j (by omega)
    obtain ⟨b, o, rfl⟩ := spot_of_cell (hcell 0 (by omega))
    rw [addr_add_nil] at hc
    have hmem : zs.getD j 0 ∈ zs := by
      rw [List.getD_eq_getElem?_getD, List.getElem?_eq_getElem (by omega)]
      exact List.getElem_mem _
    have hwf := hwz _ hmem
    refine ⟨b, o, zs.getD j 0, rfl, hc, ?_⟩
    simp [Lit.wf] at hwf
    have h1 : IntKind.u8.min = 0 := by decide
    have h2 : IntKind.u8.max = 255 := by decide
    rw [h1, h2] at hwf
    rw [List.getD_eq_getElem?_getD]
    omega

/- The given statement of 'laws.FnFlows', proved: for every input the law returns true, and each argument reads behind the call as it read before. -/
open Go.ChangeShapes Go.WideShapes Go.ChangeAt Go.RowKit

theorem closedFnFlows : lawFacts Tryz.prog 3 Tryz.f3 Rows.fnFlowsSpec Rows.fnFlowsRow = true := by kernel_rfl

set_option maxRecDepth 100000 in
theorem liftedFnFlows (os : Os) (started : os.Started) (H : Type) (enc : TypeId × Value → H) :
    ReturnsInHanded {} Tryz.checked os 3 .any (Rows.fnFlowsSpec.pre6 enc Tryz.prog Tryz.f3 Rows.fnFlowsRow.domain false) (Rows.fnFlowsSpec.post enc Tryz.prog Tryz.f3 false true false false) := by
  refine returnsInHanded_of_change_sized (C := Tryz.checked) factOwn started (by kernel_rfl) Tryz.func3
    (ChangeSpec.witness6 (enc := enc) (C := Tryz.checked) false ⟨#[], #[.slice none 0 0], []⟩ 8 (by kernel_rfl) (by kernel_rfl) (by kernel_rfl) (by kernel_rfl)) ?_
  intro W base args ds gs before hval0 hW hcnd hsz0 _
  have hval : ∀ (j : Nat) t v, Tryz.f3.params[j]? = some t → args[j]? = some v → Value.okWide Tryz.prog W .any base t v := hval0
  have hsz : (DataW.weightsEach Tryz.prog (Tryz.f3.params.toList ++ Rows.fnFlowsSpec.plain.varTypes Tryz.prog) (ds ++ gs)).all (· ≤ reachBytes) = true := hsz0
  have hW' := hW
  obtain ⟨p, q, hA0, hV, rfl, hfz, hnd⟩ := hW
  have hA : DataW.TrodAll enc Tryz.prog W 0 (fun _ => true) true Tryz.f3.params.toList args.toList ds p := hA0
  rw [Tryz.params3] at hA hval hsz
  obtain ⟨v0, vs0, d0, ds0, p0, q0, hargs, rfl, rfl, h0, r0⟩ := trodAll_cons hA
  obtain ⟨rfl, rfl, rfl⟩ := trodAll_nil r0
  obtain rfl : args = #[v0] := by cases args; simp_all
  obtain ⟨rfl, rfl⟩ := trodVars_none hV
  have k0 := h0
  have lt0 : ∀ x ∈ p0, x.block < W.heap.size := by obtain ⟨m, hm⟩ := k0; exact DataW.trod_lt m _ _ _ hm
  have hw0 := weights_of hsz (j := 0) (t := 22) (d := d0) rfl rfl
  obtain ⟨a, l, c, rfl⟩ := okWide_slice Tryz.underlying22 (hval 0 22 v0 rfl rfl)
  obtain ⟨x0, a0⟩ : ∃ x, IsBytes W (.slice a l c) x := by
    obtain ⟨fuel, hf⟩ := h0
    exact isBytes_of_trod hf
  clear hA0 hval0 hsz0
  refine (lawFnFlows_any a0).mono fun e W' ⟨he, hext⟩ => ?_
  subst he
  have bel := hext.below
  exact ⟨_, rfl, _, _, _, [], _, [], hW', trodAll_mk1 (shut_bool Tryz.underlying4 _), (trodAll_cons_mk (Below.trod factLaid (by kernel_rfl) (of_decide_eq_true (by kernel_rfl)) k0 bel lt0) trodAll_mk0), rfl, bel.frame _, fun h => by cases h⟩

theorem holdsFnFlows : Rows.FnFlowsSaid :=
  OpenClaim.holds_of_wide 3 Tryz.f3 rfl rfl rfl rfl rfl rfl rfl ⟨rfl, rfl, rfl, rfl, rfl⟩ rfl rfl rfl rfl rfl (by kernel_rfl) Tryz.func3 (joined_here closedFnFlows)
    (of_decide_eq_true (by kernel_rfl)) (by unfold Func.isWrapper; first | (rw [if_pos (by decide +kernel)]; kernel_rfl) | (rw [if_neg (by decide +kernel)]; exact ⟨rfl, rfl⟩))
    (fun os started H enc _ => liftedFnFlows os started H enc)

#print axioms holdsFnFlows

end Go.Proofs.YtllfchcocgdcjaaGreat

