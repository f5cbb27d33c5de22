/- Closed facts of the program that every row asks: each by itself. -/
import Derived.Test.YtcfhmbmagkoekaaRows
import Derived.JoinedOf
import Derived.KernelRfl
namespace Go.Proofs.Ytcfhmbmagkoekaa

/-- the letters of the program's head -/
def headSigns : List Char := [Char.ofNat 104, Char.ofNat 97, Char.ofNat 114, Char.ofNat 110, Char.ofNat 101, Char.ofNat 115, Char.ofNat 115, Char.ofNat 32, Char.ofNat 53, Char.ofNat 98, Char.ofNat 52, Char.ofNat 51, Char.ofNat 53, Char.ofNat 55, Char.ofNat 55, Char.ofNat 102, Char.ofNat 56, Char.ofNat 50, Char.ofNat 49, Char.ofNat 97, Char.ofNat 48, Char.ofNat 52, Char.ofNat 48, Char.ofNat 101, Char.ofNat 50, Char.ofNat 101, Char.ofNat 52, Char.ofNat 57, Char.ofNat 99, Char.ofNat 56, Char.ofNat 101, Char.ofNat 98, Char.ofNat 50, Char.ofNat 51, Char.ofNat 51, Char.ofNat 56, Char.ofNat 49, Char.ofNat 55, Char.ofNat 49, Char.ofNat 50, Char.ofNat 99, Char.ofNat 48, Char.ofNat 100, Char.ofNat 50, Char.ofNat 55, Char.ofNat 49, Char.ofNat 57, Char.ofNat 52, Char.ofNat 51, Char.ofNat 100, Char.ofNat 101, Char.ofNat 97, Char.ofNat 98, Char.ofNat 49, Char.ofNat 55, Char.ofNat 57, Char.ofNat 56, Char.ofNat 101, Char.ofNat 53, Char.ofNat 98, Char.ofNat 98, Char.ofNat 50, Char.ofNat 101, Char.ofNat 51, Char.ofNat 100, Char.ofNat 98, Char.ofNat 49, Char.ofNat 102, Char.ofNat 101, Char.ofNat 99, Char.ofNat 52, Char.ofNat 54, Char.ofNat 32, Char.ofNat 99, Char.ofNat 117, Char.ofNat 116, Char.ofNat 32, Char.ofNat 97, Char.ofNat 116, Char.ofNat 32, Char.ofNat 108, Char.ofNat 111, Char.ofNat 111, Char.ofNat 112, Char.ofNat 46, Char.ofNat 101, Char.ofNat 120, Char.ofNat 97, Char.ofNat 109, Char.ofNat 112, Char.ofNat 108, Char.ofNat 101, Char.ofNat 47, Char.ofNat 103, Char.ofNat 48, Char.ofNat 49, Char.ofNat 48, Char.ofNat 56, Char.ofNat 55, Char.ofNat 47, Char.ofNat 108, Char.ofNat 97, Char.ofNat 119, Char.ofNat 115, Char.ofNat 46, Char.ofNat 70, Char.ofNat 110, Char.ofNat 84, Char.ofNat 114, Char.ofNat 101, Char.ofNat 101, Char.ofNat 115, Char.ofNat 32, Char.ofNat 108, Char.ofNat 111, Char.ofNat 111, Char.ofNat 112, Char.ofNat 46, Char.ofNat 101, Char.ofNat 120, Char.ofNat 97, Char.ofNat 109, Char.ofNat 112, Char.ofNat 108, Char.ofNat 101, Char.ofNat 47, Char.ofNat 103, Char.ofNat 48, Char.ofNat 49, Char.ofNat 48, Char.ofNat 56, Char.ofNat 55, Char.ofNat 47, Char.ofNat 108, Char.ofNat 97, Char.ofNat 119, Char.ofNat 115, Char.ofNat 46, Char.ofNat 70, Char.ofNat 110, Char.ofNat 80, Char.ofNat 114, Char.ofNat 105, Char.ofNat 99, Char.ofNat 101, Char.ofNat 115]

set_option maxRecDepth 100000 in
theorem factHead : Try.prog.initOrder = String.ofList headSigns := by kernel_rfl
theorem factSigns : Try.prog.initOrder.toList = headSigns := by rw [factHead, String.toList_ofList]
theorem factLaid : laidOutB Try.prog = true := by kernel_rfl
theorem factMaps : mapsRowed Try.prog = true := by kernel_rfl
theorem factStops : (Try.prog.stops == []) = true := by kernel_rfl
theorem factKnobs : (Try.prog.stopKnobs == []) = true := by kernel_rfl
theorem factKeys : Try.prog.plainKeys = true := by kernel_rfl
theorem factOwn : ownKnob Try.prog.godebug = none := by kernel_rfl
theorem headFirst : (behindMainWord (wordsSigns headSigns)).head? = some "cut".toList := by kernel_rfl
theorem factHeard : Try.prog.stopsHeard = true := by kernel_rfl
theorem factLater : Try.prog.laysLater = false := by kernel_rfl
theorem factReflect : Try.prog.bearsReflect = false := by kernel_rfl
theorem factDoor : Try.prog.doorFits [] = true := by kernel_rfl

theorem factStrip (rest : List (List Char)) : stripLifts liftWords ("cut".toList :: rest) = ([], "cut".toList :: rest) := by rfl
theorem make_of {P : Program} {L : List Char} (h : P.initOrder.toList = L) (h0 : (behindMainWord (wordsSigns L)).head? = some "cut".toList) : P.make = some .cut := by
  unfold Program.make
  rw [h]
  generalize behindMainWord (wordsSigns L) = l at h0
  cases l with
  | nil => cases h0
  | cons c rest =>
    have hc : c = "cut".toList := Option.some.inj h0
    subst hc
    rfl
theorem lifts_of {P : Program} {L : List Char} (h : P.initOrder.toList = L) (h0 : (behindMainWord (wordsSigns L)).head? = some "cut".toList) : P.liftsFinal = false := by
  unfold Program.liftsFinal Program.headLifts
  rw [h]
  generalize behindMainWord (wordsSigns L) = l at h0
  cases l with
  | nil => cases h0
  | cons c rest =>
    have hc : c = "cut".toList := Option.some.inj h0
    subst hc
    simp only [factStrip]
    rfl
theorem enter_of {P : Program} {L : List Char} (h : P.initOrder.toList = L) (h0 : (behindMainWord (wordsSigns L)).head? = some "cut".toList) (h1 : P.laysLater = false) (h2 : P.bearsReflect = false) (h3 : P.doorFits [] = true) : P.mayEnter = true := by
  unfold Program.mayEnter
  rw [h]
  generalize behindMainWord (wordsSigns L) = l at h0
  cases l with
  | nil => cases h0
  | cons c rest =>
    have hc : c = "cut".toList := Option.some.inj h0
    subst hc
    simp only [factStrip, h1, h2, h3]
    rfl
theorem factMake : Try.prog.make = some .cut := make_of factSigns headFirst
theorem factLifts : Try.prog.liftsFinal = false := lifts_of factSigns headFirst
theorem factEnter : Try.prog.mayEnter = true := enter_of factSigns headFirst factLater factReflect factDoor

/-- What a row asks besides the program's own facts. -/
def lawFacts (P : Program) (f : FuncId) (fn : Func) (s : ChangeSpec) (c : OpenClaim) : Bool :=
  c.wf (OpenSpec.ofChange s) && fn.params.all (P.readableRec ·) && namedTie P c.named s.vars && (c.stops == []) && (c.knobs == []) &&
  (c.inPlace == P.inPlace f) && (c.unfollowed == P.unfollowed f) && (c.recurses == P.recurses f) && (c.named == P.varsNamed f) &&
  (c.maps == (fn.params.toList ++ s.plain.varTypes P).any (P.mapsRec ·)) && (c.ifaces == (fn.params.toList ++ s.plain.varTypes P).any (P.ifacesRec ·)) && (c.mapsOut == P.mapsAmong fn.resultTypes.toList) &&
  (c.loops == (fn.params.toList ++ s.plain.varTypes P).any (P.loopsFrom ·)) && (c.wideKeys == (fn.params.toList ++ s.plain.varTypes P ++ fn.resultTypes.toList).any (P.wideKeysFrom ·)) &&
  s.vars.all (P.varReadable ·) && fn.resultTypes.all (fun t => P.readableRec t && decide (t < P.types.size)) && (c.ifacesOut == fn.resultTypes.toList.any (P.ifacesRec ·)) && (c.loopsOut == fn.resultTypes.toList.any (P.loopsFrom ·)) && (c.plainKeys == true) && c.shortTexts.isNone && (c.lifted == false) && (some Make.cut == some c.make) && (c.kinds == (if c.domain.isEmpty then [] else fn.params.toList.map fun t => match P.underlying t with | some (.int k) => some k | _ => none)) && (c.pinned == c.pinnedBy) &&
  (c.veiled == (fn.params.toList ++ s.plain.varTypes P ++ fn.resultTypes.toList).any (P.veiledRec ·)) && c.veiledFits P fn.params.toList (fn.params.toList ++ s.plain.varTypes P ++ fn.resultTypes.toList)

theorem joined_of {P : Program} {f : FuncId} {fn : Func} {s : ChangeSpec} {c : OpenClaim} (h1 : laidOutB P = true) (h2 : mapsRowed P = true) (h3 : (P.stops == []) = true) (h4 : (P.stopKnobs == []) = true)
    (h5 : P.stopsHeard = true) (h6 : P.mayEnter = true) (h7 : P.liftsFinal = false) (h8 : P.make = some .cut) (h9 : P.plainKeys = true) (h : lawFacts P f fn s c = true) : joinedFacts P f fn s c = true := by
  unfold joinedFacts
  rw [h1, h2, h3, h4, h5, h6, h7, h8, h9]
  unfold lawFacts at h
  simp only [Bool.and_eq_true] at h ⊢
  obtain ⟨⟨⟨⟨⟨⟨⟨⟨⟨⟨⟨⟨⟨⟨⟨⟨⟨⟨⟨⟨⟨⟨⟨⟨⟨k1, k2⟩, k3⟩, k4⟩, k5⟩, k6⟩, k7⟩, k8⟩, k9⟩, k10⟩, k11⟩, k12⟩, k13⟩, k14⟩, k15⟩, k16⟩, k17⟩, k18⟩, k19⟩, k20⟩, k21⟩, k22⟩, k23⟩, k24⟩, k25⟩, k26⟩ := h
  simp only [k1, k2, k3, k4, k5, k6, k7, k8, k9, k10, k11, k12, k13, k14, k15, k16, k17, k18, k19, k20, k21, k22, k24, k25, k26, and_self]
  exact ⟨⟨⟨⟨trivial, k23⟩, trivial⟩, trivial⟩, trivial⟩

theorem joined_here {f : FuncId} {fn : Func} {s : ChangeSpec} {c : OpenClaim} (h : lawFacts Try.prog f fn s c = true) : joinedFacts Try.prog f fn s c = true :=
  joined_of factLaid factMaps factStops factKnobs factHeard factEnter factLifts factMake factKeys h

end Go.Proofs.Ytcfhmbmagkoekaa
