/- Several texts in one: the first ones that the others lean on. -/
import Derived.Test.YtaphnkgjcmneoaaGreatDoorRows
import Derived.JoinedOf
import Derived.KernelRfl
import Derived.Shelf.Small.Wraps
import Derived.Shelf.Strconv.Atoi
import Derived.Shelf.Strconv.Itoa0
import Derived.Shelf.Strconv.Itoa1
import Derived.Shelf.LaysM
import Derived.Shelf.Strconv.Itoa2
import Derived.Shelf.Strconv.Itoa3
import Derived.Shelf.Strconv.AtoiErrFast
import Derived.Shelf.Strconv.ParseIntEmpty
import Derived.Shelf.Strconv.AtoiFail
import Derived.Shelf.Strconv.Clone
import Derived.Shelf.Strconv.SyntaxError
import Derived.Shelf.LaysC
import Derived.Shelf.Strconv.ToError
import Derived.Shelf.Strconv.AtoiErr
import Derived.Shelf.Strconv.ErrVar
import Derived.Shelf.Strconv.Lower
import Derived.Shelf.Strconv.ParseUint10
import Derived.Shelf.Strconv.ParseUint10Empty
import Derived.Shelf.Strconv.ParseUint10Any
import Derived.Shelf.Strconv.ParseInt10
import Derived.Shelf.Strconv.AtoiLong
import Derived.Shelf.Strconv.AtoiInnerAll
import Derived.Shelf.Strconv.RangeError
import Derived.Shelf.Strconv.ToErrorRange
import Derived.Shelf.Strconv.AtoiAll
import Derived.Shelf.Strconv.ErrVarAll
import Derived.Shelf.Strings.Search1
import Derived.Shelf.Strings.Search2
import Derived.Shelf.Strings.Search3
import Derived.Shelf.Strings.Cut
import Derived.Shelf.Strings.Count
import Derived.Shelf.Strings.Shaped
import Derived.Shelf.Sort.Plain
import Derived.Shelf.Strings.Split
import Derived.Shelf.Unicode.DecodeSlow
import Derived.Shelf.Slices.Turned
import Derived.Ground.Names2Prog
import Derived.Shelf.Slices.CompactI
import Derived.Shelf.Slices.SearchI
import Derived.Shelf.Slices.In.SortNone
import Derived.Test.YtaphnkgjcmneoaaGreatDoorProg
import Derived.WalkKit
import Derived.WalkSpells
import Derived.WalkLawsBesides
import Derived.Deep.QuietTactic
import Derived.BigQuiet
import Derived.Lib.SlicesCompact
import Derived.Deep.Cut
import Derived.ProofKit
import Derived.OpenShut
import Derived.SizedLaws
import Derived.Lib.SmallJoins
import Derived.Deep.Matrix
import Derived.Deep.RegionWith
import Derived.Deep.DeepCutAuto
import Derived.Deep.RegionHeld3
import Derived.Deep.RegionLaw
import Derived.IntWalk
import Derived.Laws.CopyOwn
import Derived.StillTailTactics
import Derived.Lib.ItoaNum
import Derived.Lib.ItoaLen
import Derived.Lib.Join
import Derived.Lib.ReplaceLaws
import Derived.Lib.Replace
import Derived.Lib.AtoiAll
import Derived.Lib.AtoiAllCases
import Derived.Lib.Atoi
/- Closed facts of the program that every row asks: each by itself. -/
namespace Go.Proofs.YtaphnkgjcmneoaaGreatDoor

/-- the letters of the program's head -/
def headSigns : List Char := [Char.ofNat 104, Char.ofNat 97, Char.ofNat 114, Char.ofNat 110, Char.ofNat 101, Char.ofNat 115, Char.ofNat 115, Char.ofNat 32, Char.ofNat 57, Char.ofNat 57, Char.ofNat 55, Char.ofNat 52, Char.ofNat 54, Char.ofNat 52, Char.ofNat 101, Char.ofNat 54, Char.ofNat 52, Char.ofNat 100, Char.ofNat 51, Char.ofNat 99, Char.ofNat 101, Char.ofNat 49, Char.ofNat 97, Char.ofNat 55, Char.ofNat 53, Char.ofNat 56, Char.ofNat 50, Char.ofNat 51, Char.ofNat 99, Char.ofNat 49, Char.ofNat 49, Char.ofNat 53, Char.ofNat 50, Char.ofNat 102, Char.ofNat 102, Char.ofNat 52, Char.ofNat 50, Char.ofNat 56, Char.ofNat 99, Char.ofNat 55, Char.ofNat 48, Char.ofNat 102, Char.ofNat 99, Char.ofNat 101, Char.ofNat 101, Char.ofNat 48, Char.ofNat 98, Char.ofNat 57, Char.ofNat 50, Char.ofNat 101, Char.ofNat 101, Char.ofNat 54, Char.ofNat 50, Char.ofNat 52, Char.ofNat 51, Char.ofNat 48, Char.ofNat 49, Char.ofNat 99, Char.ofNat 99, Char.ofNat 49, Char.ofNat 48, Char.ofNat 100, Char.ofNat 54, Char.ofNat 57, Char.ofNat 55, Char.ofNat 53, Char.ofNat 97, Char.ofNat 50, Char.ofNat 54, Char.ofNat 55, Char.ofNat 102, Char.ofNat 56, Char.ofNat 32, Char.ofNat 99, Char.ofNat 117, Char.ofNat 116, Char.ofNat 32, Char.ofNat 97, Char.ofNat 116, Char.ofNat 32, Char.ofNat 108, Char.ofNat 111, Char.ofNat 111, Char.ofNat 112, Char.ofNat 46, Char.ofNat 101, Char.ofNat 120, Char.ofNat 97, Char.ofNat 109, Char.ofNat 112, Char.ofNat 108, Char.ofNat 101, Char.ofNat 47, Char.ofNat 103, Char.ofNat 48, Char.ofNat 49, Char.ofNat 48, Char.ofNat 56, Char.ofNat 55, Char.ofNat 47, Char.ofNat 108, Char.ofNat 97, Char.ofNat 119, Char.ofNat 115, Char.ofNat 46, Char.ofNat 70, Char.ofNat 110, Char.ofNat 67, Char.ofNat 97, Char.ofNat 99, Char.ofNat 104, Char.ofNat 101, Char.ofNat 70, Char.ofNat 111, Char.ofNat 114, Char.ofNat 109, Char.ofNat 115]

set_option maxRecDepth 100000 in
theorem factHead : Tryz.prog.initOrder = String.ofList headSigns := by kernel_rfl
theorem factSigns : Tryz.prog.initOrder.toList = headSigns := by rw [factHead, String.toList_ofList]
theorem factLaid : laidOutB Tryz.prog = true := by kernel_rfl
theorem factMaps : mapsRowed Tryz.prog = true := by kernel_rfl
theorem factStops : (Tryz.prog.stops == []) = true := by kernel_rfl
theorem factKnobs : (Tryz.prog.stopKnobs == []) = true := by kernel_rfl
theorem factKeys : Tryz.prog.plainKeys = true := by kernel_rfl
theorem factOwn : ownKnob Tryz.prog.godebug = none := by kernel_rfl
theorem headFirst : (behindMainWord (wordsSigns headSigns)).head? = some "cut".toList := by kernel_rfl
theorem factHeard : Tryz.prog.stopsHeard = true := by kernel_rfl
theorem factLater : Tryz.prog.laysLater = false := by kernel_rfl
theorem factReflect : Tryz.prog.bearsReflect = false := by kernel_rfl
theorem factDoor : Tryz.prog.doorFits [] = true := by kernel_rfl

theorem factStrip (rest : List (List Char)) : stripLifts liftWords ("cut".toList :: rest) = ([], "cut".toList :: rest) := by rfl
theorem make_of {P : Program} {L : List Char} (h : P.initOrder.toList = L) (h0 : (behindMainWord (wordsSigns L)).head? = some "cut".toList) : P.make = some .cut := by
  unfold Program.make
  rw [h]
  generalize behindMainWord (wordsSigns L) = l at h0
  cases l with
  | nil => cases h0
  | cons c rest =>
    have hc : c = "cut".toList := Option.some.inj h0
    subst hc
    rfl
theorem lifts_of {P : Program} {L : List Char} (h : P.initOrder.toList = L) (h0 : (behindMainWord (wordsSigns L)).head? = some "cut".toList) : P.liftsFinal = false := by
  unfold Program.liftsFinal Program.headLifts
  rw [h]
  generalize behindMainWord (wordsSigns L) = l at h0
  cases l with
  | nil => cases h0
  | cons c rest =>
    have hc : c = "cut".toList := Option.some.inj h0
    subst hc
    simp only [factStrip]
    rfl
theorem enter_of {P : Program} {L : List Char} (h : P.initOrder.toList = L) (h0 : (behindMainWord (wordsSigns L)).head? = some "cut".toList) (h1 : P.laysLater = false) (h2 : P.bearsReflect = false) (h3 : P.doorFits [] = true) : P.mayEnter = true := by
  unfold Program.mayEnter
  rw [h]
  generalize behindMainWord (wordsSigns L) = l at h0
  cases l with
  | nil => cases h0
  | cons c rest =>
    have hc : c = "cut".toList := Option.some.inj h0
    subst hc
    simp only [factStrip, h1, h2, h3]
    rfl
theorem factMake : Tryz.prog.make = some .cut := make_of factSigns headFirst
theorem factLifts : Tryz.prog.liftsFinal = false := lifts_of factSigns headFirst
theorem factEnter : Tryz.prog.mayEnter = true := enter_of factSigns headFirst factLater factReflect factDoor

/-- What a row asks besides the program's own facts. -/
def lawFacts (P : Program) (f : FuncId) (fn : Func) (s : ChangeSpec) (c : OpenClaim) : Bool :=
  c.wf (OpenSpec.ofChange s) && fn.params.all (P.readableRec ·) && namedTie P c.named s.vars && (c.stops == []) && (c.knobs == []) &&
  (c.inPlace == P.inPlace f) && (c.unfollowed == P.unfollowed f) && (c.recurses == P.recurses f) && (c.named == P.varsNamed f) &&
  (c.maps == (fn.params.toList ++ s.plain.varTypes P).any (P.mapsRec ·)) && (c.ifaces == (fn.params.toList ++ s.plain.varTypes P).any (P.ifacesRec ·)) && (c.mapsOut == P.mapsAmong fn.resultTypes.toList) &&
  (c.loops == (fn.params.toList ++ s.plain.varTypes P).any (P.loopsFrom ·)) && (c.wideKeys == (fn.params.toList ++ s.plain.varTypes P ++ fn.resultTypes.toList).any (P.wideKeysFrom ·)) &&
  s.vars.all (P.varReadable ·) && fn.resultTypes.all (fun t => P.readableRec t && decide (t < P.types.size)) && (c.ifacesOut == fn.resultTypes.toList.any (P.ifacesRec ·)) && (c.loopsOut == fn.resultTypes.toList.any (P.loopsFrom ·)) && (c.plainKeys == true) && c.shortTexts.isNone && (c.lifted == false) && (some Make.cut == some c.make) && (c.kinds == (if c.domain.isEmpty then [] else fn.params.toList.map fun t => match P.underlying t with | some (.int k) => some k | _ => none)) && (c.pinned == c.pinnedBy) &&
  (c.veiled == (fn.params.toList ++ s.plain.varTypes P ++ fn.resultTypes.toList).any (P.veiledRec ·)) && c.veiledFits P fn.params.toList (fn.params.toList ++ s.plain.varTypes P ++ fn.resultTypes.toList)

theorem joined_of {P : Program} {f : FuncId} {fn : Func} {s : ChangeSpec} {c : OpenClaim} (h1 : laidOutB P = true) (h2 : mapsRowed P = true) (h3 : (P.stops == []) = true) (h4 : (P.stopKnobs == []) = true)
    (h5 : P.stopsHeard = true) (h6 : P.mayEnter = true) (h7 : P.liftsFinal = false) (h8 : P.make = some .cut) (h9 : P.plainKeys = true) (h : lawFacts P f fn s c = true) : joinedFacts P f fn s c = true := by
  unfold joinedFacts
  rw [h1, h2, h3, h4, h5, h6, h7, h8, h9]
  unfold lawFacts at h
  simp only [Bool.and_eq_true] at h ⊢
  obtain ⟨⟨⟨⟨⟨⟨⟨⟨⟨⟨⟨⟨⟨⟨⟨⟨⟨⟨⟨⟨⟨⟨⟨⟨⟨k1, k2⟩, k3⟩, k4⟩, k5⟩, k6⟩, k7⟩, k8⟩, k9⟩, k10⟩, k11⟩, k12⟩, k13⟩, k14⟩, k15⟩, k16⟩, k17⟩, k18⟩, k19⟩, k20⟩, k21⟩, k22⟩, k23⟩, k24⟩, k25⟩, k26⟩ := h
  simp only [k1, k2, k3, k4, k5, k6, k7, k8, k9, k10, k11, k12, k13, k14, k15, k16, k17, k18, k19, k20, k21, k22, k24, k25, k26, and_self]
  exact ⟨⟨⟨⟨trivial, k23⟩, trivial⟩, trivial⟩, trivial⟩

theorem joined_here {f : FuncId} {fn : Func} {s : ChangeSpec} {c : OpenClaim} (h : lawFacts Tryz.prog f fn s c = true) : joinedFacts Tryz.prog f fn s c = true :=
  joined_of factLaid factMaps factStops factKnobs factHeard factEnter factLifts factMake factKeys h

end Go.Proofs.YtaphnkgjcmneoaaGreatDoor

/-
  DERIVED: THE SHELF's CONTRACTS AT THIS DUMP, IN PLAIN WORDS (tools/lay-plain.mjs out of 'YtaphnkgjcmneoaaGreatDoorShelfV.lean', which tools/lay-shelf.mjs wrote): THE SAME DECLARATIONS UNDER THE SAME NAMES: 'import', 'namespace', 'open', 'def', 'theorem' AND NOTHING ELSE: no command of the shelf's: FOR A HAND-IN. Each laying: the table of numbers ('.._ren') and one theorem, a field a fact of the dump's own or the kernel's comparison; each contract: ONE APPLICATION.
-/
namespace Go.Proofs
open Go.Shelf
def Tryz.lays146_ren : Go.Shelf.Ren := ⟨fun | 146 => 80 | 221 => 93 | 268 => 120 | 138 => 121 | 143 => 122 | 195 => 137 | 197 => 138 | 218 => 139 | 219 => 90 | 260 => 147 | 217 => 111 | 225 => 112 | 224 => 113 | 267 => 114 | 266 => 132 | 314 => 133 | n => n, fun | 9 => 9 | 31 => 58 | 3 => 3 | 4 => 4 | 0 => 0 | 105 => 131 | 21 => 21 | 5 => 5 | 46 => 92 | 119 => 149 | 139 => 152 | 138 => 151 | 146 => 123 | 51 => 106 | n => n, fun | 1 => 0 | 3 => 4 | 4 => 5 | n => n⟩
theorem Tryz.lays146 : Go.Proofs.Lays.n146 Tryz.prog Tryz.lays146_ren := {
  mixed := by kernel_rfl
  f138 := Tryz.func121.trans (congrArg some (by kernel_rfl))
  f143 := Tryz.func122.trans (congrArg some (by kernel_rfl))
  f146 := Tryz.func80.trans (congrArg some (by kernel_rfl))
  f195 := Tryz.func137.trans (congrArg some (by kernel_rfl))
  f197 := Tryz.func138.trans (congrArg some (by kernel_rfl))
  f217 := Tryz.func111.trans (congrArg some (by kernel_rfl))
  f218 := Tryz.func139.trans (congrArg some (by kernel_rfl))
  f219 := Tryz.func90.trans (congrArg some (by kernel_rfl))
  f221 := Tryz.func93.trans (congrArg some (by kernel_rfl))
  f224 := Tryz.func113.trans (congrArg some (by kernel_rfl))
  f225 := Tryz.func112.trans (congrArg some (by kernel_rfl))
  f260 := Tryz.func147.trans (congrArg some (by kernel_rfl))
  f266 := Tryz.func132.trans (congrArg some (by kernel_rfl))
  f267 := Tryz.func114.trans (congrArg some (by kernel_rfl))
  f268 := Tryz.func120.trans (congrArg some (by kernel_rfl))
  f314 := Tryz.func133.trans (congrArg some (by kernel_rfl))
  t0 := Tryz.underlying0
  a0 := Tryz.isAgg0
  z0 := Tryz.sizeOf0
  v0 := Tryz.zeroValue0
  t3 := Tryz.underlying3
  a3 := Tryz.isAgg3
  z3 := Tryz.sizeOf3
  v3 := Tryz.zeroValue3
  t4 := Tryz.underlying4
  a4 := Tryz.isAgg4
  z4 := Tryz.sizeOf4
  v4 := Tryz.zeroValue4
  t5 := Tryz.underlying5
  a5 := Tryz.isAgg5
  z5 := Tryz.sizeOf5
  v5 := Tryz.zeroValue5
  t9 := Tryz.underlying9
  a9 := Tryz.isAgg9
  z9 := Tryz.sizeOf9
  v9 := Tryz.zeroValue9
  t21 := Tryz.underlying21
  a21 := Tryz.isAgg21
  z21 := Tryz.sizeOf21
  v21 := Tryz.zeroValue21
  t31 := Tryz.underlying58
  a31 := Tryz.isAgg58
  z31 := Tryz.sizeOf58
  v31 := Tryz.zeroValue58
  t46 := Tryz.underlying92
  a46 := Tryz.isAgg92
  z46 := Tryz.sizeOf92
  v46 := Tryz.zeroValue92
  t51 := Tryz.underlying106
  a51 := Tryz.isAgg106
  z51 := Tryz.sizeOf106
  v51 := Tryz.zeroValue106
  t105 := Tryz.underlying131
  a105 := Tryz.isAgg131
  z105 := Tryz.sizeOf131
  v105 := Tryz.zeroValue131
  t119 := Tryz.underlying149
  a119 := Tryz.isAgg149
  z119 := Tryz.sizeOf149
  t138 := Tryz.underlying151
  a138 := Tryz.isAgg151
  z138 := Tryz.sizeOf151
  v138 := Tryz.zeroValue151
  t139 := Tryz.underlying152
  a139 := Tryz.isAgg152
  z139 := Tryz.sizeOf152
  v139 := Tryz.zeroValue152
  t146 := Tryz.underlying123
  a146 := Tryz.isAgg123
  z146 := Tryz.sizeOf123
  v146 := Tryz.zeroValue123
  g1 := by kernel_rfl
  g3 := by kernel_rfl
  g4 := by kernel_rfl }
open Go.RowKit Go.Lib in
/-- strings.Split. (LAID: no walk: one application.) -/
theorem Tryz.strings_Split (s sep : ByteArray) (m : Int) (w : World) (hs : s.size < 4294967281) (hm : w.cell? ⟨0, 0, none⟩ = some (.int .i64 m)) (h1 : 1 ≤ sep.size) :
    Calls Tryz.prog 80 #[.string s, .string sep] w fun e w' =>
      e = .returned (.slice (some ⟨w.heap.size, 0, none⟩) (Lib.countB s sep + 1) (Lib.countB s sep + 1)) ∧ w' = w.alloc (.cells ((Lib.splitB sep 0 (Lib.countB s sep) s).map Value.string).toArray 9) := Any.strings_Split Tryz.lays146 (by kernel_rfl) s sep m w hs hm h1
def Tryz.lays109_ren : Go.Shelf.Ren := ⟨fun | 109 => 59 | n => n, fun | 31 => 58 | 9 => 9 | 3 => 3 | 0 => 0 | 4 => 4 | n => n, fun | n => n⟩
theorem Tryz.lays109 : Go.Proofs.Lays.n109 Tryz.prog Tryz.lays109_ren := {
  mixed := by kernel_rfl
  f109 := Tryz.func59.trans (congrArg some (by kernel_rfl))
  t0 := Tryz.underlying0
  a0 := Tryz.isAgg0
  z0 := Tryz.sizeOf0
  v0 := Tryz.zeroValue0
  t3 := Tryz.underlying3
  a3 := Tryz.isAgg3
  z3 := Tryz.sizeOf3
  v3 := Tryz.zeroValue3
  t4 := Tryz.underlying4
  a4 := Tryz.isAgg4
  z4 := Tryz.sizeOf4
  v4 := Tryz.zeroValue4
  t9 := Tryz.underlying9
  a9 := Tryz.isAgg9
  z9 := Tryz.sizeOf9
  v9 := Tryz.zeroValue9
  t31 := Tryz.underlying58
  a31 := Tryz.isAgg58
  z31 := Tryz.sizeOf58
  v31 := Tryz.zeroValue58 }
open Go.Lib in
/-- slices.Index at []string: "Index returns the index of the first occurrence of v in s, or -1 if not present.": IT RETURNS 'Lib.idxOfS (the elements) v'; the world is as it was. 'zs': what the cells behind the slice's address hold (its spare capacity too, if you have it); 'zs.take n': its elements. (LAID: no walk: one application.) -/
theorem Tryz.slices_Index_string (b off n c : Nat) (zs : List ByteArray) (x : ByteArray) (w : World) (hz : n ≤ zs.length) (hbig : n ≤ 9223372036854775807) (hc : ∀ j, j < zs.length → w.cell? ⟨b, off + j, none⟩ = some (.string (zs.getD j ByteArray.empty))) :
    Calls Tryz.prog 59 #[.slice (some ⟨b, off, none⟩) n c, .string x] w fun e w' => e = .returned (.int .i64 (Lib.idxOfS (zs.take n) x)) ∧ w' = w := Any.slices_Index_string Tryz.lays109 b off n c zs x w hz hbig hc
open Go.Lib in
/-- The same at a slice of length 0, a nil one too: no cell is known, none is asked for. (LAID: no walk: one application.) -/
theorem Tryz.slices_Index_string_empty (a : Option Addr) (c : Nat) (x : ByteArray) (w : World) :
    Calls Tryz.prog 59 #[.slice a 0 c, .string x] w fun e w' => e = .returned (.int .i64 (Lib.idxOfS [] x)) ∧ w' = w := Any.slices_Index_string_empty Tryz.lays109 a c x w
end Go.Proofs

/-
  DERIVED: THE SHELF's CONTRACTS AT THIS DUMP, IN PLAIN WORDS (tools/lay-plain.mjs out of 'YtaphnkgjcmneoaaGreatDoorShelf.lean', which tools/lay-shelf.mjs wrote): THE SAME DECLARATIONS UNDER THE SAME NAMES: 'import', 'namespace', 'open', 'def', 'theorem' AND NOTHING ELSE: no command of the shelf's: FOR A HAND-IN. Each laying: the table of numbers ('.._ren') and one theorem, a field a fact of the dump's own or the kernel's comparison; each contract: ONE APPLICATION.
-/
namespace Go.Proofs
open Go.Shelf
def Tryz.lays189_ren : Go.Shelf.Ren := ⟨fun | 189 => 74 | 125 => 89 | 257 => 88 | 128 => 109 | 129 => 110 | 294 => 100 | 295 => 101 | 296 => 102 | 297 => 103 | 298 => 104 | 299 => 105 | 216 => 106 | 300 => 107 | 301 => 108 | 328 => 126 | 329 => 127 | 330 => 128 | 331 => 129 | 332 => 130 | 215 => 131 | 343 => 144 | n => n, fun | 28 => 24 | 3 => 3 | 46 => 92 | 0 => 0 | 51 => 106 | 53 => 47 | 4 => 4 | 183 => 100 | 182 => 99 | 131 => 44 | 5 => 5 | 9 => 9 | 218 => 117 | 222 => 121 | 228 => 137 | 229 => 138 | n => n, fun | n => n⟩
theorem Tryz.lays189 : Go.Proofs.Lays.n189 Tryz.prog Tryz.lays189_ren := {
  mixed := by kernel_rfl
  f125 := Tryz.func89.trans (congrArg some (by kernel_rfl))
  f128 := Tryz.func109.trans (congrArg some (by kernel_rfl))
  f129 := Tryz.func110.trans (congrArg some (by kernel_rfl))
  f189 := Tryz.func74.trans (congrArg some (by kernel_rfl))
  f215 := Tryz.func131.trans (congrArg some (by kernel_rfl))
  f216 := Tryz.func106.trans (congrArg some (by kernel_rfl))
  f257 := Tryz.func88.trans (congrArg some (by kernel_rfl))
  f294 := Tryz.func100.trans (congrArg some (by kernel_rfl))
  f295 := Tryz.func101.trans (congrArg some (by kernel_rfl))
  f296 := Tryz.func102.trans (congrArg some (by kernel_rfl))
  f297 := Tryz.func103.trans (congrArg some (by kernel_rfl))
  f298 := Tryz.func104.trans (congrArg some (by kernel_rfl))
  f299 := Tryz.func105.trans (congrArg some (by kernel_rfl))
  f300 := Tryz.func107.trans (congrArg some (by kernel_rfl))
  f301 := Tryz.func108.trans (congrArg some (by kernel_rfl))
  f328 := Tryz.func126.trans (congrArg some (by kernel_rfl))
  f329 := Tryz.func127.trans (congrArg some (by kernel_rfl))
  f330 := Tryz.func128.trans (congrArg some (by kernel_rfl))
  f331 := Tryz.func129.trans (congrArg some (by kernel_rfl))
  f332 := Tryz.func130.trans (congrArg some (by kernel_rfl))
  f343 := Tryz.func144.trans (congrArg some (by kernel_rfl))
  t0 := Tryz.underlying0
  a0 := Tryz.isAgg0
  z0 := Tryz.sizeOf0
  v0 := Tryz.zeroValue0
  t3 := Tryz.underlying3
  a3 := Tryz.isAgg3
  z3 := Tryz.sizeOf3
  v3 := Tryz.zeroValue3
  t4 := Tryz.underlying4
  a4 := Tryz.isAgg4
  z4 := Tryz.sizeOf4
  v4 := Tryz.zeroValue4
  t5 := Tryz.underlying5
  a5 := Tryz.isAgg5
  z5 := Tryz.sizeOf5
  v5 := Tryz.zeroValue5
  t9 := Tryz.underlying9
  a9 := Tryz.isAgg9
  z9 := Tryz.sizeOf9
  v9 := Tryz.zeroValue9
  t28 := Tryz.underlying24
  a28 := Tryz.isAgg24
  z28 := Tryz.sizeOf24
  v28 := Tryz.zeroValue24
  t46 := Tryz.underlying92
  a46 := Tryz.isAgg92
  z46 := Tryz.sizeOf92
  v46 := Tryz.zeroValue92
  t51 := Tryz.underlying106
  a51 := Tryz.isAgg106
  z51 := Tryz.sizeOf106
  v51 := Tryz.zeroValue106
  t53 := Tryz.underlying47
  a53 := Tryz.isAgg47
  z53 := Tryz.sizeOf47
  v53 := Tryz.zeroValue47
  t131 := Tryz.underlying44
  a131 := Tryz.isAgg44
  z131 := Tryz.sizeOf44
  v131 := Tryz.zeroValue44
  t182 := Tryz.underlying99
  a182 := Tryz.isAgg99
  z182 := Tryz.sizeOf99
  v182 := Tryz.zeroValue99
  t183 := Tryz.underlying100
  a183 := Tryz.isAgg100
  z183 := Tryz.sizeOf100
  v183 := Tryz.zeroValue100
  t218 := Tryz.underlying117
  a218 := Tryz.isAgg117
  z218 := Tryz.sizeOf117
  v218 := Tryz.zeroValue117
  t222 := Tryz.underlying121
  a222 := Tryz.isAgg121
  z222 := Tryz.sizeOf121
  v222 := Tryz.zeroValue121
  t228 := Tryz.underlying137
  a228 := Tryz.isAgg137
  z228 := Tryz.sizeOf137
  v228 := Tryz.zeroValue137
  t229 := Tryz.underlying138
  a229 := Tryz.isAgg138
  z229 := Tryz.sizeOf138
  v229 := Tryz.zeroValue138 }
open Go.Sort Go.RowKit in
theorem Tryz.slices_Sort_int (blk off cap : Nat) (zs : List Int) (w : World) (hH : Holds (Value.int .i64) w blk off zs.toArray) (hblk : blk < w.heap.size) (hsz : zs.length < 4611686018427387904) :
    Calls Tryz.prog 74 #[.slice (some ⟨blk, off, none⟩) zs.length cap] w fun e w' =>
      e = .returned (.tuple #[]) ∧ ∃ n os, w' = grow (putRow (Value.int .i64) (Sort.ahead w n) blk off (zs.mergeSort fun x y => decide (x ≤ y)).toArray) os := Any.slices_Sort_int Tryz.lays189 blk off cap zs w hH hblk hsz
def Tryz.laysNm220_ren : Go.Shelf.Ren := ⟨fun | 20 => 75 | n => n, fun | 22 => 24 | 3 => 3 | 4 => 4 | 0 => 0 | n => n, fun | n => n⟩
theorem Tryz.laysNm220 : Go.Proofs.Lays2.n20 Tryz.prog Tryz.laysNm220_ren := {
  mixed := by kernel_rfl
  f20 := Tryz.func75.trans (congrArg some (by kernel_rfl))
  t0 := Tryz.underlying0
  a0 := Tryz.isAgg0
  z0 := Tryz.sizeOf0
  v0 := Tryz.zeroValue0
  t3 := Tryz.underlying3
  a3 := Tryz.isAgg3
  z3 := Tryz.sizeOf3
  v3 := Tryz.zeroValue3
  t4 := Tryz.underlying4
  a4 := Tryz.isAgg4
  z4 := Tryz.sizeOf4
  v4 := Tryz.zeroValue4
  t22 := Tryz.underlying24
  a22 := Tryz.isAgg24
  z22 := Tryz.sizeOf24
  v22 := Tryz.zeroValue24
  i3 := by kernel_rfl }
open Go.RowKit Go.Lib Go.Sort in
/-- slices.Compact at []int, over an array: the library's two loops are walked. (LAID: no walk: one application.) -/
theorem Tryz.slices_Compact_int_arr (blk off cap : Nat) (d : Array Int) (w : World) (hH : Holds encI w blk off d) (hsz : d.size ≤ 9223372036854775807) (hcap : d.size ≤ cap) :
    Calls Tryz.prog 75 #[.slice (some ⟨blk, off, none⟩) d.size cap] w fun e w' => e = .returned (.slice (some ⟨blk, off, none⟩) (compactUpTo d d.size).length cap) ∧ ∃ q, w' = putRow encI (Sort.ahead w q) blk off (compactUpTo d d.size ++ List.replicate (d.size - (compactUpTo d d.size).length) 0).toArray := Any.slices_Compact_int_arr Tryz.laysNm220 blk off cap d w hH hsz hcap
open Go.RowKit Go.Lib Go.Sort in
/-- slices.Compact at []int: "Compact replaces consecutive runs of equal elements with a single copy. This is like the uniq command found on Unix. Compact modifies the contents of the slice s and returns the modified slice, which may have a smaller length. Compact zeroes the elements between the new length and the original length. The result preserves the nilness of s.": IT RETURNS THE SLICE CUT TO 'Lib.compact zs'; ITS CELLS HOLD 'Lib.compact zs', THEN ZERO VALUES up to the old length; all else is as it was, but for the count of draws. IN THE WORDS OF slices.Sort's CONTRACT ('Holds', 'putRow'): so the everyday 'slices.Sort(xs); xs = slices.Compact(xs)' goes from the one contract to the other. It asks 'zs.length ≤ cap' (every slice's: the reslicing 's[:k]' looks at it). Length 0, nil: '.._empty'. (LAID: no walk: one application.) -/
theorem Tryz.slices_Compact_int (blk off cap : Nat) (zs : List Int) (w : World) (hH : Holds (Value.int .i64) w blk off zs.toArray) (hsz : zs.length ≤ 9223372036854775807) (hcap : zs.length ≤ cap) :
    Calls Tryz.prog 75 #[.slice (some ⟨blk, off, none⟩) zs.length cap] w fun e w' => e = .returned (.slice (some ⟨blk, off, none⟩) (Lib.compact zs).length cap) ∧ ∃ q, w' = putRow (Value.int .i64) (Sort.ahead w q) blk off (Lib.compact zs ++ List.replicate (zs.length - (Lib.compact zs).length) 0).toArray := Any.slices_Compact_int Tryz.laysNm220 blk off cap zs w hH hsz hcap
open Go.RowKit Go.Lib Go.Sort in
/-- The same at a slice of length 0, a nil one too: it comes back as it is. (LAID: no walk: one application.) -/
theorem Tryz.slices_Compact_int_empty (a : Option Addr) (cap : Nat) (w : World) :
    Calls Tryz.prog 75 #[.slice a 0 cap] w fun e w' => e = .returned (.slice a 0 cap) ∧ w' = w := Any.slices_Compact_int_empty Tryz.laysNm220 a cap w
open Go.RowKit Go.Sort in
/-- .. and plain. (LAID: no walk: one application.) -/
theorem Tryz.slices_Sort_int_none (p : Option Addr) (cap : Nat) (w : World) :
    Calls Tryz.prog 74 #[.slice p 0 cap] w fun e w' => e = .returned (.tuple #[]) ∧ w' = w := Any.slices_Sort_int_none Tryz.lays189 p cap w
end Go.Proofs

/-
  DERIVED: THE SHELF's CONTRACTS AT THIS DUMP, IN PLAIN WORDS (tools/lay-plain.mjs out of 'YtaphnkgjcmneoaaGreatDoorShelfT.lean', which tools/lay-shelf.mjs wrote): THE SAME DECLARATIONS UNDER THE SAME NAMES: 'import', 'namespace', 'open', 'def', 'theorem' AND NOTHING ELSE: no command of the shelf's: FOR A HAND-IN. Each laying: the table of numbers ('.._ren') and one theorem, a field a fact of the dump's own or the kernel's comparison; each contract: ONE APPLICATION.
-/
namespace Go.Proofs
open Go.Shelf
def Tryz.laysM171_ren : Go.Shelf.Ren := ⟨fun | 171 => 85 | 243 => 99 | 246 => 125 | 283 => 140 | 284 => 141 | 285 => 142 | 286 => 143 | 129 => 110 | 317 => 148 | 318 => 149 | 319 => 150 | 320 => 151 | 337 => 152 | 338 => 153 | n => n, fun | 3 => 3 | 9 => 9 | 2 => 2 | 4 => 4 | 171 => 133 | 0 => 0 | 53 => 47 | 37 => 22 | 5 => 5 | 173 => 135 | 212 => 147 | 51 => 106 | 20 => 20 | 213 => 148 | 46 => 92 | 232 => 153 | 233 => 154 | n => n, fun | 17 => 3 | 18 => 6 | 19 => 7 | n => n⟩
theorem Tryz.laysM171 : Go.Proofs.LaysM.n171 Tryz.prog Tryz.laysM171_ren := {
  mixed := by kernel_rfl
  f129 := Tryz.func110.trans (congrArg some (by kernel_rfl))
  f171 := Tryz.func85.trans (congrArg some (by kernel_rfl))
  f243 := Tryz.func99.trans (congrArg some (by kernel_rfl))
  f246 := Tryz.func125.trans (congrArg some (by kernel_rfl))
  f283 := Tryz.func140.trans (congrArg some (by kernel_rfl))
  f284 := Tryz.func141.trans (congrArg some (by kernel_rfl))
  f285 := Tryz.func142.trans (congrArg some (by kernel_rfl))
  f286 := Tryz.func143.trans (congrArg some (by kernel_rfl))
  f317 := Tryz.func148.trans (congrArg some (by kernel_rfl))
  f318 := Tryz.func149.trans (congrArg some (by kernel_rfl))
  f319 := Tryz.func150.trans (congrArg some (by kernel_rfl))
  f320 := Tryz.func151.trans (congrArg some (by kernel_rfl))
  f337 := Tryz.func152.trans (congrArg some (by kernel_rfl))
  f338 := Tryz.func153.trans (congrArg some (by kernel_rfl))
  t0 := Tryz.underlying0
  a0 := Tryz.isAgg0
  z0 := Tryz.sizeOf0
  v0 := Tryz.zeroValue0
  t2 := Tryz.underlying2
  a2 := Tryz.isAgg2
  z2 := Tryz.sizeOf2
  v2 := Tryz.zeroValue2
  t3 := Tryz.underlying3
  a3 := Tryz.isAgg3
  z3 := Tryz.sizeOf3
  v3 := Tryz.zeroValue3
  t4 := Tryz.underlying4
  a4 := Tryz.isAgg4
  z4 := Tryz.sizeOf4
  v4 := Tryz.zeroValue4
  t5 := Tryz.underlying5
  a5 := Tryz.isAgg5
  z5 := Tryz.sizeOf5
  v5 := Tryz.zeroValue5
  t9 := Tryz.underlying9
  a9 := Tryz.isAgg9
  z9 := Tryz.sizeOf9
  v9 := Tryz.zeroValue9
  t20 := Tryz.underlying20
  a20 := Tryz.isAgg20
  z20 := Tryz.sizeOf20
  v20 := Tryz.zeroValue20
  t37 := Tryz.underlying22
  a37 := Tryz.isAgg22
  z37 := Tryz.sizeOf22
  v37 := Tryz.zeroValue22
  t46 := Tryz.underlying92
  a46 := Tryz.isAgg92
  z46 := Tryz.sizeOf92
  v46 := Tryz.zeroValue92
  t51 := Tryz.underlying106
  a51 := Tryz.isAgg106
  z51 := Tryz.sizeOf106
  v51 := Tryz.zeroValue106
  t53 := Tryz.underlying47
  a53 := Tryz.isAgg47
  z53 := Tryz.sizeOf47
  v53 := Tryz.zeroValue47
  t171 := Tryz.underlying133
  a171 := Tryz.isAgg133
  z171 := Tryz.sizeOf133
  v171 := Tryz.zeroValue133
  t173 := Tryz.underlying135
  a173 := Tryz.isAgg135
  z173 := Tryz.sizeOf135
  v173 := Tryz.zeroValue135
  t212 := Tryz.underlying147
  a212 := Tryz.isAgg147
  z212 := Tryz.sizeOf147
  v212 := Tryz.zeroValue147
  t213 := Tryz.underlying148
  a213 := Tryz.isAgg148
  z213 := Tryz.sizeOf148
  t232 := Tryz.underlying153
  a232 := Tryz.isAgg153
  z232 := Tryz.sizeOf153
  v232 := Tryz.zeroValue153
  t233 := Tryz.underlying154
  a233 := Tryz.isAgg154
  z233 := Tryz.sizeOf154
  v233 := Tryz.zeroValue154
  g17 := by kernel_rfl
  g18 := by kernel_rfl
  g19 := by kernel_rfl
  i0 := by kernel_rfl
  i2 := by kernel_rfl
  i3 := by kernel_rfl
  i4 := by kernel_rfl
  i5 := by kernel_rfl
  i9 := by kernel_rfl
  i20 := by kernel_rfl
  i37 := by kernel_rfl
  i46 := by kernel_rfl
  i51 := by kernel_rfl
  i53 := by kernel_rfl
  i171 := by kernel_rfl
  i173 := by kernel_rfl
  i212 := by kernel_rfl
  i232 := by kernel_rfl
  i233 := by kernel_rfl
  m17 := by kernel_rfl
  m18 := by kernel_rfl
  m19 := by kernel_rfl }
open Go.RowKit Go.Sort Go.Lib in
/-- strconv.Itoa: "Itoa is equivalent to FormatInt(int64(i), 10).": i's DECIMAL NUMERAL ('Lib.itoa': a '-' where i is negative, then the digits), FOR EVERY int. The world behind the call: the world before it, new blocks behind the heap (the library's 'var a [24]byte'), draws. (LAID: no walk: one application.) -/
theorem Tryz.strconv_Itoa (n : Int) (h0 : -9223372036854775808 ≤ n) (h1 : n ≤ 9223372036854775807) (w : World) (htab : Lib.TabIs Tryz.prog w "internal/strconv.uint64pow10" .u64 Lib.pow10Tab) :
    Calls Tryz.prog 85 #[.int .i64 n] w fun e w' => e = .returned (.string ⟨(Lib.itoa n).toArray⟩) ∧ ∃ k os, w' = grow (w.drewN k) os := Any.strconv_Itoa Tryz.laysM171 n h0 h1 w htab
def Tryz.lays171_ren : Go.Shelf.Ren := ⟨fun | 171 => 85 | 243 => 99 | 246 => 125 | 283 => 140 | 284 => 141 | 285 => 142 | 286 => 143 | 129 => 110 | 317 => 148 | 318 => 149 | 319 => 150 | 320 => 151 | 337 => 152 | 338 => 153 | n => n, fun | 3 => 3 | 9 => 9 | 2 => 2 | 4 => 4 | 171 => 133 | 0 => 0 | 53 => 47 | 37 => 22 | 5 => 5 | 173 => 135 | 212 => 147 | 51 => 106 | 20 => 20 | 213 => 148 | 46 => 92 | 232 => 153 | 233 => 154 | n => n, fun | 17 => 3 | 18 => 6 | 19 => 7 | n => n⟩
theorem Tryz.lays171 : Go.Proofs.Lays.n171 Tryz.prog Tryz.lays171_ren := {
  mixed := by kernel_rfl
  f129 := Tryz.func110.trans (congrArg some (by kernel_rfl))
  f171 := Tryz.func85.trans (congrArg some (by kernel_rfl))
  f243 := Tryz.func99.trans (congrArg some (by kernel_rfl))
  f246 := Tryz.func125.trans (congrArg some (by kernel_rfl))
  f283 := Tryz.func140.trans (congrArg some (by kernel_rfl))
  f284 := Tryz.func141.trans (congrArg some (by kernel_rfl))
  f285 := Tryz.func142.trans (congrArg some (by kernel_rfl))
  f286 := Tryz.func143.trans (congrArg some (by kernel_rfl))
  f317 := Tryz.func148.trans (congrArg some (by kernel_rfl))
  f318 := Tryz.func149.trans (congrArg some (by kernel_rfl))
  f319 := Tryz.func150.trans (congrArg some (by kernel_rfl))
  f320 := Tryz.func151.trans (congrArg some (by kernel_rfl))
  f337 := Tryz.func152.trans (congrArg some (by kernel_rfl))
  f338 := Tryz.func153.trans (congrArg some (by kernel_rfl))
  t0 := Tryz.underlying0
  a0 := Tryz.isAgg0
  z0 := Tryz.sizeOf0
  v0 := Tryz.zeroValue0
  t2 := Tryz.underlying2
  a2 := Tryz.isAgg2
  z2 := Tryz.sizeOf2
  v2 := Tryz.zeroValue2
  t3 := Tryz.underlying3
  a3 := Tryz.isAgg3
  z3 := Tryz.sizeOf3
  v3 := Tryz.zeroValue3
  t4 := Tryz.underlying4
  a4 := Tryz.isAgg4
  z4 := Tryz.sizeOf4
  v4 := Tryz.zeroValue4
  t5 := Tryz.underlying5
  a5 := Tryz.isAgg5
  z5 := Tryz.sizeOf5
  v5 := Tryz.zeroValue5
  t9 := Tryz.underlying9
  a9 := Tryz.isAgg9
  z9 := Tryz.sizeOf9
  v9 := Tryz.zeroValue9
  t20 := Tryz.underlying20
  a20 := Tryz.isAgg20
  z20 := Tryz.sizeOf20
  v20 := Tryz.zeroValue20
  t37 := Tryz.underlying22
  a37 := Tryz.isAgg22
  z37 := Tryz.sizeOf22
  v37 := Tryz.zeroValue22
  t46 := Tryz.underlying92
  a46 := Tryz.isAgg92
  z46 := Tryz.sizeOf92
  v46 := Tryz.zeroValue92
  t51 := Tryz.underlying106
  a51 := Tryz.isAgg106
  z51 := Tryz.sizeOf106
  v51 := Tryz.zeroValue106
  t53 := Tryz.underlying47
  a53 := Tryz.isAgg47
  z53 := Tryz.sizeOf47
  v53 := Tryz.zeroValue47
  t171 := Tryz.underlying133
  a171 := Tryz.isAgg133
  z171 := Tryz.sizeOf133
  v171 := Tryz.zeroValue133
  t173 := Tryz.underlying135
  a173 := Tryz.isAgg135
  z173 := Tryz.sizeOf135
  v173 := Tryz.zeroValue135
  t212 := Tryz.underlying147
  a212 := Tryz.isAgg147
  z212 := Tryz.sizeOf147
  v212 := Tryz.zeroValue147
  t213 := Tryz.underlying148
  a213 := Tryz.isAgg148
  z213 := Tryz.sizeOf148
  t232 := Tryz.underlying153
  a232 := Tryz.isAgg153
  z232 := Tryz.sizeOf153
  v232 := Tryz.zeroValue153
  t233 := Tryz.underlying154
  a233 := Tryz.isAgg154
  z233 := Tryz.sizeOf154
  v233 := Tryz.zeroValue154
  g17 := by kernel_rfl
  g18 := by kernel_rfl
  g19 := by kernel_rfl }
open Go.RowKit Go.Sort Go.Lib in
/-- THE ROAD WITHOUT THE TABLE: 0 <= i < 100: NO PREMISE ON THE WORLD, AND THE WORLD IS AS IT WAS: a row that keeps its argument in that range need list no table ('laid = []'). (LAID: no walk: one application.) -/
theorem Tryz.strconv_Itoa_small (i : Nat) (hi : i < 100) (w : World) :
    Calls Tryz.prog 85 #[.int .i64 i] w fun e w' => e = .returned (.string ⟨(Lib.decDigits i).toArray⟩) ∧ w' = w := Any.strconv_Itoa_small Tryz.lays171 i hi w
end Go.Proofs

/-
  DERIVED: THE SHELF's CONTRACTS AT THIS DUMP, IN PLAIN WORDS (tools/lay-plain.mjs out of 'YtaphnkgjcmneoaaGreatDoorShelfU.lean', which tools/lay-shelf.mjs wrote): THE SAME DECLARATIONS UNDER THE SAME NAMES: 'import', 'namespace', 'open', 'def', 'theorem' AND NOTHING ELSE: no command of the shelf's: FOR A HAND-IN. Each laying: the table of numbers ('.._ren') and one theorem, a field a fact of the dump's own or the kernel's comparison; each contract: ONE APPLICATION.
-/
namespace Go.Proofs
open Go.Shelf
def Tryz.laysC172_ren : Go.Shelf.Ren := ⟨fun | 172 => 78 | 244 => 91 | 245 => 92 | 247 => 115 | 279 => 116 | 280 => 117 | 281 => 118 | 282 => 119 | 287 => 134 | 316 => 135 | 171 => 85 | 205 => 136 | 321 => 145 | 322 => 146 | 243 => 99 | 246 => 125 | 283 => 140 | 284 => 141 | 285 => 142 | 286 => 143 | 129 => 110 | 317 => 148 | 318 => 149 | 319 => 150 | 320 => 151 | 337 => 152 | 338 => 153 | n => n, fun | 9 => 9 | 3 => 3 | 75 => 83 | 76 => 84 | 4 => 4 | 5 => 5 | 167 => 109 | 37 => 22 | 0 => 0 | 85 => 110 | 2 => 2 | 168 => 112 | 53 => 47 | 175 => 125 | 46 => 92 | 210 => 129 | 127 => 142 | 145 => 145 | 143 => 143 | 21 => 21 | 171 => 133 | 173 => 135 | 212 => 147 | 51 => 106 | 20 => 20 | 213 => 148 | 232 => 153 | 233 => 154 | 80 => 155 | n => n, fun | 15 => 1 | 16 => 2 | 17 => 3 | 18 => 6 | 19 => 7 | n => n⟩
theorem Tryz.laysC172 : Go.Proofs.LaysC.n172 Tryz.prog Tryz.laysC172_ren := {
  mixed := by kernel_rfl
  f129 := Tryz.func110.trans (congrArg some (by kernel_rfl))
  f171 := Tryz.func85.trans (congrArg some (by kernel_rfl))
  f172 := Tryz.func78.trans (congrArg some (by kernel_rfl))
  f205 := Tryz.func136.trans (congrArg some (by kernel_rfl))
  f243 := Tryz.func99.trans (congrArg some (by kernel_rfl))
  f244 := Tryz.func91.trans (congrArg some (by kernel_rfl))
  f245 := Tryz.func92.trans (congrArg some (by kernel_rfl))
  f246 := Tryz.func125.trans (congrArg some (by kernel_rfl))
  f247 := Tryz.func115.trans (congrArg some (by kernel_rfl))
  f279 := Tryz.func116.trans (congrArg some (by kernel_rfl))
  f280 := Tryz.func117.trans (congrArg some (by kernel_rfl))
  f281 := Tryz.func118.trans (congrArg some (by kernel_rfl))
  f282 := Tryz.func119.trans (congrArg some (by kernel_rfl))
  f283 := Tryz.func140.trans (congrArg some (by kernel_rfl))
  f284 := Tryz.func141.trans (congrArg some (by kernel_rfl))
  f285 := Tryz.func142.trans (congrArg some (by kernel_rfl))
  f286 := Tryz.func143.trans (congrArg some (by kernel_rfl))
  f287 := Tryz.func134.trans (congrArg some (by kernel_rfl))
  f316 := Tryz.func135.trans (congrArg some (by kernel_rfl))
  f317 := Tryz.func148.trans (congrArg some (by kernel_rfl))
  f318 := Tryz.func149.trans (congrArg some (by kernel_rfl))
  f319 := Tryz.func150.trans (congrArg some (by kernel_rfl))
  f320 := Tryz.func151.trans (congrArg some (by kernel_rfl))
  f321 := Tryz.func145.trans (congrArg some (by kernel_rfl))
  f322 := Tryz.func146.trans (congrArg some (by kernel_rfl))
  f337 := Tryz.func152.trans (congrArg some (by kernel_rfl))
  f338 := Tryz.func153.trans (congrArg some (by kernel_rfl))
  t0 := Tryz.underlying0
  a0 := Tryz.isAgg0
  z0 := Tryz.sizeOf0
  v0 := Tryz.zeroValue0
  t2 := Tryz.underlying2
  a2 := Tryz.isAgg2
  z2 := Tryz.sizeOf2
  v2 := Tryz.zeroValue2
  t3 := Tryz.underlying3
  a3 := Tryz.isAgg3
  z3 := Tryz.sizeOf3
  v3 := Tryz.zeroValue3
  t4 := Tryz.underlying4
  a4 := Tryz.isAgg4
  z4 := Tryz.sizeOf4
  v4 := Tryz.zeroValue4
  t5 := Tryz.underlying5
  a5 := Tryz.isAgg5
  z5 := Tryz.sizeOf5
  v5 := Tryz.zeroValue5
  t9 := Tryz.underlying9
  a9 := Tryz.isAgg9
  z9 := Tryz.sizeOf9
  v9 := Tryz.zeroValue9
  t20 := Tryz.underlying20
  a20 := Tryz.isAgg20
  z20 := Tryz.sizeOf20
  v20 := Tryz.zeroValue20
  t21 := Tryz.underlying21
  a21 := Tryz.isAgg21
  z21 := Tryz.sizeOf21
  v21 := Tryz.zeroValue21
  t37 := Tryz.underlying22
  a37 := Tryz.isAgg22
  z37 := Tryz.sizeOf22
  v37 := Tryz.zeroValue22
  t46 := Tryz.underlying92
  a46 := Tryz.isAgg92
  z46 := Tryz.sizeOf92
  v46 := Tryz.zeroValue92
  t51 := Tryz.underlying106
  a51 := Tryz.isAgg106
  z51 := Tryz.sizeOf106
  v51 := Tryz.zeroValue106
  t53 := Tryz.underlying47
  a53 := Tryz.isAgg47
  z53 := Tryz.sizeOf47
  v53 := Tryz.zeroValue47
  t75 := Tryz.underlying83
  a75 := Tryz.isAgg83
  z75 := Tryz.sizeOf83
  v75 := Tryz.zeroValue83
  t76 := Tryz.underlying84
  a76 := Tryz.isAgg84
  z76 := Tryz.sizeOf84
  v76 := Tryz.zeroValue84
  t85 := Tryz.underlying110
  a85 := Tryz.isAgg110
  z85 := Tryz.sizeOf110
  v85 := Tryz.zeroValue110
  t127 := Tryz.underlying142
  a127 := Tryz.isAgg142
  z127 := Tryz.sizeOf142
  v127 := Tryz.zeroValue142
  t143 := Tryz.underlying143
  a143 := Tryz.isAgg143
  z143 := Tryz.sizeOf143
  v143 := Tryz.zeroValue143
  t145 := Tryz.underlying145
  a145 := Tryz.isAgg145
  z145 := Tryz.sizeOf145
  v145 := Tryz.zeroValue145
  t167 := Tryz.underlying109
  a167 := Tryz.isAgg109
  z167 := Tryz.sizeOf109
  v167 := Tryz.zeroValue109
  t168 := Tryz.underlying112
  a168 := Tryz.isAgg112
  z168 := Tryz.sizeOf112
  v168 := Tryz.zeroValue112
  t171 := Tryz.underlying133
  a171 := Tryz.isAgg133
  z171 := Tryz.sizeOf133
  v171 := Tryz.zeroValue133
  t173 := Tryz.underlying135
  a173 := Tryz.isAgg135
  z173 := Tryz.sizeOf135
  v173 := Tryz.zeroValue135
  t175 := Tryz.underlying125
  a175 := Tryz.isAgg125
  z175 := Tryz.sizeOf125
  v175 := Tryz.zeroValue125
  t210 := Tryz.underlying129
  a210 := Tryz.isAgg129
  z210 := Tryz.sizeOf129
  v210 := Tryz.zeroValue129
  t212 := Tryz.underlying147
  a212 := Tryz.isAgg147
  z212 := Tryz.sizeOf147
  v212 := Tryz.zeroValue147
  t213 := Tryz.underlying148
  a213 := Tryz.isAgg148
  z213 := Tryz.sizeOf148
  t232 := Tryz.underlying153
  a232 := Tryz.isAgg153
  z232 := Tryz.sizeOf153
  v232 := Tryz.zeroValue153
  t233 := Tryz.underlying154
  a233 := Tryz.isAgg154
  z233 := Tryz.sizeOf154
  v233 := Tryz.zeroValue154
  g15 := by kernel_rfl
  g16 := by kernel_rfl
  g17 := by kernel_rfl
  g18 := by kernel_rfl
  g19 := by kernel_rfl
  t80 := Tryz.underlying155
  a80 := Tryz.isAgg155
  z80 := Tryz.sizeOf155
  v80 := Tryz.zeroValue155
  i0 := by kernel_rfl
  i2 := by kernel_rfl
  i3 := by kernel_rfl
  i4 := by kernel_rfl
  i5 := by kernel_rfl
  i9 := by kernel_rfl
  i20 := by kernel_rfl
  i21 := by kernel_rfl
  i37 := by kernel_rfl
  i46 := by kernel_rfl
  i51 := by kernel_rfl
  i53 := by kernel_rfl
  i75 := by kernel_rfl
  i76 := by kernel_rfl
  i80 := by kernel_rfl
  i85 := by kernel_rfl
  i127 := by kernel_rfl
  i143 := by kernel_rfl
  i145 := by kernel_rfl
  i167 := by kernel_rfl
  i168 := by kernel_rfl
  i171 := by kernel_rfl
  i173 := by kernel_rfl
  i175 := by kernel_rfl
  i210 := by kernel_rfl
  i212 := by kernel_rfl
  i232 := by kernel_rfl
  i233 := by kernel_rfl
  m15 := by kernel_rfl
  m16 := by kernel_rfl
  m17 := by kernel_rfl
  m18 := by kernel_rfl
  m19 := by kernel_rfl
  c0 := by kernel_rfl
  c2 := by kernel_rfl
  c3 := by kernel_rfl
  c4 := by kernel_rfl
  c5 := by kernel_rfl
  c9 := by kernel_rfl
  c20 := by kernel_rfl
  c21 := by kernel_rfl
  c37 := by kernel_rfl
  c46 := by kernel_rfl
  c51 := by kernel_rfl
  c53 := by kernel_rfl
  c75 := by kernel_rfl
  c76 := by kernel_rfl
  c80 := by kernel_rfl
  c85 := by kernel_rfl
  c127 := by kernel_rfl
  c143 := by kernel_rfl
  c145 := by kernel_rfl
  c167 := by kernel_rfl
  c168 := by kernel_rfl
  c171 := by kernel_rfl
  c173 := by kernel_rfl
  c175 := by kernel_rfl
  c210 := by kernel_rfl
  c212 := by kernel_rfl
  c213 := by kernel_rfl
  c232 := by kernel_rfl
  c233 := by kernel_rfl }
open Go.RowKit in
/-- strconv.Atoi, AT EVERY STRING THAT SPELLS AN int ('Lib.atoiAll .. = .ok v'; of whatever length: leading zeros count): v, AND NO ERROR. The world: as it was, or with the one new row that '[]byte(..)' lays. (LAID: no walk: one application.) -/
theorem Tryz.strconv_Atoi_ok (s : ByteArray) (hmax : s.size ≤ 9223372036854775806) (v : Int) (h : Lib.atoiAll s.data.toList = .ok v) (w : World) :
    Calls Tryz.prog 78 #[.string s] w fun e w' => e = .returned (.tuple #[.int .i64 v, .nilIface]) ∧ (w' = w ∨ ∃ t, w' = Lib.bytesWorld w 5 t) := Any.strconv_Atoi_ok Tryz.laysC172 s hmax v h w
open Go.RowKit in
theorem Tryz.strconv_Atoi_syntax_var (s : ByteArray) (hlim : s.size ≤ 281474976710656) (h : Lib.atoiAll s.data.toList = Lib.atoiAll []) (tp : TypeId) (p : Value) (w : World) (hvar : w.var? Tryz.prog "strconv.ErrSyntax" = some #[.iface tp p]) :
    Calls Tryz.prog 78 #[.string s] w fun e w' => ∃ N, e = .returned (.tuple #[.int .i64 0, .iface 112 (.pointer (some ⟨N, 0, none⟩))]) ∧ w.heap.size ≤ N ∧ w'.heap[N]? = some (.cells #[.string ⟨#[65, 116, 111, 105]⟩, .string s, .iface tp p] 129 (0, 0)) ∧ Below w.heap.size w w' := Any.strconv_Atoi_syntax_var Tryz.laysC172 s hlim h tp p w hvar
open Go.RowKit in
theorem Tryz.strconv_Atoi_range_var (s : ByteArray) (hlim : s.size ≤ 281474976710656) (h : Lib.atoiAll s.data.toList = .range) (tp : TypeId) (p : Value) (w : World) (hvar : w.var? Tryz.prog "strconv.ErrRange" = some #[.iface tp p]) :
    Calls Tryz.prog 78 #[.string s] w fun e w' => ∃ N, e = .returned (.tuple #[.int .i64 (Lib.atoiSat s.data.toList), .iface 112 (.pointer (some ⟨N, 0, none⟩))]) ∧ w.heap.size ≤ N ∧ w'.heap[N]? = some (.cells #[.string ⟨#[65, 116, 111, 105]⟩, .string s, .iface tp p] 129 (0, 0)) ∧ Below w.heap.size w w' := Any.strconv_Atoi_range_var Tryz.laysC172 s hlim h tp p w hvar
def Tryz.lays145_ren : Go.Shelf.Ren := ⟨fun | 145 => 38 | 220 => 77 | 219 => 90 | 217 => 111 | 225 => 112 | 224 => 113 | 267 => 114 | 266 => 132 | 314 => 133 | n => n, fun | 9 => 9 | 4 => 4 | 59 => 60 | 3 => 3 | 5 => 5 | 46 => 92 | 146 => 123 | 51 => 106 | n => n, fun | 1 => 0 | n => n⟩
theorem Tryz.lays145 : Go.Proofs.Lays.n145 Tryz.prog Tryz.lays145_ren := {
  mixed := by kernel_rfl
  f145 := Tryz.func38.trans (congrArg some (by kernel_rfl))
  f217 := Tryz.func111.trans (congrArg some (by kernel_rfl))
  f219 := Tryz.func90.trans (congrArg some (by kernel_rfl))
  f220 := Tryz.func77.trans (congrArg some (by kernel_rfl))
  f224 := Tryz.func113.trans (congrArg some (by kernel_rfl))
  f225 := Tryz.func112.trans (congrArg some (by kernel_rfl))
  f266 := Tryz.func132.trans (congrArg some (by kernel_rfl))
  f267 := Tryz.func114.trans (congrArg some (by kernel_rfl))
  f314 := Tryz.func133.trans (congrArg some (by kernel_rfl))
  t3 := Tryz.underlying3
  a3 := Tryz.isAgg3
  z3 := Tryz.sizeOf3
  v3 := Tryz.zeroValue3
  t4 := Tryz.underlying4
  a4 := Tryz.isAgg4
  z4 := Tryz.sizeOf4
  v4 := Tryz.zeroValue4
  t5 := Tryz.underlying5
  a5 := Tryz.isAgg5
  z5 := Tryz.sizeOf5
  v5 := Tryz.zeroValue5
  t9 := Tryz.underlying9
  a9 := Tryz.isAgg9
  z9 := Tryz.sizeOf9
  v9 := Tryz.zeroValue9
  t46 := Tryz.underlying92
  a46 := Tryz.isAgg92
  z46 := Tryz.sizeOf92
  v46 := Tryz.zeroValue92
  t51 := Tryz.underlying106
  a51 := Tryz.isAgg106
  z51 := Tryz.sizeOf106
  v51 := Tryz.zeroValue106
  t59 := Tryz.underlying60
  a59 := Tryz.isAgg60
  z59 := Tryz.sizeOf60
  v59 := Tryz.zeroValue60
  t146 := Tryz.underlying123
  a146 := Tryz.isAgg123
  z146 := Tryz.sizeOf123
  v146 := Tryz.zeroValue123
  g1 := by kernel_rfl }
open Go.RowKit Go.Lib in
/-- strings.Cut: "Cut slices s around the first instance of sep, returning the text before and after sep. The found result reports whether sep appears in s. If sep does not appear in s, cut returns s, "", false.": IT RETURNS 'Lib.cut s sep'; the world is as it was but for the count of draws. (LAID: no walk: one application.) -/
theorem Tryz.strings_Cut (s sep : ByteArray) (m : Int) (w : World) (hs : s.size < 4294967281) (hm : w.cell? ⟨0, 0, none⟩ = some (.int .i64 m)) :
    Calls Tryz.prog 38 #[.string s, .string sep] w fun e w' => e = .returned (.tuple #[.string ⟨(Lib.cut s.data.toList sep.data.toList).1.toArray⟩, .string ⟨(Lib.cut s.data.toList sep.data.toList).2.1.toArray⟩, .bool (Lib.cut s.data.toList sep.data.toList).2.2]) ∧ ∃ n, w' = w.drewN n := Any.strings_Cut Tryz.lays145 s sep m w hs hm
def Tryz.laysM145_ren : Go.Shelf.Ren := ⟨fun | 145 => 38 | 220 => 77 | 219 => 90 | 217 => 111 | 225 => 112 | 224 => 113 | 267 => 114 | 266 => 132 | 314 => 133 | n => n, fun | 9 => 9 | 4 => 4 | 59 => 60 | 3 => 3 | 5 => 5 | 46 => 92 | 146 => 123 | 51 => 106 | n => n, fun | 1 => 0 | n => n⟩
theorem Tryz.laysM145 : Go.Proofs.LaysM.n145 Tryz.prog Tryz.laysM145_ren := {
  mixed := by kernel_rfl
  f145 := Tryz.func38.trans (congrArg some (by kernel_rfl))
  f217 := Tryz.func111.trans (congrArg some (by kernel_rfl))
  f219 := Tryz.func90.trans (congrArg some (by kernel_rfl))
  f220 := Tryz.func77.trans (congrArg some (by kernel_rfl))
  f224 := Tryz.func113.trans (congrArg some (by kernel_rfl))
  f225 := Tryz.func112.trans (congrArg some (by kernel_rfl))
  f266 := Tryz.func132.trans (congrArg some (by kernel_rfl))
  f267 := Tryz.func114.trans (congrArg some (by kernel_rfl))
  f314 := Tryz.func133.trans (congrArg some (by kernel_rfl))
  t3 := Tryz.underlying3
  a3 := Tryz.isAgg3
  z3 := Tryz.sizeOf3
  v3 := Tryz.zeroValue3
  t4 := Tryz.underlying4
  a4 := Tryz.isAgg4
  z4 := Tryz.sizeOf4
  v4 := Tryz.zeroValue4
  t5 := Tryz.underlying5
  a5 := Tryz.isAgg5
  z5 := Tryz.sizeOf5
  v5 := Tryz.zeroValue5
  t9 := Tryz.underlying9
  a9 := Tryz.isAgg9
  z9 := Tryz.sizeOf9
  v9 := Tryz.zeroValue9
  t46 := Tryz.underlying92
  a46 := Tryz.isAgg92
  z46 := Tryz.sizeOf92
  v46 := Tryz.zeroValue92
  t51 := Tryz.underlying106
  a51 := Tryz.isAgg106
  z51 := Tryz.sizeOf106
  v51 := Tryz.zeroValue106
  t59 := Tryz.underlying60
  a59 := Tryz.isAgg60
  z59 := Tryz.sizeOf60
  v59 := Tryz.zeroValue60
  t146 := Tryz.underlying123
  a146 := Tryz.isAgg123
  z146 := Tryz.sizeOf123
  v146 := Tryz.zeroValue123
  g1 := by kernel_rfl
  i3 := by kernel_rfl
  i4 := by kernel_rfl
  i5 := by kernel_rfl
  i9 := by kernel_rfl
  i46 := by kernel_rfl
  i51 := by kernel_rfl
  i59 := by kernel_rfl
  i146 := by kernel_rfl
  m1 := by kernel_rfl
  s1_3 := fun w h => Go.Proofs.cell_of_shapedOpen_int (zero := #[.int .i64 0]) (t := 3) h (of_decide_eq_true (by kernel_rfl)) (by kernel_rfl) rfl (by kernel_rfl) (by kernel_rfl) Tryz.underlying3 }
open Go.RowKit Go.Lib in
theorem Tryz.strings_Cut_shaped (s sep : ByteArray) (w : World) (h : w.ShapedOpen Tryz.prog) (hs : s.size < 4294967281) :
    Calls Tryz.prog 38 #[.string s, .string sep] w fun e w' => e = .returned (.tuple #[.string ⟨(Lib.cut s.data.toList sep.data.toList).1.toArray⟩, .string ⟨(Lib.cut s.data.toList sep.data.toList).2.1.toArray⟩, .bool (Lib.cut s.data.toList sep.data.toList).2.2]) ∧ ∃ n, w' = w.drewN n := Any.strings_Cut_shaped Tryz.laysM145 s sep w h hs
end Go.Proofs

/- Words that serve every walk of this seat: a world that keeps all that another has, values that read as lists of ints, memory of one's own as a list of rows. -/
namespace Go.Proofs.YtaphnkgjcmneoaaGreatDoor
open Go.RowKit

theorem hid {p : Prop} (h : p) : Hid p := h

/-- w' has all that w has, unchanged. -/
class Ext (w w' : World) : Prop where
  below : Below w.heap.size w w'

instance Ext.refl (w : World) : Ext w w := ⟨Below.refl _ _⟩
instance Ext.alloc (a w : World) (o : Obj) [h : Ext a w] : Ext a (w.alloc o) := ⟨h.below.alloc h.below.size o⟩
instance Ext.drew (a w : World) [h : Ext a w] : Ext a w.drew := ⟨h.below.drew⟩
instance Ext.drewN (a w : World) (n : Nat) [h : Ext a w] : Ext a (w.drewN n) :=
  ⟨h.below.os, h.below.tape, h.below.output, h.below.size, h.below.block⟩
theorem Ext.trans {a b c : World} (h : Ext a b) (k : Ext b c) : Ext a c :=
  ⟨h.below.trans (k.below.mono h.below.size)⟩
theorem Ext.size {a b : World} (h : Ext a b) : a.heap.size ≤ b.heap.size := h.below.size
theorem Ext.cell {a b : World} (h : Ext a b) {p : Addr} {v : Value} (hv : a.cell? p = some v) : b.cell? p = some v :=
  (h.below.cell (World.block_lt_of_cell? a _ hv)).trans hv
theorem Ext.frozen {a b : World} (h : Ext a b) {p : Addr} {v : Value} (hv : a.cell? p = some v) {x : Bool} (hf : a.frozen? p = x) : b.frozen? p = x :=
  (h.below.frozen (World.block_lt_of_cell? a _ hv)).trans hf
theorem Ext.cells {a b : World} (h : Ext a b) : ∀ k o, k < a.heap.size → b.cell? ⟨k, o, none⟩ = a.cell? ⟨k, o, none⟩ :=
  fun k o hk => h.below.cell (p := ⟨k, o, none⟩) hk
theorem Ext.frozens {a b : World} (h : Ext a b) : ∀ k o, k < a.heap.size → b.frozen? ⟨k, o, none⟩ = a.frozen? ⟨k, o, none⟩ :=
  fun k o hk => h.below.frozen (p := ⟨k, o, none⟩) hk

/-- w' is w behind some draws. -/
def Drew (w w' : World) : Prop := ∃ m, w' = w.drewN m
theorem Drew.refl (w : World) : Drew w w := ⟨0, rfl⟩
theorem Drew.step {a b : World} (h : Drew a b) (n : Nat) : Drew a (b.drewN n) := by
  obtain ⟨m, rfl⟩ := h
  exact ⟨m + n, by rw [World.drewN_drewN]⟩
theorem Drew.trans {a b c : World} (h : Drew a b) (k : Drew b c) : Drew a c := by
  obtain ⟨n, rfl⟩ := k
  exact h.step n
theorem Drew.ext {a b : World} (h : Drew a b) : Ext a b := by
  obtain ⟨m, rfl⟩ := h
  infer_instance

/-- an int of 64 bits -/
def I64 (x : Int) : Prop := -9223372036854775808 ≤ x ∧ x ≤ 9223372036854775807

def nth (xs : List Int) (k : Nat) : Int := xs.getD k 0
def row (xss : List (List Int)) (k : Nat) : List Int := xss.getD k []

theorem nth_mem {xs : List Int} {k : Nat} (h : k < xs.length) : nth xs k ∈ xs := by
  simp [nth, h]
theorem row_mem {xss : List (List Int)} {k : Nat} (h : k < xss.length) : row xss k ∈ xss := by
  simp [row, h]
theorem mem_iff_nth {xs : List Int} {x : Int} : x ∈ xs ↔ ∃ k, k < xs.length ∧ nth xs k = x := by
  rw [List.mem_iff_getElem]
  constructor
  · rintro ⟨k, h, rfl⟩; exact ⟨k, h, by simp [nth, h]⟩
  · rintro ⟨k, h, rfl⟩; exact ⟨k, h, by simp [nth, h]⟩
theorem mem_iff_row {xs : List (List Int)} {x : List Int} : x ∈ xs ↔ ∃ k, k < xs.length ∧ row xs k = x := by
  rw [List.mem_iff_getElem]
  constructor
  · rintro ⟨k, h, rfl⟩; exact ⟨k, h, by simp [row, h]⟩
  · rintro ⟨k, h, rfl⟩; exact ⟨k, h, by simp [row, h]⟩
theorem take_succ_nth {xs : List Int} {k : Nat} (h : k < xs.length) : xs.take (k + 1) = xs.take k ++ [nth xs k] := by
  rw [List.take_succ_eq_append_getElem h]
  simp [nth, h]
theorem take_succ_row {xs : List (List Int)} {k : Nat} (h : k < xs.length) : xs.take (k + 1) = xs.take k ++ [row xs k] := by
  rw [List.take_succ_eq_append_getElem h]
  simp [row, h]
theorem eq_of_nth {xs ys : List Int} (hl : xs.length = ys.length) (h : ∀ j, j < xs.length → nth xs j = nth ys j) : xs = ys := by
  apply List.ext_getElem hl
  intro i h1 h2
  have := h i h1
  simpa [nth, h1, h2] using this
theorem eq_of_row {xs ys : List (List Int)} (hl : xs.length = ys.length) (h : ∀ j, j < xs.length → row xs j = row ys j) : xs = ys := by
  apply List.ext_getElem hl
  intro i h1 h2
  have := h i h1
  simpa [row, h1, h2] using this

/-- the bound on a length: what 2^47 bytes hold of ints -/
def Short (n : Nat) : Prop := n ≤ 17592186044415
def ShortRows (n : Nat) : Prop := n ≤ 5864062014804
theorem Short.le {n : Nat} (h : Short n) : n ≤ 17592186044415 := h

/-- The value v reads as the ints xs in w. -/
def IsInts (w : World) (v : Value) (xs : List Int) : Prop :=
  ∃ a c, v = .slice a xs.length c ∧ (Short xs.length ∧ xs.length ≤ c) ∧ (∀ x ∈ xs, I64 x) ∧
    ∀ j, j < xs.length → ∃ b o, a = some ⟨b, o, none⟩ ∧ w.cell? ⟨b, o + j, none⟩ = some (.int .i64 (nth xs j))

theorem IsInts.ext {w w' : World} {v : Value} {xs : List Int} (h : IsInts w v xs) [e : Ext w w'] : IsInts w' v xs := by
  obtain ⟨a, c, h1, h2, h3, h4⟩ := h
  refine ⟨a, c, h1, h2, h3, fun j hj => ?_⟩
  obtain ⟨b, o, h5, h6⟩ := h4 j hj
  exact ⟨b, o, h5, e.cell h6⟩
theorem IsInts.form {w : World} {v : Value} {xs : List Int} (h : IsInts w v xs) : ∃ a c, v = .slice a xs.length c ∧ xs.length ≤ 17592186044415 := by
  obtain ⟨a, c, h1, h2, _⟩ := h
  exact ⟨a, c, h1, h2.1⟩
theorem IsInts.cap {w : World} {a : Option Addr} {n c : Nat} {xs : List Int} (h : IsInts w (.slice a n c) xs) : xs.length ≤ c := by
  obtain ⟨a', c', h1, h2, _⟩ := h
  cases h1
  exact h2.2
theorem IsInts.at {w w' : World} {a : Option Addr} {n c : Nat} {xs : List Int} (h : IsInts w (.slice a n c) xs) [e : Ext w w'] {k : Nat} (hk : k < xs.length) :
    ∃ b o, a = some ⟨b, o, none⟩ ∧ w'.cell? ⟨b, o + k, none⟩ = some (.int .i64 (nth xs k)) := by
  obtain ⟨a', c', h1, h2, h3, h4⟩ := h
  obtain ⟨b, o, h5, h6⟩ := h4 k hk
  cases h1
  exact ⟨b, o, h5, e.cell h6⟩
theorem IsInts.len {w : World} {a : Option Addr} {n c : Nat} {xs : List Int} (h : IsInts w (.slice a n c) xs) : n = xs.length := by
  obtain ⟨a', c', h1, _⟩ := h; cases h1; rfl
theorem IsInts.i64 {w : World} {v : Value} {xs : List Int} (h : IsInts w v xs) {k : Nat} (hk : k < xs.length) : I64 (nth xs k) := by
  obtain ⟨a', c', _, _, h3, _⟩ := h
  exact h3 _ (nth_mem hk)
theorem IsInts.nil (w : World) : IsInts w (.slice none 0 0) [] := ⟨none, 0, rfl, ⟨Nat.zero_le _, Nat.le_refl _⟩, by simp, fun j hj => by simp at hj⟩

/-- The value v reads as the rows of ints xss in w. -/
def IsRows (w : World) (v : Value) (xss : List (List Int)) : Prop :=
  ∃ a c, v = .slice a xss.length c ∧ ShortRows xss.length ∧
    ∀ j, j < xss.length → ∃ b o u, a = some ⟨b, o, none⟩ ∧ w.cell? ⟨b, o + j, none⟩ = some u ∧ IsInts w u (row xss j)

theorem IsRows.ext {w w' : World} {v : Value} {xss : List (List Int)} (h : IsRows w v xss) [e : Ext w w'] : IsRows w' v xss := by
  obtain ⟨a, c, h1, h2, h4⟩ := h
  refine ⟨a, c, h1, h2, fun j hj => ?_⟩
  obtain ⟨b, o, u, h5, h6, h7⟩ := h4 j hj
  exact ⟨b, o, u, h5, e.cell h6, h7.ext⟩
theorem IsRows.form {w : World} {v : Value} {xss : List (List Int)} (h : IsRows w v xss) : ∃ a c, v = .slice a xss.length c ∧ xss.length ≤ 5864062014804 := by
  obtain ⟨a, c, h1, h2, _⟩ := h
  exact ⟨a, c, h1, h2⟩
theorem IsRows.at {w w' : World} {a : Option Addr} {n c : Nat} {xss : List (List Int)} (h : IsRows w (.slice a n c) xss) [e : Ext w w'] {k : Nat} (hk : k < xss.length) :
    ∃ b o d m, a = some ⟨b, o, none⟩ ∧ w'.cell? ⟨b, o + k, none⟩ = some (.slice d (row xss k).length m) ∧ IsInts w (.slice d (row xss k).length m) (row xss k) ∧ (row xss k).length ≤ 17592186044415 := by
  obtain ⟨a', c', h1, h2, h4⟩ := h
  obtain ⟨b, o, u, h5, h6, h7⟩ := h4 k hk
  cases h1
  obtain ⟨d, m, rfl, hs⟩ := h7.form
  exact ⟨b, o, d, m, h5, e.cell h6, h7, hs⟩
theorem IsRows.nil (w : World) : IsRows w (.slice none 0 0) [] := ⟨none, 0, rfl, Nat.zero_le _, fun j hj => by simp at hj⟩

theorem IsRows.all {w : World} {v : Value} {M : List (List Int)} (h : IsRows w v M) : ShortRows M.length ∧ (∀ r ∈ M, Short r.length) ∧ ∀ r ∈ M, ∀ x ∈ r, I64 x := by
  obtain ⟨a, c, _, h2, h4⟩ := h
  refine ⟨h2, fun r hr => ?_, fun r hr => ?_⟩
  all_goals
    obtain ⟨k, hk, rfl⟩ := mem_iff_row.1 hr
    obtain ⟨_, _, _, _, _, a', c', _, h5, h6, _⟩ := h4 k hk
  · exact h5.1
  · exact h6

/-- A row of one's own: element type, cells of an element, the slice value, its length, its cells. -/
structure Row where
  e : Nat
  z : Nat
  v : Value
  n : Nat
  cs : List Value

/-- The rows lie from block B on in w, each in a block of its own. -/
def Own (w : World) (B : Nat) (R : List Row) : Prop :=
  (∀ r ∈ R, w.ownsRow B r.e r.z r.v r.n r.cs) ∧ R.Pairwise (fun r s => r.v.ownBlock = none ∨ r.v.ownBlock ≠ s.v.ownBlock)

abbrev intRowOf (e : Nat) (v : Value) (xs : List Int) : Row := ⟨e, 1, v, xs.length, xs.map (Value.int .i64)⟩
abbrev valRowOf (e : Nat) (v : Value) (vs : List Value) : Row := ⟨e, 1, v, vs.length, vs⟩

theorem Own.nil (w : World) (B : Nat) : Own w B [] := ⟨by simp, List.Pairwise.nil⟩

theorem ownBlock_lt {w : World} {B e z n : Nat} {v : Value} {cs : List Value} (h : w.ownsRow B e z v n cs) {k : Nat} (hk : v.ownBlock = some k) : B ≤ k ∧ k < w.heap.size :=
  h.lt k hk

theorem ownsRow_same {w w' : World} {B e z n : Nat} {v : Value} {cs : List Value} (h : w.ownsRow B e z v n cs)
    (hs : ∀ k, v.ownBlock = some k → w'.heap[k]? = w.heap[k]?) : w'.ownsRow B e z v n cs := by
  refine ⟨h.1, ?_⟩
  rcases h.2 with hn | ⟨g, cap, cur, rfl, hb, hgg, rest⟩
  · exact .inl hn
  · exact .inr ⟨g, cap, cur, rfl, hb, by rw [hs g rfl]; exact hgg, rest⟩

theorem ownsRow_mono {w : World} {B B' e z n : Nat} {v : Value} {cs : List Value} (h : w.ownsRow B e z v n cs) (hB : B' ≤ B) : w.ownsRow B' e z v n cs := by
  refine ⟨h.1, ?_⟩
  rcases h.2 with hn | ⟨g, cap, cur, rfl, hb, rest⟩
  · exact .inl hn
  · exact .inr ⟨g, cap, cur, rfl, Nat.le_trans hB hb, rest⟩

theorem Own.same {w w' : World} {B : Nat} {R : List Row} (h : Own w B R) (hs : ∀ k, B ≤ k → k < w.heap.size → w'.heap[k]? = w.heap[k]?) : Own w' B R :=
  ⟨fun r hr => ownsRow_same (h.1 r hr) (fun k hk => by
    have := (h.1 r hr).lt k hk
    exact hs k this.1 this.2), h.2⟩

theorem Own.ext {w w' : World} {B : Nat} {R : List Row} (h : Own w B R) [e : Ext w w'] : Own w' B R :=
  h.same fun k _ hk => e.below.block k hk

theorem Own.mono {w : World} {B B' : Nat} {R : List Row} (h : Own w B R) (hB : B' ≤ B) : Own w B' R :=
  ⟨fun r hr => ownsRow_mono (h.1 r hr) hB, h.2⟩

theorem Own.perm {w : World} {B : Nat} {R S : List Row} (h : Own w B R) (p : S.Perm R) : Own w B S :=
  ⟨fun r hr => h.1 r (p.mem_iff.1 hr), by
    refine h.2.perm p.symm (fun {x y} hxy => ?_)
    rcases hxy with hxy | hxy
    · by_cases hy : y.v.ownBlock = none
      · exact .inl hy
      · exact .inr (by rw [hxy]; exact hy)
    · exact .inr (fun e => hxy e.symm)⟩

theorem Own.sub {w : World} {B : Nat} {R S : List Row} (h : Own w B R) (p : S.Sublist R) : Own w B S :=
  ⟨fun r hr => h.1 r (p.subset hr), h.2.sublist p⟩

theorem Own.tail {w : World} {B : Nat} {r : Row} {R : List Row} (h : Own w B (r :: R)) : Own w B R := h.sub (List.sublist_cons_self _ _)
theorem Own.head {w : World} {B : Nat} {r : Row} {R : List Row} (h : Own w B (r :: R)) : w.ownsRow B r.e r.z r.v r.n r.cs := h.1 r (by simp)
theorem Own.left {w : World} {B : Nat} {R S : List Row} (h : Own w B (R ++ S)) : Own w B R := h.sub (List.sublist_append_left _ _)
theorem Own.right {w : World} {B : Nat} {R S : List Row} (h : Own w B (R ++ S)) : Own w B S := h.sub (List.sublist_append_right _ _)
theorem Own.swap {w : World} {B : Nat} {R S : List Row} (h : Own w B (R ++ S)) : Own w B (S ++ R) := h.perm List.perm_append_comm

/-- What a callee has made joins what was owned before. -/
theorem Own.join {w w' : World} {B : Nat} {R S : List Row} (h : Own w B R) (hn : Own w' w.heap.size S) [e : Ext w w'] (hB : B ≤ w.heap.size) : Own w' B (S ++ R) := by
  have h' : Own w' B R := h.ext
  refine ⟨fun r hr => ?_, List.pairwise_append.2 ⟨hn.2, h'.2, fun s hs r hr => ?_⟩⟩
  · rcases List.mem_append.1 hr with hr | hr
    · exact ownsRow_mono (hn.1 r hr) hB
    · exact h'.1 r hr
  · cases hb : s.v.ownBlock with
    | none => exact .inl rfl
    | some k =>
      refine .inr fun e' => ?_
      have h1 := (hn.1 s hs).lt k hb
      have h2 := (h.1 r hr).lt k e'.symm
      omega

/-- A new row, written out. -/
theorem Own.lit {w : World} {B : Nat} {R : List Row} (h : Own w B R) (e z n : Nat) (cs : Array Value) (hB : B ≤ w.heap.size) (hm : n ≤ maxLen) (hs : cs.size = n * z) :
    Own (w.alloc (.cells cs e)) B (⟨e, z, .slice (some ⟨w.heap.size, 0, none⟩) n n, n, cs.toList⟩ :: R) := by
  have h' : Own (w.alloc (.cells cs e)) B R := h.ext
  refine ⟨fun r hr => ?_, List.pairwise_cons.2 ⟨fun r hr => .inr fun e' => ?_, h'.2⟩⟩
  · rcases List.mem_cons.1 hr with rfl | hr
    · exact World.ownsRow_lit w cs n hB hm hs
    · exact h'.1 r hr
  · have := (h.1 r hr).lt w.heap.size e'.symm
    omega

theorem Own.litInts {W : World} {B k e n : Nat} {cs : Array Value} {xs : List Int} (hB : B ≤ W.heap.size) (hk : k = W.heap.size) (h : cs.toList = xs.map (Value.int .i64)) (hs : xs.length ≤ 1000000) (hn : n = xs.length) :
    Own (W.alloc (.cells cs e)) B [intRowOf e (.slice (some ⟨k, 0, none⟩) xs.length n) xs] := by
  subst hk
  subst hn
  have hl : cs.size = xs.length * 1 := by rw [← Array.length_toList, h]; simp
  have := (Own.nil W B).lit e 1 xs.length cs hB (by unfold maxLen; omega) hl
  rw [h] at this
  exact this

theorem Own.cons_nil {w : World} {B : Nat} {R : List Row} (h : Own w B R) (e z : Nat) : Own w B (⟨e, z, .slice none 0 0, 0, []⟩ :: R) :=
  ⟨fun r hr => by
    rcases List.mem_cons.1 hr with rfl | hr
    · exact World.ownsRow_nil w B e z
    · exact h.1 r hr, List.pairwise_cons.2 ⟨fun r _ => .inl rfl, h.2⟩⟩

/-- One row is written anew, or laid elsewhere; the others stay. -/
theorem Own.turn {w w' : World} {B : Nat} {r : Row} {R : List Row} (h : Own w B (r :: R)) {r' : Row} (hr' : w'.ownsRow B r'.e r'.z r'.v r'.n r'.cs)
    (hg : w.grownBy w' r.v.ownBlock) (hb : r'.v.ownBlock = r.v.ownBlock ∨ ∀ k, r'.v.ownBlock = some k → w.heap.size ≤ k) : Own w' B (r' :: R) := by
  have hp := List.pairwise_cons.1 h.2
  have keep : ∀ s ∈ R, w'.ownsRow B s.e s.z s.v s.n s.cs := fun s hs => ownsRow_same (h.1 s (by simp [hs])) fun k hk => by
    have hlt := (h.1 s (by simp [hs])).lt k hk
    refine hg.block k hlt.2 fun e' => ?_
    rcases hp.1 s hs with h1 | h1
    · rw [h1] at e'; cases e'
    · exact h1 (e'.symm.trans hk.symm)
  refine ⟨fun s hs => ?_, List.pairwise_cons.2 ⟨fun s hs => ?_, hp.2⟩⟩
  · rcases List.mem_cons.1 hs with rfl | hs
    · exact hr'
    · exact keep s hs
  · rcases hb with hb | hb
    · rw [hb]; exact hp.1 s hs
    · cases hk : r'.v.ownBlock with
      | none => exact .inl rfl
      | some k =>
        refine .inr fun e' => ?_
        have h1 := hb k hk
        have h2 := (h.1 s (by simp [hs])).lt k e'.symm
        omega

theorem below_of_grown {w w' : World} {B e z n : Nat} {v : Value} {cs : List Value} (h : w.ownsRow B e z v n cs) (hg : w.grownBy w' v.ownBlock) (hB : B ≤ w.heap.size) : Below B w w' :=
  (Below.refl B w).grown hg hB fun k hk => (h.lt k hk).1

/-- The form of an owned value. -/
theorem Own.form {w : World} {B : Nat} {r : Row} {R : List Row} (h : Own w B (r :: R)) : ∃ a c, r.v = .slice a r.n c := by
  rcases h.head.2 with ⟨h1, h2⟩ | ⟨g, cap, cur, hv, _⟩
  · exact ⟨none, 0, by rw [h1, h2]⟩
  · exact ⟨_, cap, hv⟩

theorem Own.reads {w : World} {B e : Nat} {v : Value} {xs : List Int} {R : List Row} (h : Own w B (intRowOf e v xs :: R)) (hs : Short xs.length) (hi : ∀ x ∈ xs, I64 x) : IsInts w v xs := by
  rcases h.head.2 with ⟨h1, h2⟩ | ⟨g, cap, cur, hv, hb, hg, hc, hm, hz, ht⟩
  · have hx : xs = [] := List.eq_nil_of_length_eq_zero h2
    subst hx
    have h1' : v = .slice none 0 0 := h1
    rw [h1']; exact IsInts.nil w
  · have hv' : v = .slice (some ⟨g, 0, none⟩) xs.length cap := hv
    refine ⟨_, cap, hv', ⟨hs, hc⟩, hi, fun j hj => ⟨g, 0, rfl, ?_⟩⟩
    have ho := h.head
    simp only [hv'] at ho
    have := ho.cellAt (0 + j) (by omega)
    rw [this]
    simp [nth, hj]

theorem Own.readsRows {w : World} {B e : Nat} {v : Value} {vs : List Value} {xss : List (List Int)} {R : List Row} (h : Own w B (valRowOf e v vs :: R)) (hs : ShortRows xss.length) (hl : vs.length = xss.length)
    (hi : ∀ j, j < xss.length → IsInts w (vs.getD j undef) (row xss j)) : IsRows w v xss := by
  rcases h.head.2 with ⟨h1, h2⟩ | ⟨g, cap, cur, hv, hb, hg, hc, hm, hz, ht⟩
  · have h2' : vs.length = 0 := h2
    have hx : xss = [] := List.eq_nil_of_length_eq_zero (by omega)
    subst hx
    have h1' : v = .slice none 0 0 := h1
    rw [h1']; exact IsRows.nil w
  · have hv' : v = .slice (some ⟨g, 0, none⟩) vs.length cap := hv
    refine ⟨_, cap, by rw [hv', hl], hs, fun j hj => ⟨g, 0, vs.getD j undef, rfl, ?_, hi j hj⟩⟩
    have ho := h.head
    simp only [hv'] at ho
    have := ho.cellAt (0 + j) (by omega)
    rw [this]
    have hj' : j < vs.length := by omega
    simp [hj']

theorem Own.cellAt {w w' : World} {B e g n c : Nat} {cs : List Value} {R : List Row} (h : Own w B (⟨e, 1, .slice (some ⟨g, 0, none⟩) n c, n, cs⟩ :: R)) [x : Ext w w'] {j : Nat} (hj : j < n) :
    w'.cell? ⟨g, j, none⟩ = some (cs.getD j undef) := by
  have h1 := h.head.cellAt j (by simpa using hj)
  have h2 : cs.length = n * 1 := h.head.1
  refine x.cell ?_
  rw [h1]
  have h3 : j < cs.length := by omega
  simp [h3]
theorem Own.frozenAt {w : World} {B e g n c : Nat} {cs : List Value} {R : List Row} (h : Own w B (⟨e, 1, .slice (some ⟨g, 0, none⟩) n c, n, cs⟩ :: R)) (j : Nat) :
    w.frozen? ⟨g, j, none⟩ = false := h.head.frozenAt j
theorem Own.set {w : World} {B e g n c : Nat} {cs : List Value} {R : List Row} (h : Own w B (⟨e, 1, .slice (some ⟨g, 0, none⟩) n c, n, cs⟩ :: R)) (j : Nat) (u : Value) :
    Own (w.setCell ⟨g, j, none⟩ u) B (⟨e, 1, .slice (some ⟨g, 0, none⟩) n c, n, cs.set j u⟩ :: R) :=
  h.turn (h.head.stored j u).1 (h.head.stored j u).2 (.inl rfl)
theorem Own.lt {w : World} {B e g n c : Nat} {cs : List Value} {R : List Row} (h : Own w B (⟨e, 1, .slice (some ⟨g, 0, none⟩) n c, n, cs⟩ :: R)) : B ≤ g ∧ g < w.heap.size :=
  h.head.lt g rfl
theorem Ext.set {a w : World} [h : Ext a w] {p : Addr} (hp : a.heap.size ≤ p.block) (u : Value) : Ext a (w.setCell p u) := ⟨h.below.setCell hp u⟩
theorem Own.at {w : World} {B e n c : Nat} {a : Option Addr} {cs : List Value} {R : List Row} (h : Own w B (⟨e, 1, .slice a n c, n, cs⟩ :: R)) {j : Nat} (hj : j < n) : ∃ g, a = some ⟨g, 0, none⟩ := by
  rcases h.head.2 with ⟨h1, h2⟩ | ⟨g, cap, cur, hv, _⟩
  · have : n = 0 := h2
    omega
  · have hv' : (Value.slice a n c) = .slice (some ⟨g, 0, none⟩) n cap := hv
    simp only [Value.slice.injEq] at hv'
    exact ⟨g, hv'.1⟩

theorem Own.setBelow {w : World} {B : Nat} {R : List Row} (h : Own w B R) {p : Addr} (hp : p.block < B) (u : Value) : Own (w.setCell p u) B R :=
  h.same fun k hk _ => Below.heap_setCell _ _ _ _ (by omega)
theorem perm_set {α : Type} : ∀ (l : List α) (j : Nat) (x : α), j < l.length → (l.set j x).Perm (x :: l.eraseIdx j)
  | [], j, x, h => by simp at h
  | a :: l, 0, x, _ => by simp
  | a :: l, j + 1, x, h => by
    simp only [List.set_cons_succ, List.eraseIdx_cons_succ]
    exact ((perm_set l j x (by simpa using h)).cons a).trans (List.Perm.swap _ _ _)
theorem Own.pick {w : World} {B : Nat} {R : List Row} (h : Own w B R) {j : Nat} {r : Row} (hr : R[j]? = some r) : Own w B (r :: R.eraseIdx j) := by
  obtain ⟨hj, rfl⟩ := List.getElem?_eq_some_iff.1 hr
  refine h.perm (List.Perm.symm ?_)
  have := perm_set R j R[j] hj
  rwa [List.set_getElem_self] at this
theorem Own.put {w : World} {B : Nat} {R : List Row} {j : Nat} {r : Row} (h : Own w B (r :: R.eraseIdx j)) (hj : j < R.length) : Own w B (R.set j r) :=
  h.perm (perm_set R j r hj)

/-- The rows of a slice of slices of ints. -/
def rowsOf (e1 e2 : Nat) (u : Value) (vs : List Value) (M : List (List Int)) : List Row := valRowOf e1 u vs :: List.zipWith (intRowOf e2) vs M

theorem zipWith_set {α β γ : Type} (f : α → β → γ) : ∀ (l : List α) (m : List β) (j : Nat) (b : β) (a : α), l[j]? = some a → (List.zipWith f l m).set j (f a b) = List.zipWith f l (m.set j b)
  | [], m, j, b, a, h => by simp at h
  | x :: l, [], j, b, a, h => by simp
  | x :: l, y :: m, 0, b, a, h => by simp at h; subst h; simp
  | x :: l, y :: m, j + 1, b, a, h => by
    simp only [List.zipWith_cons_cons, List.set_cons_succ]
    rw [zipWith_set f l m j b a (by simpa using h)]

theorem Own.readsAll {w : World} {B e1 e2 : Nat} {u : Value} {vs : List Value} {M : List (List Int)} {R : List Row} (h : Own w B (rowsOf e1 e2 u vs M ++ R)) (hl : vs.length = M.length)
    (hs : ShortRows M.length) (hr : ∀ r ∈ M, Short r.length) (hi : ∀ r ∈ M, ∀ x ∈ r, I64 x) : IsRows w u M := by
  refine Own.readsRows (e := e1) (vs := vs) (R := List.zipWith (intRowOf e2) vs M ++ R) (by simpa [rowsOf] using h) hs hl fun j hj => ?_
  have h1 : (List.zipWith (intRowOf e2) vs M ++ R)[j]? = some (intRowOf e2 (vs.getD j undef) (row M j)) := by
    have hj' : j < vs.length := by omega
    rw [List.getElem?_append_left (by simp; omega)]
    simp [List.getElem?_zipWith, hj', row, hj]
  have h2 : Own w B (List.zipWith (intRowOf e2) vs M ++ R) := Own.tail (r := valRowOf e1 u vs) (by simpa [rowsOf] using h)
  exact (h2.pick h1).reads (hr _ (row_mem hj)) (hi _ (row_mem hj))

/-- The block behind an append: the old one, or a new one. -/
theorem append_block {P : Program} {w w' : World} {B t ty e : Nat} {i : TypeInfo} {z : Value} {size bytes : Nat} (ht : P.underlying t = some (.slice e)) (hi : P.info? e = some i) (hz : i.zero = some z)
    (hsize : i.size = size) (hby : i.bytes = bytes)
    {v v' : Value} {n : Nat} {xs : List Value} (hown : w.ownsRow B e size v n xs)
    {a : Addr} {m c : Nat} {news : List Value} (hl : news.length = m * size) (hnews : ∀ j u, news[j]? = some u → w.cell? (a.add j) = some u) (h1 : ∀ u ∈ news, u.oneCell' = true)
    (h63 : n + m ≤ maxLen) (hbytes : (n + m) * bytes ≤ 140737488355328)
    (hr : (Builtin.append_ #[t, t] ty #[v, .slice (some a) m c]).run P w = .ok v' w') :
    v'.ownBlock = v.ownBlock ∨ ∀ k, v'.ownBlock = some k → w.heap.size ≤ k := by
  subst hsize
  subst hby
  have hsmall : n + m ≤ 9223372036854775807 := by simp only [maxLen] at h63; omega
  rcases hown.2 with ⟨rfl, rfl⟩ | ⟨g, cap, cur, rfl, hbg, hg, hnc, hcm, hcs, htake⟩
  · by_cases hm : m = 0
    · subst hm
      have hn : news = [] := List.eq_nil_of_length_eq_zero (by simpa using hl)
      subst hn
      have : (Builtin.append_ #[t, t] ty #[.slice none 0 0, .slice (some a) 0 c]).run P w = .ok (.slice none 0 0) w := by
        simp [Builtin.append_, run_underlying ht, sizeOf, typeInfo, hi, Builtin.lenOf, Builtin.firstCells, loadCells, loadCellsFrom]
      rw [this] at hr
      cases hr
      exact .inl rfl
    · have := run_append_nil (P := P) w t ty e i z ht hi hz a m c news hl hnews (by omega) (by omega) (by have hb := hbytes; simp only [Nat.zero_add] at hb; omega)
      rw [this] at hr
      cases hr
      refine .inr fun k hk => ?_
      simp [Value.ownBlock] at hk
      omega
  · by_cases hroom : n + m ≤ cap
    · have hfit : n * i.size + news.length ≤ cur.size := by rw [hl, hcs, ← Nat.add_mul]; exact Nat.mul_le_mul_right _ hroom
      have := run_append_room (P := P) w t ty e i ht hi g n cap cur hg a m c news hl hnews h1 hroom hfit
      rw [this] at hr
      cases hr
      exact .inl rfl
    · have := run_append_grow (P := P) w t ty e i z ht hi hz ⟨g, 0, none⟩ n cap xs hown.1 (hown.cells (g := g) rfl) a m c news hl hnews (by omega) (by omega) (growslice_fits (by omega) hbytes)
      rw [this] at hr
      cases hr
      refine .inr fun k hk => ?_
      simp [Value.ownBlock] at hk
      omega

end Go.Proofs.YtaphnkgjcmneoaaGreatDoor

/- The different numbers of a list in ascending order, in plain words. -/
namespace Go.Proofs.YtaphnkgjcmneoaaGreatDoor
open Go.RowKit

/-- a number put to its place, once -/
def putL : List Int → Int → List Int
  | [], x => [x]
  | y :: l, x => if x < y then x :: y :: l else if x = y then y :: l else y :: putL l x
/-- the different numbers of a list in ascending order -/
def difL (X : List Int) : List Int := X.foldl putL []
def SAsc (l : List Int) : Prop := l.Pairwise (· < ·)
theorem mem_putL {x y : Int} : ∀ {l : List Int}, y ∈ putL l x ↔ y = x ∨ y ∈ l
  | [] => by simp [putL]
  | z :: l => by
    unfold putL
    by_cases h1 : x < z
    · rw [if_pos h1]; simp
    · rw [if_neg h1]
      by_cases h2 : x = z
      · rw [if_pos h2]; subst h2; simp
      · rw [if_neg h2, List.mem_cons, mem_putL, List.mem_cons]
        constructor
        · rintro (h | h | h)
          · exact .inr (.inl h)
          · exact .inl h
          · exact .inr (.inr h)
        · rintro (h | h | h)
          · exact .inr (.inl h)
          · exact .inl h
          · exact .inr (.inr h)
theorem putL_sasc {x : Int} : ∀ {l : List Int}, SAsc l → SAsc (putL l x)
  | [], _ => by simp [putL, SAsc]
  | z :: l, h => by
    have h' := List.pairwise_cons.1 h
    unfold putL
    by_cases h1 : x < z
    · rw [if_pos h1]
      refine List.pairwise_cons.2 ⟨fun y hy => ?_, h⟩
      rcases List.mem_cons.1 hy with e | hy
      · omega
      · have := h'.1 y hy; omega
    · rw [if_neg h1]
      by_cases h2 : x = z
      · rw [if_pos h2]; exact h
      · rw [if_neg h2]
        refine List.pairwise_cons.2 ⟨fun y hy => ?_, putL_sasc h'.2⟩
        rcases mem_putL.1 hy with e | hy
        · omega
        · exact h'.1 y hy
theorem difL_snoc (X : List Int) (x : Int) : difL (X ++ [x]) = putL (difL X) x := by simp [difL]
theorem difL_spec : ∀ (n : Nat) (X : List Int), X.length = n → SAsc (difL X) ∧ ∀ y, y ∈ difL X ↔ y ∈ X
  | 0, X, h => by
    have : X = [] := List.eq_nil_of_length_eq_zero h
    subst this
    simp [difL, SAsc]
  | n + 1, X, h => by
    have hne : X ≠ [] := fun e => by rw [e] at h; simp at h
    have e := List.dropLast_concat_getLast hne
    have ih := difL_spec n X.dropLast (by simp [h])
    rw [← e, difL_snoc]
    refine ⟨putL_sasc ih.1, fun y => ?_⟩
    rw [mem_putL, ih.2]
    simp only [List.mem_append, List.mem_singleton]
    exact Or.comm
theorem difL_sasc (X : List Int) : SAsc (difL X) := (difL_spec _ X rfl).1
theorem mem_difL {X : List Int} {y : Int} : y ∈ difL X ↔ y ∈ X := (difL_spec _ X rfl).2 y
theorem putL_len {x : Int} : ∀ {l : List Int}, (putL l x).length ≤ l.length + 1
  | [] => by simp [putL]
  | z :: l => by
    unfold putL
    split
    · simp
    · split
      · simp
      · have := putL_len (x := x) (l := l)
        simp only [List.length_cons]; omega
theorem difL_len (X : List Int) : (difL X).length ≤ X.length := by
  have key : ∀ (Y A : List Int), (Y.foldl putL A).length ≤ A.length + Y.length := by
    intro Y
    induction Y with
    | nil => intro A; simp
    | cons y Y ih =>
      intro A
      have h1 := ih (putL A y)
      have h2 := putL_len (x := y) (l := A)
      rw [List.foldl_cons]
      simp only [List.length_cons]
      omega
  simpa [difL] using key X []
theorem sasc_uniq : ∀ {a b : List Int}, SAsc a → SAsc b → (∀ y, y ∈ a ↔ y ∈ b) → a = b
  | [], [], _, _, _ => rfl
  | [], y :: b, _, _, h => by have := (h y).2 (by simp); simp at this
  | x :: a, [], _, _, h => by have := (h x).1 (by simp); simp at this
  | x :: a, y :: b, h1, h2, h => by
    have h1' := List.pairwise_cons.1 h1
    have h2' := List.pairwise_cons.1 h2
    have hx := (h x).1 (by simp)
    have hy := (h y).2 (by simp)
    have e : x = y := by
      rcases List.mem_cons.1 hx with e | hx
      · exact e
      · rcases List.mem_cons.1 hy with e | hy
        · exact e.symm
        · have := h1'.1 y hy
          have := h2'.1 x hx
          omega
    subst e
    rw [sasc_uniq h1'.2 h2'.2 fun z => ?_]
    constructor
    · intro hz
      rcases List.mem_cons.1 ((h z).1 (List.mem_cons_of_mem _ hz)) with e | hz'
      · subst e; have := h1'.1 z hz; omega
      · exact hz'
    · intro hz
      rcases List.mem_cons.1 ((h z).2 (List.mem_cons_of_mem _ hz)) with e | hz'
      · subst e; have := h2'.1 z hz; omega
      · exact hz'
theorem sasc_dif {X : List Int} (h : SAsc X) : difL X = X := sasc_uniq (difL_sasc X) h fun _ => mem_difL
theorem sasc_iff {X : List Int} : SAsc X ↔ difL X = X := ⟨sasc_dif, fun h => h ▸ difL_sasc X⟩
/-- the loop of the reference -/
theorem putL_hit {x : Int} : ∀ {l : List Int} {k : Nat}, k < l.length → (∀ j, j < k → nth l j < x) → nth l k = x → putL l x = l
  | y :: l, 0, _, _, h => by
    have : y = x := by simpa [nth] using h
    subst this
    unfold putL
    rw [if_neg (by omega), if_pos rfl]
  | y :: l, k + 1, hk, h1, h2 => by
    have h0 : y < x := by simpa [nth] using h1 0 (by omega)
    unfold putL
    rw [if_neg (by omega), if_neg (by omega), putL_hit (k := k) (by simpa using hk) (fun j hj => by simpa [nth] using h1 (j + 1) (by omega)) (by simpa [nth] using h2)]
theorem putL_ins {x : Int} : ∀ {l : List Int} {k : Nat}, k ≤ l.length → (∀ j, j < k → nth l j < x) → (k < l.length → x < nth l k) → putL l x = l.take k ++ [x] ++ l.drop k
  | [], k, hk, _, _ => by simp [putL]
  | y :: l, 0, _, _, h => by
    have : x < y := by simpa [nth] using h (by simp)
    unfold putL
    rw [if_pos this]
    rfl
  | y :: l, k + 1, hk, h1, h2 => by
    have h0 : y < x := by simpa [nth] using h1 0 (by omega)
    unfold putL
    rw [if_neg (by omega), if_neg (by omega), putL_ins (k := k) (by simpa using hk) (fun j hj => by simpa [nth] using h1 (j + 1) (by omega)) (fun h => by simpa [nth] using h2 (by simpa using h))]
    rfl
/-- what the library's Compact makes of a sorted list -/
theorem compact_sorted {Y X : List Int} (hs : Y.Pairwise (· ≤ ·)) (hm : ∀ y, y ∈ Y ↔ y ∈ X) : Go.Lib.compactUpTo Y.toArray Y.length = difL X := by
  have hget : ∀ j, j < Y.length → Y.toArray[j]! = nth Y j := fun j hj => by simp [nth, hj]
  have hle : ∀ i j, i < j → j < Y.length → nth Y i ≤ nth Y j := fun i j hij hj => by
    have := List.pairwise_iff_getElem.1 hs i j (by omega) hj hij
    have hi : i < Y.length := by omega
    simpa [nth, hj, hi] using this
  have key : ∀ m : Nat, m ≤ Y.length → SAsc (Go.Lib.compactUpTo Y.toArray m) ∧ (∀ y, y ∈ Go.Lib.compactUpTo Y.toArray m ↔ ∃ j, j < m ∧ nth Y j = y) := by
    intro m
    induction m with
    | zero => intro _; simp [Go.Lib.compactUpTo, SAsc]
    | succ m ih =>
      intro hm
      obtain ⟨h1, h2⟩ := ih (by omega)
      rw [Go.Lib.compactUpTo_succ, hget m (by omega)]
      cases hk : Go.Lib.keeps Y.toArray m with
      | true =>
        rw [if_pos rfl]
        have hk' : m = 0 ∨ nth Y m ≠ nth Y (m - 1) := by
          rw [← hget m (by omega), ← hget (m - 1) (by omega)]
          simpa [Go.Lib.keeps] using hk
        refine ⟨List.pairwise_append.2 ⟨h1, by simp, fun a ha b hb => ?_⟩, fun y => ?_⟩
        · obtain ⟨j, hj, rfl⟩ := (h2 a).1 ha
          rw [List.mem_singleton.1 hb]
          have h3 : nth Y (m - 1) ≤ nth Y m := hle _ _ (by omega) (by omega)
          have h4 : nth Y j ≤ nth Y (m - 1) := by
            by_cases e : j = m - 1
            · rw [e]; omega
            · exact hle _ _ (by omega) (by omega)
          omega
        · rw [List.mem_append, h2, List.mem_singleton]
          constructor
          · rintro (⟨j, hj, e⟩ | e)
            · exact ⟨j, by omega, e⟩
            · exact ⟨m, by omega, e.symm⟩
          · rintro ⟨j, hj, e⟩
            by_cases c : j = m
            · subst c; exact .inr e.symm
            · exact .inl ⟨j, by omega, e⟩
      | false =>
        have hk' : m ≠ 0 ∧ nth Y m = nth Y (m - 1) := by
          rw [← hget m (by omega), ← hget (m - 1) (by omega)]
          simpa [Go.Lib.keeps] using hk
        simp only [Bool.false_eq_true, if_false, List.append_nil]
        refine ⟨h1, fun y => ?_⟩
        rw [h2]
        constructor
        · rintro ⟨j, hj, e⟩; exact ⟨j, by omega, e⟩
        · rintro ⟨j, hj, e⟩
          by_cases c : j = m
          · subst c; exact ⟨j - 1, by omega, by rw [← hk'.2, e]⟩
          · exact ⟨j, by omega, e⟩
  obtain ⟨h1, h2⟩ := key Y.length (Nat.le_refl _)
  refine sasc_uniq h1 (difL_sasc X) fun y => ?_
  rw [h2, mem_difL, ← hm, mem_iff_nth]
end Go.Proofs.YtaphnkgjcmneoaaGreatDoor

/- Laws for append and make on rows of one's own. -/
namespace Go.Proofs.YtaphnkgjcmneoaaGreatDoor
open Go.RowKit

/-- What a program's table says of an element type: zero value, cells, bytes. -/
structure Elem (P : Program) (t e : Nat) (z : Value) (size bytes : Nat) : Prop where
  under : P.underlying t = some (.slice e)
  info : ∃ i, P.info? e = some i ∧ i.zero = some z ∧ i.size = size ∧ i.bytes = bytes
  cells : z.cells.size = size
  pos : 0 < size

section
variable {P : Program} {w : World} {ops : Array Oper} {rest : List Oper} {o : Oper} {a : Act} {Q : Exit → Act → World → Prop}

theorem run_append_Own {t ty e size bytes : Nat} {z : Value} (E : Elem P t e z size bytes) {B : Nat} {R : List Row} {v : Value} {n : Nat} {cs : List Value}
    (own : Own w B (⟨e, size, v, n, cs⟩ :: R)) (hB : B ≤ w.heap.size)
    {ad : Addr} {m c : Nat} {news : List Value} (hl : news.length = m * size) (hnews : ∀ j u, news[j]? = some u → w.cell? (ad.add j) = some u) (h1 : ∀ u ∈ news, u.oneCell' = true)
    (h63 : n + m ≤ maxLen) (hbytes : (n + m) * bytes ≤ 140737488355328) :
    ∃ v' w', (Builtin.append_ #[t, t] ty #[v, .slice (some ad) m c]).run P w = .ok v' w' ∧ Own w' B (⟨e, size, v', n + m, cs ++ news⟩ :: R) ∧ Below B w w' := by
  obtain ⟨i, hi, hz, hs, hb⟩ := E.info
  obtain ⟨v', w', hr, h2, h3, h4⟩ := run_append_own (P := P) w B t ty e i z size bytes E.under hi hz hs hb E.cells E.pos v n cs own.head ad m c news hl hnews h1 h63 hbytes hB
  have hblk := append_block (P := P) (ty := ty) E.under hi hz hs hb own.head hl hnews h1 h63 hbytes hr
  exact ⟨v', w', hr, own.turn h2 h3 hblk, below_of_grown own.head h3 hB⟩

theorem wpList_append_Own (hgd : o.guard = none) {s x : Operand} {t : TypeId}
    (ho : o.op = .call { callee := .builtin .append, args := #[s, x], argTypes := #[t, t] })
    {e size bytes : Nat} {z : Value} (E : Elem P t e z size bytes) {B : Nat} {R : List Row} {v : Value} {n : Nat} {cs : List Value} (hs : a.eval s = v)
    (own : Own w B (⟨e, size, v, n, cs⟩ :: R)) (hB : B ≤ w.heap.size)
    {ad : Addr} {m c : Nat} {news : List Value} (hx : a.eval x = .slice (some ad) m c) (hl : news.length = m * size) (hnews : ∀ j u, news[j]? = some u → w.cell? (ad.add j) = some u) (h1 : ∀ u ∈ news, u.oneCell' = true)
    (h63 : n + m ≤ maxLen) (hbytes : (n + m) * bytes ≤ 140737488355328)
    (h : ∀ v' w', Own w' B (⟨e, size, v', n + m, cs ++ news⟩ :: R) → Below B w w' → wpList P ops Q rest (a.put o.dst v') w') : wpList P ops Q (o :: rest) a w := by
  refine wpList_plain hgd fun K hK => ?_
  obtain ⟨v', w', hr, h2, h3⟩ := run_append_Own (P := P) (ty := o.type) E own hB hl hnews h1 h63 hbytes
  unfold Oper.wp execOp
  simp only [ho, resolve, invoke, builtin, Sem.run_bind, Sem.run_pure, Result.andThen_ok, List.map_toArray, List.map_cons, List.map_nil, hs, hx]
  rw [hr]
  exact hK _ _ (h v' w' h2 h3)

/-- 'append(s, x)': x lies in a new block of one cell. -/
theorem wpList_append1 (hgd : o.guard = none) (s x : Operand) (t : TypeId)
    (ho : o.op = .call { callee := .builtin .append, args := #[s, x], argTypes := #[t, t] })
    {e bytes : Nat} {z : Value} (E : Elem P t e z 1 bytes) {B : Nat} {R : List Row} {v : Value} {n : Nat} {cs : List Value} (hs : a.eval s = v)
    (own : Own w B (⟨e, 1, v, n, cs⟩ :: R)) (hB : B ≤ w.heap.size) {u : Value}
    (hx : a.eval x = .slice (some ⟨w.heap.size, 0, none⟩) 1 1) (h1 : u.oneCell' = true) (h63 : n ≤ 17592186044415) (hb16 : (n + 1) * bytes ≤ 140737488355328)
    (h : ∀ v' w', Own w' B (⟨e, 1, v', n + 1, cs ++ [u]⟩ :: R) → Below B w w' → wpList P ops Q rest (a.put o.dst v') w') : wpList P ops Q (o :: rest) a (w.alloc (.cells #[u] e)) := by
  refine wpList_append_Own (w := w.alloc (.cells #[u] e)) hgd ho E hs own.ext (by simp; omega) hx (news := [u]) (by simp) ?_ (by intro y hy; simp at hy; subst hy; exact h1) (by unfold maxLen; omega) hb16 ?_
  · intro j y hj
    match j, hj with
    | 0, hj =>
      simp at hj; subst hj
      simp [Addr.add]
  · intro v' w' h2 h3
    exact h v' w' h2 (((Below.refl B w).alloc hB _).trans h3)

theorem run_append_none {t ty e size bytes : Nat} {z : Value} (E : Elem P t e z size bytes) {B : Nat} {v : Value} {n : Nat} {cs : List Value}
    (own : w.ownsRow B e size v n cs) (c : Nat) : (Builtin.append_ #[t, t] ty #[v, .slice none 0 c]).run P w = .ok v w := by
  obtain ⟨i, hi, hz, hs, hb⟩ := E.info
  have ht := E.under
  rcases own.2 with ⟨rfl, rfl⟩ | ⟨g, cap, cur, rfl, _, _, hnc, _⟩
  · simp [Builtin.append_, run_underlying ht, sizeOf, typeInfo, hi, Builtin.lenOf, Builtin.firstCells]
  · simp [Builtin.append_, run_underlying ht, sizeOf, typeInfo, hi, Builtin.lenOf, Builtin.firstCells, hnc, storeCells]

theorem cells_of_ints {w : World} {ad : Addr} {n c : Nat} {ys : List Int} (hy : IsInts w (.slice (some ad) n c) ys) :
    ∀ j u, (ys.map (Value.int .i64))[j]? = some u → w.cell? (ad.add j) = some u := by
  intro j u hj
  have hl : j < ys.length := by
    by_cases hl : j < ys.length
    · exact hl
    · rw [List.getElem?_eq_none (by simp; omega)] at hj; cases hj
  obtain ⟨b, o, h1, h2⟩ := hy.at (w' := w) hl
  cases h1
  have : (⟨b, o, none⟩ : Addr).add j = ⟨b, o + j, none⟩ := by
    unfold Addr.add; split <;> simp_all
  rw [this, h2, ← hj]
  simp [nth, hl]

/-- 'append(s, xs...)': the ints of another slice. -/
theorem wpList_appendInts (hgd : o.guard = none) (s x : Operand) (t : TypeId)
    (ho : o.op = .call { callee := .builtin .append, args := #[s, x], argTypes := #[t, t] })
    {e : Nat} (E : Elem P t e (.int .i64 0) 1 8) {B : Nat} {R : List Row} {v u : Value} {n : Nat} {cs : List Value} (hs : a.eval s = v)
    (own : Own w B (⟨e, 1, v, n, cs⟩ :: R)) (hB : B ≤ w.heap.size) {ys : List Int} (hx : a.eval x = u) (hy : IsInts w u ys)
    (h63 : n + ys.length ≤ 17592186044415)
    (h : ∀ v' w', Own w' B (⟨e, 1, v', n + ys.length, cs ++ ys.map (Value.int .i64)⟩ :: R) → Below B w w' → wpList P ops Q rest (a.put o.dst v') w') : wpList P ops Q (o :: rest) a w := by
  obtain ⟨d, c, rfl, hl⟩ := hy.form
  cases d with
  | some ad =>
    exact wpList_append_Own hgd ho E hs own hB hx (by simp) (cells_of_ints hy) (by intro y hy'; simp at hy'; obtain ⟨k, _, rfl⟩ := hy'; rfl) (by unfold maxLen; omega) (by omega) h
  | none =>
    have hy0 : ys = [] := by
      cases ys with
      | nil => rfl
      | cons y ys =>
        obtain ⟨b, o, h1, _⟩ := hy.at (w' := w) (k := 0) (by simp)
        cases h1
    subst hy0
    refine wpList_plain hgd fun K hK => ?_
    have hr := run_append_none (P := P) (ty := o.type) E own.head c
    unfold Oper.wp execOp
    simp only [ho, resolve, invoke, builtin, Sem.run_bind, Sem.run_pure, Result.andThen_ok, List.map_toArray, List.map_cons, List.map_nil, hs, hx, List.length_nil]
    rw [hr]
    exact hK _ _ (h v w (by rw [List.length_nil, Nat.add_zero, List.map_nil, List.append_nil]; exact own) (Below.refl _ _))

/-- 'make([]T, n)'. -/
theorem wpList_makeOwn (hg : o.guard = none) (l c : Operand) (t : TypeId) (hop : o.op = Op.makeSlice t l c)
    {e bytes : Nat} {z : Value} (E : Elem P t e z 1 bytes) (n : Nat) (hl : a.eval l = .int .i64 n) (hc : a.eval c = .int .i64 n) (hn : n ≤ 17592186044415) (hb16 : n * bytes ≤ 140737488355328) (hz1 : z.cells = #[z])
    (h : Own (w.alloc (.cells (Array.replicate n z) e)) w.heap.size [⟨e, 1, .slice (some ⟨w.heap.size, 0, none⟩) n n, n, List.replicate n z⟩] →
      wpList P ops Q rest (a.put o.dst (.slice (some ⟨w.heap.size, 0, none⟩) n n)) (w.alloc (.cells (Array.replicate n z) e))) : wpList P ops Q (o :: rest) a w := by
  refine wpList_plain hg fun K hK => ?_
  obtain ⟨i, hi, hz, hs, hb⟩ := E.info
  subst hb
  have hbb : i.bytes * n ≤ 140737488355328 := by rw [Nat.mul_comm]; exact hb16
  have h2 : (i.bytes : Int) * (n : Int) ≤ 281474976710656 := by
    have h' : ((i.bytes * n : Nat) : Int) ≤ 281474976710656 := by omega
    rwa [Int.natCast_mul] at h'
  have hr := run_make (P := P) w t e i z E.under hi hz .i64 .i64 n n (by omega) (Int.le_refl _) h2 (by omega)
  have hm : madeCells z.cells ((n : Int).toNat * i.size) = Array.replicate n z := by
    rw [hs, hz1]
    apply Array.toList_inj.1
    rw [toList_madeCells_one]
    rw [Array.toList_replicate, Int.toNat_natCast, Nat.mul_one]
  rw [hm] at hr
  unfold Oper.wp
  simp [execOp, hop, hl, hc, hr, Result.andThen]
  refine hK _ _ (h ?_)
  have := (Own.nil w w.heap.size).lit e 1 n (Array.replicate n z) (Nat.le_refl _) (by unfold maxLen; omega) (by rw [Array.size_replicate, Nat.mul_one])
  rw [Array.toList_replicate] at this
  exact this
end
end Go.Proofs.YtaphnkgjcmneoaaGreatDoor

/- The laws' own helpers on lists of ints. -/
namespace Go.Proofs.YtaphnkgjcmneoaaGreatDoor
open Go.RowKit

theorem Tryz.infoInt : (Tryz.prog.info? 3).map (fun i => (i.zero, i.size, i.bytes)) = some (some (.int .i64 0), 1, 8) := by kernel_rfl
theorem elemInt : Elem Tryz.prog 24 3 (.int .i64 0) 1 8 := ⟨Tryz.underlying24, info_parts Tryz.infoInt, rfl, by decide⟩

/-- whether two lists are the same -/
def eqL (xs ys : List Int) : Bool := decide (xs = ys)
theorem eqL_iff {xs ys : List Int} : eqL xs ys = true ↔ xs = ys := by simp [eqL]

theorem ret_bool {a b : Bool} (h : a = b) : Ending.returned (.bool a) = .returned (.bool b) := by rw [h]
theorem ret_int {a b : Int} (h : a = b) : Ending.returned (.int .i64 a) = .returned (.int .i64 b) := by rw [h]

theorem toIntS_step {xs : List Int} {k : Nat} (h : k < xs.length) :
    ((xs.take k ++ List.replicate (xs.length - k) 0).map (Value.int .i64)).set k (.int .i64 (nth xs k)) = (xs.take (k + 1) ++ List.replicate (xs.length - (k + 1)) 0).map (Value.int .i64) := by
  rw [take_succ_nth h, ← List.map_set]
  congr 1
  have h1 : xs.length - k = (xs.length - (k + 1)) + 1 := by omega
  have h2 : (xs.take k).length = k := by simp; omega
  rw [h1, List.replicate_succ, List.set_append, if_neg (by omega), h2]
  simp

def iota (k : Int) (n : Nat) : List Int := (List.range n).map fun i : Nat => k + (i : Int)
theorem iota_length (k : Int) (n : Nat) : (iota k n).length = n := by simp [iota]
theorem iota_succ (k : Int) (n : Nat) : iota k (n + 1) = iota k n ++ [k + n] := by simp [iota, List.range_succ]
theorem nth_iota {k : Int} {n j : Nat} (h : j < n) : nth (iota k n) j = k + j := by simp [iota, nth, h]
theorem mark_step {xs : List Int} {k : Int} {i : Nat} (h : i < xs.length) :
    ((iota k i ++ xs.drop i).map (Value.int .i64)).set i (.int .i64 (k + i)) = (iota k (i + 1) ++ xs.drop (i + 1)).map (Value.int .i64) := by
  rw [iota_succ, ← List.map_set]
  congr 1
  have h1 : xs.drop i = xs[i] :: xs.drop (i + 1) := List.drop_eq_getElem_cons h
  rw [h1, List.set_append, if_neg (by rw [iota_length]; omega), iota_length]
  simp only [Nat.sub_self, List.set_cons_zero, List.append_assoc, List.singleton_append]

/-- what heldIntS answers -/
def heldK (xs : List Int) (k : Int) : Int := if xs = iota k xs.length then k + xs.length else -1

end Go.Proofs.YtaphnkgjcmneoaaGreatDoor

/- Whether a list has a number, and where first. -/
namespace Go.Proofs.YtaphnkgjcmneoaaGreatDoor
open Go.RowKit

def hasB (xs : List Int) (x : Int) : Bool := decide (x ∈ xs)
theorem hasB_true {xs : List Int} {x : Int} : hasB xs x = true ↔ x ∈ xs := by simp [hasB]
theorem hasB_false {xs : List Int} {x : Int} : hasB xs x = false ↔ x ∉ xs := by simp [hasB]
/-- the place where a number stands first, or -1 -/
def ixOf (xs : List Int) (x : Int) : Int := if x ∈ xs then (xs.idxOf x : Int) else -1
theorem ixOf_at {xs : List Int} {x : Int} {k : Nat} (hk : k < xs.length) (h : nth xs k = x) (hno : ∀ j, j < k → nth xs j ≠ x) : ixOf xs x = k := by
  have hm : x ∈ xs := mem_iff_nth.2 ⟨k, hk, h⟩
  rw [ixOf, if_pos hm]
  have hlt := List.idxOf_lt_length_of_mem hm
  have h1 : nth xs (xs.idxOf x) = x := by
    simp [nth, hlt]
  by_cases h2 : xs.idxOf x < k
  · exact absurd h1 (hno _ h2)
  · by_cases h3 : xs.idxOf x = k
    · rw [h3]
    · exfalso
      have h4 : k < xs.idxOf x := by omega
      have h5 := List.not_of_lt_findIdx (p := fun y => y == x) (xs := xs) (i := k) h4
      have h6 : xs[k]'hk = x := by simpa [nth, hk] using h
      rw [h6] at h5
      simp at h5
theorem ixOf_none {xs : List Int} {x : Int} (h : x ∉ xs) : ixOf xs x = -1 := by rw [ixOf, if_neg h]
theorem ixOf_in {xs : List Int} {x : Int} (h : x ∈ xs) : 0 ≤ ixOf xs x ∧ ixOf xs x < xs.length ∧ nth xs (ixOf xs x).toNat = x := by
  rw [ixOf, if_pos h]
  have hlt := List.idxOf_lt_length_of_mem h
  refine ⟨by omega, by omega, ?_⟩
  simp [nth, hlt]
theorem ixOf_ge {xs : List Int} {x : Int} : decide (0 ≤ ixOf xs x) = hasB xs x := by
  by_cases h : x ∈ xs
  · have := (ixOf_in h).1
    rw [hasB_true.2 h]; simpa using this
  · rw [hasB_false.2 h, ixOf_none h]; rfl

end Go.Proofs.YtaphnkgjcmneoaaGreatDoor

/- The library's functions on slices that take a function. -/
namespace Go.Proofs.YtaphnkgjcmneoaaGreatDoor
open Go.RowKit

set_option maxHeartbeats 400000 in
set_option maxRecDepth 100000 in
theorem indexFuncInts_any {v : Value} {xs : List Int} {w0 w : World} [Ext w0 w] (hx : IsInts w0 v xs) (id : Nat) (caps : Array Value) (p : Int → Bool)
    (hcall : ∀ xa W, (callFunc id xa).run Tryz.prog W = .ok (.enter id xa) W)
    (hf : ∀ (W : World), Ext w W → ∀ k, k < xs.length → Calls Tryz.prog id (#[.int .i64 (nth xs k)] ++ caps) W fun e w' => e = .returned (.bool (p (nth xs k))) ∧ Ext W w') :
    Calls Tryz.prog 87 #[v, .func (.func id) #[] caps] w fun e w' => ∃ r : Int, e = .returned (.int .i64 r) ∧ ((r = -1 ∧ xs.any p = false) ∨ (0 ≤ r ∧ xs.any p = true)) ∧ Ext w w' := by
  obtain ⟨a, c, rfl, la⟩ := hx.form
  go_enter Tryz.func87, Tryz.ntmps87
  replace hf := hid hf
  go_wp2
  go_loopw [5, 8] (fun _ i wr => ∃ k : Nat, k ≤ xs.length ∧ i = .int .i64 k ∧ Hid (∀ j, j < k → p (nth xs j) = false) ∧ Ext w wr) (fun _ i _ => xs.length - (intOf i).toNat)
  case atStart => exact ⟨0, by omega, rfl, by intro x hx; omega, inferInstance⟩
  case round =>
    obtain ⟨k, hk, rfl, hno, hb⟩ := hrel
    by_cases hlt : k < xs.length
    · have e0 : Ext w0 wr := Ext.trans ‹Ext w0 w› hb
      obtain ⟨b, o, rfl, hc⟩ := hx.at (w' := wr) hlt
      cases hp : p (nth xs k) with
      | true =>
        replace hp := hid hp
        go_wp2_with fail
        refine (hf.out wr hb k hlt).mono ?_
        rw [hp.out]
        rintro e w1 ⟨rfl, hb1⟩
        go_wp2_with fail
        go_ret
        refine ⟨_, rfl, .inr ⟨by omega, ?_⟩, Ext.trans hb hb1⟩
        exact List.any_eq_true.2 ⟨_, nth_mem hlt, hp.out⟩
      | false =>
        replace hp := hid hp
        go_wp2_with fail
        refine (hf.out wr hb k hlt).mono ?_
        rw [hp.out]
        rintro e w1 ⟨rfl, hb1⟩
        go_wp2_with fail
        go_roundw
        case rel =>
          refine ⟨k + 1, by omega, by go_num, ?_, Ext.trans hb hb1⟩
          intro j hj
          by_cases hjk : j = k
          · subst hjk; exact hp.out
          · exact hno.out j (by omega)
        case measure => simp [intOf]; omega
    · go_wp2
      go_ret
      refine ⟨_, rfl, .inl ⟨rfl, ?_⟩, hb⟩
      rw [List.any_eq_false]
      intro x hx
      obtain ⟨j, hj, rfl⟩ := mem_iff_nth.1 hx
      rw [hno.out j (by omega)]
      simp

set_option maxHeartbeats 400000 in
set_option maxRecDepth 100000 in
theorem containsFuncInts_any {v : Value} {xs : List Int} {w0 w : World} [Ext w0 w] (hx : IsInts w0 v xs) (id : Nat) (caps : Array Value) (p : Int → Bool)
    (hcall : ∀ xa W, (callFunc id xa).run Tryz.prog W = .ok (.enter id xa) W)
    (hf : ∀ (W : World), Ext w W → ∀ k, k < xs.length → Calls Tryz.prog id (#[.int .i64 (nth xs k)] ++ caps) W fun e w' => e = .returned (.bool (p (nth xs k))) ∧ Ext W w') :
    Calls Tryz.prog 71 #[v, .func (.func id) #[] caps] w fun e w' => e = .returned (.bool (xs.any p)) ∧ Ext w w' := by
  obtain ⟨a, c, rfl, la⟩ := hx.form
  go_enter Tryz.func71, Tryz.ntmps71
  replace hcall := hid hcall
  replace hf := hid hf
  go_wp2_with fail
  refine (indexFuncInts_any (w0 := w0) hx id caps p hcall.out hf.out).mono ?_
  rintro e w1 ⟨r, rfl, hr, hb⟩
  rcases hr with ⟨rfl, h⟩ | ⟨h0, h⟩
  · replace h := hid h
    go_wp2_with fail
    go_ret
    exact ⟨ret_bool h.out.symm, hb⟩
  · replace h := hid h
    go_wp2_with fail
    go_ret
    exact ⟨ret_bool h.out.symm, hb⟩

end Go.Proofs.YtaphnkgjcmneoaaGreatDoor

/- The reference's tests of a metric and a problem. -/
namespace Go.Proofs.YtaphnkgjcmneoaaGreatDoor
open Go.RowKit

/-- whether a number lies in a range -/
def inB (x a b : Int) : Bool := decide (a ≤ x ∧ x ≤ b)
theorem inB_true {x a b : Int} : inB x a b = true ↔ a ≤ x ∧ x ≤ b := by simp [inB]
theorem inB_false {x a b : Int} : inB x a b = false ↔ ¬ (a ≤ x ∧ x ≤ b) := by rw [← inB_true, Bool.not_eq_true]

theorem inB_ge {x a b : Int} (h1 : a ≤ x) : inB x a b = decide (x ≤ b) := by simp [inB, h1]
theorem inB_lt {x a b : Int} (h1 : ¬ a ≤ x) : inB x a b = false := by simp [inB, h1]

set_option maxHeartbeats 400000 in
theorem l1In_any (x a b : Int) (w : World) :
    Calls Tryz.prog 56 #[.int .i64 x, .int .i64 a, .int .i64 b] w fun e w' => e = .returned (.bool (inB x a b)) ∧ w = w' := by
  by_cases h1 : a ≤ x
  · have hr := hid (inB_ge (b := b) h1)
    go_enter Tryz.func56, Tryz.ntmps56
    go_wp2
    go_ret
    exact ⟨ret_bool hr.out.symm, rfl⟩
  · have hr := hid (inB_lt (b := b) h1)
    have h1' : x < a := by omega
    clear h1
    go_enter Tryz.func56, Tryz.ntmps56
    go_wp2
    go_ret
    exact ⟨ret_bool hr.out.symm, rfl⟩

/-- whether the costs of a request are right -/
def costsOk (costs : List Int) : Bool := decide (∀ c ∈ costs, -1 ≤ c ∧ c ≤ 20)
def canServe (costs : List Int) : Bool := decide (∃ c ∈ costs, 0 ≤ c)
def reqB (n : Int) (costs : List Int) : Bool := costsOk costs && decide ((costs.length : Int) = n) && canServe costs

theorem canServe_take {costs : List Int} {k : Nat} (h : k < costs.length) : canServe (costs.take (k + 1)) = (canServe (costs.take k) || decide (0 ≤ nth costs k)) := by
  rw [take_succ_nth h, Bool.eq_iff_iff]
  simp [canServe, or_and_right, exists_or]
theorem costsOk_take {costs : List Int} {k : Nat} (h : k < costs.length) : costsOk (costs.take (k + 1)) = (costsOk (costs.take k) && inB (nth costs k) (-1) 20) := by
  rw [take_succ_nth h, Bool.eq_iff_iff]
  simp only [costsOk, inB, Bool.and_eq_true, decide_eq_true_eq, List.mem_append, List.mem_singleton]
  constructor
  · exact fun h => ⟨fun c hc => h c (.inl hc), h _ (.inr rfl)⟩
  · rintro ⟨h1, h2⟩ c (hc | rfl)
    · exact h1 c hc
    · exact h2
theorem costsOk_not {costs : List Int} {k : Nat} (h : k < costs.length) (hb : inB (nth costs k) (-1) 20 = false) : costsOk costs = false := by
  rw [Bool.eq_false_iff]
  intro hc
  simp only [costsOk, decide_eq_true_eq] at hc
  exact inB_false.1 hb (hc _ (nth_mem h))

/-- the cell of a table -/
def cell (M : List (List Int)) (x y : Nat) : Int := nth (row M x) y
/-- whether a cell of a table is right -/
def cellOk (M : List (List Int)) (x y : Nat) : Bool := decide (cell M x y = cell M y x) && (if x = y then decide (cell M x y = 0) else inB (cell M x y) 1 99)
def square (M : List (List Int)) : Bool := decide (∀ r ∈ M, r.length = M.length)
def cellsOk (M : List (List Int)) : Bool := decide (∀ x, x < M.length → ∀ y, y < M.length → cellOk M x y = true)
def tableB (M : List (List Int)) : Bool := inB M.length 1 6 && square M && cellsOk M
theorem square_row {M : List (List Int)} (h : square M = true) {x : Nat} (hx : x < M.length) : (row M x).length = M.length := by
  simp only [square, decide_eq_true_eq] at h
  exact h _ (row_mem hx)
theorem square_not {M : List (List Int)} {x : Nat} (hx : x < M.length) (h : (row M x).length ≠ M.length) : square M = false := by
  rw [Bool.eq_false_iff]
  intro h'
  exact h (square_row h' hx)
theorem square_of {M : List (List Int)} (h : ∀ x, x < M.length → (row M x).length = M.length) : square M = true := by
  simp only [square, decide_eq_true_eq]
  intro r hr
  obtain ⟨k, hk, rfl⟩ := mem_iff_row.1 hr
  exact h k hk
theorem cellsOk_not {M : List (List Int)} {x y : Nat} (hx : x < M.length) (hy : y < M.length) (h : cellOk M x y = false) : cellsOk M = false := by
  rw [Bool.eq_false_iff]
  intro h'
  simp only [cellsOk, decide_eq_true_eq] at h'
  rw [h' x hx y hy] at h
  cases h

/-- A value that reads as a metric of distances M. -/
def IsMet (w : World) (v : Value) (M : List (List Int)) : Prop := ∃ v1, v = .agg #[v1] ∧ IsRows w v1 M

end Go.Proofs.YtaphnkgjcmneoaaGreatDoor

/- The laws' own helpers on rows of ints and on problems. -/
namespace Go.Proofs.YtaphnkgjcmneoaaGreatDoor
open Go.RowKit

theorem Tryz.infoInts : (Tryz.prog.info? 24).map (fun i => (i.zero, i.size, i.bytes)) = some (some (.slice none 0 0), 1, 24) := by kernel_rfl
def sumLen : List (List Int) → Nat
  | [] => 0
  | r :: M => r.length + sumLen M
theorem sumLen_take {M : List (List Int)} {k : Nat} (h : k < M.length) : sumLen (M.take (k + 1)) = sumLen (M.take k) + (row M k).length := by
  induction M generalizing k with
  | nil => simp at h
  | cons r M ih =>
    cases k with
    | zero => simp [sumLen, row]
    | succ k =>
      have := ih (k := k) (by simpa using h)
      simp only [List.take_succ_cons, sumLen] at this ⊢
      rw [this]
      simp [row, Nat.add_assoc]
theorem sumLen_take_le (M : List (List Int)) (k : Nat) : sumLen (M.take k) ≤ sumLen M := by
  induction M generalizing k with
  | nil => simp [sumLen]
  | cons r M ih =>
    cases k with
    | zero => simp [sumLen]
    | succ k => simp only [List.take_succ_cons, sumLen]; have := ih k; omega
theorem sumLen_row_le {M : List (List Int)} {k : Nat} (h : k < M.length) : (row M k).length ≤ sumLen M := by
  have := sumLen_take h
  have := sumLen_take_le M (k + 1)
  omega

/-- what is left of a count -/
def leftOf (left : Int) (n : Nat) : Int := if left - n < 0 then -1 else left - n

theorem toIntSS_step {e1 e2 : Nat} {g c n : Nat} {M : List (List Int)} {vs : List Value} {k : Nat} (h : k < M.length) (hv : vs.length = k) (u : Value) :
    (⟨e1, 1, .slice (some ⟨g, 0, none⟩) n c, n, (vs ++ List.replicate (M.length - k) (Value.slice none 0 0)).set k u⟩ :: (List.zipWith (intRowOf e2) vs (M.take k) ++ [intRowOf e2 u (row M k)]) : List Row)
      = ⟨e1, 1, .slice (some ⟨g, 0, none⟩) n c, n, (vs ++ [u]) ++ List.replicate (M.length - (k + 1)) (Value.slice none 0 0)⟩ :: List.zipWith (intRowOf e2) (vs ++ [u]) (M.take (k + 1)) := by
  have h1 : M.length - k = (M.length - (k + 1)) + 1 := by omega
  rw [h1, List.replicate_succ, List.set_append, if_neg (by omega), hv, take_succ_row h, List.zipWith_append (by simp; omega)]
  simp

def eqR (xs ys : List (List Int)) : Bool := decide (xs = ys)
theorem eqR_iff {xs ys : List (List Int)} : eqR xs ys = true ↔ xs = ys := by simp [eqR]

/-- the marks of rows, from k on -/
def markR : List (List Int) → Int → List (List Int)
  | [], _ => []
  | r :: M, k => iota k r.length :: markR M (k + r.length)
theorem markR_length (M : List (List Int)) (k : Int) : (markR M k).length = M.length := by
  induction M generalizing k with
  | nil => rfl
  | cons r M ih => simp [markR, ih]
theorem markR_row {M : List (List Int)} {k : Int} {j : Nat} (h : j < M.length) : row (markR M k) j = iota (k + sumLen (M.take j)) (row M j).length := by
  induction M generalizing k j with
  | nil => simp at h
  | cons r M ih =>
    cases j with
    | zero => simp [markR, row, sumLen]
    | succ j =>
      have := ih (k := k + r.length) (j := j) (by simpa using h)
      simp only [markR, row, List.getD_cons_succ, List.take_succ_cons, sumLen] at this ⊢
      rw [this]
      congr 1
      omega
theorem markR_sumLen (M : List (List Int)) (k : Int) : sumLen (markR M k) = sumLen M := by
  induction M generalizing k with
  | nil => rfl
  | cons r M ih => simp [markR, sumLen, ih, iota_length]
theorem mark_set {M : List (List Int)} {k : Int} {j : Nat} (h : j < M.length) :
    ((markR M k).take j ++ M.drop j).set j (iota (k + sumLen (M.take j)) (row M j).length) = (markR M k).take (j + 1) ++ M.drop (j + 1) := by
  have h1 : M.drop j = M[j] :: M.drop (j + 1) := List.drop_eq_getElem_cons h
  have h2 : ((markR M k).take j).length = j := by simp [markR_length]; omega
  rw [h1, List.set_append, if_neg (by omega), h2, take_succ_row (by rw [markR_length]; exact h), markR_row h]
  simp only [Nat.sub_self, List.set_cons_zero, List.append_assoc, List.singleton_append]
theorem mark_get {M : List (List Int)} {k : Int} {j : Nat} (h : j < M.length) : ((markR M k).take j ++ M.drop j)[j]? = some (row M j) := by
  have h2 : ((markR M k).take j).length = j := by simp [markR_length]; omega
  rw [List.getElem?_append_right (by omega), h2]
  simp [row, h]

/-- the j-th of rows that are owned -/
theorem Own.rowAt {w : World} {B e1 e2 : Nat} {v : Value} {vs : List Value} {M : List (List Int)} {R : List Row} (_h : Own w B (rowsOf e1 e2 v vs M ++ R)) {j : Nat} {r : List Int} {u : Value} (hr : M[j]? = some r) (hu : vs[j]? = some u) :
    (rowsOf e1 e2 v vs M ++ R)[j + 1]? = some (intRowOf e2 u r) := by
  have h1 : j < M.length := (List.getElem?_eq_some_iff.1 hr).1
  have h2 : j < vs.length := (List.getElem?_eq_some_iff.1 hu).1
  simp only [rowsOf, List.cons_append, List.getElem?_cons_succ]
  rw [List.getElem?_append_left (by simp; omega), List.getElem?_zipWith, hu, hr]
theorem rowsOf_set {e1 e2 : Nat} {v : Value} {vs : List Value} {M : List (List Int)} {R : List Row} {j : Nat} {r : List Int} {u : Value} (hj : j < M.length) (hu : vs[j]? = some u) :
    (rowsOf e1 e2 v vs M ++ R).set (j + 1) (intRowOf e2 u r) = rowsOf e1 e2 v vs (M.set j r) ++ R := by
  have h2 : j < vs.length := (List.getElem?_eq_some_iff.1 hu).1
  simp only [rowsOf, List.cons_append, List.set_cons_succ]
  rw [List.set_append, if_pos (by simp; omega), zipWith_set _ _ _ _ _ _ hu]

end Go.Proofs.YtaphnkgjcmneoaaGreatDoor

/- eqIntSS -/
namespace Go.Proofs.YtaphnkgjcmneoaaGreatDoor
open Go.RowKit

/-- what heldIntSS answers -/
def heldR (M : List (List Int)) (k : Int) : Int := if M = markR M k then k + sumLen M else -1

/-- A value that reads as a problem of moves M and serves S. -/
def IsProb (w : World) (v : Value) (M S : List (List Int)) : Prop := ∃ v1 v2, v = .agg #[v1, v2] ∧ IsRows w v1 M ∧ IsRows w v2 S

theorem IsProb.ext {w w' : World} {v : Value} {M S : List (List Int)} (h : IsProb w v M S) [e : Ext w w'] : IsProb w' v M S := by
  obtain ⟨v1, v2, h0, h1, h2⟩ := h
  exact ⟨v1, v2, h0, h1.ext, h2.ext⟩
theorem Own.prob {w w0 : World} {B e1 e2 : Nat} {u1 u2 v0 : Value} {vs1 vs2 : List Value} {M S : List (List Int)} {R : List Row} (h : Own w B (rowsOf e1 e2 u1 vs1 M ++ (rowsOf e1 e2 u2 vs2 S ++ R))) (h1 : vs1.length = M.length) (h2 : vs2.length = S.length) (hp : IsProb w0 v0 M S) :
    IsProb w (.agg #[u1, u2]) M S := by
  obtain ⟨_, _, _, hM, hS⟩ := hp
  exact ⟨u1, u2, rfl, h.readsAll h1 hM.all.1 hM.all.2.1 hM.all.2.2, h.right.readsAll h2 hS.all.1 hS.all.2.1 hS.all.2.2⟩

theorem Own.prob' {w w0 : World} {B e1 e2 : Nat} {u1 u2 v0 : Value} {vs1 vs2 : List Value} {M S : List (List Int)} (h : Own w B (rowsOf e1 e2 u1 vs1 M ++ rowsOf e1 e2 u2 vs2 S)) (h1 : vs1.length = M.length) (h2 : vs2.length = S.length) (hp : IsProb w0 v0 M S) :
    IsProb w (.agg #[u1, u2]) M S := by
  have h' : Own w B (rowsOf e1 e2 u1 vs1 M ++ (rowsOf e1 e2 u2 vs2 S ++ [])) := by rw [List.append_nil]; exact h
  exact h'.prob h1 h2 hp

theorem perm_a {α : Type} (x : α) (A S R : List α) : (S ++ (x :: (A ++ R))).Perm (x :: (A ++ (S ++ R))) := by
  classical
  refine List.perm_iff_count.2 fun y => ?_
  simp only [List.count_append, List.count_cons]
  omega
theorem perm_b {α : Type} (x : α) (A S R : List α) : (x :: (A ++ (S ++ R))).Perm (S ++ (x :: (A ++ R))) := (perm_a x A S R).symm

def eqP (M S M' S' : List (List Int)) : Bool := eqR M M' && eqR S S'
theorem eqP_iff {M S M' S' : List (List Int)} : eqP M S M' S' = true ↔ M = M' ∧ S = S' := by simp [eqP, eqR_iff]

end Go.Proofs.YtaphnkgjcmneoaaGreatDoor

/- What owned memory reads as, by the reading of what it was copied from. -/
namespace Go.Proofs.YtaphnkgjcmneoaaGreatDoor
open Go.RowKit

theorem IsInts.all {w : World} {v : Value} {xs : List Int} (h : IsInts w v xs) : Short xs.length ∧ ∀ x ∈ xs, I64 x := by
  obtain ⟨a, c, _, h2, h3, _⟩ := h
  exact ⟨h2.1, h3⟩
theorem Own.reads' {w w0 : World} {B e : Nat} {v v0 : Value} {xs : List Int} {R : List Row} (h : Own w B (intRowOf e v xs :: R)) (h0 : IsInts w0 v0 xs) : IsInts w v xs :=
  h.reads h0.all.1 h0.all.2
theorem Own.readsAll' {w w0 : World} {B e1 e2 : Nat} {u v0 : Value} {vs : List Value} {M : List (List Int)} (h : Own w B (rowsOf e1 e2 u vs M)) (hl : vs.length = M.length) (h0 : IsRows w0 v0 M) : IsRows w u M := by
  have h' : Own w B (rowsOf e1 e2 u vs M ++ []) := by rw [List.append_nil]; exact h
  exact h'.readsAll hl h0.all.1 h0.all.2.1 h0.all.2.2

end Go.Proofs.YtaphnkgjcmneoaaGreatDoor

/- The states in which a request can be served; the number of algorithms. -/
namespace Go.Proofs.YtaphnkgjcmneoaaGreatDoor
open Go.RowKit

/-- the indices below k of numbers that are not negative -/
def servedTo (cs : List Int) (k : Nat) : List Int := ((List.range k).filter fun i => decide (0 ≤ nth cs i)).map fun i : Nat => (i : Int)
def servedL (cs : List Int) : List Int := servedTo cs cs.length
theorem servedTo_succ_yes {cs : List Int} {k : Nat} (h : 0 ≤ nth cs k) : servedTo cs (k + 1) = servedTo cs k ++ [(k : Int)] := by
  simp [servedTo, List.range_succ, List.filter_append, h]
theorem servedTo_succ_no {cs : List Int} {k : Nat} (h : ¬ 0 ≤ nth cs k) : servedTo cs (k + 1) = servedTo cs k := by
  simp [servedTo, List.range_succ, List.filter_append, h]
theorem servedTo_length (cs : List Int) (k : Nat) : (servedTo cs k).length ≤ k := by
  induction k with
  | zero => simp [servedTo]
  | succ k ih =>
    by_cases h : 0 ≤ nth cs k
    · rw [servedTo_succ_yes h]; simp; omega
    · rw [servedTo_succ_no h]; omega
theorem servedTo_mem {cs : List Int} {k : Nat} {x : Int} : x ∈ servedTo cs k ↔ ∃ i : Nat, i < k ∧ 0 ≤ nth cs i ∧ x = i := by
  simp only [servedTo, List.mem_map, List.mem_filter, List.mem_range, decide_eq_true_eq]
  constructor
  · rintro ⟨i, ⟨h1, h2⟩, rfl⟩; exact ⟨i, h1, h2, rfl⟩
  · rintro ⟨i, h1, h2, rfl⟩; exact ⟨i, ⟨h1, h2⟩, rfl⟩
theorem servedTo_i64 {cs : List Int} {k : Nat} (hk : k ≤ 17592186044415) : ∀ x ∈ servedTo cs k, I64 x := by
  intro x hx
  obtain ⟨i, h1, _, rfl⟩ := servedTo_mem.1 hx
  unfold I64
  omega

/-- the behind of an append: the value's form -/
theorem Own.formInts {w : World} {B e : Nat} {v : Value} {xs : List Int} {R : List Row} (h : Own w B (intRowOf e v xs :: R)) : ∃ d m, v = .slice d xs.length m := h.form
theorem own_snoc {w : World} {B e : Nat} {v : Value} {xs : List Int} {x : Int} {n : Nat} {R : List Row} (h : Own w B (⟨e, 1, v, n + 1, xs.map (Value.int .i64) ++ [.int .i64 x]⟩ :: R)) (hn : n = xs.length) : Own w B (intRowOf e v (xs ++ [x]) :: R) := by
  subst hn
  unfold intRowOf
  rw [List.map_append, List.length_append]
  exact h

end Go.Proofs.YtaphnkgjcmneoaaGreatDoor

/- The reference's search for a detour; its tests of a metric and a problem, whole. -/
namespace Go.Proofs.YtaphnkgjcmneoaaGreatDoor
open Go.RowKit

def detourAt (M : List (List Int)) (x y z : Nat) : Bool := decide (cell M x y + cell M y z < cell M x z)
abbrev NoDetour (M : List (List Int)) : Prop := ∀ x, x < M.length → ∀ y, y < M.length → ∀ z, z < M.length → detourAt M x y z = false
/-- what is known of the first detour -/
def FirstDet (M : List (List Int)) (xs : List Int) : Prop :=
  (NoDetour M ∧ xs = []) ∨ ∃ x y z : Nat, x < M.length ∧ y < M.length ∧ z < M.length ∧ detourAt M x y z = true ∧ xs = [(x : Int), (y : Int), (z : Int)] ∧
    (∀ x', x' < x → ∀ y', y' < M.length → ∀ z', z' < M.length → detourAt M x' y' z' = false) ∧ (∀ y', y' < y → ∀ z', z' < M.length → detourAt M x y' z' = false) ∧ (∀ z', z' < z → detourAt M x y z' = false)

theorem tableB_square {M : List (List Int)} (h : tableB M = true) : square M = true := by
  simp only [tableB, Bool.and_eq_true] at h; exact h.1.2
theorem tableB_len {M : List (List Int)} (h : tableB M = true) : 1 ≤ M.length ∧ M.length ≤ 6 := by
  simp only [tableB, Bool.and_eq_true] at h
  have := inB_true.1 h.1.1
  omega
theorem tableB_cell {M : List (List Int)} (h : tableB M = true) {x y : Nat} (hx : x < M.length) (hy : y < M.length) : 0 ≤ cell M x y ∧ cell M x y ≤ 99 := by
  simp only [tableB, Bool.and_eq_true, cellsOk, decide_eq_true_eq] at h
  have h1 := h.2 x hx y hy
  simp only [cellOk, Bool.and_eq_true, decide_eq_true_eq] at h1
  obtain ⟨_, h2⟩ := h1
  split at h2
  · rw [decide_eq_true_eq] at h2; omega
  · have := inB_true.1 h2; omega

/-- Row x of a table, its cell y: where it lies. -/
theorem IsRows.cellAt {w w' : World} {b o c n : Nat} {M : List (List Int)} (h : IsRows w (.slice (some ⟨b, o, none⟩) n c) M) (hs : square M = true) [e : Ext w w'] {x y : Nat} (hx : x < M.length) (hy : y < M.length) :
    ∃ d p m, w'.cell? ⟨b, o + x, none⟩ = some (.slice (some ⟨d, p, none⟩) M.length m) ∧ w'.cell? ⟨d, p + y, none⟩ = some (.int .i64 (cell M x y)) ∧ (∀ y', y' < M.length → w'.cell? ⟨d, p + y', none⟩ = some (.int .i64 (cell M x y'))) := by
  obtain ⟨b1, o1, d1, m1, h1, hc1, hr1, _⟩ := h.at (w' := w') hx
  cases h1
  have hl := square_row hs hx
  rw [hl] at hr1 hc1
  obtain ⟨d, p, rfl, hc2⟩ := hr1.at (w' := w') (k := y) (by omega)
  refine ⟨d, p, m1, hc1, hc2, fun y' hy' => ?_⟩
  obtain ⟨d', p', h2, hc3⟩ := hr1.at (w' := w') (k := y') (by omega)
  cases h2
  exact hc3

/-- whether distances are a metric -/
def NoDetB (M : List (List Int)) : Bool := decide (NoDetour M)
def metB (M : List (List Int)) : Bool := tableB M && NoDetB M
def probB (M S : List (List Int)) : Bool := inB M.length 1 4 && metB M && inB S.length 1 4 && decide (∀ r ∈ S, reqB M.length r = true)

theorem NoDetB_of {M : List (List Int)} {xs : List Int} (h : FirstDet M xs) : NoDetB M = decide (xs = []) := by
  rcases h with ⟨h1, h2⟩ | ⟨x, y, z, hx, hy, hz, h1, h2, _⟩
  · rw [h2, NoDetB, decide_eq_true h1]; rfl
  · rw [decide_eq_false (by rw [h2]; simp), NoDetB, decide_eq_false]
    intro h
    rw [h x hx y hy z hz] at h1
    cases h1

end Go.Proofs.YtaphnkgjcmneoaaGreatDoor

/- The program's tests of a metric. -/
namespace Go.Proofs.YtaphnkgjcmneoaaGreatDoor
open Go.RowKit

set_option maxHeartbeats 400000 in
theorem within_any (x a b : Int) (w : World) :
    Calls Tryz.prog 36 #[.int .i64 x, .int .i64 a, .int .i64 b] w fun e w' => e = .returned (.bool (inB x a b)) ∧ w = w' := by
  by_cases h1 : a ≤ x
  · have hr := hid (inB_ge (b := b) h1)
    go_enter Tryz.func36, Tryz.ntmps36
    go_wp2
    go_ret
    exact ⟨ret_bool hr.out.symm, rfl⟩
  · have hr := hid (inB_lt (b := b) h1)
    have h1' : x < a := by omega
    clear h1
    go_enter Tryz.func36, Tryz.ntmps36
    go_wp2
    go_ret
    exact ⟨ret_bool hr.out.symm, rfl⟩

/-- whether a number is another one -/
def neB (a b : Int) : Bool := a != b
theorem neB_false {a b : Int} : neB a b = false ↔ a = b := by simp [neB]

theorem square_any (M : List (List Int)) : M.any (fun r => neB r.length M.length) = !square M := by
  rw [Bool.eq_iff_iff, Bool.not_eq_true', List.any_eq_true]
  constructor
  · rintro ⟨r, hr, h⟩
    obtain ⟨k, hk, rfl⟩ := mem_iff_row.1 hr
    refine square_not hk fun h' => ?_
    rw [neB_false.2 (by omega)] at h
    cases h
  · intro h
    simp only [square, decide_eq_false_iff_not] at h
    have h' : ∃ r ∈ M, ¬ r.length = M.length := by
      apply Classical.byContradiction
      intro h2
      exact h fun r hr => Classical.byContradiction fun h3 => h2 ⟨r, hr, h3⟩
    obtain ⟨r, hr, h3⟩ := h'
    refine ⟨r, hr, ?_⟩
    cases hb : neB r.length M.length with
    | true => rfl
    | false => have := neB_false.1 hb; omega

end Go.Proofs.YtaphnkgjcmneoaaGreatDoor

/- The program's search for a detour, IsMetric, IsProblem. -/
namespace Go.Proofs.YtaphnkgjcmneoaaGreatDoor
open Go.RowKit

theorem ret_tuple2 {a b c d : Value} (h1 : a = c) (h2 : b = d) : Ending.returned (.tuple #[a, b]) = .returned (.tuple #[c, d]) := by rw [h1, h2]

def isNil (xs : List Int) : Bool := decide (xs = [])

theorem costs_any (costs : List Int) : costs.any (fun c => !inB c (-1) 20) = !costsOk costs := by
  rw [Bool.eq_iff_iff, Bool.not_eq_true', List.any_eq_true]
  constructor
  · rintro ⟨c, hc, h⟩
    obtain ⟨k, hk, rfl⟩ := mem_iff_nth.1 hc
    exact costsOk_not hk (by simpa using h)
  · intro h
    apply Classical.byContradiction
    intro h2
    have : costsOk costs = true := by
      simp only [costsOk, decide_eq_true_eq]
      intro c hc
      apply Classical.byContradiction
      intro h3
      exact h2 ⟨c, hc, by rw [inB_false.2 h3]; rfl⟩
    rw [this] at h
    cases h

theorem reqs_any (n : Int) (S : List (List Int)) : (!S.any fun r => !reqB n r) = decide (∀ r ∈ S, reqB n r = true) := by
  rw [List.not_any_eq_all_not, Bool.eq_iff_iff, decide_eq_true_eq, List.all_eq_true]
  simp

end Go.Proofs.YtaphnkgjcmneoaaGreatDoor

/- Arguments that came in, read as lists of ints, as rows of ints, as a problem. -/
namespace Go.Proofs.YtaphnkgjcmneoaaGreatDoor
open Go.ChangeShapes Go.WideShapes Go.ChangeAt Go.RowKit Go.Deep Go.Joins

theorem Tryz.cellsInts : Tryz.prog.cellsOf 24 = 1 := by kernel_rfl
theorem Tryz.cellsInt : Tryz.prog.cellsOf 3 = 1 := by kernel_rfl
theorem Tryz.bytesInts : Tryz.prog.bytesOf 24 = 24 := by kernel_rfl
theorem Tryz.bytesInt : Tryz.prog.bytesOf 3 = 8 := by kernel_rfl

theorem i64_of_wf {n : Int} (h : (Lit.int .i64 n).wf = true) : I64 n := by
  have := bounds_i64 h
  unfold I64
  omega

theorem addr_add_nil {b o j : Nat} : (⟨b, o, none⟩ : Addr).add j = ⟨b, o + j, none⟩ := by
  unfold Addr.add; split <;> simp_all

theorem spot_of_cell {w : World} {a : Addr} {u : Value} (h : w.cell? (a.add 0) = some u) : ∃ b o, a = ⟨b, o, none⟩ := by
  obtain ⟨b, o, s⟩ := a
  have hs := World.cell?_spot h
  simp [Addr.add] at hs
  subst hs
  exact ⟨b, o, rfl⟩

/-- A row as open_int_rows tells it. -/
theorem isInts_of_row {w : World} {A : Option Addr} {L C : Nat} {Z : List Int} (h1 : L ≤ C) (h2 : Z.length = C) (h3 : ∀ n ∈ Z, (Lit.int .i64 n).wf = true) (h4 : A = none → C = 0)
    (h5 : ∀ a', A = some a' → ∀ c, c < C → w.cell? (a'.add c) = some (.int .i64 (Z.getD c 0))) (hs : Short C) : IsInts w (.slice A L C) (Z.take L) := by
  have hl : (Z.take L).length = L := by simp; omega
  refine ⟨A, C, by rw [hl], ⟨by rw [hl]; exact Nat.le_trans h1 hs, by rw [hl]; exact h1⟩, fun x hx => i64_of_wf (h3 x (List.mem_of_mem_take hx)), fun j hj => ?_⟩
  rw [hl] at hj
  cases A with
  | none => have := h4 rfl; omega
  | some a =>
    have hc := h5 a rfl j (by omega)
    obtain ⟨b, o, rfl⟩ := spot_of_cell (h5 a rfl 0 (by omega))
    refine ⟨b, o, rfl, ?_⟩
    rw [addr_add_nil] at hc
    rw [hc]
    simp [nth, List.getD_eq_getElem?_getD, hj]

section
variable {H : Type} {enc : TypeId × Value → H} {w : World}

theorem isInts_of_trod {fuel : Nat} {v : Value} {x : DataW H × List MemPlace} (h : DataW.trod enc Tryz.prog w 0 (fun _ => true) true fuel 24 [v] = some x)
    (hw : ∀ n ∈ x.1.weights Tryz.prog 24, n ≤ reachBytes) : ∃ xs, IsInts w v xs := by
  rcases open_ints Tryz.underlying24 Tryz.underlying3 Tryz.cellsInt h with ⟨hcs, _⟩ | ⟨a, l, c, zs, hcs, _, hl, hm, hz, hx, hcell, hwz⟩
  · simp only [List.cons.injEq, and_true] at hcs
    subst hcs
    exact ⟨[], IsInts.nil w⟩
  · simp only [List.cons.injEq, and_true] at hcs
    subst hcs
    have hz' : zs.length = c := by simpa using hz
    subst hx
    have hb := hw ((zs.take l).length * 1 * 8 + (zs.drop l).length * 8) (by
      simp only [DataW.weights, Tryz.underlying24, Tryz.bytesInt, List.mem_cons]
      left
      simp [lits]
      omega)
    simp only [reachBytes, List.length_take, List.length_drop] at hb
    refine ⟨zs.take l, isInts_of_row hl hz' hwz (fun h => by cases h) (fun a' ha c' hc' => ?_) (by unfold Short; omega)⟩
    cases ha
    exact hcell c' (by omega)

theorem weights_of {ts : List TypeId} {ds : List (DataW H)} (h : (DataW.weightsEach Tryz.prog ts ds).all (· ≤ reachBytes) = true) {j : Nat} {t : TypeId} {d : DataW H} (ht : ts[j]? = some t) (hd : ds[j]? = some d) :
    ∀ n ∈ d.weights Tryz.prog t, n ≤ reachBytes := fun n hn => by
  simpa using List.all_eq_true.1 h _ (DataW.weights_mem_each ht hd n hn)
end
end Go.Proofs.YtaphnkgjcmneoaaGreatDoor

/- The marks that a law lays into what it owns, and their reading. -/
namespace Go.Proofs.YtaphnkgjcmneoaaGreatDoor
open Go.RowKit

theorem Ext.mark {a b c : World} (h : Ext a b) (k : Below a.heap.size b c) : Ext a c := ⟨h.below.trans k⟩
theorem Own.add {w u w' : World} {B : Nat} {R S : List Row} (hn : Own w' u.heap.size S) (h : Own w B R) [e : Ext w u] (e' : Ext u w') (hB : B ≤ w.heap.size) : Own w' B (S ++ R) :=
  Own.join (h.ext (w' := u)) hn (hB := Nat.le_trans hB e.size)
theorem Own.rot {w : World} {B : Nat} {A L : List Row} (h : Own w B (A ++ L)) : Own w B (L ++ A) := h.swap
theorem Own.nilr {w : World} {B : Nat} {A : List Row} (h : Own w B A) : Own w B (A ++ []) := by rw [List.append_nil]; exact h
theorem Own.one {w : World} {B : Nat} {r : Row} {L : List Row} (h : Own w B ([r] ++ L)) : Own w B (r :: L) := h
theorem Own.eno {w : World} {B : Nat} {r : Row} {L : List Row} (h : Own w B (r :: L)) : Own w B ([r] ++ L) := h
theorem Own.readsAll2 {w w0 : World} {B e1 e2 : Nat} {u v0 : Value} {vs : List Value} {M : List (List Int)} {R : List Row} (h : Own w B (rowsOf e1 e2 u vs M ++ R)) (hl : vs.length = M.length) (h0 : IsRows w0 v0 M) : IsRows w u M :=
  h.readsAll hl h0.all.1 h0.all.2.1 h0.all.2.2

theorem iota_i64 {k : Int} {n : Nat} (h0 : 0 ≤ k) (h1 : k + n ≤ 17592186044415) : ∀ x ∈ iota k n, I64 x := by
  intro x hx
  obtain ⟨i, hi, rfl⟩ := List.mem_map.1 hx
  have := List.mem_range.1 hi
  unfold I64
  omega
theorem heldK_iota {k : Int} {n : Nat} : heldK (iota k n) k = k + n := by rw [heldK, iota_length, if_pos rfl]
theorem Own.readsIota {w : World} {B e : Nat} {v : Value} {k : Int} {n : Nat} {R : List Row} (h : Own w B (intRowOf e v (iota k n) :: R)) (h0 : 0 ≤ k) (hk : k ≤ 4000000) (hn : n ≤ 4000000) : IsInts w v (iota k n) :=
  h.reads (by rw [iota_length]; unfold Short; omega) (iota_i64 h0 (by omega))

theorem sumLen_take_mark : ∀ (M : List (List Int)) (k : Int) (n : Nat), sumLen ((markR M k).take n) = sumLen (M.take n)
  | [], _, _ => rfl
  | _ :: _, _, 0 => rfl
  | r :: M, k, n + 1 => by
    simp only [markR, List.take_succ_cons, sumLen, iota_length]
    rw [sumLen_take_mark M _ n]
theorem markR_idem (M : List (List Int)) (k : Int) : markR (markR M k) k = markR M k := by
  refine eq_of_row (by simp [markR_length]) fun j hj => ?_
  rw [markR_length, markR_length] at hj
  rw [markR_row (by rw [markR_length]; exact hj), markR_row hj, iota_length, sumLen_take_mark]
theorem heldR_mark {M : List (List Int)} {k : Int} : heldR (markR M k) k = k + sumLen M := by rw [heldR, if_pos (markR_idem M k).symm, markR_sumLen]
theorem Own.readsMark {w : World} {B e1 e2 : Nat} {v : Value} {vs : List Value} {M : List (List Int)} {k : Int} {R : List Row} (h : Own w B (rowsOf e1 e2 v vs (markR M k) ++ R)) (hl : vs.length = M.length) (h0 : 0 ≤ k) (hk : k ≤ 4000000) (hm : M.length ≤ 4000000) (hs : sumLen M ≤ 4000000) : IsRows w v (markR M k) := by
  have hr : ∀ r ∈ markR M k, Short r.length ∧ ∀ x ∈ r, I64 x := by
    intro r hr
    obtain ⟨j, hj, rfl⟩ := mem_iff_row.1 hr
    rw [markR_length] at hj
    have h1 := sumLen_row_le hj
    have h2 := sumLen_take_le M j
    rw [markR_row hj, iota_length]
    exact ⟨by unfold Short; omega, iota_i64 (by omega) (by omega)⟩
  exact h.readsAll (by rw [hl, markR_length]) (by rw [markR_length]; unfold ShortRows; omega) (fun r h => (hr r h).1) (fun r h => (hr r h).2)

theorem sumLen_le {n : Nat} : ∀ {l : List (List Int)}, (∀ x ∈ l, x.length ≤ n) → sumLen l ≤ l.length * n
  | [], _ => by simp [sumLen]
  | x :: l, h => by
    have h1 := h x (by simp)
    have h2 := sumLen_le (l := l) (fun y hy => h y (by simp [hy]))
    simp only [sumLen, List.length_cons, Nat.add_mul, Nat.one_mul]
    omega


end Go.Proofs.YtaphnkgjcmneoaaGreatDoor

/- The number of algorithms: the program's and the reference's. -/
namespace Go.Proofs.YtaphnkgjcmneoaaGreatDoor
open Go.RowKit

theorem probB_len {M S : List (List Int)} (h : probB M S = true) : 1 ≤ M.length ∧ M.length ≤ 4 ∧ 1 ≤ S.length ∧ S.length ≤ 4 := by
  simp only [probB, Bool.and_eq_true] at h
  have h1 := inB_true.1 h.1.1.1
  have h2 := inB_true.1 h.1.2
  omega
theorem probB_table {M S : List (List Int)} (h : probB M S = true) : tableB M = true := by
  simp only [probB, metB, Bool.and_eq_true] at h
  exact h.1.1.2.1
theorem probB_nodet {M S : List (List Int)} (h : probB M S = true) : NoDetour M := by
  simp only [probB, metB, NoDetB, Bool.and_eq_true, decide_eq_true_eq] at h
  exact h.1.1.2.2
theorem probB_row {M S : List (List Int)} (h : probB M S = true) {k : Nat} (hk : k < S.length) : (row S k).length = M.length ∧ (∀ c ∈ row S k, -1 ≤ c ∧ c ≤ 20) ∧ ∃ c ∈ row S k, 0 ≤ c := by
  simp only [probB, Bool.and_eq_true, decide_eq_true_eq] at h
  have h1 := h.2 _ (row_mem hk)
  simp only [reqB, costsOk, canServe, Bool.and_eq_true, decide_eq_true_eq] at h1
  exact ⟨by omega, h1.1.1, h1.2⟩
theorem probB_serve {M S : List (List Int)} (h : probB M S = true) {k x : Nat} (hk : k < S.length) (hx : x < M.length) : -1 ≤ cell S k x ∧ cell S k x ≤ 20 := by
  have h1 := probB_row h hk
  exact h1.2.1 _ (nth_mem (by omega))
theorem probB_move {M S : List (List Int)} (h : probB M S = true) {x y : Nat} (hx : x < M.length) (hy : y < M.length) : 0 ≤ cell M x y ∧ cell M x y ≤ 99 :=
  tableB_cell (probB_table h) hx hy

def canN (cs : List Int) : Nat := (servedL cs).length
def prodTo (S : List (List Int)) : Nat → Nat
  | 0 => 1
  | k + 1 => prodTo S k * canN (row S k)
/-- the number of algorithms -/
def countA (M S : List (List Int)) : Nat := prodTo S S.length ^ M.length

theorem canN_le {M S : List (List Int)} (h : probB M S = true) {k : Nat} (hk : k < S.length) : canN (row S k) ≤ 4 := by
  have h1 := (probB_row h hk).1
  have h2 := probB_len h
  have h3 := servedTo_length (row S k) (row S k).length
  unfold canN servedL
  omega
theorem prodTo_le {M S : List (List Int)} (h : probB M S = true) : ∀ k, k ≤ S.length → prodTo S k ≤ 4 ^ k
  | 0, _ => by simp [prodTo]
  | k + 1, hk => by
    rw [prodTo, Nat.pow_succ]
    exact Nat.mul_le_mul (prodTo_le h k (by omega)) (canN_le h (by omega))
theorem count_le {M S : List (List Int)} (h : probB M S = true) {k i : Nat} (hk : k < M.length) (hi : i < S.length) : prodTo S S.length ^ k * prodTo S i * canN (row S i) ≤ 4294967296 := by
  have h2 := probB_len h
  have h3 : prodTo S S.length ≤ 256 := Nat.le_trans (prodTo_le h _ (Nat.le_refl _)) (Nat.le_trans (Nat.pow_le_pow_right (by omega) h2.2.2.2) (by decide))
  have h4 : prodTo S S.length ^ k ≤ 256 ^ 3 := Nat.le_trans (Nat.pow_le_pow_left h3 k) (Nat.pow_le_pow_right (by omega) (by omega))
  have h5 : prodTo S i * canN (row S i) ≤ 4 ^ (i + 1) := prodTo_le h (i + 1) (by omega)
  have h6 : 4 ^ (i + 1) ≤ 4 ^ 4 := Nat.pow_le_pow_right (by omega) (by omega)
  rw [Nat.mul_assoc]
  exact Nat.le_trans (Nat.mul_le_mul h4 (Nat.le_trans h5 h6)) (by decide)

def countR (M S : List (List Int)) : Int := if probB M S = true then (countA M S : Int) else 0

theorem spec_le {M S : List (List Int)} (h : probB M S = true) {r s : Nat} (hr : r < S.length) (hs : s < M.length) : prodTo S r ^ M.length * canN (row S r) ^ s * canN (row S r) ≤ 4294967296 := by
  have h2 := probB_len h
  have h3 : prodTo S r ≤ 64 := Nat.le_trans (prodTo_le h _ (by omega)) (Nat.le_trans (Nat.pow_le_pow_right (n := 4) (by omega) (show r ≤ 3 by omega)) (by decide))
  have h4 : prodTo S r ^ M.length ≤ 64 ^ 4 := Nat.le_trans (Nat.pow_le_pow_left h3 _) (Nat.pow_le_pow_right (by omega) h2.2.1)
  have h5 : canN (row S r) ^ (s + 1) ≤ 4 ^ 4 := Nat.le_trans (Nat.pow_le_pow_left (canN_le h hr) _) (Nat.pow_le_pow_right (by omega) (by omega))
  rw [Nat.mul_assoc, ← Nat.pow_succ]
  exact Nat.le_trans (Nat.mul_le_mul h4 h5) (by decide)

end Go.Proofs.YtaphnkgjcmneoaaGreatDoor

/- Tests of an algorithm: the reference's and the program's. -/
namespace Go.Proofs.YtaphnkgjcmneoaaGreatDoor
open Go.RowKit

/-- whether a request r can be served in s -/
def stOk (M S : List (List Int)) (r : Nat) (s : Int) : Bool := inB s 0 (M.length - 1) && decide (0 ≤ cell S r s.toNat)
def rowOk (M S : List (List Int)) (x : List Int) : Bool := decide (x.length = S.length) && decide (∀ r, r < x.length → stOk M S r (nth x r) = true)
def algB (M S next : List (List Int)) : Bool := decide (next.length = M.length) && decide (∀ x ∈ next, rowOk M S x = true)

theorem stOk_lt {M : List (List Int)} {s : Int} (h : inB s 0 (M.length - 1) = true) : 0 ≤ s ∧ s.toNat < M.length := by
  have := inB_true.1 h
  omega
theorem rowOk_not {M S : List (List Int)} {x : List Int} {r : Nat} (hr : r < x.length) (h : stOk M S r (nth x r) = false) : rowOk M S x = false := by
  rw [rowOk, Bool.and_eq_false_iff]
  refine .inr (decide_eq_false fun h' => ?_)
  rw [h' r hr] at h
  cases h
theorem algB_not {M S next : List (List Int)} {k : Nat} (hk : k < next.length) (h : rowOk M S (row next k) = false) : algB M S next = false := by
  rw [algB, Bool.and_eq_false_iff]
  refine .inr (decide_eq_false fun h' => ?_)
  rw [h' _ (row_mem hk)] at h
  cases h

theorem rows_all (M S next : List (List Int)) : (!next.any fun x => !rowOk M S x) = decide (∀ x ∈ next, rowOk M S x = true) := by
  rw [List.not_any_eq_all_not, Bool.eq_iff_iff, decide_eq_true_eq, List.all_eq_true]
  simp

def algR (M S next : List (List Int)) : Bool := probB M S && algB M S next

end Go.Proofs.YtaphnkgjcmneoaaGreatDoor

/- Tests of a start state and a sequence. -/
namespace Go.Proofs.YtaphnkgjcmneoaaGreatDoor
open Go.RowKit

/-- whether all numbers of a list are in 0..n-1 -/
def belowB (n : Int) (l : List Int) : Bool := decide (∀ a ∈ l, inB a 0 (n - 1) = true)
theorem belowB_not {n : Int} {l : List Int} {k : Nat} (hk : k < l.length) (h : inB (nth l k) 0 (n - 1) = false) : belowB n l = false := by
  refine decide_eq_false fun h' => ?_
  rw [h' _ (nth_mem hk)] at h
  cases h
theorem belowB_of {n : Int} {l : List Int} (h : ∀ k, k < l.length → inB (nth l k) 0 (n - 1) = true) : belowB n l = true := by
  refine decide_eq_true fun a ha => ?_
  obtain ⟨k, hk, rfl⟩ := mem_iff_nth.1 ha
  exact h k hk
theorem belowB_at {n : Int} {l : List Int} (h : belowB n l = true) {k : Nat} (hk : k < l.length) : 0 ≤ nth l k ∧ nth l k < n := by
  have := inB_true.1 (of_decide_eq_true h _ (nth_mem hk))
  omega
theorem below_any (n : Int) (l : List Int) : (!l.any fun a => !inB a 0 (n - 1)) = belowB n l := by
  rw [List.not_any_eq_all_not, Bool.eq_iff_iff, List.all_eq_true]
  simp [belowB]

set_option maxHeartbeats 400000 in
theorem areBelow1_any {a n : Int} {B : Nat} {w : World} (hn : w.cell? ⟨B, 0, none⟩ = some (.int .i64 n)) (h0 : 0 ≤ n) (h1 : n ≤ 17592186044415) :
    Calls Tryz.prog 72 #[.int .i64 a, .pointer (some ⟨B, 0, none⟩)] w fun e w' => e = .returned (.bool (!inB a 0 (n - 1))) ∧ w = w' := by
  go_enter Tryz.func72, Tryz.ntmps72
  go_wp2_with (go_at_call 36; refine (within_any _ _ _ _).mono ?_; rintro e w' ⟨rfl, rfl⟩)
  go_ret
  exact ⟨rfl, rfl⟩
theorem areBelow1_call (xa : Array Value) (W : World) : (callFunc 72 xa).run Tryz.prog W = .ok (.enter 72 xa) W := by kernel_rfl
theorem areBelow1_all {l : List Int} {n : Int} {B : Nat} {w : World} (hn : w.cell? ⟨B, 0, none⟩ = some (.int .i64 n)) (h0 : 0 ≤ n) (h1 : n ≤ 17592186044415) :
    ∀ (W : World), Ext w W → ∀ k, k < l.length → Calls Tryz.prog 72 (#[.int .i64 (nth l k)] ++ #[.pointer (some ⟨B, 0, none⟩)]) W fun e w' => e = .returned (.bool ((fun a => !inB a 0 (n - 1)) (nth l k))) ∧ Ext W w' := by
  intro W hW k hk
  refine (areBelow1_any (hW.cell hn) h0 h1).mono ?_
  rintro e w' ⟨rfl, rfl⟩
  exact ⟨rfl, Ext.refl _⟩

set_option maxHeartbeats 400000 in
theorem areBelow_any {v : Value} {l : List Int} {n : Int} {w0 w : World} [Ext w0 w] (hl : IsInts w0 v l) (h0 : 0 ≤ n) (h1 : n ≤ 17592186044415) :
    Calls Tryz.prog 32 #[.int .i64 n, v] w fun e w' => e = .returned (.bool (belowB n l)) ∧ Ext w w' := by
  have hl' := hl
  obtain ⟨a, c, rfl, la⟩ := hl.form
  have hR := hid (below_any n l)
  go_enter Tryz.func32, Tryz.ntmps32
  go_wp2_with fail
  generalize hW : w.alloc (.cells #[.int .i64 n] 3) = W1
  have e1 : Ext w W1 := hW ▸ inferInstance
  have e0 : Ext w0 W1 := Ext.trans ‹Ext w0 w› e1
  have x0 : W1.cell? ⟨w.heap.size, 0, none⟩ = some (.int .i64 n) := by subst hW; go_simp
  clear hW
  refine (containsFuncInts_any (w0 := w0) hl' _ _ (fun a => !inB a 0 (n - 1)) areBelow1_call (areBelow1_all x0 h0 h1)).mono ?_
  rintro e w2 ⟨rfl, hb⟩
  generalize hz : (l.any fun a => !inB a 0 (n - 1)) = z at *
  replace hz := hid hz
  go_wp2_with fail
  go_ret
  exact ⟨ret_bool hR.out, Ext.trans e1 hb⟩

/-- whether a list is a sequence of a problem with m requests -/
def seqB (m : Nat) (reqs : List Int) : Bool := decide (reqs.length ≤ 60) && belowB m reqs
def startB (M S : List (List Int)) (start : Int) (reqs : List Int) : Bool := probB M S && inB start 0 (M.length - 1) && seqB S.length reqs

end Go.Proofs.YtaphnkgjcmneoaaGreatDoor

/- The cost of a schedule. -/
namespace Go.Proofs.YtaphnkgjcmneoaaGreatDoor
open Go.RowKit

/-- what a request r costs in the state s, coming from another one -/
def stepC (M S : List (List Int)) (r at_ s : Int) : Int := cell M at_.toNat s.toNat + cell S r.toNat s.toNat
/-- the state before the k-th request -/
def atOf (start : Int) (states : List Int) : Nat → Int
  | 0 => start
  | k + 1 => nth states k
def sumTo (M S : List (List Int)) (start : Int) (reqs states : List Int) : Nat → Int
  | 0 => 0
  | k + 1 => sumTo M S start reqs states k + stepC M S (nth reqs k) (atOf start states k) (nth states k)
def okTo (M S : List (List Int)) (reqs states : List Int) (k : Nat) : Prop := ∀ i, i < k → stOk M S (nth reqs i).toNat (nth states i) = true
instance (M S : List (List Int)) (reqs states : List Int) (k : Nat) : Decidable (okTo M S reqs states k) := by unfold okTo; infer_instance
def schedB (M S : List (List Int)) (start : Int) (reqs states : List Int) : Bool := startB M S start reqs && decide (states.length = reqs.length) && decide (okTo M S reqs states states.length)
def schedR (M S : List (List Int)) (start : Int) (reqs states : List Int) : Int := if schedB M S start reqs states = true then sumTo M S start reqs states states.length else 0

theorem startB_prob {M S : List (List Int)} {start : Int} {reqs : List Int} (h : startB M S start reqs = true) : probB M S = true := by
  simp only [startB, Bool.and_eq_true] at h; exact h.1.1
theorem startB_state {M S : List (List Int)} {start : Int} {reqs : List Int} (h : startB M S start reqs = true) : 0 ≤ start ∧ start < M.length := by
  simp only [startB, Bool.and_eq_true] at h
  have := inB_true.1 h.1.2
  omega
theorem startB_len {M S : List (List Int)} {start : Int} {reqs : List Int} (h : startB M S start reqs = true) : reqs.length ≤ 60 := by
  simp only [startB, seqB, Bool.and_eq_true, decide_eq_true_eq] at h; exact h.2.1
theorem startB_req {M S : List (List Int)} {start : Int} {reqs : List Int} (h : startB M S start reqs = true) {k : Nat} (hk : k < reqs.length) : 0 ≤ nth reqs k ∧ nth reqs k < S.length := by
  simp only [startB, seqB, Bool.and_eq_true] at h
  exact belowB_at h.2.2 hk
theorem stOk_in {M S : List (List Int)} {r : Nat} {s : Int} (h : stOk M S r s = true) : 0 ≤ s ∧ s < M.length ∧ 0 ≤ cell S r s.toNat := by
  simp only [stOk, Bool.and_eq_true, decide_eq_true_eq] at h
  have := inB_true.1 h.1
  omega
theorem atOf_in {M S : List (List Int)} {start : Int} {reqs states : List Int} (h0 : 0 ≤ start) (h1 : start < M.length) {k : Nat} (hok : okTo M S reqs states k) : 0 ≤ atOf start states k ∧ atOf start states k < M.length := by
  cases k with
  | zero => exact ⟨h0, h1⟩
  | succ k =>
    have := stOk_in (hok k (by omega))
    exact ⟨this.1, this.2.1⟩
theorem stepC_le {M S : List (List Int)} (hp : probB M S = true) {r a s : Int} (hr0 : 0 ≤ r) (hr1 : r < S.length) (_ha0 : 0 ≤ a) (ha1 : a < M.length) (hs0 : 0 ≤ s) (hs1 : s < M.length) :
    -1 ≤ stepC M S r a s ∧ stepC M S r a s ≤ 119 := by
  have h1 := probB_move hp (x := a.toNat) (y := s.toNat) (by omega) (by omega)
  have h2 := probB_serve hp (k := r.toNat) (x := s.toNat) (by omega) (by omega)
  unfold stepC
  omega
theorem sumTo_le {M S : List (List Int)} {start : Int} {reqs states : List Int} (h : startB M S start reqs = true) (hl : states.length = reqs.length) :
    ∀ k, k ≤ states.length → okTo M S reqs states k → -(k : Int) ≤ sumTo M S start reqs states k ∧ sumTo M S start reqs states k ≤ 119 * k
  | 0, _, _ => by simp [sumTo]
  | k + 1, hk, hok => by
    have ih := sumTo_le h hl k (by omega) (fun i hi => hok i (by omega))
    have h1 := startB_req h (k := k) (by omega)
    have h2 := stOk_in (hok k (by omega))
    have h3 := startB_state h
    have h4 := atOf_in h3.1 h3.2 (fun i (hi : i < k) => hok i (by omega))
    have h5 := stepC_le (startB_prob h) h1.1 h1.2 h4.1 h4.2 h2.1 h2.2.1
    simp only [sumTo]
    omega

end Go.Proofs.YtaphnkgjcmneoaaGreatDoor

/- ScheduleCost of the reference and of the program. -/
namespace Go.Proofs.YtaphnkgjcmneoaaGreatDoor
open Go.RowKit

theorem schedB_start {M S : List (List Int)} {start : Int} {reqs states : List Int} (h : startB M S start reqs = false) : schedB M S start reqs states = false := by rw [schedB, h]; rfl
theorem schedB_len {M S : List (List Int)} {start : Int} {reqs states : List Int} (h : ¬ states.length = reqs.length) : schedB M S start reqs states = false := by simp [schedB, h]
theorem schedB_at {M S : List (List Int)} {start : Int} {reqs states : List Int} {k : Nat} (hk : k < states.length) (h : stOk M S (nth reqs k).toNat (nth states k) = false) : schedB M S start reqs states = false := by
  have : ¬ okTo M S reqs states states.length := fun h' => by rw [h' k hk] at h; cases h
  simp [schedB, this]
theorem schedB_true {M S : List (List Int)} {start : Int} {reqs states : List Int} (h : startB M S start reqs = true) (hl : states.length = reqs.length) (hok : okTo M S reqs states states.length) : schedB M S start reqs states = true := by
  simp [schedB, h, hl]; rw [← hl]; exact hok
theorem schedR_false {M S : List (List Int)} {start : Int} {reqs states : List Int} (h : schedB M S start reqs states = false) : schedR M S start reqs states = 0 := by simp [schedR, h]
theorem schedR_true {M S : List (List Int)} {start : Int} {reqs states : List Int} (h : schedB M S start reqs states = true) : schedR M S start reqs states = sumTo M S start reqs states states.length := by simp [schedR, h]
theorem ret_ib {a c : Int} {b d : Bool} (h1 : a = c) (h2 : b = d) : Ending.returned (.tuple #[.int .i64 a, .bool b]) = .returned (.tuple #[.int .i64 c, .bool d]) := by rw [h1, h2]

end Go.Proofs.YtaphnkgjcmneoaaGreatDoor

/- Steps of a drawing region that append. -/
namespace Go.Proofs.YtaphnkgjcmneoaaGreatDoor
open Go.RowKit

theorem stp_one {P : Program} {ops : Array Oper} {o : Oper} {a : Act} {w : World} {K : Act → World → Prop} {Q : Exit → Act → World → Prop} {E0 : Prop} (hgd : o.guard = none) (s x : Operand) (t : TypeId)
    (ho : o.op = .call { callee := .builtin .append, args := #[s, x], argTypes := #[t, t] })
    {e z bytes : Nat} {zv : Value} (E : Elem P t e zv z bytes) {B : Nat} {R : List Row} {v : Value} {n : Nat} {cs : List Value} (hs : a.eval s = v)
    (own : Own w B (⟨e, z, v, n, cs⟩ :: R)) (hB : B ≤ w.heap.size) {g : Nat} {us : List Value} (hus : us.length = z)
    (hx : a.eval x = .slice (some ⟨g, 0, none⟩) 1 1) (hnews : ∀ j u, us[j]? = some u → w.cell? ⟨g, j, none⟩ = some u) (h1 : ∀ u ∈ us, u.oneCell' = true) (h63 : n ≤ 17592186044415) (hb16 : (n + 1) * bytes ≤ 140737488355328)
    (h : ∀ v' w', Own w' B (⟨e, z, v', n + 1, cs ++ us⟩ :: R) → Below B w w' → K (a.put o.dst v') w') :
    if Region.wanted o (yielded ops a.tmps) = true then Oper.wp P o a w K Q else E0 := by
  have hw : Region.wanted o (yielded ops a.tmps) = true := by simp [Region.wanted, hgd]
  rw [if_pos hw]
  have hn2 : ∀ j u, us[j]? = some u → w.cell? ((⟨g, 0, none⟩ : Addr).add j) = some u := by
    intro j u hj
    have e1 : (⟨g, 0, none⟩ : Addr).add j = ⟨g, j, none⟩ := by
      unfold Addr.add; split <;> simp_all
    rw [e1]
    exact hnews j u hj
  obtain ⟨v', w', hr, h2, h3⟩ := run_append_Own (P := P) (ty := o.type) E own hB (m := 1) (c := 1) (by omega) hn2 h1 (by unfold maxLen; omega) hb16
  unfold Oper.wp execOp
  simp only [ho, resolve, invoke, builtin, Sem.run_bind, Sem.run_pure, Result.andThen_ok, List.map_toArray, List.map_cons, List.map_nil, hs, hx]
  rw [hr]
  exact h v' w' h2 h3

theorem stp_ints {P : Program} {ops : Array Oper} {o : Oper} {a : Act} {w : World} {K : Act → World → Prop} {Q : Exit → Act → World → Prop} {E0 : Prop} (hgd : o.guard = none) (s x : Operand) (t : TypeId)
    (ho : o.op = .call { callee := .builtin .append, args := #[s, x], argTypes := #[t, t] })
    {e : Nat} (E : Elem P t e (.int .i64 0) 1 8) {B : Nat} {R : List Row} {v u : Value} {n : Nat} {cs : List Value} (hs : a.eval s = v)
    (own : Own w B (⟨e, 1, v, n, cs⟩ :: R)) (hB : B ≤ w.heap.size) {ys : List Int} (hx : a.eval x = u) (hy : IsInts w u ys)
    (h63 : n + ys.length ≤ 17592186044415)
    (h : ∀ v' w', Own w' B (⟨e, 1, v', n + ys.length, cs ++ ys.map (Value.int .i64)⟩ :: R) → Below B w w' → K (a.put o.dst v') w') :
    if Region.wanted o (yielded ops a.tmps) = true then Oper.wp P o a w K Q else E0 := by
  have hw : Region.wanted o (yielded ops a.tmps) = true := by simp [Region.wanted, hgd]
  rw [if_pos hw]
  obtain ⟨d, c, rfl, hl⟩ := hy.form
  cases d with
  | some ad =>
    obtain ⟨v', w', hr, h2, h3⟩ := run_append_Own (P := P) (ty := o.type) E own hB (ad := ad) (m := ys.length) (c := c) (news := ys.map (Value.int .i64)) (by simp) (cells_of_ints hy) (by intro y hy'; simp at hy'; obtain ⟨k, _, rfl⟩ := hy'; rfl) (by unfold maxLen; omega) (by omega)
    unfold Oper.wp execOp
    simp only [ho, resolve, invoke, builtin, Sem.run_bind, Sem.run_pure, Result.andThen_ok, List.map_toArray, List.map_cons, List.map_nil, hs, hx]
    rw [hr]
    exact h v' w' h2 h3
  | none =>
    have hy0 : ys = [] := by
      cases ys with
      | nil => rfl
      | cons y ys =>
        obtain ⟨b, o, h1, _⟩ := hy.at (w' := w) (k := 0) (by simp)
        cases h1
    subst hy0
    have hr := run_append_none (P := P) (ty := o.type) E own.head c
    unfold Oper.wp execOp
    simp only [ho, resolve, invoke, builtin, Sem.run_bind, Sem.run_pure, Result.andThen_ok, List.map_toArray, List.map_cons, List.map_nil, hs, hx, List.length_nil]
    rw [hr]
    exact h v w (by rw [List.length_nil, Nat.add_zero, List.map_nil, List.append_nil]; exact own) (Below.refl _ _)


theorem region_held_from {P : Program} {ops : Array Oper} {Q : Exit → Act → World → Prop} {S : World → Prop} {id : Nat} {a : Act} {w w0 : World} [e : Ext w0 w] (hm : P.follows .mixedOrders = true) (hS : ∀ u, Ext w0 u → S u)
    (h : ∀ wd, Ext w0 wd → S wd → wpAnyH P .any ops Q S ops.size (Array.replicate ops.size false) a wd) : (Code.region id ops true).wp P Q a w :=
  wp_region_held_drew hm (hS _ inferInstance) (fun h0 => h _ inferInstance h0)
theorem own_formN {w : World} {B e : Nat} {v : Value} {xs : List Int} {R : List Row} (h : Own w B (intRowOf e v xs :: R)) : ∃ d n m, v = .slice d n m ∧ Hid (n = xs.length) := by
  obtain ⟨d, m, h⟩ := h.form
  exact ⟨d, _, m, h, rfl⟩
theorem own_grow1 {w : World} {B e n : Nat} {v : Value} {xs : List Int} {x : Int} {R : List Row} (h : Own w B (⟨e, 1, v, n + 1, xs.map (Value.int .i64) ++ [.int .i64 x]⟩ :: R)) (hn : n = xs.length) : Own w B (intRowOf e v (xs ++ [x]) :: R) := by
  subst hn
  unfold intRowOf
  rw [List.length_append, List.map_append]
  exact h
theorem own_more {w : World} {B e n : Nat} {v : Value} {xs ys : List Int} {R : List Row} (h : Own w B (⟨e, 1, v, n + ys.length, xs.map (Value.int .i64) ++ ys.map (Value.int .i64)⟩ :: R)) (hn : n = xs.length) : Own w B (intRowOf e v (xs ++ ys) :: R) := by
  subst hn
  unfold intRowOf
  rw [List.length_append, List.map_append]
  exact h
end Go.Proofs.YtaphnkgjcmneoaaGreatDoor

/- The box of a cache: its five cells. -/
namespace Go.Proofs.YtaphnkgjcmneoaaGreatDoor
open Go.RowKit

/-- the five cells of a box, none of them frozen -/
structure BX (u : World) (c : Nat) (a0 a1 a2 a3 a4 : Value) : Prop where
  c0 : u.cell? ⟨c, 0, none⟩ = some a0
  c1 : u.cell? ⟨c, 1, none⟩ = some a1
  c2 : u.cell? ⟨c, 2, none⟩ = some a2
  c3 : u.cell? ⟨c, 3, none⟩ = some a3
  c4 : u.cell? ⟨c, 4, none⟩ = some a4
  f0 : u.frozen? ⟨c, 0, none⟩ = false
  f1 : u.frozen? ⟨c, 1, none⟩ = false
  f2 : u.frozen? ⟨c, 2, none⟩ = false
  f3 : u.frozen? ⟨c, 3, none⟩ = false
  f4 : u.frozen? ⟨c, 4, none⟩ = false
theorem BX.ext {u u' : World} {c : Nat} {a0 a1 a2 a3 a4 : Value} (h : BX u c a0 a1 a2 a3 a4) (e : Ext u u') : BX u' c a0 a1 a2 a3 a4 :=
  ⟨e.cell h.c0, e.cell h.c1, e.cell h.c2, e.cell h.c3, e.cell h.c4, e.frozen h.c0 h.f0, e.frozen h.c1 h.f1, e.frozen h.c2 h.f2, e.frozen h.c3 h.f3, e.frozen h.c4 h.f4⟩
theorem BX.below {u u' : World} {c B : Nat} {a0 a1 a2 a3 a4 : Value} (h : BX u c a0 a1 a2 a3 a4) (e : Below B u u') (hc : c < B) : BX u' c a0 a1 a2 a3 a4 :=
  ⟨(e.cell (p := ⟨c, 0, none⟩) hc).trans h.c0, (e.cell (p := ⟨c, 1, none⟩) hc).trans h.c1, (e.cell (p := ⟨c, 2, none⟩) hc).trans h.c2, (e.cell (p := ⟨c, 3, none⟩) hc).trans h.c3, (e.cell (p := ⟨c, 4, none⟩) hc).trans h.c4, (e.frozen (p := ⟨c, 0, none⟩) hc).trans h.f0, (e.frozen (p := ⟨c, 1, none⟩) hc).trans h.f1, (e.frozen (p := ⟨c, 2, none⟩) hc).trans h.f2, (e.frozen (p := ⟨c, 3, none⟩) hc).trans h.f3, (e.frozen (p := ⟨c, 4, none⟩) hc).trans h.f4⟩
theorem BX.alloc (w : World) (t : Nat) (a0 a1 a2 a3 a4 : Value) : BX (w.alloc (.cells #[a0, a1, a2, a3, a4] t)) w.heap.size a0 a1 a2 a3 a4 :=
  ⟨by go_simp, by go_simp, by go_simp, by go_simp, by go_simp, by go_simp, by go_simp, by go_simp, by go_simp, by go_simp⟩
theorem BX.other {u : World} {c : Nat} {a0 a1 a2 a3 a4 : Value} (h : BX u c a0 a1 a2 a3 a4) {p : Addr} (hp : p.block ≠ c) (v : Value) : BX (u.setCell p v) c a0 a1 a2 a3 a4 := by
  have hb := Below.heap_setCell u p v c (Ne.symm hp)
  exact ⟨(World.cell?_of_block (w := u) hb).trans h.c0, (World.cell?_of_block (w := u) hb).trans h.c1, (World.cell?_of_block (w := u) hb).trans h.c2, (World.cell?_of_block (w := u) hb).trans h.c3, (World.cell?_of_block (w := u) hb).trans h.c4, (World.frozen?_of_block (w := u) hb).trans h.f0, (World.frozen?_of_block (w := u) hb).trans h.f1, (World.frozen?_of_block (w := u) hb).trans h.f2, (World.frozen?_of_block (w := u) hb).trans h.f3, (World.frozen?_of_block (w := u) hb).trans h.f4⟩
theorem BX.set0 {u : World} {c : Nat} {a0 a1 a2 a3 a4 : Value} (h : BX u c a0 a1 a2 a3 a4) (v : Value) : BX (u.setCell ⟨c, 0, none⟩ v) c v a1 a2 a3 a4 := by
  obtain ⟨h0, h1, h2, h3, h4, f0, f1, f2, f3, f4⟩ := h
  exact ⟨by go_simp, by go_simp, by go_simp, by go_simp, by go_simp, by go_simp, by go_simp, by go_simp, by go_simp, by go_simp⟩
theorem BX.set1 {u : World} {c : Nat} {a0 a1 a2 a3 a4 : Value} (h : BX u c a0 a1 a2 a3 a4) (v : Value) : BX (u.setCell ⟨c, 1, none⟩ v) c a0 v a2 a3 a4 := by
  obtain ⟨h0, h1, h2, h3, h4, f0, f1, f2, f3, f4⟩ := h
  exact ⟨by go_simp, by go_simp, by go_simp, by go_simp, by go_simp, by go_simp, by go_simp, by go_simp, by go_simp, by go_simp⟩
theorem BX.set2 {u : World} {c : Nat} {a0 a1 a2 a3 a4 : Value} (h : BX u c a0 a1 a2 a3 a4) (v : Value) : BX (u.setCell ⟨c, 2, none⟩ v) c a0 a1 v a3 a4 := by
  obtain ⟨h0, h1, h2, h3, h4, f0, f1, f2, f3, f4⟩ := h
  exact ⟨by go_simp, by go_simp, by go_simp, by go_simp, by go_simp, by go_simp, by go_simp, by go_simp, by go_simp, by go_simp⟩
theorem BX.set3 {u : World} {c : Nat} {a0 a1 a2 a3 a4 : Value} (h : BX u c a0 a1 a2 a3 a4) (v : Value) : BX (u.setCell ⟨c, 3, none⟩ v) c a0 a1 a2 v a4 := by
  obtain ⟨h0, h1, h2, h3, h4, f0, f1, f2, f3, f4⟩ := h
  exact ⟨by go_simp, by go_simp, by go_simp, by go_simp, by go_simp, by go_simp, by go_simp, by go_simp, by go_simp, by go_simp⟩
theorem BX.set4 {u : World} {c : Nat} {a0 a1 a2 a3 a4 : Value} (h : BX u c a0 a1 a2 a3 a4) (v : Value) : BX (u.setCell ⟨c, 4, none⟩ v) c a0 a1 a2 a3 v := by
  obtain ⟨h0, h1, h2, h3, h4, f0, f1, f2, f3, f4⟩ := h
  exact ⟨by go_simp, by go_simp, by go_simp, by go_simp, by go_simp, by go_simp, by go_simp, by go_simp, by go_simp, by go_simp⟩
/-- the results of a function with a cache in a box and one more -/
theorem res_bx {fn : Func} {t u : Tmp} (h : fn.results = #[.cell t 26, .tmp u]) {tmps : Array Value} {w : World} {c : Nat} {a0 a1 a2 a3 a4 : Value} (hp : tmps.getD t undef = .pointer (some ⟨c, 0, none⟩)) (hb : BX w c a0 a1 a2 a3 a4) :
    (results fn tmps).run Tryz.prog w = .ok (.tuple #[.agg #[a0, a1, a2, a3, a4], tmps.getD u undef]) w := by
  obtain ⟨r0, r1, r2, r3, r4, _, _, _, _, _⟩ := hb
  have hp' : tmps[t]?.getD undef = .pointer (some ⟨c, 0, none⟩) := by simpa using hp
  simp [results, h, hp', go_sem, r0, r1, r2, r3, r4]
end Go.Proofs.YtaphnkgjcmneoaaGreatDoor

/- The run of an algorithm on a sequence: its states and its cost. -/
namespace Go.Proofs.YtaphnkgjcmneoaaGreatDoor
open Go.RowKit

/-- the state before the k-th request -/
def stAt (N : List (List Int)) (s : Int) (X : List Int) : Nat → Int
  | 0 => s
  | k + 1 => cell N (stAt N s X k).toNat (nth X k).toNat
def statesTo (N : List (List Int)) (s : Int) (X : List Int) (k : Nat) : List Int := (List.range k).map fun i => stAt N s X (i + 1)
def sumA (M S N : List (List Int)) (s : Int) (X : List Int) : Nat → Int
  | 0 => 0
  | k + 1 => sumA M S N s X k + stepC M S (nth X k) (stAt N s X k) (stAt N s X (k + 1))
def algOk (M S N : List (List Int)) (s : Int) (X : List Int) : Bool := startB M S s X && algB M S N
def costA (M S N : List (List Int)) (s : Int) (X : List Int) : Int := if algOk M S N s X = true then sumA M S N s X X.length else 0
def statesA (M S N : List (List Int)) (s : Int) (X : List Int) : List Int := if algOk M S N s X = true then statesTo N s X X.length else []

theorem statesTo_succ (N : List (List Int)) (s : Int) (X : List Int) (k : Nat) : statesTo N s X (k + 1) = statesTo N s X k ++ [stAt N s X (k + 1)] := by simp [statesTo, List.range_succ]
theorem statesTo_length (N : List (List Int)) (s : Int) (X : List Int) (k : Nat) : (statesTo N s X k).length = k := by simp [statesTo]
theorem nth_statesTo {N : List (List Int)} {s : Int} {X : List Int} {k j : Nat} (h : j < k) : nth (statesTo N s X k) j = stAt N s X (j + 1) := by simp [statesTo, nth, h]
theorem atOf_statesTo {N : List (List Int)} {s : Int} {X : List Int} {k : Nat} : ∀ {j : Nat}, j ≤ k → atOf s (statesTo N s X k) j = stAt N s X j
  | 0, _ => rfl
  | j + 1, h => nth_statesTo (by omega)
theorem sumTo_statesTo {M S N : List (List Int)} {s : Int} {X : List Int} {k : Nat} : ∀ {j : Nat}, j ≤ k → sumTo M S s X (statesTo N s X k) j = sumA M S N s X j
  | 0, _ => rfl
  | j + 1, h => by rw [sumTo, sumA, sumTo_statesTo (j := j) (by omega), atOf_statesTo (j := j) (by omega), nth_statesTo (by omega)]
theorem algB_len {M S N : List (List Int)} (h : algB M S N = true) : N.length = M.length := by
  simp only [algB, Bool.and_eq_true, decide_eq_true_eq] at h; exact h.1
theorem algB_row {M S N : List (List Int)} (h : algB M S N = true) {k : Nat} (hk : k < M.length) : (row N k).length = S.length := by
  have hl := algB_len h
  simp only [algB, Bool.and_eq_true, decide_eq_true_eq] at h
  have := h.2 _ (row_mem (xss := N) (k := k) (by omega))
  simp only [rowOk, Bool.and_eq_true, decide_eq_true_eq] at this
  exact this.1
theorem algB_at {M S N : List (List Int)} (h : algB M S N = true) {k r : Nat} (hk : k < M.length) (hr : r < S.length) : stOk M S r (cell N k r) = true := by
  have hl := algB_len h
  have hrow := algB_row h hk
  simp only [algB, Bool.and_eq_true, decide_eq_true_eq] at h
  have := h.2 _ (row_mem (xss := N) (k := k) (by omega))
  simp only [rowOk, Bool.and_eq_true, decide_eq_true_eq] at this
  exact this.2 r (by omega)
theorem stAt_in {M S N : List (List Int)} {s : Int} {X : List Int} (h : startB M S s X = true) (ha : algB M S N = true) : ∀ {k : Nat}, k ≤ X.length → 0 ≤ stAt N s X k ∧ stAt N s X k < M.length
  | 0, _ => startB_state h
  | k + 1, hk => by
    have ih := stAt_in h ha (k := k) (by omega)
    have hr := startB_req h (k := k) (by omega)
    have := stOk_in (algB_at ha (k := (stAt N s X k).toNat) (r := (nth X k).toNat) (by omega) (by omega))
    exact ⟨this.1, this.2.1⟩
theorem okTo_statesTo {M S N : List (List Int)} {s : Int} {X : List Int} (h : startB M S s X = true) (ha : algB M S N = true) {k : Nat} (hk : k ≤ X.length) : okTo M S X (statesTo N s X X.length) k := by
  intro i hi
  have h1 := stAt_in h ha (k := i) (by omega)
  have h2 := startB_req h (k := i) (by omega)
  rw [nth_statesTo (by omega)]
  exact algB_at ha (by omega) (by omega)
theorem sumA_le {M S N : List (List Int)} {s : Int} {X : List Int} (h : startB M S s X = true) (ha : algB M S N = true) {k : Nat} (hk : k ≤ X.length) : -(k : Int) ≤ sumA M S N s X k ∧ sumA M S N s X k ≤ 119 * k := by
  have := sumTo_le h (states := statesTo N s X X.length) (statesTo_length _ _ _ _) k (by rw [statesTo_length]; exact hk) (okTo_statesTo h ha hk)
  rwa [sumTo_statesTo hk] at this
theorem statesTo_i64 {M S N : List (List Int)} {s : Int} {X : List Int} (h : startB M S s X = true) (ha : algB M S N = true) {k : Nat} (hk : k ≤ X.length) (hM : M.length ≤ 17592186044415) : ∀ x ∈ statesTo N s X k, I64 x := by
  intro x hx
  obtain ⟨i, hi, rfl⟩ := List.mem_map.1 hx
  have hi' := List.mem_range.1 hi
  have := stAt_in h ha (k := i + 1) (by omega)
  unfold I64
  omega
theorem algOk_start {M S N : List (List Int)} {s : Int} {X : List Int} (h : startB M S s X = false) : algOk M S N s X = false := by simp [algOk, h]
theorem algOk_alg {M S N : List (List Int)} {s : Int} {X : List Int} (h : algB M S N = false) : algOk M S N s X = false := by simp [algOk, h]
theorem algOk_true {M S N : List (List Int)} {s : Int} {X : List Int} (h : startB M S s X = true) (ha : algB M S N = true) : algOk M S N s X = true := by simp [algOk, h, ha]
theorem costA_false {M S N : List (List Int)} {s : Int} {X : List Int} (h : algOk M S N s X = false) : costA M S N s X = 0 := by simp [costA, h]
theorem costA_true {M S N : List (List Int)} {s : Int} {X : List Int} (h : algOk M S N s X = true) : costA M S N s X = sumA M S N s X X.length := by simp [costA, h]
theorem statesA_false {M S N : List (List Int)} {s : Int} {X : List Int} (h : algOk M S N s X = false) : statesA M S N s X = [] := by simp [statesA, h]
theorem statesA_true {M S N : List (List Int)} {s : Int} {X : List Int} (h : algOk M S N s X = true) : statesA M S N s X = statesTo N s X X.length := by simp [statesA, h]
theorem statesA_len {M S N : List (List Int)} {s : Int} {X : List Int} : (statesA M S N s X).length ≤ 4000000 := by
  unfold statesA
  split
  · rename_i h
    rw [statesTo_length]
    simp only [algOk, Bool.and_eq_true] at h
    have := startB_len h.1
    omega
  · simp

end Go.Proofs.YtaphnkgjcmneoaaGreatDoor

/- The run of an algorithm: the reference's states and cost, the program's run. -/
namespace Go.Proofs.YtaphnkgjcmneoaaGreatDoor
open Go.RowKit

end Go.Proofs.YtaphnkgjcmneoaaGreatDoor

/- AlgorithmStates and AlgorithmCost of the reference and of the program. Written by algs.py. -/
namespace Go.Proofs.YtaphnkgjcmneoaaGreatDoor
open Go.RowKit

theorem isInts_zero (w : World) (d : Option Addr) (c : Nat) : IsInts w (.slice d ([] : List Int).length c) [] := ⟨d, c, rfl, ⟨Nat.zero_le _, Nat.zero_le _⟩, by simp, fun j hj => by simp at hj⟩
theorem isRows_zero (w : World) (d : Option Addr) (c : Nat) : IsRows w (.slice d ([] : List (List Int)).length c) [] := ⟨d, c, rfl, Nat.zero_le _, fun j hj => by simp at hj⟩
theorem own_nils_i (w : World) (B : Nat) : Own w B [intRowOf 3 (.slice none ([] : List Int).length 0) []] := (Own.nil w B).cons_nil _ _
theorem own_nils_r (w : World) (B : Nat) : Own w B (rowsOf 24 3 (.slice none ([] : List (List Int)).length 0) [] []) := (Own.nil w B).cons_nil _ _
theorem own_nils_rr (w : World) (B : Nat) : Own w B (rowsOf 24 3 (.slice none ([] : List (List Int)).length 0) [] [] ++ rowsOf 24 3 (.slice none ([] : List (List Int)).length 0) [] []) := ((Own.nil w B).cons_nil _ _).cons_nil _ _

end Go.Proofs.YtaphnkgjcmneoaaGreatDoor

/- Least values over lists: what loops compute and what they are. -/
namespace Go.Proofs.YtaphnkgjcmneoaaGreatDoor
open Go.RowKit

/-- a least value, kept with a first one that counts as none -/
def minA (f : Int → Int) (b s : Int) : Int := if b < 0 ∨ f s < b then f s else b
def minB (f : Int → Int) (a s : Int) : Int := if f s < a then f s else a
/-- v is the least of f on l -/
def IsMin (v : Int) (l : List Int) (f : Int → Int) : Prop := (∃ s ∈ l, v = f s) ∧ ∀ s ∈ l, v ≤ f s
theorem IsMin.uniq {u v : Int} {l : List Int} {f : Int → Int} (h : IsMin u l f) (k : IsMin v l f) : u = v := by
  obtain ⟨⟨s, hs, h1⟩, h2⟩ := h
  obtain ⟨⟨t, ht, k1⟩, k2⟩ := k
  have := h2 t ht
  have := k2 s hs
  omega
theorem foldA_of {f : Int → Int} : ∀ {l : List Int} {b : Int}, 0 ≤ b → (∀ s ∈ l, 0 ≤ f s) → l.foldl (minA f) b = l.foldl (minB f) b
  | [], _, _, _ => rfl
  | s :: l, b, hb, h => by
    have hs := h s (by simp)
    have e : minA f b s = minB f b s := by
      unfold minA minB
      by_cases hlt : f s < b
      · rw [if_pos (.inr hlt), if_pos hlt]
      · rw [if_neg (by omega), if_neg hlt]
    rw [List.foldl_cons, List.foldl_cons, e]
    refine foldA_of ?_ (fun t ht => h t (by simp [ht]))
    unfold minB
    split <;> omega
theorem foldA_eq {f : Int → Int} {l : List Int} {F : Int} (hne : l ≠ []) (h0 : ∀ s ∈ l, 0 ≤ f s) (h1 : ∀ s ∈ l, f s < F) : l.foldl (minA f) (-1) = l.foldl (minB f) F := by
  cases l with
  | nil => exact absurd rfl hne
  | cons s l =>
    have e1 : minA f (-1) s = f s := by unfold minA; rw [if_pos (.inl (by omega))]
    have e2 : minB f F s = f s := by unfold minB; rw [if_pos (h1 s (by simp))]
    rw [List.foldl_cons, List.foldl_cons, e1, e2]
    exact foldA_of (h0 s (by simp)) (fun t ht => h0 t (by simp [ht]))
theorem foldB_le {f : Int → Int} : ∀ (l : List Int) (b : Int), l.foldl (minB f) b ≤ b ∧ (∀ s ∈ l, l.foldl (minB f) b ≤ f s) ∧ (l.foldl (minB f) b = b ∨ ∃ s ∈ l, l.foldl (minB f) b = f s)
  | [], b => ⟨by simp, by simp, by simp⟩
  | s :: l, b => by
    obtain ⟨h1, h2, h3⟩ := foldB_le (f := f) l (minB f b s)
    have e : minB f b s ≤ b ∧ minB f b s ≤ f s ∧ (minB f b s = b ∨ minB f b s = f s) := by
      unfold minB
      split <;> omega
    rw [List.foldl_cons]
    generalize minB f b s = m at *
    refine ⟨by omega, fun t ht => ?_, ?_⟩
    · rcases List.mem_cons.1 ht with rfl | ht
      · omega
      · exact h2 t ht
    · rcases h3 with h3 | ⟨t, ht, h3⟩
      · rcases e.2.2 with e3 | e3
        · exact .inl (by omega)
        · exact .inr ⟨s, by simp, by omega⟩
      · exact .inr ⟨t, by simp [ht], h3⟩
theorem foldB_min {f : Int → Int} {l : List Int} {F : Int} (hne : l ≠ []) (h1 : ∀ s ∈ l, f s < F) : IsMin (l.foldl (minB f) F) l f := by
  obtain ⟨_, h2, h3⟩ := foldB_le (f := f) l F
  refine ⟨?_, h2⟩
  rcases h3 with h3 | ⟨t, ht, h3⟩
  · cases l with
    | nil => exact absurd rfl hne
    | cons s l =>
      have := h2 s (by simp)
      have := h1 s (by simp)
      omega
  · exact ⟨t, ht, h3⟩

/-- the least of some numbers -/
def leastL (w : List Int) : Int := (w.drop 1).foldl (minB id) (nth w 0)
theorem leastL_min {w : List Int} (h : w ≠ []) : IsMin (leastL w) w id := by
  cases w with
  | nil => exact absurd rfl h
  | cons x l =>
    obtain ⟨h1, h2, h3⟩ := foldB_le (f := id) l x
    refine ⟨?_, fun s hs => ?_⟩
    · rcases h3 with h3 | ⟨t, ht, h3⟩
      · exact ⟨x, by simp, h3⟩
      · exact ⟨t, by simp [ht], h3⟩
    · rcases List.mem_cons.1 hs with rfl | hs
      · exact h1
      · exact h2 s hs

/-- the sum of a way over s -/
def wsum (M S : List (List Int)) (w : List Int) (r t : Nat) (s : Int) : Int := nth w s.toNat + cell S r s.toNat + cell M s.toNat t
def nextAt (M S : List (List Int)) (w : List Int) (r t : Nat) : Int := (servedL (row S r)).foldl (minB (wsum M S w r t)) 1073741824
/-- the work function after one more request -/
def nextL (M S : List (List Int)) (w : List Int) (r : Nat) : List Int := (List.range w.length).map fun t => nextAt M S w r t
/-- w has a number in 0..B for each state -/
def wOk (M : List (List Int)) (w : List Int) (B : Int) : Prop := w.length = M.length ∧ ∀ s, s < M.length → 0 ≤ nth w s ∧ nth w s ≤ B
theorem nextL_length (M S : List (List Int)) (w : List Int) (r : Nat) : (nextL M S w r).length = w.length := by simp [nextL]
theorem nth_nextL {M S : List (List Int)} {w : List Int} {r t : Nat} (h : t < w.length) : nth (nextL M S w r) t = nextAt M S w r t := by simp [nextL, nth, h]
theorem servedL_lt {cs : List Int} {s : Int} (h : s ∈ servedL cs) : 0 ≤ s ∧ s.toNat < cs.length ∧ 0 ≤ nth cs s.toNat := by
  obtain ⟨i, h1, h2, rfl⟩ := servedTo_mem.1 h
  rw [Int.toNat_natCast]
  exact ⟨by omega, h1, h2⟩
theorem servedL_ne {cs : List Int} (h : ∃ c ∈ cs, 0 ≤ c) : servedL cs ≠ [] := by
  obtain ⟨c, hc, h0⟩ := h
  obtain ⟨k, hk, rfl⟩ := mem_iff_nth.1 hc
  intro e
  have : (k : Int) ∈ servedL cs := servedTo_mem.2 ⟨k, hk, h0, rfl⟩
  rw [e] at this
  cases this
theorem foldServed {β : Type} (f : β → Int → β) (a : β) (cs : List Int) (k : Nat) :
    (servedTo cs (k + 1)).foldl f a = if 0 ≤ nth cs k then f ((servedTo cs k).foldl f a) k else (servedTo cs k).foldl f a := by
  by_cases h : 0 ≤ nth cs k
  · rw [servedTo_succ_yes h, List.foldl_append, if_pos h]; rfl
  · rw [servedTo_succ_no h, if_neg h]
theorem foldTake {β : Type} (f : β → Int → β) (a : β) {l : List Int} {j : Nat} (h : j < l.length) : (l.take (j + 1)).foldl f a = f ((l.take j).foldl f a) (nth l j) := by
  rw [take_succ_nth h, List.foldl_append]; rfl

end Go.Proofs.YtaphnkgjcmneoaaGreatDoor

/- The library's functions on slices of ints: Clone, Min, Repeat; the reference's least. -/
namespace Go.Proofs.YtaphnkgjcmneoaaGreatDoor
open Go.RowKit

theorem nilRow (w : World) (B e : Nat) : Own w B [intRowOf e (.slice none ([] : List Int).length 0) []] := (Own.nil w B).cons_nil _ _

theorem eqlNilInts (c : Nat) (w : World) : (binOp .eql 24 (.slice none 0 c) (.slice none 0 0)).run Tryz.prog w = .ok (.bool true) w := by kernel_rfl
theorem eqlSomeInts (ad : Addr) (n c : Nat) (w : World) : (binOp .eql 24 (.slice (some ad) n c) (.slice none 0 0)).run Tryz.prog w = .ok (.bool false) w := by kernel_rfl

set_option maxHeartbeats 400000 in
set_option maxRecDepth 100000 in
theorem cloneInts_any {v : Value} {xs : List Int} {w0 w : World} [Ext w0 w] (hx : IsInts w0 v xs) :
    Calls Tryz.prog 73 #[v] w fun e w' => ∃ d m, e = .returned (.slice d xs.length m) ∧ Own w' w.heap.size [intRowOf 3 (.slice d xs.length m) xs] ∧ Ext w w' := by
  have hx' := hx
  obtain ⟨a, c, rfl, la⟩ := hx.form
  cases a with
  | none =>
    have hz : xs = [] := by
      cases xs with
      | nil => rfl
      | cons x xs =>
        obtain ⟨b, o, h, _⟩ := hx.at (w' := w) (k := 0) (by simp)
        cases h
    subst hz
    have hnil := eqlNilInts c
    go_enter Tryz.func73, Tryz.ntmps73
    go_wp2
    go_ret
    exact ⟨none, 0, rfl, nilRow _ _ _, inferInstance⟩
  | some ad =>
    have own0 : Own (w.alloc (.cells #[] 3)) w.heap.size [⟨3, 1, .slice (some ⟨w.heap.size, 0, none⟩) 0 0, 0, []⟩] := Own.litInts (xs := []) (Nat.le_refl _) rfl rfl (by simp) rfl
    have hB : w.heap.size ≤ (w.alloc (.cells #[] 3)).heap.size := by simp
    have e0 : Ext w0 (w.alloc (.cells #[] 3)) := Ext.trans ‹Ext w0 w› inferInstance
    have hnil := eqlSomeInts ad xs.length c
    go_enter Tryz.func73, Tryz.ntmps73
    go_wp2_with (at_builtin; refine wpList_appendInts rfl _ _ _ rfl elemInt rfl own0 hB rfl (hx'.ext (w' := w.alloc (.cells #[] 3))) (by omega) ?_; intro v1 w1 ho hb1)
    go_ret
    rw [Nat.zero_add, List.nil_append] at ho
    obtain ⟨d, m, rfl⟩ := Own.formInts (e := 3) (xs := xs) ho
    exact ⟨d, m, rfl, ho, ⟨((Below.refl _ w).alloc (Nat.le_refl _) _).trans hb1⟩⟩

/-- the least of the first numbers -/
def leastTo (w : List Int) (k : Nat) : Int := ((w.drop 1).take k).foldl (minB id) (nth w 0)
theorem leastTo_succ {w : List Int} {k : Nat} (h : k + 1 < w.length) : leastTo w (k + 1) = minB id (leastTo w k) (nth w (k + 1)) := by
  rw [leastTo, foldTake _ _ (by rw [List.length_drop]; omega)]
  have : nth (w.drop 1) k = nth w (k + 1) := by simp [nth]
  rw [this]; rfl
theorem leastTo_all {w : List Int} {k : Nat} (h : k + 1 = w.length) : leastTo w k = leastL w := by
  rw [leastTo, List.take_of_length_le (by rw [List.length_drop]; omega)]; rfl
theorem leastTo_mem {w : List Int} (h : 0 < w.length) : ∀ k, k < w.length → leastTo w k ∈ w
  | 0, _ => nth_mem h
  | k + 1, hk => by
    rw [leastTo_succ hk]
    unfold minB
    split
    · exact nth_mem hk
    · exact leastTo_mem h k (by omega)

theorem l1Least_any (a b : Int) (w : World) :
    Calls Tryz.prog 63 #[.int .i64 a, .int .i64 b] w fun e w' => e = .returned (.int .i64 (minB id a b)) ∧ w = w' := by
  by_cases h : a < b
  · have hr := hid (show minB id a b = a from if_neg (by show ¬ b < a; omega))
    have h' : decide (a < b) = true := by simpa using h
    go_enter Tryz.func63, Tryz.ntmps63
    go_wp2
    go_ret
    exact ⟨ret_int hr.out.symm, rfl⟩
  · have hr := hid (show minB id a b = b by
      unfold minB
      by_cases h2 : b < a
      · exact if_pos h2
      · refine (if_neg h2).trans ?_
        omega)
    have h' : decide (a < b) = false := by simpa using h
    go_enter Tryz.func63, Tryz.ntmps63
    go_wp2
    go_ret
    exact ⟨ret_int hr.out.symm, rfl⟩

end Go.Proofs.YtaphnkgjcmneoaaGreatDoor

/- slices.Repeat of one int. -/
namespace Go.Proofs.YtaphnkgjcmneoaaGreatDoor
open Go.RowKit

/-- the row of a Repeat when k of its n cells are laid -/
def repL (c : Int) (n k : Nat) : List Value := (List.replicate k c ++ List.replicate (n - k) 0).map (Value.int .i64)
theorem repL_length {c : Int} {n k : Nat} (h : k ≤ n) : (repL c n k).length = n := by simp [repL]; omega
theorem rep_make (w : World) (c : Int) (n : Nat) (t : TypeId) : (w.alloc (.cells (Array.replicate n (.int .i64 0)) t)).heap[w.heap.size]? = some (.cells (repL c n 0).toArray t (0, 0)) := by
  have e : (repL c n 0).toArray = Array.replicate n (.int .i64 0) := by
    apply Array.toList_inj.1
    simp [repL]
  rw [e]
  exact Array.getElem?_push_size
theorem rep_splice {c : Int} {n k m : Nat} (_h : k + m ≤ n) : splice (repL c n k) k (List.replicate m (Value.int .i64 c)) = repL c n (k + m) := by
  have e1 : (repL c n k).take k = List.replicate k (Value.int .i64 c) := by
    rw [repL, List.map_append, List.take_append_of_le_length (by simp)]
    simp
  have e2 : (repL c n k).drop (k + m) = List.replicate (n - (k + m)) (Value.int .i64 0) := by
    rw [repL, List.map_append, List.drop_append]
    simp
    omega
  rw [splice, e1, List.length_replicate, e2, repL, List.map_append, List.map_replicate, List.map_replicate, ← List.append_assoc, List.replicate_append_replicate]
theorem rep_cell {w : World} {g n k j : Nat} {c : Int} {t : TypeId} (h : w.heap[g]? = some (.cells (repL c n k).toArray t (0, 0))) (hj : j < k) (hk : k ≤ n) : w.cell? ⟨g, j, none⟩ = some (.int .i64 c) := by
  have hl := repL_length (c := c) hk
  have : (repL c n k)[j]? = some (.int .i64 c) := by
    rw [repL, List.getElem?_map, List.getElem?_append_left (by simpa using hj)]
    simp [hj]
  simp [World.cell?, h, this]
theorem rep_own {w : World} {B g n : Nat} {c : Int} {t : TypeId} (h : w.heap[g]? = some (.cells (repL c n n).toArray t (0, 0))) (hB : B ≤ g) (hn : n ≤ 4) : Own w B [intRowOf t (.slice (some ⟨g, 0, none⟩) (List.replicate n c).length n) (List.replicate n c)] := by
  refine ⟨fun r hr => ?_, List.pairwise_singleton _ _⟩
  rw [List.mem_singleton.1 hr]
  have e : repL c n n = (List.replicate n c).map (Value.int .i64) := by simp [repL]
  refine ⟨by simp, .inr ⟨g, n, (repL c n n).toArray, rfl, hB, h, by simp, by unfold maxLen; omega, by simp [repL_length], by simp [e]⟩⟩

end Go.Proofs.YtaphnkgjcmneoaaGreatDoor

/- Tables of one's own that grow: their values hidden, their rows told. -/
namespace Go.Proofs.YtaphnkgjcmneoaaGreatDoor
open Go.RowKit

/-- w has a table of one's own, v, whose rows are M, and the rows R beside it -/
def Tab (w : World) (B : Nat) (v : Value) (M : List (List Int)) (R : List Row) : Prop := ∃ vs, vs.length = M.length ∧ Own w B (rowsOf 24 3 v vs M ++ R)
/-- and a row xs that is being made -/
def TabX (w : World) (B : Nat) (v : Value) (M : List (List Int)) (rv : Value) (xs : List Int) (R : List Row) : Prop := ∃ vs, vs.length = M.length ∧ Own w B (intRowOf 3 rv xs :: (rowsOf 24 3 v vs M ++ R))

theorem Tab.ext {w w' : World} {B : Nat} {v : Value} {M : List (List Int)} {R : List Row} (h : Tab w B v M R) [e : Ext w w'] : Tab w' B v M R := by
  obtain ⟨vs, h1, h2⟩ := h
  exact ⟨vs, h1, h2.ext⟩
theorem TabX.ext {w w' : World} {B : Nat} {v rv : Value} {M : List (List Int)} {xs : List Int} {R : List Row} (h : TabX w B v M rv xs R) [e : Ext w w'] : TabX w' B v M rv xs R := by
  obtain ⟨vs, h1, h2⟩ := h
  exact ⟨vs, h1, h2.ext⟩
theorem Tab.form {w : World} {B : Nat} {v : Value} {M : List (List Int)} {R : List Row} (h : Tab w B v M R) : ∃ d m, v = .slice d M.length m := by
  obtain ⟨vs, h1, h2⟩ := h
  have h3 : Own w B (⟨24, 1, v, vs.length, vs⟩ :: (List.zipWith (intRowOf 3) vs M ++ R)) := h2
  obtain ⟨d, m, h4⟩ := h3.form
  have h4' : v = .slice d vs.length m := h4
  exact ⟨d, m, by rw [h4', h1]⟩
theorem TabX.tab {w : World} {B : Nat} {v rv : Value} {M : List (List Int)} {xs : List Int} {R : List Row} (h : TabX w B v M rv xs R) : Tab w B v M R := by
  obtain ⟨vs, h1, h2⟩ := h
  exact ⟨vs, h1, h2.tail⟩
theorem TabX.own {w : World} {B : Nat} {v rv : Value} {M : List (List Int)} {xs : List Int} {R : List Row} (h : TabX w B v M rv xs R) : ∃ R', Own w B (intRowOf 3 rv xs :: R') := by
  obtain ⟨vs, h1, h2⟩ := h
  exact ⟨_, h2⟩
theorem TabX.rform {w : World} {B : Nat} {v rv : Value} {M : List (List Int)} {xs : List Int} {R : List Row} (h : TabX w B v M rv xs R) : ∃ d m, rv = .slice d xs.length m := by
  obtain ⟨R', h⟩ := h.own
  exact h.form
theorem Tab.rest {w : World} {B : Nat} {v : Value} {M : List (List Int)} {R : List Row} (h : Tab w B v M R) : Own w B R := by
  obtain ⟨vs, h1, h2⟩ := h
  exact h2.right
theorem Tab.start {w : World} {B : Nat} {R : List Row} (h : Own w B R) (hB : B ≤ w.heap.size) : Tab (w.alloc (.cells #[] 24)) B (.slice (some ⟨w.heap.size, 0, none⟩) 0 0) [] R :=
  ⟨[], rfl, h.lit 24 1 0 #[] hB (by unfold maxLen; omega) rfl⟩
theorem Tab.nil {w : World} {B : Nat} {R : List Row} (h : Own w B R) : Tab w B (.slice none 0 0) [] R := ⟨[], rfl, h.cons_nil _ _⟩
/-- a row of one's own joins, made by a callee -/
theorem Tab.join {w w' : World} {B : Nat} {v rv : Value} {M : List (List Int)} {xs : List Int} {R : List Row} (h : Tab w B v M R) (hn : Own w' w.heap.size [intRowOf 3 rv xs]) (e : Ext w w') (hB : B ≤ w.heap.size) : TabX w' B v M rv xs R := by
  obtain ⟨vs, h1, h2⟩ := h
  exact ⟨vs, h1, Own.join h2 hn hB⟩
/-- a row that is written out -/
theorem Tab.lit {w : World} {B : Nat} {v : Value} {M : List (List Int)} {R : List Row} (h : Tab w B v M R) (cs : Array Value) (xs : List Int) {n : Nat} (hB : B ≤ w.heap.size) (hx : cs.toList = xs.map (Value.int .i64)) (hn : n = xs.length) (hs : xs.length ≤ 1000000) :
    TabX (w.alloc (.cells cs 3)) B v M (.slice (some ⟨w.heap.size, 0, none⟩) n n) xs R := by
  subst hn
  obtain ⟨vs, h1, h2⟩ := h
  have hl : cs.size = xs.length * 1 := by rw [← Array.length_toList, hx]; simp
  have h3 := h2.lit 3 1 xs.length cs hB (by unfold maxLen; omega) hl
  rw [hx] at h3
  exact ⟨vs, h1, h3⟩
theorem Tab.reads {w : World} {B : Nat} {v : Value} {M : List (List Int)} {R : List Row} (h : Tab w B v M R) (hs : ShortRows M.length) (hr : ∀ r ∈ M, Short r.length) (hi : ∀ r ∈ M, ∀ x ∈ r, I64 x) : IsRows w v M := by
  obtain ⟨vs, h1, h2⟩ := h
  exact h2.readsAll h1 hs hr hi
theorem Tab.rows {w : World} {B : Nat} {v : Value} {M : List (List Int)} {R : List Row} (h : Tab w B v M R) : ∃ vs, vs.length = M.length ∧ Own w B (rowsOf 24 3 v vs M ++ R) := h
theorem TabX.reads {w : World} {B : Nat} {v rv : Value} {M : List (List Int)} {xs : List Int} {R : List Row} (h : TabX w B v M rv xs R) (hs : Short xs.length) (hi : ∀ x ∈ xs, I64 x) : IsInts w rv xs := by
  obtain ⟨R', h⟩ := h.own
  exact h.reads hs hi
section
variable {P : Program} {ops : Array Oper} {o : Oper} {rest : List Oper} {a : Act} {w : World} {Q : Exit → Act → World → Prop}
/-- a number is appended to the row -/
theorem wpList_grow (hgd : o.guard = none) (s x : Operand) (ho : o.op = .call { callee := .builtin .append, args := #[s, x], argTypes := #[24, 24] })
    {B : Nat} {v rv : Value} {M : List (List Int)} {xs : List Int} {R : List Row} {y : Int} (hs : a.eval s = rv) (tab : TabX w B v M rv xs R) (hB : B ≤ w.heap.size)
    (hx : a.eval x = .slice (some ⟨w.heap.size, 0, none⟩) 1 1) (hm : xs.length ≤ 1000000)
    (h : ∀ rv' w', TabX w' B v M rv' (xs ++ [y]) R → Below B w w' → wpList Tryz.prog ops Q rest (a.put o.dst rv') w') : wpList Tryz.prog ops Q (o :: rest) a (w.alloc (.cells #[.int .i64 y] 3)) := by
  obtain ⟨vs, h1, h2⟩ := tab
  refine wpList_append1 hgd s x _ ho elemInt hs h2 hB hx rfl (by omega) (by omega) fun v' w' h4 h5 => h v' w' ⟨vs, h1, ?_⟩ h5
  unfold intRowOf
  rw [List.length_append, List.map_append]
  exact h4
/-- numbers that are there already are appended to the row -/
theorem wpList_more (hgd : o.guard = none) (s x : Operand) (ho : o.op = .call { callee := .builtin .append, args := #[s, x], argTypes := #[24, 24] })
    {B : Nat} {v rv u : Value} {M : List (List Int)} {xs ys : List Int} {R : List Row} (hs : a.eval s = rv) (tab : TabX w B v M rv xs R) (hB : B ≤ w.heap.size)
    (hx : a.eval x = u) (hy : IsInts w u ys) (hm : xs.length + ys.length ≤ 1000000)
    (h : ∀ rv' w', TabX w' B v M rv' (xs ++ ys) R → Below B w w' → wpList Tryz.prog ops Q rest (a.put o.dst rv') w') : wpList Tryz.prog ops Q (o :: rest) a w := by
  obtain ⟨vs, h1, h2⟩ := tab
  refine wpList_appendInts hgd s x _ ho elemInt hs h2 hB hx hy (by omega) fun v' w' h4 h5 => h v' w' ⟨vs, h1, ?_⟩ h5
  unfold intRowOf
  rw [List.length_append, List.map_append]
  exact h4
end
end Go.Proofs.YtaphnkgjcmneoaaGreatDoor

/- Regions that draw their order, whose last operation writes what they read: the condition on the world is not asked behind operations that wait for all others. -/
namespace Go.Proofs.YtaphnkgjcmneoaaGreatDoor
open Go

section
variable {P : Program} {ops : Array Oper} {Q : Exit → Act → World → Prop} {md : Region.Mode} {S : World → Prop} {X : Nat → Bool}

def wpAnyE (P : Program) (md : Region.Mode) (ops : Array Oper) (Q : Exit → Act → World → Prop) (S : World → Prop) (X : Nat → Bool) : Nat → Array Bool → Act → World → Prop
  | 0, listed, a, w => Region.ready md ops listed = [] ∧ Q .normal a w
  | fuel + 1, listed, a, w =>
    (Region.ready md ops listed = [] → Q .normal a w) ∧
    ∀ i ∈ Region.ready md ops listed, wpOp P ops Q i (fun a' w' => (X i = true ∨ S w') ∧ wpAnyE P md ops Q S X fuel (listed.setIfInBounds i true) a' w') a w
theorem wpAny_of_E : ∀ (fuel : Nat) (listed : Array Bool) (a : Act) (w : World), wpAnyE P md ops Q S X fuel listed a w → wpAny P md ops Q fuel listed a w
  | 0, _, _, _, h => h
  | fuel + 1, _, _, _, h => ⟨h.1, fun i hi => wpOp_mono (fun a' w' h' => wpAny_of_E fuel _ a' w' h'.2) (h.2 i hi)⟩
/-- whoever is free of the condition waits for i -/
def waitsB (md : Region.Mode) (ops : Array Oper) (X : Nat → Bool) (i : Nat) : Bool :=
  (List.range ops.size).all fun j => !X j || (j == i || match ops[j]? with | some o => o.after.toList.any (fun e => Region.binds md e && e.on == i) | none => true)
theorem waitsB_spec {i : Nat} (h : waitsB md ops X i = true) : ∀ j oj, ops[j]? = some oj → X j = true → j ≠ i → ∃ e ∈ oj.after, Region.binds md e = true ∧ e.on = i := by
  intro j oj hj hx hne
  have h1 := List.all_eq_true.1 h j (List.mem_range.2 (Array.getElem?_eq_some_iff.1 hj).1)
  simp only [hx, hj, Bool.not_true, Bool.false_or, Bool.or_eq_true, beq_iff_eq] at h1
  rcases h1 with h1 | h1
  · exact absurd h1 hne
  · obtain ⟨e, he, h2⟩ := List.any_eq_true.1 h1
    simp only [Bool.and_eq_true, beq_iff_eq] at h2
    exact ⟨e, Array.mem_toList_iff.1 he, h2.1, h2.2⟩
theorem wpAnyE_first {i : Nat} {oi : Oper} {v : Value} (hi : ops[i]? = some oi) (hsel : ∀ (j : Nat) (o : Oper) cs b, ops[j]? = some o → o.op ≠ .select cs b)
    (hQ : ∀ c a w, Q (.panic c) (a.put oi.dst v) w → Q (.panic c) a w) (hX : ∀ j oj, ops[j]? = some oj → X j = true → j ≠ i → ∃ e ∈ oj.after, Region.binds md e = true ∧ e.on = i) :
    ∀ (fuel : Nat) (listed : Array Bool) (a : Act) (w : World),
      (∀ j oj, ops[j]? = some oj → j ≠ i → listed.getD j true = false → (∀ e ∈ oj.after, Region.binds md e = true → e.on ≠ i) → oi.apart ops oj = true) →
      i ∈ Region.ready md ops listed → YieldsIf P ops S oi v a → S w →
      wpAnyE P md ops Q S X fuel (listed.setIfInBounds i true) (a.put oi.dst v) w → wpAnyE P md ops Q S X (fuel + 1) listed a w := by
  intro fuel
  induction fuel with
  | zero =>
    intro listed a w _ hr hy hS H
    refine ⟨fun h => (by rw [h] at hr; cases hr), fun j hj => ?_⟩
    by_cases hji : j = i
    · subst hji; exact hy.wpOp hi hS ⟨.inr hS, H⟩
    · have := ready_mono hj hji
      rw [H.1] at this
      cases this
  | succ fuel ih =>
    intro listed a w hfree hr hy hS H
    refine ⟨fun h => (by rw [h] at hr; cases hr), fun j hj => ?_⟩
    by_cases hji : j = i
    · subst hji; exact hy.wpOp hi hS ⟨.inr hS, H⟩
    · have h1 := H.2 j (ready_mono hj hji)
      obtain ⟨hjun, oj, hoj, hall⟩ := mem_ready.1 hj
      have hnot : ∀ e ∈ oj.after, Region.binds md e = true → e.on ≠ i := fun e he hb heq => by
        have h1 := hall e he hb
        have h0 := (mem_ready.1 hr).1
        rw [heq] at h1
        rcases Nat.lt_or_ge i listed.size with h' | h'
        · simp [h'] at h0 h1; rw [h0] at h1; cases h1
        · simp [Array.getElem?_eq_none h'] at h1
      have h2 := wpOp_putIf hoj (hfree j oj hoj hji hjun hnot) (fun cs b => hsel i oi cs b hi) (fun cs b => hsel j oj cs b hoj) hQ hy h1
      have hfree' : ∀ k ok, ops[k]? = some ok → k ≠ i → (listed.setIfInBounds j true).getD k true = false →
          (∀ e ∈ ok.after, Region.binds md e = true → e.on ≠ i) → oi.apart ops ok = true := fun k ok hk hki hun hno => by
        refine hfree k ok hk hki ?_ hno
        by_cases hjk : j = k
        · subst hjk; exact hjun
        · rw [getD_set_ne true hjk] at hun; exact hun
      refine wpOp_mono (fun a' w' h3 => ?_) h2
      have hSw : S w' := by
        rcases h3.2.1 with hx | hs
        · obtain ⟨e, he, hb, heq⟩ := hX j oj hoj hx hji
          exact absurd heq (hnot e he hb)
        · exact hs
      refine ⟨.inr hSw, ih (listed.setIfInBounds j true) a' w' hfree' (ready_mono hr (Ne.symm hji)) h3.1 hSw ?_⟩
      rw [Array.setIfInBounds_comm _ _ hji]
      exact h3.2.2
theorem wpAnyE_take {i : Nat} {oi : Oper} {v : Value} {fuel : Nat} {listed : Array Bool} {a : Act} {w : World} (hi : ops[i]? = some oi)
    (hs : Region.noSelect ops = true) (hf : Region.free md ops listed i = true) (hr : (Region.ready md ops listed).contains i = true)
    (hQ : ∀ c a w, Q (.panic c) (a.put oi.dst v) w → Q (.panic c) a w) (hy : YieldsIf P ops S oi v a) (hS : S w)
    (h : wpAnyE P md ops Q S X fuel (listed.setIfInBounds i true) (a.put oi.dst v) w) (hX : waitsB md ops X i = true := by kernel_rfl) : wpAnyE P md ops Q S X (fuel + 1) listed a w :=
  wpAnyE_first hi (Region.noSelect_spec hs) hQ (waitsB_spec hX) fuel listed a w (Region.free_spec hi hf) (by simpa using hr) hy hS h
def AllReadyE (P : Program) (md : Region.Mode) (ops : Array Oper) (Q : Exit → Act → World → Prop) (S : World → Prop) (X : Nat → Bool) (fuel : Nat) (listed : Array Bool) (a : Act) (w : World) (rs : List Nat) : Prop :=
  ∀ i ∈ rs, wpOp P ops Q i (fun a' w' => (X i = true ∨ S w') ∧ wpAnyE P md ops Q S X fuel (listed.setIfInBounds i true) a' w') a w
theorem AllReadyE.nil {fuel : Nat} {listed : Array Bool} {a : Act} {w : World} : AllReadyE P md ops Q S X fuel listed a w [] := fun _ h => by cases h
theorem AllReadyE.cons {fuel : Nat} {listed : Array Bool} {a : Act} {w : World} {i : Nat} {o : Oper} {rs : List Nat} (ho : ops[i]? = some o)
    (h : ∀ K' : Act → World → Prop, Shut (∀ a w, (X i = true ∨ S w) → ((X i = true ∨ S w) → wpAnyE P md ops Q S X fuel (listed.setIfInBounds i true) a w) → K' a w) → if Region.wanted o (yielded ops a.tmps) = true then Oper.wp P o a w K' Q else K' (a.put o.dst undef) w)
    (hs : AllReadyE P md ops Q S X fuel listed a w rs) : AllReadyE P md ops Q S X fuel listed a w (i :: rs) := fun j hj => by
  rcases List.mem_cons.1 hj with rfl | hj
  · exact wpOp_step ho (fun K' hK => h K' (fun a w hS hW => hK a w ⟨hS, hW hS⟩))
  · exact hs j hj
theorem wpAnyE_ready {rs : List Nat} {fuel : Nat} {listed : Array Bool} {a : Act} {w : World} (hr : Region.ready md ops listed = rs) (hne : rs ≠ [])
    (h : AllReadyE P md ops Q S X fuel listed a w rs) : wpAnyE P md ops Q S X (fuel + 1) listed a w :=
  ⟨fun h0 => absurd (hr ▸ h0) hne, hr ▸ h⟩
theorem wpAnyE_done {listed : Array Bool} {a : Act} {w : World} (hr : Region.ready md ops listed = []) (h : Q .normal a w) :
    ∀ fuel, wpAnyE P md ops Q S X fuel listed a w
  | 0 => ⟨hr, h⟩
  | _ + 1 => ⟨fun _ => h, by rw [hr]; simp⟩
theorem wp_region_E_drew {id : Nat} {a : Act} {w : World} (hm : P.follows .mixedOrders = true) (hS : S w.drew)
    (h : S w.drew → wpAnyE P .any ops Q S X ops.size (Array.replicate ops.size false) a w.drew) : (Code.region id ops true).wp P Q a w :=
  wp_region_any hm (wpAny_of_E _ _ _ _ (h hS))
end
end Go.Proofs.YtaphnkgjcmneoaaGreatDoor

/- Work functions as lists: their bounds, the least cost, the best schedule. -/
namespace Go.Proofs.YtaphnkgjcmneoaaGreatDoor
open Go.RowKit

theorem probB_sq {M S : List (List Int)} (h : probB M S = true) {x : Nat} (hx : x < M.length) : (row M x).length = M.length := square_row (tableB_square (probB_table h)) hx
theorem probB_diag {M S : List (List Int)} (h : probB M S = true) {x : Nat} (hx : x < M.length) : cell M x x = 0 := by
  have h' := probB_table h
  simp only [tableB, Bool.and_eq_true, cellsOk, decide_eq_true_eq] at h'
  have h1 := h'.2 x hx x hx
  simp only [cellOk, Bool.and_eq_true, decide_eq_true_eq, if_pos] at h1
  exact h1.2
--PURE
theorem wsum_in {M S : List (List Int)} (hp : probB M S = true) {w : List Int} {B : Int} (hw : wOk M w B) {r t : Nat} (hr : r < S.length) (ht : t < M.length) {s : Int} (hs : s ∈ servedL (row S r)) :
    0 ≤ wsum M S w r t s ∧ wsum M S w r t s ≤ B + 119 := by
  obtain ⟨h0, h1, h2⟩ := servedL_lt hs
  rw [(probB_row hp hr).1] at h1
  have a := hw.2 s.toNat h1
  have b := probB_serve hp hr h1
  have c := probB_move hp h1 ht
  have h2' : 0 ≤ cell S r s.toNat := h2
  unfold wsum
  omega
theorem nextAt_min {M S : List (List Int)} (hp : probB M S = true) {w : List Int} {B : Int} (hw : wOk M w B) (hB : B ≤ 100000) {r t : Nat} (hr : r < S.length) (ht : t < M.length) :
    IsMin (nextAt M S w r t) (servedL (row S r)) (wsum M S w r t) :=
  foldB_min (servedL_ne (probB_row hp hr).2.2) fun s hs => by have := wsum_in hp hw hr ht hs; omega
theorem nextAt_A {M S : List (List Int)} (hp : probB M S = true) {w : List Int} {B : Int} (hw : wOk M w B) (hB : B ≤ 100000) {r t : Nat} (hr : r < S.length) (ht : t < M.length) :
    (servedL (row S r)).foldl (minA (wsum M S w r t)) (-1) = nextAt M S w r t :=
  foldA_eq (servedL_ne (probB_row hp hr).2.2) (fun s hs => (wsum_in hp hw hr ht hs).1) fun s hs => by have := wsum_in hp hw hr ht hs; omega
theorem nextL_ok {M S : List (List Int)} (hp : probB M S = true) {w : List Int} {B : Int} (hw : wOk M w B) (hB : B ≤ 100000) {r : Nat} (hr : r < S.length) : wOk M (nextL M S w r) (B + 119) := by
  refine ⟨by rw [nextL_length, hw.1], fun t ht => ?_⟩
  rw [nth_nextL (by rw [hw.1]; exact ht)]
  obtain ⟨⟨s, hs, e⟩, _⟩ := nextAt_min hp hw hB hr ht
  rw [e]
  exact wsum_in hp hw hr ht hs

def workTo (M S : List (List Int)) (w : List Int) (X : List Int) : Nat → List Int
  | 0 => w
  | k + 1 => nextL M S (workTo M S w X k) (nth X k).toNat
theorem workTo_ok {M S : List (List Int)} (hp : probB M S = true) {w X : List Int} {B : Int} (hw : wOk M w B) (hX : ∀ k, k < X.length → (nth X k).toNat < S.length) :
    ∀ {k : Nat}, k ≤ X.length → B + 119 * k ≤ 100000 → wOk M (workTo M S w X k) (B + 119 * k)
  | 0, _, _ => by
    have : B + 119 * ((0 : Nat) : Int) = B := by omega
    rw [this]; exact hw
  | k + 1, hk, hb => by
    have ih := workTo_ok hp hw hX (k := k) (by omega) (by omega)
    have := nextL_ok hp ih (by omega) (hX k (by omega))
    have e : B + 119 * ((k + 1 : Nat) : Int) = B + 119 * (k : Int) + 119 := by omega
    rw [e]
    exact this
theorem workTo_cons (M S : List (List Int)) (w : List Int) (r : Int) (X : List Int) : ∀ k, workTo M S w (r :: X) (k + 1) = workTo M S (nextL M S w r.toNat) X k
  | 0 => rfl
  | k + 1 => by rw [workTo, workTo_cons M S w r X k]; rfl
def workL (M S : List (List Int)) (w X : List Int) : List Int := workTo M S w X X.length
theorem workL_cons (M S : List (List Int)) (w : List Int) (r : Int) (X : List Int) : workL M S w (r :: X) = workL M S (nextL M S w r.toNat) X := workTo_cons M S w r X X.length
theorem row_ok {M S : List (List Int)} (hp : probB M S = true) {s : Nat} (hs : s < M.length) : wOk M (row M s) 99 := ⟨probB_sq hp hs, fun _ ht => probB_move hp hs ht⟩
def optL (M S : List (List Int)) (w X : List Int) : Int := leastL (workL M S w X)
theorem optL_nil {M S : List (List Int)} (hp : probB M S = true) {s : Nat} (hs : s < M.length) : optL M S (row M s) [] = 0 := by
  have hl := probB_sq hp hs
  have hne : row M s ≠ [] := by
    intro e
    rw [e] at hl
    have := (probB_len hp).1
    simp at hl
    omega
  have hm := leastL_min hne
  obtain ⟨⟨t, ht, e⟩, h⟩ := hm
  have h0 := h (cell M s s) (nth_mem (by rw [hl]; exact hs))
  rw [probB_diag hp hs] at h0
  obtain ⟨k, hk, rfl⟩ := mem_iff_nth.1 ht
  have h1 : 0 ≤ cell M s k := (probB_move hp hs (by rw [hl] at hk; exact hk)).1
  have e' : leastL (row M s) = cell M s k := e
  have h2 : leastL (row M s) ≤ 0 := h0
  show leastL (row M s) = 0
  omega

/-- least values of least values -/
theorem IsMin.lin {M S : List (List Int)} (hp : probB M S = true) {l : List Int} {a : Int → Int} {v : Int → List Int} :
    ∀ (X : List Int) (w : List Int) (B : Int), wOk M w B → (∀ s ∈ l, wOk M (v s) B) → B + 119 * X.length ≤ 100000 → (∀ x ∈ X, 0 ≤ x ∧ x < S.length) → (∀ x, x < M.length → IsMin (nth w x) l fun s => a s + nth (v s) x) →
      IsMin (optL M S w X) l fun s => a s + optL M S (v s) X
  | [], w, B, hw, hv, _, _, h => by
    have hn := probB_len hp
    have ne : ∀ u : List Int, u.length = M.length → u ≠ [] := by
      intro u hu e
      rw [e] at hu
      simp at hu
      omega
    obtain ⟨⟨c, hc, e1⟩, h1⟩ := leastL_min (ne w hw.1)
    obtain ⟨k, hk, rfl⟩ := mem_iff_nth.1 hc
    rw [hw.1] at hk
    obtain ⟨⟨s, hs, e2⟩, h2⟩ := h k hk
    have e1' : leastL w = nth w k := e1
    have hle : ∀ t ∈ l, leastL w ≤ a t + leastL (v t) := by
      intro t ht
      obtain ⟨⟨d, hd, e3⟩, h3⟩ := leastL_min (ne (v t) (hv t ht).1)
      obtain ⟨j, hj, rfl⟩ := mem_iff_nth.1 hd
      rw [(hv t ht).1] at hj
      have q1 := (h j hj).2 t ht
      have q2 := h1 (nth w j) (nth_mem (by rw [hw.1]; exact hj))
      have e3' : leastL (v t) = nth (v t) j := e3
      have q2' : leastL w ≤ nth w j := q2
      have q1' : nth w j ≤ a t + nth (v t) j := q1
      omega
    refine ⟨⟨s, hs, ?_⟩, hle⟩
    have q := hle s hs
    have q2 : leastL (v s) ≤ nth (v s) k := (leastL_min (ne (v s) (hv s hs).1)).2 _ (nth_mem (by rw [(hv s hs).1]; exact hk))
    have e2' : nth w k = a s + nth (v s) k := e2
    show leastL w = a s + leastL (v s)
    omega
  | r :: X, w, B, hw, hv, hB, hX, h => by
    have hl : B + 119 * ((X.length + 1 : Nat) : Int) ≤ 100000 := by simpa using hB
    have hr := hX r (by simp)
    have hrn : r.toNat < S.length := by omega
    have hg : (fun s => a s + optL M S (v s) (r :: X)) = fun s => a s + optL M S (nextL M S (v s) r.toNat) X := by
      funext s
      rw [optL, workL_cons]; rfl
    have hw' : optL M S w (r :: X) = optL M S (nextL M S w r.toNat) X := by rw [optL, workL_cons]; rfl
    rw [hg, hw']
    refine IsMin.lin hp X (nextL M S w r.toNat) (B + 119) (nextL_ok hp hw (by omega) hrn) (fun s hs => nextL_ok hp (hv s hs) (by omega) hrn) (by omega) (fun x hx => hX x (by simp [hx])) ?_
    intro t ht
    rw [nth_nextL (by rw [hw.1]; exact ht)]
    obtain ⟨⟨q, hq, e1⟩, h1⟩ := nextAt_min hp hw (by omega) hrn ht
    have hqs := servedL_lt hq
    rw [(probB_row hp hrn).1] at hqs
    obtain ⟨⟨s, hs, e2⟩, h2⟩ := h q.toNat hqs.2.1
    have e2' : nth w q.toNat = a s + nth (v s) q.toNat := e2
    have hle : ∀ u ∈ l, nextAt M S w r.toNat t ≤ a u + nextAt M S (v u) r.toNat t := by
      intro u hu
      obtain ⟨⟨p, hpq, e3⟩, h3⟩ := nextAt_min hp (hv u hu) (by omega) hrn ht
      have hps := servedL_lt hpq
      rw [(probB_row hp hrn).1] at hps
      have q1 : nth w p.toNat ≤ a u + nth (v u) p.toNat := (h p.toNat hps.2.1).2 u hu
      have q2 := h1 p hpq
      unfold wsum at q2 e3
      omega
    refine ⟨⟨s, hs, ?_⟩, fun u hu => ?_⟩
    · have q1 := hle s hs
      have q2 := (nextAt_min hp (hv s hs) (by omega) hrn ht).2 q hq
      show _ = a s + nth (nextL M S (v s) r.toNat) t
      rw [nth_nextL (by rw [(hv s hs).1]; exact ht)]
      unfold wsum at q2 e1
      omega
    · have := hle u hu
      show _ ≤ a u + nth (nextL M S (v u) r.toNat) t
      rwa [nth_nextL (by rw [(hv u hu).1]; exact ht)]

/-- the least cost of a sequence, by the state of its first request -/
theorem opt_step {M S : List (List Int)} (hp : probB M S = true) {X : List Int} {r : Int} {s : Nat} (hs : s < M.length) (hr : 0 ≤ r ∧ r < S.length) (hX : ∀ x ∈ X, 0 ≤ x ∧ x < S.length) (hl : X.length ≤ 60) :
    IsMin (optL M S (row M s) (r :: X)) (servedL (row S r.toNat)) fun t => stepC M S r s t + optL M S (row M t.toNat) X := by
  have hrn : r.toNat < S.length := by omega
  have hw' : optL M S (row M s) (r :: X) = optL M S (nextL M S (row M s) r.toNat) X := by rw [optL, workL_cons]; rfl
  rw [hw']
  have hok := row_ok hp hs
  refine IsMin.lin hp (a := fun t => stepC M S r s t) (v := fun t => row M t.toNat) X _ 218 (nextL_ok hp hok (by omega) hrn) (fun t ht => ?_) (by omega) hX ?_
  · have h := servedL_lt ht
    rw [(probB_row hp hrn).1] at h
    have h2 := row_ok hp h.2.1
    exact ⟨h2.1, fun x hx => by have := h2.2 x hx; omega⟩
  · intro x hx
    rw [nth_nextL (by rw [hok.1]; exact hx)]
    have h := nextAt_min hp hok (by omega) hrn hx
    have e : (wsum M S (row M s) r.toNat x) = fun t => stepC M S r s t + nth (row M t.toNat) x := by
      funext t
      unfold wsum stepC cell
      rw [Int.toNat_natCast]
    rwa [e] at h

end Go.Proofs.YtaphnkgjcmneoaaGreatDoor

/- The work function after one more request, as the reference makes it. -/
namespace Go.Proofs.YtaphnkgjcmneoaaGreatDoor
open Go.RowKit

def nextTo (M S : List (List Int)) (w : List Int) (r t : Nat) : List Int := (List.range t).map fun t => nextAt M S w r t
theorem nextTo_succ (M S : List (List Int)) (w : List Int) (r t : Nat) : nextTo M S w r (t + 1) = nextTo M S w r t ++ [nextAt M S w r t] := by simp [nextTo, List.range_succ]
theorem nextTo_length (M S : List (List Int)) (w : List Int) (r t : Nat) : (nextTo M S w r t).length = t := by simp [nextTo]
theorem nextTo_all (M S : List (List Int)) (w : List Int) (r : Nat) : nextTo M S w r w.length = nextL M S w r := rfl

end Go.Proofs.YtaphnkgjcmneoaaGreatDoor

/- The work function after one more request, as the program makes it. -/
namespace Go.Proofs.YtaphnkgjcmneoaaGreatDoor
open Go.RowKit

/-- the list when j served states are done, and x places of the next one -/
def mixAt (M S : List (List Int)) (w : List Int) (r j y : Nat) : Int := ((servedL (row S r)).take j).foldl (minB (wsum M S w r y)) 1073741824
def mixL (M S : List (List Int)) (w : List Int) (r j x : Nat) : List Int := (List.range w.length).map fun y => mixAt M S w r (if y < x then j + 1 else j) y
theorem mixL_length (M S : List (List Int)) (w : List Int) (r j x : Nat) : (mixL M S w r j x).length = w.length := by simp [mixL]
theorem nth_mixL {M S : List (List Int)} {w : List Int} {r j x y : Nat} (h : y < w.length) : nth (mixL M S w r j x) y = mixAt M S w r (if y < x then j + 1 else j) y := by simp [mixL, nth, h]
theorem mixL_zero (M S : List (List Int)) (w : List Int) (r : Nat) : mixL M S w r 0 0 = List.replicate w.length 1073741824 := by
  refine eq_of_nth (by rw [mixL_length, List.length_replicate]) fun y hy => ?_
  rw [mixL_length] at hy
  rw [nth_mixL hy]
  simp [mixAt, nth, hy]
theorem mixL_full (M S : List (List Int)) (w : List Int) (r j : Nat) : mixL M S w r j w.length = mixL M S w r (j + 1) 0 := by
  refine eq_of_nth (by rw [mixL_length, mixL_length]) fun y hy => ?_
  rw [mixL_length] at hy
  rw [nth_mixL hy, nth_mixL hy, if_pos hy, if_neg (by omega)]
theorem mixL_all (M S : List (List Int)) (w : List Int) (r : Nat) : mixL M S w r (servedL (row S r)).length 0 = nextL M S w r := by
  refine eq_of_nth (by rw [mixL_length, nextL_length]) fun y hy => ?_
  rw [mixL_length] at hy
  rw [nth_mixL hy, nth_nextL hy, if_neg (by omega), mixAt, List.take_length]
  rfl
theorem mixL_set {M S : List (List Int)} {w : List Int} {r j x : Nat} (hx : x < w.length) : ((mixL M S w r j x).map (Value.int .i64)).set x (.int .i64 (mixAt M S w r (j + 1) x)) = (mixL M S w r j (x + 1)).map (Value.int .i64) := by
  rw [← List.map_set]
  congr 1
  refine eq_of_nth (by rw [List.length_set, mixL_length, mixL_length]) fun y hy => ?_
  rw [List.length_set, mixL_length] at hy
  rw [nth_mixL hy]
  by_cases h : y = x
  · subst h
    simp [nth, mixL_length, hy]
  · have e : nth ((mixL M S w r j x).set x (mixAt M S w r (j + 1) x)) y = nth (mixL M S w r j x) y := by
      simp [nth, Ne.symm h]
    rw [e, nth_mixL hy]
    by_cases h2 : y < x
    · rw [if_pos h2, if_pos (by omega)]
    · rw [if_neg h2, if_neg (by omega)]
theorem mixAt_succ {M S : List (List Int)} {w : List Int} {r j y : Nat} (hj : j < (servedL (row S r)).length) : mixAt M S w r (j + 1) y = minB (wsum M S w r y) (mixAt M S w r j y) (nth (servedL (row S r)) j) := foldTake _ _ hj
theorem mixAt_in {M S : List (List Int)} (hp : probB M S = true) {w : List Int} {B : Int} (hw : wOk M w B) {r y : Nat} (hr : r < S.length) (hy : y < M.length) (j : Nat) : 0 ≤ mixAt M S w r j y ∧ mixAt M S w r j y ≤ 1073741824 := by
  obtain ⟨h1, _, h3⟩ := foldB_le (f := wsum M S w r y) ((servedL (row S r)).take j) 1073741824
  refine ⟨?_, h1⟩
  rcases h3 with h3 | ⟨t, ht, h3⟩
  · unfold mixAt; omega
  · have := wsum_in hp hw hr hy (List.mem_of_mem_take ht)
    unfold mixAt; omega

end Go.Proofs.YtaphnkgjcmneoaaGreatDoor

/- Work functions and least costs walked, the reference's and the program's. -/
namespace Go.Proofs.YtaphnkgjcmneoaaGreatDoor
open Go.RowKit

theorem wOk_i64 {M : List (List Int)} {w : List Int} {B : Int} (h : wOk M w B) (hB : B ≤ 1000000) : ∀ x ∈ w, I64 x := by
  intro x hx
  obtain ⟨k, hk, rfl⟩ := mem_iff_nth.1 hx
  have := h.2 k (by rw [← h.1]; exact hk)
  unfold I64
  omega
theorem start_work {M S : List (List Int)} {s : Int} {X : List Int} (h : startB M S s X = true) {k : Nat} (hk : k ≤ X.length) : wOk M (workTo M S (row M s.toNat) X k) 10000 := by
  have hs := startB_state h
  have hl := startB_len h
  have := workTo_ok (startB_prob h) (row_ok (startB_prob h) (s := s.toNat) (by omega)) (X := X) (fun j hj => by have := startB_req h hj; omega) hk (by omega)
  exact ⟨this.1, fun t ht => by have h2 := this.2 t ht; omega⟩
theorem start_workL {M S : List (List Int)} {s : Int} {X : List Int} (h : startB M S s X = true) : wOk M (workL M S (row M s.toNat) X) 10000 := start_work h (Nat.le_refl _)

end Go.Proofs.YtaphnkgjcmneoaaGreatDoor

/- First least places: the greedy state, the best schedule. -/
namespace Go.Proofs.YtaphnkgjcmneoaaGreatDoor
open Go.RowKit

--PURE
/-- the better of a place so far (a negative one is none) and a new one -/
def argStep (c : Int → Int) (g t : Int) : Int := if g < 0 ∨ c t < c g then t else g
theorem arg_mem {c : Int → Int} : ∀ (l : List Int) (g : Int), l.foldl (argStep c) g = g ∨ l.foldl (argStep c) g ∈ l
  | [], g => .inl rfl
  | t :: l, g => by
    rw [List.foldl_cons]
    rcases arg_mem (c := c) l (argStep c g t) with h | h
    · unfold argStep at h ⊢
      split at h
      · rename_i h'; rw [if_pos h']; right; rw [h]; simp
      · rename_i h'; rw [if_neg h']; left; exact h
    · right; simp [h]
theorem arg_first {c : Int → Int} {l : List Int} (h0 : ∀ s ∈ l, 0 ≤ s) : ∀ {j : Nat}, 0 < j → j ≤ l.length →
    ∃ i, i < j ∧ (l.take j).foldl (argStep c) (-1) = nth l i ∧ (∀ q, q < i → c (nth l i) < c (nth l q)) ∧ ∀ q, q < j → c (nth l i) ≤ c (nth l q)
  | 0, h, _ => by omega
  | 1, _, hl => by
    refine ⟨0, by omega, ?_, fun q hq => by omega, fun q hq => ?_⟩
    · rw [foldTake _ _ (by omega)]
      show argStep c (-1) _ = _
      unfold argStep
      rw [if_pos (.inl (by omega))]
    · have : q = 0 := by omega
      subst this
      exact Int.le_refl _
  | j + 2, _, hl => by
    obtain ⟨i, hi, h1, h2, h3⟩ := arg_first (c := c) h0 (j := j + 1) (by omega) (by omega)
    rw [foldTake _ _ (by omega), h1]
    have hn := h0 _ (nth_mem (xs := l) (k := i) (by omega))
    unfold argStep
    by_cases hc : c (nth l (j + 1)) < c (nth l i)
    · rw [if_pos (.inr hc)]
      refine ⟨j + 1, by omega, rfl, fun q hq => ?_, fun q hq => ?_⟩
      · have := h3 q (by omega); omega
      · by_cases hq' : q = j + 1
        · subst hq'; exact Int.le_refl _
        · have := h3 q (by omega); omega
    · rw [if_neg (by omega)]
      refine ⟨i, by omega, rfl, h2, fun q hq => ?_⟩
      by_cases hq' : q = j + 1
      · subst hq'; omega
      · exact h3 q (by omega)
theorem arg_all {c : Int → Int} {l : List Int} (h0 : ∀ s ∈ l, 0 ≤ s) (hne : l ≠ []) :
    ∃ i, i < l.length ∧ l.foldl (argStep c) (-1) = nth l i ∧ (∀ q, q < i → c (nth l i) < c (nth l q)) ∧ ∀ q, q < l.length → c (nth l i) ≤ c (nth l q) := by
  have hl : 0 < l.length := by
    cases l with
    | nil => exact absurd rfl hne
    | cons x l => simp
  have := arg_first (c := c) h0 hl (Nat.le_refl _)
  rwa [List.take_length] at this
/-- what the reference keeps: a place and its value -/
def argP (g : Int) : Int := if g < 0 then 0 else g
def argV (c : Int → Int) (g : Int) : Int := if g < 0 then -1 else c g
theorem argP_step {c : Int → Int} {g t : Int} (ht : 0 ≤ t) (hg : 0 ≤ g → 0 ≤ c g) :
    (argV c g < 0 ∨ c t < argV c g → argP (argStep c g t) = t ∧ argV c (argStep c g t) = c t) ∧
    (¬ (argV c g < 0 ∨ c t < argV c g) → argP (argStep c g t) = argP g ∧ argV c (argStep c g t) = argV c g) := by
  by_cases h : g < 0
  · have e : argStep c g t = t := if_pos (.inl h)
    have e2 : argV c g = -1 := if_pos h
    rw [e, e2]
    exact ⟨fun _ => ⟨if_neg (by omega), if_neg (by omega)⟩, fun h' => absurd (.inl (by omega)) h'⟩
  · have hc := hg (by omega)
    have e2 : argV c g = c g := if_neg h
    rw [e2]
    by_cases h2 : c t < c g
    · have e : argStep c g t = t := if_pos (.inr h2)
      rw [e]
      exact ⟨fun _ => ⟨if_neg (by omega), if_neg (by omega)⟩, fun h' => absurd (.inr h2) h'⟩
    · have e : argStep c g t = g := if_neg (by omega)
      rw [e]
      exact ⟨fun h' => by omega, fun _ => ⟨rfl, e2⟩⟩

/-- the greedy state for a request r in the state s -/
def greedyAt (M S : List (List Int)) (s r : Int) : Int := (servedL (row S r.toNat)).foldl (argStep (stepC M S r s)) (-1)
def greedyL (M S : List (List Int)) : List (List Int) := (List.range M.length).map fun s : Nat => (List.range S.length).map fun r : Nat => greedyAt M S s r
def lazyAt (M S : List (List Int)) (s r : Int) : Int := if 0 ≤ cell S r.toNat s.toNat then s else greedyAt M S s r
def lazyL (M S : List (List Int)) : List (List Int) := (List.range M.length).map fun s : Nat => (List.range S.length).map fun r : Nat => lazyAt M S s r
theorem arg_in {M S : List (List Int)} (hp : probB M S = true) {c : Int → Int} {r : Nat} (hr : r < S.length) :
    let g := (servedL (row S r)).foldl (argStep c) (-1)
    0 ≤ g ∧ g.toNat < M.length ∧ 0 ≤ cell S r g.toNat := by
  have hne := servedL_ne (probB_row hp hr).2.2
  obtain ⟨i, hi, e, _⟩ := arg_all (c := c) (fun s hs => (servedL_lt hs).1) hne
  show 0 ≤ (servedL (row S r)).foldl (argStep c) (-1) ∧ _
  rw [e]
  have := servedL_lt (nth_mem hi)
  rw [(probB_row hp hr).1] at this
  exact this

/-- the value of a state for the requests from a place on -/
def bestC (M S : List (List Int)) (at_ r : Int) (rest : List Int) (t : Int) : Int := stepC M S r at_ t + optL M S (row M t.toNat) rest
def bestAt (M S : List (List Int)) (at_ r : Int) (rest : List Int) : Int := (servedL (row S r.toNat)).foldl (argStep (bestC M S at_ r rest)) (-1)
def bsAt (M S : List (List Int)) (s : Int) (X : List Int) : Nat → Int
  | 0 => s
  | k + 1 => bestAt M S (bsAt M S s X k) (nth X k) (X.drop (k + 1))
def bsTo (M S : List (List Int)) (s : Int) (X : List Int) (k : Nat) : List Int := (List.range k).map fun i => bsAt M S s X (i + 1)
def bestS (M S : List (List Int)) (s : Int) (X : List Int) : List Int := if startB M S s X = true then bsTo M S s X X.length else []
theorem bsTo_succ (M S : List (List Int)) (s : Int) (X : List Int) (k : Nat) : bsTo M S s X (k + 1) = bsTo M S s X k ++ [bsAt M S s X (k + 1)] := by simp [bsTo, List.range_succ]
theorem bsTo_length (M S : List (List Int)) (s : Int) (X : List Int) (k : Nat) : (bsTo M S s X k).length = k := by simp [bsTo]
theorem bsAt_in {M S : List (List Int)} {s : Int} {X : List Int} (h : startB M S s X = true) : ∀ {k : Nat}, k ≤ X.length → 0 ≤ bsAt M S s X k ∧ bsAt M S s X k < M.length
  | 0, _ => startB_state h
  | k + 1, hk => by
    have hr := startB_req h (k := k) (by omega)
    have := arg_in (startB_prob h) (c := bestC M S (bsAt M S s X k) (nth X k) (X.drop (k + 1))) (r := (nth X k).toNat) (by omega)
    have h2 : 0 ≤ bsAt M S s X (k + 1) ∧ (bsAt M S s X (k + 1)).toNat < M.length := ⟨this.1, this.2.1⟩
    omega
theorem drop_cons_nth {X : List Int} {k : Nat} (h : k < X.length) : X.drop k = nth X k :: X.drop (k + 1) := by
  rw [List.drop_eq_getElem_cons h]
  simp [nth, h]
theorem mem_drop_in {M S : List (List Int)} {s : Int} {X : List Int} (h : startB M S s X = true) (k : Nat) : ∀ x ∈ X.drop k, 0 ≤ x ∧ x < S.length := by
  intro x hx
  obtain ⟨j, hj, rfl⟩ := mem_iff_nth.1 (List.mem_of_mem_drop hx)
  exact startB_req h hj
/-- the least cost of the requests from k on, from a state on, is what the program's table has -/
theorem left_eq {M S : List (List Int)} {s : Int} {X : List Int} (h : startB M S s X = true) {k : Nat} (hk : k < X.length) {from_ : Nat} (hf : from_ < M.length) :
    (servedL (row S (nth X k).toNat)).foldl (minB (bestC M S from_ (nth X k) (X.drop (k + 1)))) 1073741824 = optL M S (row M from_) (X.drop k) := by
  have hp := startB_prob h
  have hl := startB_len h
  have hr := startB_req h hk
  rw [drop_cons_nth hk]
  have h1 := opt_step hp hf hr (mem_drop_in h (k + 1)) (by rw [List.length_drop]; omega)
  have hne := servedL_ne (probB_row hp (k := (nth X k).toNat) (by omega)).2.2
  refine (IsMin.uniq (l := servedL (row S (nth X k).toNat)) (f := bestC M S from_ (nth X k) (X.drop (k + 1))) ?_ h1)
  refine foldB_min hne fun t ht => ?_
  have ht' := servedL_lt ht
  rw [(probB_row hp (by omega)).1] at ht'
  have b1 := probB_move hp hf ht'.2.1
  have b2 := probB_serve hp (k := (nth X k).toNat) (by omega) ht'.2.1
  have hok := workTo_ok hp (row_ok hp ht'.2.1) (X := X.drop (k + 1)) (k := (X.drop (k + 1)).length) (fun j hj => by
    have := mem_drop_in h (k + 1) _ (nth_mem hj)
    omega) (Nat.le_refl _) (by rw [List.length_drop]; omega)
  have hn := probB_len hp
  have hne2 : workL M S (row M t.toNat) (X.drop (k + 1)) ≠ [] := by
    intro e
    have := hok.1
    rw [show workTo M S (row M t.toNat) (X.drop (k + 1)) (X.drop (k + 1)).length = [] from e] at this
    simp at this
    omega
  obtain ⟨⟨c, hc, e⟩, _⟩ := leastL_min hne2
  obtain ⟨j, hj, rfl⟩ := mem_iff_nth.1 hc
  have hj' : j < M.length := by rw [← hok.1]; exact hj
  have h3 := hok.2 j hj'
  have e' : optL M S (row M t.toNat) (X.drop (k + 1)) = nth (workTo M S (row M t.toNat) (X.drop (k + 1)) (X.drop (k + 1)).length) j := e
  unfold bestC stepC
  rw [e', Int.toNat_natCast]
  rw [List.length_drop] at h3 ⊢
  omega

end Go.Proofs.YtaphnkgjcmneoaaGreatDoor

/- Offsets: the lists that the loops make. -/
namespace Go.Proofs.YtaphnkgjcmneoaaGreatDoor
open Go.RowKit

--PURE
/-- the index of the first list with a property, from i on; or -1 -/
def ixL (p : List Int → Bool) : List (List Int) → Nat → Int
  | [], _ => -1
  | x :: xs, i => if p x = true then (i : Int) else ixL p xs (i + 1)
theorem ixL_none {p : List Int → Bool} : ∀ {xs : List (List Int)} {i : Nat}, (∀ j, j < xs.length → p (row xs j) = false) → ixL p xs i = -1
  | [], _, _ => rfl
  | x :: xs, i, h => by
    have h0 : p x = false := h 0 (by simp)
    rw [ixL, h0]
    exact ixL_none (xs := xs) fun j hj => h (j + 1) (by simpa using hj)
theorem ixL_some {p : List Int → Bool} : ∀ {xs : List (List Int)} {i k : Nat}, k < xs.length → p (row xs k) = true → (∀ j, j < k → p (row xs j) = false) → ixL p xs i = ((i + k : Nat) : Int)
  | [], _, _, h, _, _ => by simp at h
  | x :: xs, i, 0, _, h, _ => by
    have h0 : p x = true := h
    rw [ixL, if_pos h0, Nat.add_zero]
  | x :: xs, i, k + 1, hk, h, hj => by
    have h0 : p x = false := hj 0 (by omega)
    rw [ixL, h0]
    show ixL p xs (i + 1) = _
    rw [ixL_some (xs := xs) (i := i + 1) (k := k) (by simpa using hk) h (fun j h' => hj (j + 1) (by omega))]
    congr 1
    omega
theorem ixL_in {p : List Int → Bool} (xs : List (List Int)) : ∀ i : Nat, ixL p xs i = -1 ∨ ((i : Int) ≤ ixL p xs i ∧ ixL p xs i < i + xs.length) := by
  induction xs with
  | nil => intro i; left; rfl
  | cons x xs ih =>
    intro i
    rw [ixL]
    split
    · right; simp only [List.length_cons]; omega
    · rcases ih (i + 1) with h | h
      · left; exact h
      · right; simp only [List.length_cons]; omega

def normL (w : List Int) : List Int := w.map fun x => x - leastL w
theorem normL_length (w : List Int) : (normL w).length = w.length := by simp [normL]
theorem nth_normL {w : List Int} {k : Nat} (h : k < w.length) : nth (normL w) k = nth w k - leastL w := by simp [normL, nth, h]
theorem len_ne {M S : List (List Int)} (hp : probB M S = true) {w : List Int} (h : w.length = M.length) : w ≠ [] := by
  intro e
  have := (probB_len hp).1
  rw [e] at h
  simp at h
  omega
theorem norm_ok {M S : List (List Int)} (hp : probB M S = true) {w : List Int} (hw : wOk M w 99) {r : Nat} (hr : r < S.length) : wOk M (normL (nextL M S w r)) 99 ∧ 0 ≤ leastL (nextL M S w r) ∧ leastL (nextL M S w r) ≤ 218 := by
  have hn := nextL_ok hp hw (by omega) hr
  obtain ⟨⟨c, hc, e⟩, h⟩ := leastL_min (len_ne hp hn.1)
  obtain ⟨j, hj, rfl⟩ := mem_iff_nth.1 hc
  rw [hn.1] at hj
  have e' : leastL (nextL M S w r) = nth (nextL M S w r) j := e
  have h1 := hn.2 j hj
  refine ⟨⟨by rw [normL_length, hn.1], fun t ht => ?_⟩, by omega, by omega⟩
  rw [nth_normL (by rw [hn.1]; exact ht)]
  have h2 : leastL (nextL M S w r) ≤ nth (nextL M S w r) t := h _ (nth_mem (by rw [hn.1]; exact ht))
  refine ⟨by omega, ?_⟩
  rw [nth_nextL (by rw [hw.1]; exact ht)]
  rw [nth_nextL (by rw [hw.1]; exact hj)] at e'
  obtain ⟨⟨s, hs, e2⟩, _⟩ := nextAt_min hp hw (by omega) hr hj
  have h3 := (nextAt_min hp hw (by omega) hr ht).2 s hs
  have hs' := servedL_lt hs
  rw [(probB_row hp hr).1] at hs'
  have b1 := probB_move hp hs'.2.1 hj
  have b2 := probB_move hp hs'.2.1 ht
  unfold wsum at e2 h3
  omega

/-- the lists behind r requests in the i-th row -/
def rowLst (M S : List (List Int)) (l : List (List Int)) (i : Nat) : Nat → List (List Int)
  | 0 => l
  | r + 1 => if ixL (fun o => decide (o = normL (nextL M S (row l i) r))) (rowLst M S l i r) 0 < 0 then rowLst M S l i r ++ [normL (nextL M S (row l i) r)] else rowLst M S l i r
def ixAt (M S : List (List Int)) (l : List (List Int)) (i r : Nat) : Int := ixL (fun o => decide (o = normL (nextL M S (row l i) r))) (rowLst M S l i r) 0
def rowStp (M S : List (List Int)) (l : List (List Int)) (i : Nat) (r : Nat) : List Int := (List.range r).map fun r => if ixAt M S l i r < 0 then ((rowLst M S l i r).length : Int) else ixAt M S l i r
def rowGrw (M S : List (List Int)) (l : List (List Int)) (i : Nat) (r : Nat) : List Int := (List.range r).map fun r => leastL (nextL M S (row l i) r)
theorem rowStp_succ (M S : List (List Int)) (l : List (List Int)) (i r : Nat) : rowStp M S l i (r + 1) = rowStp M S l i r ++ [if ixAt M S l i r < 0 then ((rowLst M S l i r).length : Int) else ixAt M S l i r] := by simp [rowStp, List.range_succ]
theorem rowGrw_succ (M S : List (List Int)) (l : List (List Int)) (i r : Nat) : rowGrw M S l i (r + 1) = rowGrw M S l i r ++ [leastL (nextL M S (row l i) r)] := by simp [rowGrw, List.range_succ]
theorem rowStp_length (M S : List (List Int)) (l : List (List Int)) (i r : Nat) : (rowStp M S l i r).length = r := by simp [rowStp]
theorem rowGrw_length (M S : List (List Int)) (l : List (List Int)) (i r : Nat) : (rowGrw M S l i r).length = r := by simp [rowGrw]
theorem rowLst_pre (M S : List (List Int)) (l : List (List Int)) (i : Nat) : ∀ r, ∃ t, rowLst M S l i r = l ++ t ∧ t.length ≤ r
  | 0 => ⟨[], by simp [rowLst], by simp⟩
  | r + 1 => by
    obtain ⟨t, h1, h2⟩ := rowLst_pre M S l i r
    rw [rowLst]
    split
    · exact ⟨t ++ [normL (nextL M S (row l i) r)], by rw [h1, List.append_assoc], by simp; omega⟩
    · exact ⟨t, h1, by omega⟩
theorem rowLst_row {M S : List (List Int)} {l : List (List Int)} {i j : Nat} (hj : j < l.length) (r : Nat) : row (rowLst M S l i r) j = row l j := by
  obtain ⟨t, h1, _⟩ := rowLst_pre M S l i r
  rw [h1]
  simp [row, hj, List.getElem?_append_left]
theorem rowLst_len {M S : List (List Int)} (l : List (List Int)) (i r : Nat) : l.length ≤ (rowLst M S l i r).length ∧ (rowLst M S l i r).length ≤ l.length + r := by
  obtain ⟨t, h1, h2⟩ := rowLst_pre M S l i r
  rw [h1]
  simp
  omega
/-- all rows of a list are offsets -/
def offOk (M : List (List Int)) (l : List (List Int)) : Prop := ∀ x ∈ l, wOk M x 99
theorem rowLst_ok {M S : List (List Int)} (hp : probB M S = true) {l : List (List Int)} (hl : offOk M l) {i : Nat} (hi : i < l.length) : ∀ {r : Nat}, r ≤ S.length → offOk M (rowLst M S l i r)
  | 0, _ => hl
  | r + 1, hr => by
    have ih := rowLst_ok hp hl hi (r := r) (by omega)
    rw [rowLst]
    split
    · intro x hx
      rcases List.mem_append.1 hx with hx | hx
      · exact ih x hx
      · rw [List.mem_singleton.1 hx]
        exact (norm_ok hp (hl _ (row_mem hi)) (by omega)).1
    · exact ih

def offLst (M S : List (List Int)) (s : Nat) : Nat → List (List Int)
  | 0 => [row M s]
  | i + 1 => rowLst M S (offLst M S s i) i S.length
def offStp (M S : List (List Int)) (s : Nat) (i : Nat) : List (List Int) := (List.range i).map fun i => rowStp M S (offLst M S s i) i S.length
def offGrw (M S : List (List Int)) (s : Nat) (i : Nat) : List (List Int) := (List.range i).map fun i => rowGrw M S (offLst M S s i) i S.length
theorem offStp_succ (M S : List (List Int)) (s i : Nat) : offStp M S s (i + 1) = offStp M S s i ++ [rowStp M S (offLst M S s i) i S.length] := by simp [offStp, List.range_succ]
theorem offGrw_succ (M S : List (List Int)) (s i : Nat) : offGrw M S s (i + 1) = offGrw M S s i ++ [rowGrw M S (offLst M S s i) i S.length] := by simp [offGrw, List.range_succ]
theorem offStp_length (M S : List (List Int)) (s i : Nat) : (offStp M S s i).length = i := by simp [offStp]
theorem offGrw_length (M S : List (List Int)) (s i : Nat) : (offGrw M S s i).length = i := by simp [offGrw]
/-- the round at which the loop ends well -/
def offGo (M S : List (List Int)) (s : Nat) : Nat → Nat → Option Nat
  | 0, _ => none
  | f + 1, i => if i < (offLst M S s i).length then (if 400 < (offLst M S s (i + 1)).length then none else offGo M S s f (i + 1)) else some i
def offEnd (M S : List (List Int)) (s : Nat) : Option Nat := offGo M S s 500 0
def offB (M S : List (List Int)) (s : Int) : Bool := startB M S s [] && (offEnd M S s.toNat).isSome
def offN (M S : List (List Int)) (s : Int) : Nat := (offEnd M S s.toNat).getD 0
def offsL (M S : List (List Int)) (s : Int) : List (List Int) := if offB M S s = true then offLst M S s.toNat (offN M S s) else []
def stepsL (M S : List (List Int)) (s : Int) : List (List Int) := if offB M S s = true then offStp M S s.toNat (offN M S s) else []
def growsL (M S : List (List Int)) (s : Int) : List (List Int) := if offB M S s = true then offGrw M S s.toNat (offN M S s) else []
theorem offGo_more {M S : List (List Int)} {s f i : Nat} (h : i < (offLst M S s i).length) (h4 : ¬ 400 < (offLst M S s (i + 1)).length) : offGo M S s (f + 1) i = offGo M S s f (i + 1) := by rw [offGo, if_pos h, if_neg h4]
theorem offGo_big {M S : List (List Int)} {s f i : Nat} (h : i < (offLst M S s i).length) (h4 : 400 < (offLst M S s (i + 1)).length) : offGo M S s (f + 1) i = none := by rw [offGo, if_pos h, if_pos h4]
theorem offGo_done {M S : List (List Int)} {s f i : Nat} (h : ¬ i < (offLst M S s i).length) : offGo M S s (f + 1) i = some i := by rw [offGo, if_neg h]
end Go.Proofs.YtaphnkgjcmneoaaGreatDoor

/- Small walks for offsets: sameness, places, normal lists. -/
namespace Go.Proofs.YtaphnkgjcmneoaaGreatDoor
open Go.RowKit

def normTo (w : List Int) (k : Nat) : List Int := (List.range k).map fun i => nth w i - leastL w
theorem normTo_succ (w : List Int) (k : Nat) : normTo w (k + 1) = normTo w k ++ [nth w k - leastL w] := by simp [normTo, List.range_succ]
theorem normTo_length (w : List Int) (k : Nat) : (normTo w k).length = k := by simp [normTo]
theorem normTo_all (w : List Int) : normTo w w.length = normL w := by
  refine eq_of_nth (by rw [normTo_length, normL_length]) fun j hj => ?_
  rw [normTo_length] at hj
  rw [nth_normL hj]
  simp [normTo, nth, hj]

end Go.Proofs.YtaphnkgjcmneoaaGreatDoor

/- Texts as lists of bytes; the text of a number, the program's and the reference's. -/
namespace Go.Proofs.YtaphnkgjcmneoaaGreatDoor
open Go.RowKit

/-- a text as a string of the model -/
def bsOf (L : List UInt8) : ByteArray := ⟨L.toArray⟩
theorem bsOf_append (A B : List UInt8) : bsOf A ++ bsOf B = bsOf (A ++ B) := by
  apply ByteArray.ext
  simp [bsOf]
theorem bsOf_size (L : List UInt8) : (bsOf L).size = L.length := by simp [bsOf, ByteArray.size]
theorem bsOf_list (L : List UInt8) : (bsOf L).data.toList = L := by simp [bsOf]
theorem bsOf_inj {A B : List UInt8} (h : bsOf A = bsOf B) : A = B := by
  have := congrArg (fun s => s.data.toList) h
  simpa [bsOf] using this

def dgt (u : Nat) : UInt8 := UInt8.ofNat (48 + u)
/-- the digits as the texts have them -/
def digs : ByteArray := { data := #[48, 49, 50, 51, 52, 53, 54, 55, 56, 57] }
theorem digs_cut {u : Nat} (h : u < 10) : ({ data := #[48, 49, 50, 51, 52, 53, 54, 55, 56, 57] } : ByteArray).extract u (u + 1) = bsOf [dgt u] := by
  have : ∀ i : Fin 10, ({ data := #[48, 49, 50, 51, 52, 53, 54, 55, 56, 57] } : ByteArray).extract i.val (i.val + 1) = bsOf [dgt i.val] := by decide +kernel
  exact this ⟨u, h⟩
theorem dec_more {u : Nat} (h : ¬ u < 10) : Lib.decDigits u = Lib.decDigits (u / 10) ++ [dgt (u % 10)] := by
  conv => lhs; rw [Lib.decDigits, dif_neg h]
  rfl

set_option maxHeartbeats 800000 in
set_option maxRecDepth 100000 in
theorem l1NumP_any : ∀ (u : Nat), u ≤ 1000000000000000 → ∀ (w : World),
    Calls Tryz.prog 70 #[.int .i64 u] w fun e w' => e = .returned (.string (bsOf (Lib.decDigits u))) ∧ Ext w w' := by
  intro u
  induction u using Nat.strongRecOn with
  | _ u ih =>
  intro hu w
  by_cases h10 : u < 10
  · have hd := hid (show ({ data := #[48, 49, 50, 51, 52, 53, 54, 55, 56, 57] } : ByteArray).extract u (u + 1) = bsOf (Lib.decDigits u) by rw [digs_cut h10, Lib.decDigits_one h10]; rfl)
    go_enter Tryz.func70, Tryz.ntmps70
    go_wp2_with fail
    refine bodyPost_ret (v := .string (bsOf (Lib.decDigits u))) (by simp [results, Tryz.results70, go_sem, hd.out]) rfl ?_
    exact ⟨rfl, Ext.refl _⟩
  · obtain ⟨q, hq⟩ : ∃ q, q = u / 10 := ⟨_, rfl⟩
    obtain ⟨r, hr⟩ : ∃ r, r = u % 10 := ⟨_, rfl⟩
    have hq1 : (u : Int).tdiv 10 = (q : Int) := by rw [Int.tdiv_eq_ediv_of_nonneg (by omega)]; omega
    have hr1 : (u : Int).tmod 10 = (r : Int) := by rw [Int.tmod_eq_emod_of_nonneg (by omega)]; omega
    have hr9 : r < 10 := by omega
    have hq9 : q ≤ 100000000000000 := by omega
    have hcut := digs_cut hr9
    have hfin := hid (show bsOf (Lib.decDigits q) ++ bsOf [dgt r] = bsOf (Lib.decDigits u) by rw [bsOf_append, dec_more h10, ← hq, ← hr])
    have hih := hid (ih q (by omega) (by omega))
    obtain ⟨S1, hS1⟩ : ∃ s, s = bsOf (Lib.decDigits q) := ⟨_, rfl⟩
    obtain ⟨S2, hS2⟩ : ∃ s, s = bsOf [dgt r] := ⟨_, rfl⟩
    have hs1 : S1.size ≤ 20 := by rw [hS1, bsOf_size, Lib.decDigits_length]; exact Lib.nDigits_le20 q (by omega)
    have hs2 : S2.size = 1 := by rw [hS2, bsOf_size]; rfl
    rw [← hS1, ← hS2] at hfin
    rw [← hS2] at hcut
    rw [← hS1] at hih
    replace hS1 := hid hS1
    replace hS2 := hid hS2
    have hsz : ¬ 9223372036854775807 < S1.size + S2.size := by omega
    replace hq := hid hq
    replace hr := hid hr
    replace h10 : ¬ u < 10 := h10
    clear ih
    go_enter Tryz.func70, Tryz.ntmps70
    go_upto_region 5 with fail
    refine region_held_from (w0 := w) (S := fun u => True) (by kernel_rfl) (fun _ _ => trivial) (fun wd ed hHeld0 => ?_)
    refine wpAnyH_take (i := 0) (v := .int .i64 u) rfl (by kernel_rfl) (by kernel_rfl) (by kernel_rfl) (fun _ _ _ h => h) (Or.inl ⟨by rfl, by intro wx hx; go_simp⟩) (by assumption) ?_
    try simp only [List.getElem_toArray, List.getElem_cons_zero, Act.put, List.setIfInBounds_toArray, List.set_cons_zero, List.set_cons_succ]
    refine wpAnyH_take (i := 1) (v := .int .i64 q) rfl (by kernel_rfl) (by kernel_rfl) (by kernel_rfl) (fun _ _ _ h => h) (Or.inl ⟨by rfl, by intro wx hx; (go_simp; exact IntWalk.i64_in _ (by omega))⟩) (by assumption) ?_
    try simp only [List.getElem_toArray, List.getElem_cons_succ, List.getElem_cons_zero, Act.put, List.setIfInBounds_toArray, List.set_cons_zero, List.set_cons_succ]
    refine wpAnyH_take (i := 3) (v := .int .i64 u) rfl (by kernel_rfl) (by kernel_rfl) (by kernel_rfl) (fun _ _ _ h => h) (Or.inl ⟨by rfl, by intro wx hx; go_simp⟩) (by assumption) ?_
    try simp only [List.getElem_toArray, List.getElem_cons_succ, List.getElem_cons_zero, Act.put, List.setIfInBounds_toArray, List.set_cons_zero, List.set_cons_succ]
    refine wpAnyH_take (i := 4) (v := .int .i64 r) rfl (by kernel_rfl) (by kernel_rfl) (by kernel_rfl) (fun _ _ _ h => h) (Or.inl ⟨by rfl, by intro wx hx; (go_simp)⟩) (by assumption) ?_
    try simp only [List.getElem_toArray, List.getElem_cons_succ, List.getElem_cons_zero, Act.put, List.setIfInBounds_toArray, List.set_cons_zero, List.set_cons_succ]
    refine wpAnyH_take (i := 5) (v := .int .i64 u) rfl (by kernel_rfl) (by kernel_rfl) (by kernel_rfl) (fun _ _ _ h => h) (Or.inl ⟨by rfl, by intro wx hx; go_simp⟩) (by assumption) ?_
    try simp only [List.getElem_toArray, List.getElem_cons_succ, List.getElem_cons_zero, Act.put, List.setIfInBounds_toArray, List.set_cons_zero, List.set_cons_succ]
    refine wpAnyH_take (i := 6) (v := .int .i64 r) rfl (by kernel_rfl) (by kernel_rfl) (by kernel_rfl) (fun _ _ _ h => h) (Or.inl ⟨by rfl, by intro wx hx; (go_simp)⟩) (by assumption) ?_
    try simp only [List.getElem_toArray, List.getElem_cons_succ, List.getElem_cons_zero, Act.put, List.setIfInBounds_toArray, List.set_cons_zero, List.set_cons_succ]
    refine wpAnyH_take (i := 7) (v := .int .i64 ((r : Int) + 1)) rfl (by kernel_rfl) (by kernel_rfl) (by kernel_rfl) (fun _ _ _ h => h) (Or.inl ⟨by rfl, by intro wx hx; (go_simp; exact IntWalk.i64_in _ (by omega))⟩) (by assumption) ?_
    try simp only [List.getElem_toArray, List.getElem_cons_succ, List.getElem_cons_zero, Act.put, List.setIfInBounds_toArray, List.set_cons_zero, List.set_cons_succ]
    refine wpAnyH_take (i := 8) (v := .string S2) rfl (by kernel_rfl) (by kernel_rfl) (by kernel_rfl) (fun _ _ _ h => h) (Or.inl ⟨by rfl, by intro wx hx; (go_simp; rw [if_pos (by omega), if_pos (by omega)])⟩) (by assumption) ?_
    try simp only [List.getElem_toArray, List.getElem_cons_succ, List.getElem_cons_zero, Act.put, List.setIfInBounds_toArray, List.set_cons_zero, List.set_cons_succ]
    refine wpAnyH_ready (rs := [2]) (by kernel_rfl) (by simp) ?_
    refine AllReadyH.cons rfl (fun K hK => ?_) AllReadyH.nil
    go_simp
    with_reducible refine (hih.out wd).mono ?_
    rintro e w2 ⟨rfl, e2⟩
    refine hK.out _ _ trivial (fun _ => ?_)
    clear hK K
    try simp only [List.getElem_toArray, List.getElem_cons_succ, List.getElem_cons_zero, Act.put, List.setIfInBounds_toArray, List.set_cons_zero, List.set_cons_succ]
    refine wpAnyH_take (i := 9) (v := .string (bsOf (Lib.decDigits u))) rfl (by kernel_rfl) (by kernel_rfl) (by kernel_rfl) (fun _ _ _ h => h) (Or.inl ⟨by rfl, by intro wx hx; (go_simp; rw [if_neg (by omega), hfin.out])⟩) (by assumption) ?_
    try simp only [List.getElem_toArray, List.getElem_cons_succ, List.getElem_cons_zero, Act.put, List.setIfInBounds_toArray, List.set_cons_zero, List.set_cons_succ]
    refine wpAnyH_take (i := 10) (v := .string (bsOf (Lib.decDigits u))) rfl (by kernel_rfl) (by kernel_rfl) (by kernel_rfl) (fun _ _ _ h => h) (Or.inl ⟨by rfl, by intro wx hx; go_simp⟩) (by assumption) ?_
    try simp only [List.getElem_toArray, List.getElem_cons_succ, List.getElem_cons_zero, Act.put, List.setIfInBounds_toArray, List.set_cons_zero, List.set_cons_succ]
    refine wpAnyH_done (by kernel_rfl) ?_ _
    go_wp2_with fail
    go_ret
    exact ⟨rfl, Ext.trans ed e2⟩

theorem dec_len {u : Nat} (h : u ≤ 1000000000000000) : (Lib.decDigits u).length ≤ 20 := by
  rw [Lib.decDigits_length]
  exact Lib.nDigits_le20 u (by omega)
theorem itoa_len {n : Int} (h : -1000000000000000 ≤ n ∧ n ≤ 1000000000000000) : (Lib.itoa n).length ≤ 21 := Lib.itoa_length_le n (by omega) (by omega)
set_option maxHeartbeats 800000 in
theorem l1Num_any (n : Int) (hn : -1000000000000000 ≤ n ∧ n ≤ 1000000000000000) (w : World) :
    Calls Tryz.prog 70 #[.int .i64 n] w fun e w' => e = .returned (.string (bsOf (Lib.itoa n))) ∧ Ext w w' := by
  by_cases h0 : n < 0
  · obtain ⟨u, hu⟩ : ∃ u : Nat, -n = u := ⟨(-n).toNat, by omega⟩
    have hih := hid (l1NumP_any u (by omega))
    obtain ⟨S1, hS1⟩ : ∃ s, s = bsOf (Lib.decDigits u) := ⟨_, rfl⟩
    have hs1 : S1.size ≤ 20 := by rw [hS1, bsOf_size]; exact dec_len (by omega)
    have hit : Lib.itoa n = 45 :: Lib.decDigits u := by unfold Lib.itoa; rw [if_pos h0]; congr 2; omega
    have hfin := hid (show ({ data := #[45] } : ByteArray) ++ S1 = bsOf (Lib.itoa n) by rw [hS1, hit, show ({ data := #[45] } : ByteArray) = bsOf [45] from rfl, bsOf_append]; rfl)
    rw [← hS1] at hih
    replace hS1 := hid hS1
    replace hit := hid hit
    have hg : decide (n < 0) = true := decide_eq_true h0
    go_enter Tryz.func70, Tryz.ntmps70
    go_wp2_with fail
    with_reducible refine (hih.out w).mono ?_
    rintro e w2 ⟨rfl, e2⟩
    have hsz : ¬ 9223372036854775807 < 1 + S1.size := by omega
    go_wp2_with fail
    refine bodyPost_ret (v := .string (bsOf (Lib.itoa n))) (by simp [results, Tryz.results70, go_sem, hfin.out]) rfl ?_
    exact ⟨rfl, e2⟩
  · obtain ⟨u, rfl⟩ := Int.eq_ofNat_of_zero_le (show 0 ≤ n by omega)
    have hit : Lib.itoa (u : Int) = Lib.decDigits u := by unfold Lib.itoa; rw [if_neg h0]; rfl
    rw [hit]
    exact l1NumP_any u (by omega) w

theorem tab_ext {w w' : World} {n : String} {k : IntKind} {zs : List Int} (h : Lib.TabIs Tryz.prog w n k zs) [e : Ext w w'] : Lib.TabIs Tryz.prog w' n k zs := by
  unfold Lib.TabIs World.var? at *
  cases hg : Tryz.prog.globalNamed n with
  | none => rw [hg] at h; cases h
  | some g =>
    rw [hg] at h
    have hlt : g < w.heap.size := by
      by_cases hlt : g < w.heap.size
      · exact hlt
      · have hn : w.heap[g]? = none := Array.getElem?_eq_none (by omega)
        simp only [Option.bind_some, hn] at h
        cases h
    simp only [Option.bind_some] at h ⊢
    rw [e.below.block g hlt]
    exact h
/-- the table of powers of ten that the library reads -/
def Tens (w : World) : Prop := Lib.TabIs Tryz.prog w "internal/strconv.uint64pow10" .u64 Lib.pow10Tab
theorem Tens.ext {w w' : World} (h : Tens w) [Ext w w'] : Tens w' := tab_ext h
theorem grow_ext (w : World) (k : Nat) (os : Array Obj) : Ext w (Go.Sort.grow (w.drewN k) os) :=
  Ext.trans (inferInstance : Ext w (w.drewN k)) ⟨⟨rfl, rfl, rfl, by simp [Go.Sort.grow], fun j hj => by show ((w.drewN k).heap ++ os)[j]? = (w.drewN k).heap[j]?; exact Array.getElem?_append_left hj⟩⟩
set_option maxHeartbeats 800000 in
theorem dec_any (n : Int) (_hn : -1000000000000000 ≤ n ∧ n ≤ 1000000000000000) {w : World} (ht : Tens w) :
    Calls Tryz.prog 66 #[.int .i64 n] w fun e w' => e = .returned (.string (bsOf (Lib.itoa n))) ∧ Ext w w' := by
  have ht' : Lib.TabIs Tryz.prog w "internal/strconv.uint64pow10" .u64 Lib.pow10Tab := ht
  replace ht' := hid ht'
  go_enter Tryz.func66, Tryz.ntmps66
  go_wp2_with fail
  with_reducible refine (Tryz.strconv_Itoa n (by omega) (by omega) w ht'.out).mono ?_
  rintro e w2 ⟨rfl, k, os, rfl⟩
  go_wp2_with fail
  go_ret
  exact ⟨rfl, grow_ext _ _ _⟩
end Go.Proofs.YtaphnkgjcmneoaaGreatDoor

/- The text of a problem in plain words. -/
namespace Go.Proofs.YtaphnkgjcmneoaaGreatDoor
open Go.RowKit

theorem joinTail_snoc (sep : List UInt8) (r : List (List UInt8)) (y : List UInt8) : Lib.joinTail sep (r ++ [y]) = Lib.joinTail sep r ++ sep ++ y := by simp [Lib.joinTail]
theorem join_snoc (xs : List (List UInt8)) (y sep : List UInt8) : Lib.join (xs ++ [y]) sep = if xs = [] then y else Lib.join xs sep ++ sep ++ y := by
  cases xs with
  | nil => rw [if_pos rfl, List.nil_append, Lib.join_one]
  | cons x r =>
    rw [if_neg (by simp), List.cons_append, Lib.join_cons, Lib.join_cons, joinTail_snoc]
    simp
theorem joinTail_len {sep : List UInt8} {c : Nat} : ∀ {r : List (List UInt8)}, (∀ x ∈ r, x.length ≤ c) → (Lib.joinTail sep r).length ≤ r.length * (c + sep.length)
  | [], _ => by simp [Lib.joinTail]
  | x :: r, h => by
    have h1 := joinTail_len (sep := sep) (c := c) (r := r) fun y hy => h y (.tail _ hy)
    have h2 := h x (.head _)
    have e : Lib.joinTail sep (x :: r) = sep ++ x ++ Lib.joinTail sep r := by simp [Lib.joinTail]
    rw [e, List.length_append, List.length_append, List.length_cons, Nat.succ_mul]
    omega
theorem join_len {sep : List UInt8} {c : Nat} {r : List (List UInt8)} (h : ∀ x ∈ r, x.length ≤ c) : (Lib.join r sep).length ≤ r.length * (c + sep.length) := by
  cases r with
  | nil => simp [Lib.join_nil]
  | cons x r =>
    have h1 := joinTail_len (sep := sep) (c := c) (r := r) fun y hy => h y (.tail _ hy)
    have h2 := h x (.head _)
    rw [Lib.join_cons, List.length_append, List.length_cons, Nat.succ_mul]
    omega

/-- numbers with spaces between them -/
def spL (X : List Int) : List UInt8 := Lib.join (X.map Lib.itoa) [32]
/-- a number, or x for none -/
def sx (c : Int) : List UInt8 := if c < 0 then [120] else Lib.itoa c
def sxL (X : List Int) : List UInt8 := Lib.join (X.map sx) [32]
def mtL (M : List (List Int)) : List UInt8 := Lib.join (M.map spL) [59, 32]
def stL (S : List (List Int)) : List UInt8 := Lib.join (S.map sxL) [59, 32]
def ptL (M S : List (List Int)) : List UInt8 := mtL M ++ [32, 124, 32] ++ stL S

def old2 : List UInt8 := [45, 49]
def rep2 (s : List UInt8) : List UInt8 := Lib.replaceK old2 [120] (Lib.count s old2) s
theorem rep2_nil : rep2 [] = [] := by
  have h : Lib.index [] old2 = -1 := rfl
  unfold rep2
  rw [Lib.count_miss h]
  rfl
theorem rep2_hit (r : List UInt8) : rep2 (45 :: 49 :: r) = 120 :: rep2 r := by
  have h : Lib.index (45 :: 49 :: r) old2 = ((0 : Nat) : Int) := by rw [Lib.index]; simp [old2, List.isPrefixOf]
  unfold rep2
  rw [Lib.count_hit (by simp [old2]) h, Nat.add_comm, Lib.replaceK_hit _ _ _ _ _ h]
  simp [old2]
theorem rep2_skip {b : UInt8} (l : List UInt8) (h : old2.isPrefixOf (b :: l) = false) : rep2 (b :: l) = b :: rep2 l := by
  have hix : Lib.index (b :: l) old2 = if Lib.index l old2 == -1 then -1 else Lib.index l old2 + 1 := by rw [Lib.index, h]; simp
  unfold rep2
  by_cases hm : Lib.index l old2 = -1
  · rw [Lib.count_miss hm, Lib.count_miss (by rw [hix, if_pos (beq_iff_eq.2 hm)])]
    rfl
  · have hge := Lib.index_ge l old2
    obtain ⟨i, hi⟩ : ∃ i : Nat, Lib.index l old2 = i := ⟨(Lib.index l old2).toNat, by omega⟩
    have hi2 : Lib.index (b :: l) old2 = ((i + 1 : Nat) : Int) := by
      rw [hix, if_neg (fun e => hm (beq_iff_eq.1 e)), hi]; omega
    rw [Lib.count_hit (by simp [old2]) hi, Lib.count_hit (by simp [old2]) hi2, Nat.add_comm 1, Nat.add_comm 1, Lib.replaceK_hit _ _ _ _ _ hi, Lib.replaceK_hit _ _ _ _ _ hi2]
    have e : (b :: l).drop (i + 1 + old2.length) = l.drop (i + old2.length) := by
      rw [show i + 1 + old2.length = (i + old2.length) + 1 by omega, List.drop_succ_cons]
    rw [e, List.take_succ_cons]
    rfl
theorem rep2_plain : ∀ (A s : List UInt8), (∀ b ∈ A, b ≠ 45) → rep2 (A ++ s) = A ++ rep2 s
  | [], _, _ => rfl
  | b :: A, s, h => by
    have h1 := h b (.head _)
    rw [List.cons_append, rep2_skip _ (by simp [old2, List.isPrefixOf]; intro e; exact absurd e.symm h1), rep2_plain A s fun c hc => h c (.tail _ hc)]
    rfl
theorem dec_plain : ∀ (u : Nat), ∀ b ∈ Lib.decDigits u, b ≠ 45 := by
  intro u
  induction u using Nat.strongRecOn with
  | _ u ih =>
  have hd : ∀ r, r < 10 → dgt r ≠ 45 := by
    have : ∀ i : Fin 10, dgt i.val ≠ 45 := by decide +kernel
    exact fun r hr => this ⟨r, hr⟩
  intro b hb
  by_cases h : u < 10
  · rw [Lib.decDigits_one h, List.mem_singleton] at hb
    rw [hb]; exact hd u h
  · rw [dec_more h] at hb
    rcases List.mem_append.1 hb with h1 | h1
    · exact ih _ (by omega) b h1
    · rw [List.mem_singleton.1 h1]; exact hd _ (by omega)
theorem itoa_pos {c : Int} (h : 0 ≤ c) : ∀ b ∈ Lib.itoa c, b ≠ 45 := by
  unfold Lib.itoa
  rw [if_neg (by omega)]
  exact dec_plain _
theorem itoa_m1 : Lib.itoa (-1) = [45, 49] := by
  unfold Lib.itoa
  rw [if_pos (by omega)]
  have : Lib.decDigits ((-1 : Int).natAbs) = [49] := by rw [Lib.decDigits_one (by decide)]; decide
  rw [this]
theorem rep2_num {c : Int} (h : -1 ≤ c) (s : List UInt8) : rep2 (Lib.itoa c ++ s) = sx c ++ rep2 s := by
  by_cases h0 : c < 0
  · have : c = -1 := by omega
    subst this
    rw [itoa_m1]
    exact rep2_hit s
  · rw [sx, if_neg h0]
    exact rep2_plain _ _ (itoa_pos (by omega))
theorem rep2_tail : ∀ (X : List Int), (∀ c ∈ X, -1 ≤ c) → rep2 (Lib.joinTail [32] (X.map Lib.itoa)) = Lib.joinTail [32] (X.map sx)
  | [], _ => rep2_nil
  | c :: X, h => by
    have e : ∀ (f : Int → List UInt8), Lib.joinTail [32] ((c :: X).map f) = [32] ++ (f c ++ Lib.joinTail [32] (X.map f)) := fun f => by simp [Lib.joinTail]
    rw [e, e, rep2_plain _ _ (by simp), rep2_num (h c (.head _)), rep2_tail X fun d hd => h d (.tail _ hd)]
theorem rep2_row {X : List Int} (h : ∀ c ∈ X, -1 ≤ c) : Lib.replaceAll (spL X) [45, 49] [120] = sxL X := by
  have h1 : Lib.replaceAll (spL X) [45, 49] [120] = rep2 (spL X) := by
    unfold Lib.replaceAll Lib.replace Lib.replaceNum rep2
    rw [if_neg (by decide), if_pos (.inl (by omega))]
    rfl
  rw [h1]
  unfold spL sxL
  cases X with
  | nil => exact rep2_nil
  | cons c X =>
    rw [List.map_cons, List.map_cons, Lib.join_cons, Lib.join_cons, rep2_num (h c (.head _)), rep2_tail X fun d hd => h d (.tail _ hd)]
end Go.Proofs.YtaphnkgjcmneoaaGreatDoor

/- Numbers with spaces between them, and the text of a metric and of a problem: the program's. -/
namespace Go.Proofs.YtaphnkgjcmneoaaGreatDoor
open Go.RowKit

theorem Tryz.infoStr : (Tryz.prog.info? 9).map (fun i => (i.zero, i.size, i.bytes)) = some (some (.string ⟨#[]⟩), 1, 16) := by kernel_rfl
theorem elemStr : Elem Tryz.prog 58 9 (.string ⟨#[]⟩) 1 16 := ⟨Tryz.underlying58, info_parts Tryz.infoStr, rfl, by decide⟩
def strV (S : List (List UInt8)) : List Value := S.map fun L => .string (bsOf L)
theorem strV_len (S : List (List UInt8)) : (strV S).length = S.length := by simp [strV]
theorem strV_at {S : List (List UInt8)} {j : Nat} (h : j < S.length) : (strV S).getD j undef = .string (bsOf S[j]) := by simp [strV, h]

theorem sp_len {X : List Int} {k : Nat} (hl : X.length ≤ k) (hb : ∀ x ∈ X, -1000000000000000 ≤ x ∧ x ≤ 1000000000000000) : (spL X).length ≤ k * 22 := by
  have h := join_len (sep := [32]) (c := 21) (r := X.map Lib.itoa) fun y hy => by
    obtain ⟨x, hx, rfl⟩ := List.mem_map.1 hy
    exact itoa_len (hb x hx)
  rw [List.length_map] at h
  have : X.length * (21 + 1) ≤ k * 22 := Nat.mul_le_mul_right 22 hl
  exact Nat.le_trans h this

end Go.Proofs.YtaphnkgjcmneoaaGreatDoor

/- The text of a metric: the reference's. -/
namespace Go.Proofs.YtaphnkgjcmneoaaGreatDoor
open Go.RowKit

/-- what stands ahead of the next part -/
def pre (xs : List (List UInt8)) (sep : List UInt8) : List UInt8 := if xs = [] then [] else Lib.join xs sep ++ sep
theorem join_pre (xs : List (List UInt8)) (y sep : List UInt8) : Lib.join (xs ++ [y]) sep = pre xs sep ++ y := by
  rw [join_snoc, pre]
  split <;> simp
theorem pre_pos {α : Type} {xs : List α} {f : α → List UInt8} {t : Nat} {sep : List UInt8} (h : 0 < t) (hl : t ≤ xs.length) : pre ((xs.take t).map f) sep = Lib.join ((xs.take t).map f) sep ++ sep := by
  rw [pre, if_neg]
  intro e
  have := congrArg List.length e
  rw [List.length_map, List.length_take, List.length_nil] at this
  omega
theorem pre_zero {α : Type} {xs : List α} {f : α → List UInt8} {t : Nat} {sep : List UInt8} (h : ¬ 0 < t) : pre ((xs.take t).map f) sep = [] ∧ Lib.join ((xs.take t).map f) sep = [] := by
  have : t = 0 := by omega
  subst this
  exact ⟨by simp [pre], by simp [Lib.join_nil]⟩
theorem join_num {X : List Int} {f : Int → List UInt8} {j : Nat} (hj : j < X.length) (sep : List UInt8) : Lib.join ((X.take (j + 1)).map f) sep = pre ((X.take j).map f) sep ++ f (nth X j) := by
  rw [take_succ_nth hj, List.map_append]
  exact join_pre _ _ _
theorem join_row {M : List (List Int)} {f : List Int → List UInt8} {t : Nat} (ht : t < M.length) (sep : List UInt8) : Lib.join ((M.take (t + 1)).map f) sep = pre ((M.take t).map f) sep ++ f (row M t) := by
  rw [take_succ_row ht, List.map_append]
  exact join_pre _ _ _
theorem join_bd {α : Type} {xs : List α} {f : α → List UInt8} {t c k : Nat} {sep : List UInt8} (h : ∀ x ∈ xs, (f x).length ≤ c) (hk : xs.length ≤ k) : (Lib.join ((xs.take t).map f) sep).length ≤ k * (c + sep.length) := by
  have h1 := join_len (sep := sep) (c := c) (r := (xs.take t).map f) fun y hy => by
    obtain ⟨x, hx, rfl⟩ := List.mem_map.1 hy
    exact h x (List.mem_of_mem_take hx)
  rw [List.length_map, List.length_take] at h1
  exact Nat.le_trans h1 (Nat.mul_le_mul_right _ (by omega))

end Go.Proofs.YtaphnkgjcmneoaaGreatDoor

/- The text of a problem: the reference's and the program's. -/
namespace Go.Proofs.YtaphnkgjcmneoaaGreatDoor
open Go.RowKit

def ptR (M S : List (List Int)) : List UInt8 := if probB M S then ptL M S else []
theorem sx_len {c : Int} (h : -1000000000000000 ≤ c ∧ c ≤ 1000000000000000) : (sx c).length ≤ 21 := by
  unfold sx
  split
  · simp
  · exact itoa_len h
theorem sxL_len {X : List Int} {k : Nat} (hl : X.length ≤ k) (hb : ∀ x ∈ X, -1000000000000000 ≤ x ∧ x ≤ 1000000000000000) : (sxL X).length ≤ k * 22 := by
  have h := join_len (sep := [32]) (c := 21) (r := X.map sx) fun y hy => by
    obtain ⟨x, hx, rfl⟩ := List.mem_map.1 hy
    exact sx_len (hb x hx)
  rw [List.length_map] at h
  exact Nat.le_trans h (Nat.mul_le_mul_right 22 hl)
/-- what a valid problem's numbers are like -/
theorem prob_nums {M S : List (List Int)} (h : probB M S = true) : M.length ≤ 4 ∧ S.length ≤ 4 ∧ (∀ t, t < M.length → (row M t).length = M.length) ∧ (∀ r ∈ M, r.length ≤ 4 ∧ ∀ x ∈ r, 0 ≤ x ∧ x ≤ 99) ∧ ∀ r ∈ S, r.length ≤ 4 ∧ ∀ x ∈ r, -1 ≤ x ∧ x ≤ 20 := by
  obtain ⟨h1, h2, h3, h4⟩ := probB_len h
  have hsq : ∀ t, t < M.length → (row M t).length = M.length := fun t ht => square_row (by have := probB_table h; simp only [tableB, Bool.and_eq_true] at this; exact this.1.2) ht
  refine ⟨h2, h4, hsq, fun r hr => ?_, fun r hr => ?_⟩
  · obtain ⟨t, ht, e⟩ := List.getElem_of_mem hr
    have e2 : row M t = r := by simp [row, ht, e]
    have h5 := hsq t ht
    rw [e2] at h5
    refine ⟨by omega, fun x hx => ?_⟩
    obtain ⟨y, hy, rfl⟩ := mem_iff_nth.1 hx
    have h6 := probB_move h (x := t) (y := y) ht (by omega)
    unfold cell at h6
    rw [e2] at h6
    exact h6
  · obtain ⟨t, ht, e⟩ := List.getElem_of_mem hr
    have e2 : row S t = r := by simp [row, ht, e]
    have h5 := probB_row h ht
    rw [e2] at h5
    exact ⟨by omega, h5.2.1⟩

/-- the library's note on the length of a search -/
def Most (w : World) : Prop := ∃ m, w.cell? ⟨0, 0, none⟩ = some (.int .i64 m)
theorem Most.ext {w w' : World} (h : Most w) [e : Ext w w'] : Most w' := by
  obtain ⟨m, h⟩ := h
  exact ⟨m, e.cell h⟩
end Go.Proofs.YtaphnkgjcmneoaaGreatDoor

/- Reading a number in plain words: the library's way and the reference's agree. -/
namespace Go.Proofs.YtaphnkgjcmneoaaGreatDoor
open Go.RowKit

theorem dgt_val {r : Nat} (h : r < 10) : (dgt r).toNat = 48 + r := by
  have : ∀ i : Fin 10, (dgt i.val).toNat = 48 + i.val := by decide +kernel
  exact this ⟨r, h⟩
theorem parse_app : ∀ (A B : List UInt8) (acc a : Nat), Lib.parseUint10 acc A = .ok a → Lib.parseUint10 acc (A ++ B) = Lib.parseUint10 a B
  | [], B, acc, a, h => by
    simp only [Lib.parseUint10] at h
    injection h with h
    rw [h]; rfl
  | c :: A, B, acc, a, h => by
    simp only [Lib.parseUint10, List.cons_append] at h ⊢
    split at h
    · rename_i hd
      rw [if_pos hd]
      split at h
      · cases h
      · rename_i h1
        rw [if_neg h1]
        split at h
        · cases h
        · rename_i h2
          rw [if_neg h2]
          exact parse_app A B _ a h
    · cases h
theorem parse_one {a r : Nat} (ha : a ≤ 1000000000000000) (h : r < 10) : Lib.parseUint10 a [dgt r] = .ok (a * 10 + r) := by
  have hv := dgt_val h
  simp only [Lib.parseUint10]
  rw [if_pos (by omega), if_neg (by omega), if_neg (by omega), hv]
  congr 1
  omega
theorem parse_dec : ∀ u : Nat, u ≤ 1000000000000000 → Lib.parseUint10 0 (Lib.decDigits u) = .ok u := by
  intro u
  induction u using Nat.strongRecOn with
  | _ u ih =>
  intro hu
  by_cases h : u < 10
  · rw [Lib.decDigits_one h]
    have := parse_one (a := 0) (by omega) h
    rw [Nat.zero_mul, Nat.zero_add] at this
    exact this
  · rw [dec_more h, parse_app _ _ _ _ (ih (u / 10) (by omega) (by omega)), parse_one (by omega) (by omega)]
    congr 1
    omega
theorem dec_ne (u : Nat) : Lib.decDigits u ≠ [] := by
  intro e
  have h := Lib.decDigits_length u
  rw [e] at h
  have := Lib.nDigits_pos u
  simp at h
  omega
theorem dec_head {u : Nat} {c : UInt8} {r : List UInt8} (h : Lib.decDigits u = c :: r) : c.toNat ≠ 43 ∧ c.toNat ≠ 45 ∧ c ≠ 45 := by
  have key : ∀ u, ∀ b ∈ Lib.decDigits u, 48 ≤ b.toNat ∧ b.toNat ≤ 57 := by
    intro u
    induction u using Nat.strongRecOn with
    | _ u ih =>
    intro b hb
    by_cases h : u < 10
    · rw [Lib.decDigits_one h, List.mem_singleton] at hb
      have h1 := dgt_val h
      have h2 : b = dgt u := hb
      rw [h2]; omega
    · rw [dec_more h] at hb
      rcases List.mem_append.1 hb with h1 | h1
      · exact ih _ (by omega) b h1
      · rw [List.mem_singleton.1 h1]
        have := dgt_val (show u % 10 < 10 by omega)
        omega
  have h1 := key u c (by rw [h]; exact .head _)
  refine ⟨by omega, by omega, fun e => ?_⟩
  rw [e] at h1
  revert h1
  decide
theorem itoa_cases (n : Int) : (n < 0 ∧ Lib.itoa n = 45 :: Lib.decDigits n.natAbs) ∨ (0 ≤ n ∧ Lib.itoa n = Lib.decDigits n.toNat) := by
  unfold Lib.itoa
  by_cases h : n < 0
  · exact .inl ⟨h, if_pos h⟩
  · exact .inr ⟨by omega, if_neg h⟩
theorem atoi_itoa {n : Int} (h : -1000000000000000 ≤ n ∧ n ≤ 1000000000000000) : Lib.atoiAll (Lib.itoa n) = .ok n := by
  rcases itoa_cases n with ⟨h0, e⟩ | ⟨h0, e⟩
  · rw [e, Lib.atoiAll_minus]
    unfold Lib.parseMag
    rw [if_neg (dec_ne _), parse_dec _ (by omega)]
    simp only [Lib.signed]
    split
    · omega
    · congr 1; omega
  · rw [e]
    cases hd : Lib.decDigits n.toNat with
    | nil => exact absurd hd (dec_ne _)
    | cons c r =>
      obtain ⟨h1, h2, _⟩ := dec_head hd
      rw [Lib.atoiAll_plain c r h1 h2]
      unfold Lib.parseMag
      rw [if_neg (by simp), ← hd, parse_dec _ (by omega)]
      simp only [Lib.signless]
      split
      · omega
      · congr 1; omega

/-- what the program reads -/
def rdO (L : List UInt8) : Option Int := match Lib.atoiAll L with
  | .ok v => if Lib.itoa v = L then some v else none
  | _ => none
def pI (L : List UInt8) : Option Int := match rdO L with
  | some v => if inB v (-999999) 999999 then some v else none
  | none => none
theorem rdO_some {L : List UInt8} {v : Int} (h : rdO L = some v) : Lib.atoiAll L = .ok v ∧ Lib.itoa v = L := by
  unfold rdO at h
  split at h
  · rename_i v' he
    split at h
    · rename_i hi
      injection h with h
      subst h
      exact ⟨he, hi⟩
    · cases h
  · cases h
theorem rdO_itoa {n : Int} (h : -1000000000000000 ≤ n ∧ n ≤ 1000000000000000) : rdO (Lib.itoa n) = some n := by
  unfold rdO
  rw [atoi_itoa h]
  simp
theorem pI_iff {L : List UInt8} {n : Int} : pI L = some n ↔ Lib.itoa n = L ∧ -999999 ≤ n ∧ n ≤ 999999 := by
  constructor
  · intro h
    unfold pI at h
    cases hr : rdO L with
    | none => rw [hr] at h; cases h
    | some v =>
      rw [hr] at h
      simp only at h
      by_cases hb : inB v (-999999) 999999 = true
      · rw [if_pos hb] at h
        injection h with h
        subst h
        have := inB_true.1 hb
        exact ⟨(rdO_some hr).2, by omega, by omega⟩
      · rw [if_neg hb] at h; cases h
  · rintro ⟨rfl, h1, h2⟩
    unfold pI
    rw [rdO_itoa (by omega)]
    simp only
    rw [if_pos (inB_true.2 (by omega))]

/-- a text without its sign -/
def rsT (L : List UInt8) : List UInt8 := if 1 < L.length ∧ L.head? = some 45 then L.tail else L
def rsN (L : List UInt8) (m : Nat) : Int := if (rsT L).length < L.length then -(m : Int) else m
/-- what the reference reads -/
def rsO (L : List UInt8) : Option Int :=
  if 1 ≤ (rsT L).length ∧ (rsT L).length ≤ 6 then
    match Lib.decFrom 0 (rsT L) with
    | some m => if Lib.itoa (rsN L m) = L then some (rsN L m) else none
    | none => none
  else none
theorem decFrom_app : ∀ (A B : List UInt8) (acc a : Nat), Lib.decFrom acc A = some a → Lib.decFrom acc (A ++ B) = Lib.decFrom a B
  | [], B, acc, a, h => by
    simp only [Lib.decFrom, Option.some.injEq] at h
    rw [h]; rfl
  | c :: A, B, acc, a, h => by
    simp only [Lib.decFrom, List.cons_append] at h ⊢
    cases hd : Lib.digitVal c with
    | none => rw [hd] at h; cases h
    | some d =>
      rw [hd] at h
      simp only at h ⊢
      exact decFrom_app A B _ a h
theorem decFrom_one {a r : Nat} (h : r < 10) : Lib.decFrom a [dgt r] = some (a * 10 + r) := by
  have hv := dgt_val h
  have hd : Lib.digitVal (dgt r) = some r := by
    unfold Lib.digitVal
    rw [if_pos (by omega), hv]
    congr 1; omega
  simp [Lib.decFrom, hd]
theorem decFrom_dec : ∀ u : Nat, Lib.decFrom 0 (Lib.decDigits u) = some u := by
  intro u
  induction u using Nat.strongRecOn with
  | _ u ih =>
  by_cases h : u < 10
  · rw [Lib.decDigits_one h]
    have := decFrom_one (a := 0) h
    rw [Nat.zero_mul, Nat.zero_add] at this
    exact this
  · rw [dec_more h, decFrom_app _ _ _ _ (ih (u / 10) (by omega)), decFrom_one (by omega)]
    congr 1
    omega
theorem dec_len6 {u : Nat} (h : u < 1000000) : 1 ≤ (Lib.decDigits u).length ∧ (Lib.decDigits u).length ≤ 6 := by
  rw [Lib.decDigits_length]
  refine ⟨Lib.nDigits_pos u, ?_⟩
  by_cases h0 : u < 10
  · rw [Lib.nDigits_small h0]; omega
  by_cases h1 : u < 100
  · rw [Lib.nDigits_unique 1 u (by omega) (by omega)]; omega
  by_cases h2 : u < 1000
  · rw [Lib.nDigits_unique 2 u (by omega) (by omega)]; omega
  by_cases h3 : u < 10000
  · rw [Lib.nDigits_unique 3 u (by omega) (by omega)]; omega
  by_cases h4 : u < 100000
  · rw [Lib.nDigits_unique 4 u (by omega) (by omega)]; omega
  · rw [Lib.nDigits_unique 5 u (by omega) (by omega)]; omega
theorem rsO_iff {L : List UInt8} {n : Int} : rsO L = some n ↔ Lib.itoa n = L ∧ -999999 ≤ n ∧ n ≤ 999999 := by
  constructor
  · intro h
    unfold rsO at h
    split at h
    · rename_i hl
      cases hd : Lib.decFrom 0 (rsT L) with
      | none => rw [hd] at h; cases h
      | some m =>
        rw [hd] at h
        simp only at h
        split at h
        · rename_i hi
          injection h with h
          have hm := Lib.decFrom_lt _ _ _ hd
          have h6 : (10 : Nat) ^ (rsT L).length ≤ 10 ^ 6 := Nat.pow_le_pow_right (by omega) hl.2
          rw [← h]
          refine ⟨hi, ?_, ?_⟩ <;> unfold rsN <;> split <;> omega
        · cases h
    · cases h
  · rintro ⟨rfl, h1, h2⟩
    rcases itoa_cases n with ⟨h0, e⟩ | ⟨h0, e⟩
    · have hl := dec_len6 (u := n.natAbs) (by omega)
      have ht : rsT (Lib.itoa n) = Lib.decDigits n.natAbs := by
        rw [rsT, e, if_pos ⟨by rw [List.length_cons]; omega, rfl⟩]
        rfl
      unfold rsO
      rw [ht, if_pos hl, decFrom_dec]
      have hN : rsN (Lib.itoa n) n.natAbs = n := by
        rw [rsN, ht, e, if_pos (by rw [List.length_cons]; omega)]
        omega
      simp only
      rw [hN, if_pos rfl]
    · have hl := dec_len6 (u := n.toNat) (by omega)
      have ht : rsT (Lib.itoa n) = Lib.decDigits n.toNat := by
        rw [rsT, e, if_neg]
        rintro ⟨_, h3⟩
        cases hd : Lib.decDigits n.toNat with
        | nil => exact absurd hd (dec_ne _)
        | cons c r =>
          rw [hd] at h3
          injection h3 with h3
          exact (dec_head hd).2.2 h3
      unfold rsO
      rw [ht, if_pos hl, decFrom_dec]
      have hN : rsN (Lib.itoa n) n.toNat = n := by
        rw [rsN, ht, e, if_neg (by omega)]
        omega
      simp only
      rw [hN, if_pos rfl]
theorem pI_rsO (L : List UInt8) : pI L = rsO L := by
  cases h : pI L with
  | some n => exact (rsO_iff.2 (pI_iff.1 h)).symm
  | none =>
    cases h2 : rsO L with
    | none => rfl
    | some n => rw [pI_iff.2 (rsO_iff.1 h2)] at h; cases h
end Go.Proofs.YtaphnkgjcmneoaaGreatDoor

/- Checksums of texts in plain words. -/
namespace Go.Proofs.YtaphnkgjcmneoaaGreatDoor
open Go.RowKit

def ckS (h : Nat) (b : UInt8) : Nat := (41 * h + b.toNat + 1) % 999979
def ckL (h : Nat) (L : List UInt8) : Nat := L.foldl ckS h
def ck (L : List UInt8) : Nat := ckL 7 L
theorem ckL_snoc (h : Nat) (L : List UInt8) (b : UInt8) : ckL h (L ++ [b]) = ckS (ckL h L) b := by simp [ckL]
theorem ckL_app (h : Nat) (A B : List UInt8) : ckL h (A ++ B) = ckL (ckL h A) B := by simp [ckL]
theorem ckS_lt (h : Nat) (b : UInt8) : ckS h b < 999979 := Nat.mod_lt _ (by omega)
theorem ck_lt (L : List UInt8) : ck L < 999979 := by
  rcases List.eq_nil_or_concat L with rfl | ⟨A, b, rfl⟩
  · simp [ck, ckL]
  · rw [ck, List.concat_eq_append, ckL_snoc]; exact ckS_lt _ _
theorem ckS_inj {h h' : Nat} (hh : h < 999979) (hh' : h' < 999979) (b : UInt8) (e : ckS h b = ckS h' b) : h = h' := by
  unfold ckS at e
  omega
theorem ckL_inj : ∀ (L : List UInt8) {h h' : Nat}, h < 999979 → h' < 999979 → ckL h L = ckL h' L → h = h'
  | [], _, _, _, _, e => e
  | b :: L, h, h', hh, hh', e => by
    have e2 : ckL (ckS h b) L = ckL (ckS h' b) L := e
    exact ckS_inj hh hh' b (ckL_inj L (ckS_lt _ _) (ckS_lt _ _) e2)
theorem ckS_byte {h : Nat} {b c : UInt8} (e : ckS h b = ckS h c) : b = c := by
  unfold ckS at e
  have h1 := b.toNat_lt
  have h2 := c.toNat_lt
  exact UInt8.toNat_inj.1 (by omega)
/-- one byte changed: another checksum -/
theorem ck_set {L : List UInt8} {k : Nat} {c : UInt8} (hk : k < L.length) (hc : L[k] ≠ c) : ck (L.set k c) ≠ ck L := by
  intro e
  have h1 : L = L.take k ++ L[k] :: L.drop (k + 1) := by
    rw [← List.drop_eq_getElem_cons hk, List.take_append_drop]
  have h2 : L.set k c = L.take k ++ c :: L.drop (k + 1) := by rw [List.set_eq_take_append_cons_drop, if_pos hk]
  have key : ∀ x : UInt8, ck (L.take k ++ x :: L.drop (k + 1)) = ckL (ckS (ckL 7 (L.take k)) x) (L.drop (k + 1)) := fun x => by
    rw [ck, ckL_app]; rfl
  rw [h2, key] at e
  have e3 : ck L = ckL (ckS (ckL 7 (L.take k)) L[k]) (L.drop (k + 1)) := by
    conv => lhs; rw [h1]
    exact key _
  rw [e3] at e
  exact hc (ckS_byte (ckL_inj _ (ckS_lt _ _) (ckS_lt _ _) e)).symm

def sealL (L : List UInt8) : List UInt8 := L ++ [35] ++ Lib.itoa (ck L)
/-- whether a text can be sealed -/
def apB (L : List UInt8) : Bool := decide (L.length ≤ 4000) && (decide (35 ∉ L) && decide ((sealL L).length ≤ 4000))
def apL (L : List UInt8) : List UInt8 := if apB L then sealL L else []
theorem apB_iff {L : List UInt8} : apB L = true ↔ L.length ≤ 4000 ∧ 35 ∉ L ∧ (sealL L).length ≤ 4000 := by
  unfold apB
  rw [Bool.and_eq_true, Bool.and_eq_true, decide_eq_true_eq, decide_eq_true_eq, decide_eq_true_eq]
/-- what stands ahead of the first sign -/
def headL (L : List UInt8) : List UInt8 := (Lib.cut L [35]).1
def vrB (L : List UInt8) : Bool := decide (L.length ≤ 4000) && (apB (headL L) && decide (sealL (headL L) = L))
def vrL (L : List UInt8) : List UInt8 := if vrB L then headL L else []
theorem itoa_no35 {n : Int} (h : 0 ≤ n) : (35 : UInt8) ∉ Lib.itoa n := by
  rcases itoa_cases n with ⟨h0, _⟩ | ⟨_, e⟩
  · omega
  · rw [e]
    have key : ∀ u, ∀ b ∈ Lib.decDigits u, 48 ≤ b.toNat := by
      intro u
      induction u using Nat.strongRecOn with
      | _ u ih =>
      intro b hb
      by_cases h : u < 10
      · rw [Lib.decDigits_one h, List.mem_singleton] at hb
        have h1 := dgt_val h
        have h2 : b = dgt u := hb
        rw [h2]; omega
      · rw [dec_more h] at hb
        rcases List.mem_append.1 hb with h1 | h1
        · exact ih _ (by omega) b h1
        · rw [List.mem_singleton.1 h1]
          have := dgt_val (show u % 10 < 10 by omega)
          omega
    intro hm
    have := key _ _ hm
    revert this
    decide
theorem itoa_inj {a b : Int} (ha : -1000000 ≤ a ∧ a ≤ 1000000) (hb : -1000000 ≤ b ∧ b ≤ 1000000) (e : Lib.itoa a = Lib.itoa b) : a = b := by
  have h1 := atoi_itoa (n := a) (by omega)
  have h2 := atoi_itoa (n := b) (by omega)
  rw [e, h2] at h1
  injection h1 with h1
  exact h1.symm
/-- a sealed text with one byte changed is no sealed text -/
theorem seal_broken {x t : List UInt8} {k : Nat} {c : UInt8} (hx : (35 : UInt8) ∉ x) (ht : (35 : UInt8) ∉ t) (hk : k < (sealL x).length) (hc : (sealL x)[k] ≠ c) : (sealL x).set k c ≠ sealL t := by
  intro e
  have hdx := itoa_no35 (n := (ck x : Int)) (by omega)
  have hdt := itoa_no35 (n := (ck t : Int)) (by omega)
  generalize hd : Lib.itoa (ck x : Int) = d at hdx
  generalize hd' : Lib.itoa (ck t : Int) = d' at hdt
  have ex : sealL x = x ++ 35 :: d := by rw [sealL, hd]; simp
  have et : sealL t = t ++ 35 :: d' := by rw [sealL, hd']; simp
  have hlen : x.length + d.length = t.length + d'.length := by
    have h := congrArg List.length e
    rw [List.length_set, ex, et, List.length_append, List.length_append, List.length_cons, List.length_cons] at h
    omega
  have hne : ∀ j, j ≠ k → (sealL t)[j]? = (sealL x)[j]? := fun j hj => by rw [← e, List.getElem?_set_ne (fun h => hj h.symm)]
  have hkk : (sealL t)[k]? = some c := by rw [← e, List.getElem?_set_self hk]
  have hkx : (sealL x)[k]? = some (sealL x)[k] := List.getElem?_eq_getElem hk
  have hx1 : ∀ j, j < x.length → (sealL x)[j]? = x[j]? := fun j hj => by rw [ex, List.getElem?_append_left hj]
  have ht1 : ∀ j, j < t.length → (sealL t)[j]? = t[j]? := fun j hj => by rw [et, List.getElem?_append_left hj]
  have hx2 : (sealL x)[x.length]? = some 35 := by rw [ex, List.getElem?_append_right (Nat.le_refl _)]; simp
  have ht2 : (sealL t)[t.length]? = some 35 := by rw [et, List.getElem?_append_right (Nat.le_refl _)]; simp
  have hx3 : ∀ j, (sealL x)[x.length + 1 + j]? = d[j]? := fun j => by
    rw [ex, List.getElem?_append_right (by omega), show x.length + 1 + j - x.length = j + 1 by omega, List.getElem?_cons_succ]
  have ht3 : ∀ j, (sealL t)[t.length + 1 + j]? = d'[j]? := fun j => by
    rw [et, List.getElem?_append_right (by omega), show t.length + 1 + j - t.length = j + 1 by omega, List.getElem?_cons_succ]
  have mem : ∀ {l : List UInt8} {j : Nat}, l[j]? = some 35 → (35 : UInt8) ∈ l := fun h => List.mem_of_getElem? h
  rcases Nat.lt_trichotomy x.length t.length with h | h | h
  · have a1 : k = x.length := by
      by_cases hk2 : x.length = k
      · exact hk2.symm
      · have h1 := hne _ hk2
        rw [hx2, ht1 _ h] at h1
        exact absurd (mem h1) ht
    have a2 : k = t.length := by
      by_cases hk2 : t.length = k
      · exact hk2.symm
      · have h1 := hne _ hk2
        rw [ht2, show t.length = x.length + 1 + (t.length - x.length - 1) by omega, hx3] at h1
        exact absurd (mem h1.symm) hdx
    omega
  · have hxt : ∀ j, j ≠ k → j < x.length → t[j]? = x[j]? := fun j hj hl => by
      have h1 := hne j hj
      rwa [hx1 _ hl, ht1 _ (by omega)] at h1
    have hdd : ∀ j, x.length + 1 + j ≠ k → d'[j]? = d[j]? := fun j hj => by
      have h1 := hne _ hj
      rw [hx3, h, ht3] at h1
      exact h1
    by_cases hk1 : k < x.length
    · have hdeq : d' = d := List.ext_getElem? fun j => hdd j (by omega)
      have hteq : t = x.set k c := by
        refine List.ext_getElem? fun j => ?_
        by_cases hj : j = k
        · subst hj
          rw [List.getElem?_set_self hk1, ← ht1 _ (by omega), hkk]
        · rw [List.getElem?_set_ne (fun h => hj h.symm)]
          by_cases hl : j < x.length
          · exact hxt j hj hl
          · rw [List.getElem?_eq_none (by omega), List.getElem?_eq_none (by omega)]
      have hck : ck t = ck x := by
        have h1 := ck_lt t
        have h2 := ck_lt x
        have := itoa_inj (a := (ck t : Int)) (b := (ck x : Int)) (by omega) (by omega) (by rw [hd, hd', hdeq])
        omega
      have hxk : x[k] ≠ c := by
        have h1 := hx1 k hk1
        rw [hkx, List.getElem?_eq_getElem hk1] at h1
        injection h1 with h1
        rw [← h1]; exact hc
      rw [hteq] at hck
      exact ck_set hk1 hxk hck
    · by_cases hk2 : k = x.length
      · have h1 : (sealL t)[k]? = some 35 := by rw [hk2, h]; exact ht2
        have h2 : (sealL x)[k]? = some 35 := by rw [hk2]; exact hx2
        rw [hkk] at h1
        rw [hkx] at h2
        injection h1 with h1
        injection h2 with h2
        exact hc (by rw [h1, h2])
      · have hteq : t = x := List.ext_getElem? fun j => by
          by_cases hl : j < x.length
          · exact hxt j (by omega) hl
          · rw [List.getElem?_eq_none (by omega), List.getElem?_eq_none (by omega)]
        rw [hteq] at hkk
        rw [hkx] at hkk
        injection hkk with h1
        exact hc h1
  · have a1 : k = t.length := by
      by_cases hk2 : t.length = k
      · exact hk2.symm
      · have h1 := hne _ hk2
        rw [ht2, hx1 _ h] at h1
        exact absurd (mem h1.symm) hx
    have a2 : k = x.length := by
      by_cases hk2 : x.length = k
      · exact hk2.symm
      · have h1 := hne _ hk2
        rw [hx2, show x.length = t.length + 1 + (x.length - t.length - 1) by omega, ht3] at h1
        exact absurd (mem h1) hdt
    omega
theorem vr_broken {x : List UInt8} {k : Nat} {c : UInt8} (hx : apB x = true) (hk : k < (sealL x).length) (hc : (sealL x)[k] ≠ c) : vrB ((sealL x).set k c) = false := by
  cases h : vrB ((sealL x).set k c) with
  | false => rfl
  | true =>
    unfold vrB at h
    rw [Bool.and_eq_true, Bool.and_eq_true, decide_eq_true_eq, decide_eq_true_eq] at h
    exact absurd h.2.2.symm (seal_broken (apB_iff.1 hx).2.1 (apB_iff.1 h.2.1).2.1 hk hc)
theorem index_head : ∀ (x r : List UInt8), (35 : UInt8) ∉ x → Lib.index (x ++ 35 :: r) [35] = (x.length : Int)
  | [], r, _ => by rw [List.nil_append, Lib.index]; simp [List.isPrefixOf]
  | b :: x, r, h => by
    have hb : b ≠ 35 := fun e => h (by rw [e]; exact .head _)
    have ih := index_head x r fun hm => h (.tail _ hm)
    have hp : ([35] : List UInt8).isPrefixOf (b :: (x ++ 35 :: r)) = false := by simp [List.isPrefixOf, Ne.symm hb]
    rw [List.cons_append, Lib.index, hp, ih]
    have hne : ((x.length : Int) == -1) = false := beq_eq_false_iff_ne.2 (by omega)
    rw [hne]
    simp
theorem head_seal {x : List UInt8} (h : (35 : UInt8) ∉ x) : headL (sealL x) = x := by
  have hi := index_head x (Lib.itoa (ck x)) h
  have e : sealL x = x ++ 35 :: Lib.itoa (ck x) := by simp [sealL]
  unfold headL Lib.cut
  rw [e, hi, if_pos (by omega)]
  simp
theorem vr_seal {x : List UInt8} (h : apB x = true) : vrB (sealL x) = true ∧ vrL (sealL x) = x := by
  have h2 := apB_iff.1 h
  have hb : vrB (sealL x) = true := by
    unfold vrB
    rw [head_seal h2.2.1, h]
    simp [h2.2.2]
  refine ⟨hb, ?_⟩
  unfold vrL
  rw [hb, if_pos rfl, head_seal h2.2.1]
end Go.Proofs.YtaphnkgjcmneoaaGreatDoor

