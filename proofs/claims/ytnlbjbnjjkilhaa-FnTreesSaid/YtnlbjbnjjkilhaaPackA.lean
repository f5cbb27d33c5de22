/- Several texts in one: the first ones that the others lean on. -/
import Derived.Test.YtnlbjbnjjkilhaaRows
import Derived.JoinedOf
import Derived.KernelRfl
import Derived.Shelf.Sort.Plain
import Derived.Shelf.Bits.Mul64
import Derived.Ground.Names2Prog
import Derived.Shelf.Slices.CompactI
import Derived.Shelf.Slices.In.SortNone
import Derived.Test.YtnlbjbnjjkilhaaProg
import Derived.WalkKit
import Derived.WalkSpells
import Derived.WalkLawsBesides
import Derived.Deep.QuietTactic
import Derived.BigQuiet
import Derived.Lib.SlicesCompact
import Derived.Deep.Cut
import Derived.ProofKit
import Derived.OpenShut
import Derived.SizedLaws
import Derived.Lib.SmallJoins
import Derived.Deep.Matrix
import Derived.Deep.RegionHeld3
import Derived.Deep.RegionLaw
import Derived.IntWalk
import Derived.Deep.RegionWith
import Derived.Deep.DeepCutAuto
import Derived.Laws.CopyOwn
import Derived.StillTailTactics
/- Closed facts of the program that every row asks: each by itself. -/
namespace Go.Proofs.Ytnlbjbnjjkilhaa

/-- the letters of the program's head -/
def headSigns : List Char := [Char.ofNat 104, Char.ofNat 97, Char.ofNat 114, Char.ofNat 110, Char.ofNat 101, Char.ofNat 115, Char.ofNat 115, Char.ofNat 32, Char.ofNat 55, Char.ofNat 101, Char.ofNat 51, Char.ofNat 56, Char.ofNat 102, Char.ofNat 98, Char.ofNat 102, Char.ofNat 98, Char.ofNat 49, Char.ofNat 55, Char.ofNat 57, Char.ofNat 54, Char.ofNat 49, Char.ofNat 53, Char.ofNat 49, Char.ofNat 48, Char.ofNat 98, Char.ofNat 50, Char.ofNat 53, Char.ofNat 100, Char.ofNat 97, Char.ofNat 97, Char.ofNat 56, Char.ofNat 49, Char.ofNat 57, Char.ofNat 100, Char.ofNat 100, Char.ofNat 50, Char.ofNat 51, Char.ofNat 52, Char.ofNat 53, Char.ofNat 97, Char.ofNat 98, Char.ofNat 55, Char.ofNat 97, Char.ofNat 50, Char.ofNat 49, Char.ofNat 97, Char.ofNat 48, Char.ofNat 99, Char.ofNat 99, Char.ofNat 97, Char.ofNat 101, Char.ofNat 97, Char.ofNat 54, Char.ofNat 49, Char.ofNat 98, Char.ofNat 49, Char.ofNat 98, Char.ofNat 50, Char.ofNat 54, Char.ofNat 97, Char.ofNat 98, Char.ofNat 97, Char.ofNat 97, Char.ofNat 56, Char.ofNat 99, Char.ofNat 48, Char.ofNat 49, Char.ofNat 48, Char.ofNat 48, Char.ofNat 50, Char.ofNat 54, Char.ofNat 53, Char.ofNat 32, Char.ofNat 99, Char.ofNat 117, Char.ofNat 116, Char.ofNat 32, Char.ofNat 97, Char.ofNat 116, Char.ofNat 32, Char.ofNat 108, Char.ofNat 111, Char.ofNat 111, Char.ofNat 112, Char.ofNat 46, Char.ofNat 101, Char.ofNat 120, Char.ofNat 97, Char.ofNat 109, Char.ofNat 112, Char.ofNat 108, Char.ofNat 101, Char.ofNat 47, Char.ofNat 103, Char.ofNat 48, Char.ofNat 49, Char.ofNat 48, Char.ofNat 56, Char.ofNat 55, Char.ofNat 47, Char.ofNat 108, Char.ofNat 97, Char.ofNat 119, Char.ofNat 115, Char.ofNat 46, Char.ofNat 70, Char.ofNat 110, Char.ofNat 84, Char.ofNat 114, Char.ofNat 101, Char.ofNat 101, Char.ofNat 115]

set_option maxRecDepth 100000 in
theorem factHead : Try.prog.initOrder = String.ofList headSigns := by kernel_rfl
theorem factSigns : Try.prog.initOrder.toList = headSigns := by rw [factHead, String.toList_ofList]
theorem factLaid : laidOutB Try.prog = true := by kernel_rfl
theorem factMaps : mapsRowed Try.prog = true := by kernel_rfl
theorem factStops : (Try.prog.stops == []) = true := by kernel_rfl
theorem factKnobs : (Try.prog.stopKnobs == []) = true := by kernel_rfl
theorem factKeys : Try.prog.plainKeys = true := by kernel_rfl
theorem factOwn : ownKnob Try.prog.godebug = none := by kernel_rfl
theorem headFirst : (behindMainWord (wordsSigns headSigns)).head? = some "cut".toList := by kernel_rfl
theorem factHeard : Try.prog.stopsHeard = true := by kernel_rfl
theorem factLater : Try.prog.laysLater = false := by kernel_rfl
theorem factReflect : Try.prog.bearsReflect = false := by kernel_rfl
theorem factDoor : Try.prog.doorFits [] = true := by kernel_rfl

theorem factStrip (rest : List (List Char)) : stripLifts liftWords ("cut".toList :: rest) = ([], "cut".toList :: rest) := by rfl
theorem make_of {P : Program} {L : List Char} (h : P.initOrder.toList = L) (h0 : (behindMainWord (wordsSigns L)).head? = some "cut".toList) : P.make = some .cut := by
  unfold Program.make
  rw [h]
  generalize behindMainWord (wordsSigns L) = l at h0
  cases l with
  | nil => cases h0
  | cons c rest =>
    have hc : c = "cut".toList := Option.some.inj h0
    subst hc
    rfl
theorem lifts_of {P : Program} {L : List Char} (h : P.initOrder.toList = L) (h0 : (behindMainWord (wordsSigns L)).head? = some "cut".toList) : P.liftsFinal = false := by
  unfold Program.liftsFinal Program.headLifts
  rw [h]
  generalize behindMainWord (wordsSigns L) = l at h0
  cases l with
  | nil => cases h0
  | cons c rest =>
    have hc : c = "cut".toList := Option.some.inj h0
    subst hc
    simp only [factStrip]
    rfl
theorem enter_of {P : Program} {L : List Char} (h : P.initOrder.toList = L) (h0 : (behindMainWord (wordsSigns L)).head? = some "cut".toList) (h1 : P.laysLater = false) (h2 : P.bearsReflect = false) (h3 : P.doorFits [] = true) : P.mayEnter = true := by
  unfold Program.mayEnter
  rw [h]
  generalize behindMainWord (wordsSigns L) = l at h0
  cases l with
  | nil => cases h0
  | cons c rest =>
    have hc : c = "cut".toList := Option.some.inj h0
    subst hc
    simp only [factStrip, h1, h2, h3]
    rfl
theorem factMake : Try.prog.make = some .cut := make_of factSigns headFirst
theorem factLifts : Try.prog.liftsFinal = false := lifts_of factSigns headFirst
theorem factEnter : Try.prog.mayEnter = true := enter_of factSigns headFirst factLater factReflect factDoor

/-- What a row asks besides the program's own facts. -/
def lawFacts (P : Program) (f : FuncId) (fn : Func) (s : ChangeSpec) (c : OpenClaim) : Bool :=
  c.wf (OpenSpec.ofChange s) && fn.params.all (P.readableRec ·) && namedTie P c.named s.vars && (c.stops == []) && (c.knobs == []) &&
  (c.inPlace == P.inPlace f) && (c.unfollowed == P.unfollowed f) && (c.recurses == P.recurses f) && (c.named == P.varsNamed f) &&
  (c.maps == (fn.params.toList ++ s.plain.varTypes P).any (P.mapsRec ·)) && (c.ifaces == (fn.params.toList ++ s.plain.varTypes P).any (P.ifacesRec ·)) && (c.mapsOut == P.mapsAmong fn.resultTypes.toList) &&
  (c.loops == (fn.params.toList ++ s.plain.varTypes P).any (P.loopsFrom ·)) && (c.wideKeys == (fn.params.toList ++ s.plain.varTypes P ++ fn.resultTypes.toList).any (P.wideKeysFrom ·)) &&
  s.vars.all (P.varReadable ·) && fn.resultTypes.all (fun t => P.readableRec t && decide (t < P.types.size)) && (c.ifacesOut == fn.resultTypes.toList.any (P.ifacesRec ·)) && (c.loopsOut == fn.resultTypes.toList.any (P.loopsFrom ·)) && (c.plainKeys == true) && c.shortTexts.isNone && (c.lifted == false) && (some Make.cut == some c.make) && (c.kinds == (if c.domain.isEmpty then [] else fn.params.toList.map fun t => match P.underlying t with | some (.int k) => some k | _ => none)) && (c.pinned == c.pinnedBy) &&
  (c.veiled == (fn.params.toList ++ s.plain.varTypes P ++ fn.resultTypes.toList).any (P.veiledRec ·)) && c.veiledFits P fn.params.toList (fn.params.toList ++ s.plain.varTypes P ++ fn.resultTypes.toList)

theorem joined_of {P : Program} {f : FuncId} {fn : Func} {s : ChangeSpec} {c : OpenClaim} (h1 : laidOutB P = true) (h2 : mapsRowed P = true) (h3 : (P.stops == []) = true) (h4 : (P.stopKnobs == []) = true)
    (h5 : P.stopsHeard = true) (h6 : P.mayEnter = true) (h7 : P.liftsFinal = false) (h8 : P.make = some .cut) (h9 : P.plainKeys = true) (h : lawFacts P f fn s c = true) : joinedFacts P f fn s c = true := by
  unfold joinedFacts
  rw [h1, h2, h3, h4, h5, h6, h7, h8, h9]
  unfold lawFacts at h
  simp only [Bool.and_eq_true] at h ⊢
  obtain ⟨⟨⟨⟨⟨⟨⟨⟨⟨⟨⟨⟨⟨⟨⟨⟨⟨⟨⟨⟨⟨⟨⟨⟨⟨k1, k2⟩, k3⟩, k4⟩, k5⟩, k6⟩, k7⟩, k8⟩, k9⟩, k10⟩, k11⟩, k12⟩, k13⟩, k14⟩, k15⟩, k16⟩, k17⟩, k18⟩, k19⟩, k20⟩, k21⟩, k22⟩, k23⟩, k24⟩, k25⟩, k26⟩ := h
  simp only [k1, k2, k3, k4, k5, k6, k7, k8, k9, k10, k11, k12, k13, k14, k15, k16, k17, k18, k19, k20, k21, k22, k24, k25, k26, and_self]
  exact ⟨⟨⟨⟨trivial, k23⟩, trivial⟩, trivial⟩, trivial⟩

theorem joined_here {f : FuncId} {fn : Func} {s : ChangeSpec} {c : OpenClaim} (h : lawFacts Try.prog f fn s c = true) : joinedFacts Try.prog f fn s c = true :=
  joined_of factLaid factMaps factStops factKnobs factHeard factEnter factLifts factMake factKeys h

end Go.Proofs.Ytnlbjbnjjkilhaa

/-
  DERIVED: THE SHELF's CONTRACTS AT THIS DUMP, IN PLAIN WORDS (tools/lay-plain.mjs out of 'YtnlbjbnjjkilhaaShelf.lean', which tools/lay-shelf.mjs wrote): THE SAME DECLARATIONS UNDER THE SAME NAMES: 'import', 'namespace', 'open', 'def', 'theorem' AND NOTHING ELSE: no command of the shelf's: FOR A HAND-IN. Each laying: the table of numbers ('.._ren') and one theorem, a field a fact of the dump's own or the kernel's comparison; each contract: ONE APPLICATION.
-/
namespace Go.Proofs
open Go.Shelf
def Try.lays189_ren : Go.Shelf.Ren := ⟨fun | 189 => 32 | 125 => 52 | 257 => 51 | 128 => 79 | 129 => 80 | 294 => 70 | 295 => 71 | 296 => 72 | 297 => 73 | 298 => 74 | 299 => 75 | 216 => 76 | 300 => 77 | 301 => 78 | 328 => 90 | 329 => 91 | 330 => 92 | 331 => 93 | 332 => 94 | 215 => 95 | 343 => 99 | n => n, fun | 28 => 24 | 3 => 3 | 46 => 73 | 0 => 0 | 51 => 92 | 53 => 48 | 4 => 4 | 183 => 101 | 182 => 100 | 131 => 106 | 5 => 5 | 9 => 9 | 218 => 115 | 222 => 119 | 228 => 124 | 229 => 125 | n => n, fun | n => n⟩
theorem Try.lays189 : Go.Proofs.Lays.n189 Try.prog Try.lays189_ren := {
  mixed := by kernel_rfl
  f125 := Try.func52.trans (congrArg some (by kernel_rfl))
  f128 := Try.func79.trans (congrArg some (by kernel_rfl))
  f129 := Try.func80.trans (congrArg some (by kernel_rfl))
  f189 := Try.func32.trans (congrArg some (by kernel_rfl))
  f215 := Try.func95.trans (congrArg some (by kernel_rfl))
  f216 := Try.func76.trans (congrArg some (by kernel_rfl))
  f257 := Try.func51.trans (congrArg some (by kernel_rfl))
  f294 := Try.func70.trans (congrArg some (by kernel_rfl))
  f295 := Try.func71.trans (congrArg some (by kernel_rfl))
  f296 := Try.func72.trans (congrArg some (by kernel_rfl))
  f297 := Try.func73.trans (congrArg some (by kernel_rfl))
  f298 := Try.func74.trans (congrArg some (by kernel_rfl))
  f299 := Try.func75.trans (congrArg some (by kernel_rfl))
  f300 := Try.func77.trans (congrArg some (by kernel_rfl))
  f301 := Try.func78.trans (congrArg some (by kernel_rfl))
  f328 := Try.func90.trans (congrArg some (by kernel_rfl))
  f329 := Try.func91.trans (congrArg some (by kernel_rfl))
  f330 := Try.func92.trans (congrArg some (by kernel_rfl))
  f331 := Try.func93.trans (congrArg some (by kernel_rfl))
  f332 := Try.func94.trans (congrArg some (by kernel_rfl))
  f343 := Try.func99.trans (congrArg some (by kernel_rfl))
  t0 := Try.underlying0
  a0 := Try.isAgg0
  z0 := Try.sizeOf0
  v0 := Try.zeroValue0
  t3 := Try.underlying3
  a3 := Try.isAgg3
  z3 := Try.sizeOf3
  v3 := Try.zeroValue3
  t4 := Try.underlying4
  a4 := Try.isAgg4
  z4 := Try.sizeOf4
  v4 := Try.zeroValue4
  t5 := Try.underlying5
  a5 := Try.isAgg5
  z5 := Try.sizeOf5
  v5 := Try.zeroValue5
  t9 := Try.underlying9
  a9 := Try.isAgg9
  z9 := Try.sizeOf9
  v9 := Try.zeroValue9
  t28 := Try.underlying24
  a28 := Try.isAgg24
  z28 := Try.sizeOf24
  v28 := Try.zeroValue24
  t46 := Try.underlying73
  a46 := Try.isAgg73
  z46 := Try.sizeOf73
  v46 := Try.zeroValue73
  t51 := Try.underlying92
  a51 := Try.isAgg92
  z51 := Try.sizeOf92
  v51 := Try.zeroValue92
  t53 := Try.underlying48
  a53 := Try.isAgg48
  z53 := Try.sizeOf48
  v53 := Try.zeroValue48
  t131 := Try.underlying106
  a131 := Try.isAgg106
  z131 := Try.sizeOf106
  v131 := Try.zeroValue106
  t182 := Try.underlying100
  a182 := Try.isAgg100
  z182 := Try.sizeOf100
  v182 := Try.zeroValue100
  t183 := Try.underlying101
  a183 := Try.isAgg101
  z183 := Try.sizeOf101
  v183 := Try.zeroValue101
  t218 := Try.underlying115
  a218 := Try.isAgg115
  z218 := Try.sizeOf115
  v218 := Try.zeroValue115
  t222 := Try.underlying119
  a222 := Try.isAgg119
  z222 := Try.sizeOf119
  v222 := Try.zeroValue119
  t228 := Try.underlying124
  a228 := Try.isAgg124
  z228 := Try.sizeOf124
  v228 := Try.zeroValue124
  t229 := Try.underlying125
  a229 := Try.isAgg125
  z229 := Try.sizeOf125
  v229 := Try.zeroValue125 }
open Go.Sort Go.RowKit in
theorem Try.slices_Sort_int (blk off cap : Nat) (zs : List Int) (w : World) (hH : Holds (Value.int .i64) w blk off zs.toArray) (hblk : blk < w.heap.size) (hsz : zs.length < 4611686018427387904) :
    Calls Try.prog 32 #[.slice (some ⟨blk, off, none⟩) zs.length cap] w fun e w' =>
      e = .returned (.tuple #[]) ∧ ∃ n os, w' = grow (putRow (Value.int .i64) (Sort.ahead w n) blk off (zs.mergeSort fun x y => decide (x ≤ y)).toArray) os := Any.slices_Sort_int Try.lays189 blk off cap zs w hH hblk hsz
def Try.lays264_ren : Go.Shelf.Ren := ⟨fun | 264 => 67 | n => n, fun | 53 => 48 | 46 => 73 | n => n, fun | n => n⟩
theorem Try.lays264 : Go.Proofs.Lays.n264 Try.prog Try.lays264_ren := {
  mixed := by kernel_rfl
  f264 := Try.func67.trans (congrArg some (by kernel_rfl))
  t46 := Try.underlying73
  a46 := Try.isAgg73
  z46 := Try.sizeOf73
  v46 := Try.zeroValue73
  t53 := Try.underlying48
  a53 := Try.isAgg48
  z53 := Try.sizeOf48
  v53 := Try.zeroValue48 }
open Go.RowKit Go.Lib in
theorem Try.bits_Mul64 (x y : Nat) (hx : x < 18446744073709551616) (hy : y < 18446744073709551616) (w : World) :
    Calls Try.prog 67 #[.int .u64 x, .int .u64 y] w fun e w' => e = .returned (.tuple #[.int .u64 ((x * y / 18446744073709551616 : Nat) : Int), .int .u64 ((x * y % 18446744073709551616 : Nat) : Int)]) ∧ w' = w := Any.bits_Mul64 Try.lays264 x y hx hy w
def Try.lays212_ren : Go.Shelf.Ren := ⟨fun | 212 => 47 | 263 => 66 | 264 => 67 | n => n, fun | 46 => 73 | 51 => 92 | 146 => 93 | 53 => 48 | 148 => 95 | n => n, fun | n => n⟩
theorem Try.lays212 : Go.Proofs.Lays.n212 Try.prog Try.lays212_ren := {
  mixed := by kernel_rfl
  f212 := Try.func47.trans (congrArg some (by kernel_rfl))
  f263 := Try.func66.trans (congrArg some (by kernel_rfl))
  f264 := Try.func67.trans (congrArg some (by kernel_rfl))
  t46 := Try.underlying73
  a46 := Try.isAgg73
  z46 := Try.sizeOf73
  v46 := Try.zeroValue73
  t51 := Try.underlying92
  a51 := Try.isAgg92
  z51 := Try.sizeOf92
  v51 := Try.zeroValue92
  t53 := Try.underlying48
  a53 := Try.isAgg48
  z53 := Try.sizeOf48
  v53 := Try.zeroValue48
  t146 := Try.underlying93
  a146 := Try.isAgg93
  z146 := Try.sizeOf93
  v146 := Try.zeroValue93
  t148 := Try.underlying95
  a148 := Try.isAgg95
  z148 := Try.sizeOf95
  v148 := Try.zeroValue95 }
open Go.RowKit Go.Lib in
/-- math/bits.Mul: "Mul returns the full-width product of x and y": on a machine of 64 bits: Mul64's. (LAID: no walk: one application.) -/
theorem Try.bits_Mul (x y : Nat) (hx : x < 18446744073709551616) (hy : y < 18446744073709551616) (w : World) :
    Calls Try.prog 47 #[.int .u64 x, .int .u64 y] w fun e w' => e = .returned (.tuple #[.int .u64 ((x * y / 18446744073709551616 : Nat) : Int), .int .u64 ((x * y % 18446744073709551616 : Nat) : Int)]) ∧ w' = w := Any.bits_Mul Try.lays212 x y hx hy w
def Try.laysNm220_ren : Go.Shelf.Ren := ⟨fun | 20 => 88 | n => n, fun | 22 => 24 | 3 => 3 | 4 => 4 | 0 => 0 | n => n, fun | n => n⟩
theorem Try.laysNm220 : Go.Proofs.Lays2.n20 Try.prog Try.laysNm220_ren := {
  mixed := by kernel_rfl
  f20 := Try.func88.trans (congrArg some (by kernel_rfl))
  t0 := Try.underlying0
  a0 := Try.isAgg0
  z0 := Try.sizeOf0
  v0 := Try.zeroValue0
  t3 := Try.underlying3
  a3 := Try.isAgg3
  z3 := Try.sizeOf3
  v3 := Try.zeroValue3
  t4 := Try.underlying4
  a4 := Try.isAgg4
  z4 := Try.sizeOf4
  v4 := Try.zeroValue4
  t22 := Try.underlying24
  a22 := Try.isAgg24
  z22 := Try.sizeOf24
  v22 := Try.zeroValue24
  i3 := by kernel_rfl }
open Go.RowKit Go.Lib Go.Sort in
/-- slices.Compact at []int, over an array: the library's two loops are walked. (LAID: no walk: one application.) -/
theorem Try.slices_Compact_int_arr (blk off cap : Nat) (d : Array Int) (w : World) (hH : Holds encI w blk off d) (hsz : d.size ≤ 9223372036854775807) (hcap : d.size ≤ cap) :
    Calls Try.prog 88 #[.slice (some ⟨blk, off, none⟩) d.size cap] w fun e w' => e = .returned (.slice (some ⟨blk, off, none⟩) (compactUpTo d d.size).length cap) ∧ ∃ q, w' = putRow encI (Sort.ahead w q) blk off (compactUpTo d d.size ++ List.replicate (d.size - (compactUpTo d d.size).length) 0).toArray := Any.slices_Compact_int_arr Try.laysNm220 blk off cap d w hH hsz hcap
open Go.RowKit Go.Lib Go.Sort in
/-- slices.Compact at []int: "Compact replaces consecutive runs of equal elements with a single copy. This is like the uniq command found on Unix. Compact modifies the contents of the slice s and returns the modified slice, which may have a smaller length. Compact zeroes the elements between the new length and the original length. The result preserves the nilness of s.": IT RETURNS THE SLICE CUT TO 'Lib.compact zs'; ITS CELLS HOLD 'Lib.compact zs', THEN ZERO VALUES up to the old length; all else is as it was, but for the count of draws. IN THE WORDS OF slices.Sort's CONTRACT ('Holds', 'putRow'): so the everyday 'slices.Sort(xs); xs = slices.Compact(xs)' goes from the one contract to the other. It asks 'zs.length ≤ cap' (every slice's: the reslicing 's[:k]' looks at it). Length 0, nil: '.._empty'. (LAID: no walk: one application.) -/
theorem Try.slices_Compact_int (blk off cap : Nat) (zs : List Int) (w : World) (hH : Holds (Value.int .i64) w blk off zs.toArray) (hsz : zs.length ≤ 9223372036854775807) (hcap : zs.length ≤ cap) :
    Calls Try.prog 88 #[.slice (some ⟨blk, off, none⟩) zs.length cap] w fun e w' => e = .returned (.slice (some ⟨blk, off, none⟩) (Lib.compact zs).length cap) ∧ ∃ q, w' = putRow (Value.int .i64) (Sort.ahead w q) blk off (Lib.compact zs ++ List.replicate (zs.length - (Lib.compact zs).length) 0).toArray := Any.slices_Compact_int Try.laysNm220 blk off cap zs w hH hsz hcap
open Go.RowKit Go.Lib Go.Sort in
/-- The same at a slice of length 0, a nil one too: it comes back as it is. (LAID: no walk: one application.) -/
theorem Try.slices_Compact_int_empty (a : Option Addr) (cap : Nat) (w : World) :
    Calls Try.prog 88 #[.slice a 0 cap] w fun e w' => e = .returned (.slice a 0 cap) ∧ w' = w := Any.slices_Compact_int_empty Try.laysNm220 a cap w
open Go.RowKit Go.Sort in
/-- .. and plain. (LAID: no walk: one application.) -/
theorem Try.slices_Sort_int_none (p : Option Addr) (cap : Nat) (w : World) :
    Calls Try.prog 32 #[.slice p 0 cap] w fun e w' => e = .returned (.tuple #[]) ∧ w' = w := Any.slices_Sort_int_none Try.lays189 p cap w
end Go.Proofs

/- Words that serve every walk of this seat: a world that keeps all that another has, values that read as lists of ints, memory of one's own as a list of rows. -/
namespace Go.Proofs.Ytnlbjbnjjkilhaa
open Go.RowKit

theorem hid {p : Prop} (h : p) : Hid p := h
/-- w' has all that w has, unchanged. -/
class Ext (w w' : World) : Prop where
  below : Below w.heap.size w w'
instance Ext.refl (w : World) : Ext w w := ⟨Below.refl _ _⟩
instance Ext.alloc (a w : World) (o : Obj) [h : Ext a w] : Ext a (w.alloc o) := ⟨h.below.alloc h.below.size o⟩
instance Ext.drew (a w : World) [h : Ext a w] : Ext a w.drew := ⟨h.below.drew⟩
instance Ext.drewN (a w : World) (n : Nat) [h : Ext a w] : Ext a (w.drewN n) :=
  ⟨h.below.os, h.below.tape, h.below.output, h.below.size, h.below.block⟩
theorem Ext.trans {a b c : World} (h : Ext a b) (k : Ext b c) : Ext a c :=
  ⟨h.below.trans (k.below.mono h.below.size)⟩
theorem Ext.size {a b : World} (h : Ext a b) : a.heap.size ≤ b.heap.size := h.below.size
theorem Ext.cell {a b : World} (h : Ext a b) {p : Addr} {v : Value} (hv : a.cell? p = some v) : b.cell? p = some v :=
  (h.below.cell (World.block_lt_of_cell? a _ hv)).trans hv
theorem Ext.frozen {a b : World} (h : Ext a b) {p : Addr} {v : Value} (hv : a.cell? p = some v) {x : Bool} (hf : a.frozen? p = x) : b.frozen? p = x :=
  (h.below.frozen (World.block_lt_of_cell? a _ hv)).trans hf
theorem Ext.cells {a b : World} (h : Ext a b) : ∀ k o, k < a.heap.size → b.cell? ⟨k, o, none⟩ = a.cell? ⟨k, o, none⟩ :=
  fun k o hk => h.below.cell (p := ⟨k, o, none⟩) hk
/-- w' is w behind some draws. -/
def Drew (w w' : World) : Prop := ∃ m, w' = w.drewN m
theorem Drew.refl (w : World) : Drew w w := ⟨0, rfl⟩
theorem Drew.step {a b : World} (h : Drew a b) (n : Nat) : Drew a (b.drewN n) := by
  obtain ⟨m, rfl⟩ := h
  exact ⟨m + n, by rw [World.drewN_drewN]⟩
theorem Drew.trans {a b c : World} (h : Drew a b) (k : Drew b c) : Drew a c := by
  obtain ⟨n, rfl⟩ := k
  exact h.step n
theorem Drew.ext {a b : World} (h : Drew a b) : Ext a b := by
  obtain ⟨m, rfl⟩ := h
  infer_instance
/-- an int of 64 bits -/
def I64 (x : Int) : Prop := -9223372036854775808 ≤ x ∧ x ≤ 9223372036854775807
def nth (xs : List Int) (k : Nat) : Int := xs.getD k 0
def row (xss : List (List Int)) (k : Nat) : List Int := xss.getD k []
theorem nth_mem {xs : List Int} {k : Nat} (h : k < xs.length) : nth xs k ∈ xs := by
  simp [nth, h]
theorem row_mem {xss : List (List Int)} {k : Nat} (h : k < xss.length) : row xss k ∈ xss := by
  simp [row, h]
theorem mem_iff_nth {xs : List Int} {x : Int} : x ∈ xs ↔ ∃ k, k < xs.length ∧ nth xs k = x := by
  rw [List.mem_iff_getElem]
  constructor
  · rintro ⟨k, h, rfl⟩; exact ⟨k, h, by simp [nth, h]⟩
  · rintro ⟨k, h, rfl⟩; exact ⟨k, h, by simp [nth, h]⟩
theorem mem_iff_row {xs : List (List Int)} {x : List Int} : x ∈ xs ↔ ∃ k, k < xs.length ∧ row xs k = x := by
  rw [List.mem_iff_getElem]
  constructor
  · rintro ⟨k, h, rfl⟩; exact ⟨k, h, by simp [row, h]⟩
  · rintro ⟨k, h, rfl⟩; exact ⟨k, h, by simp [row, h]⟩
theorem take_succ_row {xs : List (List Int)} {k : Nat} (h : k < xs.length) : xs.take (k + 1) = xs.take k ++ [row xs k] := by
  rw [List.take_succ_eq_append_getElem h]
  simp [row, h]
theorem eq_of_nth {xs ys : List Int} (hl : xs.length = ys.length) (h : ∀ j, j < xs.length → nth xs j = nth ys j) : xs = ys := by
  apply List.ext_getElem hl
  intro i h1 h2
  have := h i h1
  simpa [nth, h1, h2] using this
/-- the bound on a length: what 2^47 bytes hold of ints -/
def Short (n : Nat) : Prop := n ≤ 17592186044415
def ShortRows (n : Nat) : Prop := n ≤ 5864062014804
theorem Short.le {n : Nat} (h : Short n) : n ≤ 17592186044415 := h
/-- The value v reads as the ints xs in w. -/
def IsInts (w : World) (v : Value) (xs : List Int) : Prop :=
  ∃ a c, v = .slice a xs.length c ∧ (Short xs.length ∧ xs.length ≤ c) ∧ (∀ x ∈ xs, I64 x) ∧
    ∀ j, j < xs.length → ∃ b o, a = some ⟨b, o, none⟩ ∧ w.cell? ⟨b, o + j, none⟩ = some (.int .i64 (nth xs j))
theorem IsInts.ext {w w' : World} {v : Value} {xs : List Int} (h : IsInts w v xs) [e : Ext w w'] : IsInts w' v xs := by
  obtain ⟨a, c, h1, h2, h3, h4⟩ := h
  refine ⟨a, c, h1, h2, h3, fun j hj => ?_⟩
  obtain ⟨b, o, h5, h6⟩ := h4 j hj
  exact ⟨b, o, h5, e.cell h6⟩
theorem IsInts.form {w : World} {v : Value} {xs : List Int} (h : IsInts w v xs) : ∃ a c, v = .slice a xs.length c ∧ xs.length ≤ 17592186044415 := by
  obtain ⟨a, c, h1, h2, _⟩ := h
  exact ⟨a, c, h1, h2.1⟩
theorem IsInts.cap {w : World} {a : Option Addr} {n c : Nat} {xs : List Int} (h : IsInts w (.slice a n c) xs) : xs.length ≤ c := by
  obtain ⟨a', c', h1, h2, _⟩ := h
  cases h1
  exact h2.2
theorem IsInts.at {w w' : World} {a : Option Addr} {n c : Nat} {xs : List Int} (h : IsInts w (.slice a n c) xs) [e : Ext w w'] {k : Nat} (hk : k < xs.length) :
    ∃ b o, a = some ⟨b, o, none⟩ ∧ w'.cell? ⟨b, o + k, none⟩ = some (.int .i64 (nth xs k)) := by
  obtain ⟨a', c', h1, h2, h3, h4⟩ := h
  obtain ⟨b, o, h5, h6⟩ := h4 k hk
  cases h1
  exact ⟨b, o, h5, e.cell h6⟩
theorem IsInts.len {w : World} {a : Option Addr} {n c : Nat} {xs : List Int} (h : IsInts w (.slice a n c) xs) : n = xs.length := by
  obtain ⟨a', c', h1, _⟩ := h; cases h1; rfl
theorem IsInts.i64 {w : World} {v : Value} {xs : List Int} (h : IsInts w v xs) {k : Nat} (hk : k < xs.length) : I64 (nth xs k) := by
  obtain ⟨a', c', _, _, h3, _⟩ := h
  exact h3 _ (nth_mem hk)
theorem IsInts.nil (w : World) : IsInts w (.slice none 0 0) [] := ⟨none, 0, rfl, ⟨Nat.zero_le _, Nat.le_refl _⟩, by simp, fun j hj => by simp at hj⟩
/-- The value v reads as the rows of ints xss in w. -/
def IsRows (w : World) (v : Value) (xss : List (List Int)) : Prop :=
  ∃ a c, v = .slice a xss.length c ∧ ShortRows xss.length ∧
    ∀ j, j < xss.length → ∃ b o u, a = some ⟨b, o, none⟩ ∧ w.cell? ⟨b, o + j, none⟩ = some u ∧ IsInts w u (row xss j)
theorem IsRows.ext {w w' : World} {v : Value} {xss : List (List Int)} (h : IsRows w v xss) [e : Ext w w'] : IsRows w' v xss := by
  obtain ⟨a, c, h1, h2, h4⟩ := h
  refine ⟨a, c, h1, h2, fun j hj => ?_⟩
  obtain ⟨b, o, u, h5, h6, h7⟩ := h4 j hj
  exact ⟨b, o, u, h5, e.cell h6, h7.ext⟩
theorem IsRows.form {w : World} {v : Value} {xss : List (List Int)} (h : IsRows w v xss) : ∃ a c, v = .slice a xss.length c ∧ xss.length ≤ 5864062014804 := by
  obtain ⟨a, c, h1, h2, _⟩ := h
  exact ⟨a, c, h1, h2⟩
theorem IsRows.at {w w' : World} {a : Option Addr} {n c : Nat} {xss : List (List Int)} (h : IsRows w (.slice a n c) xss) [e : Ext w w'] {k : Nat} (hk : k < xss.length) :
    ∃ b o d m, a = some ⟨b, o, none⟩ ∧ w'.cell? ⟨b, o + k, none⟩ = some (.slice d (row xss k).length m) ∧ IsInts w (.slice d (row xss k).length m) (row xss k) ∧ (row xss k).length ≤ 17592186044415 := by
  obtain ⟨a', c', h1, h2, h4⟩ := h
  obtain ⟨b, o, u, h5, h6, h7⟩ := h4 k hk
  cases h1
  obtain ⟨d, m, rfl, hs⟩ := h7.form
  exact ⟨b, o, d, m, h5, e.cell h6, h7, hs⟩
theorem IsRows.nil (w : World) : IsRows w (.slice none 0 0) [] := ⟨none, 0, rfl, Nat.zero_le _, fun j hj => by simp at hj⟩
theorem IsRows.all {w : World} {v : Value} {M : List (List Int)} (h : IsRows w v M) : ShortRows M.length ∧ (∀ r ∈ M, Short r.length) ∧ ∀ r ∈ M, ∀ x ∈ r, I64 x := by
  obtain ⟨a, c, _, h2, h4⟩ := h
  refine ⟨h2, fun r hr => ?_, fun r hr => ?_⟩
  all_goals
    obtain ⟨k, hk, rfl⟩ := mem_iff_row.1 hr
    obtain ⟨_, _, _, _, _, a', c', _, h5, h6, _⟩ := h4 k hk
  · exact h5.1
  · exact h6
/-- A row of one's own: element type, cells of an element, the slice value, its length, its cells. -/
structure Row where
  e : Nat
  z : Nat
  v : Value
  n : Nat
  cs : List Value
/-- The rows lie from block B on in w, each in a block of its own. -/
def Own (w : World) (B : Nat) (R : List Row) : Prop :=
  (∀ r ∈ R, w.ownsRow B r.e r.z r.v r.n r.cs) ∧ R.Pairwise (fun r s => r.v.ownBlock = none ∨ r.v.ownBlock ≠ s.v.ownBlock)
abbrev intRowOf (e : Nat) (v : Value) (xs : List Int) : Row := ⟨e, 1, v, xs.length, xs.map (Value.int .i64)⟩
abbrev valRowOf (e : Nat) (v : Value) (vs : List Value) : Row := ⟨e, 1, v, vs.length, vs⟩
theorem Own.nil (w : World) (B : Nat) : Own w B [] := ⟨by simp, List.Pairwise.nil⟩
theorem ownsRow_same {w w' : World} {B e z n : Nat} {v : Value} {cs : List Value} (h : w.ownsRow B e z v n cs)
    (hs : ∀ k, v.ownBlock = some k → w'.heap[k]? = w.heap[k]?) : w'.ownsRow B e z v n cs := by
  refine ⟨h.1, ?_⟩
  rcases h.2 with hn | ⟨g, cap, cur, rfl, hb, hgg, rest⟩
  · exact .inl hn
  · exact .inr ⟨g, cap, cur, rfl, hb, by rw [hs g rfl]; exact hgg, rest⟩
theorem ownsRow_mono {w : World} {B B' e z n : Nat} {v : Value} {cs : List Value} (h : w.ownsRow B e z v n cs) (hB : B' ≤ B) : w.ownsRow B' e z v n cs := by
  refine ⟨h.1, ?_⟩
  rcases h.2 with hn | ⟨g, cap, cur, rfl, hb, rest⟩
  · exact .inl hn
  · exact .inr ⟨g, cap, cur, rfl, Nat.le_trans hB hb, rest⟩
theorem Own.same {w w' : World} {B : Nat} {R : List Row} (h : Own w B R) (hs : ∀ k, B ≤ k → k < w.heap.size → w'.heap[k]? = w.heap[k]?) : Own w' B R :=
  ⟨fun r hr => ownsRow_same (h.1 r hr) (fun k hk => by
    have := (h.1 r hr).lt k hk
    exact hs k this.1 this.2), h.2⟩
theorem Own.ext {w w' : World} {B : Nat} {R : List Row} (h : Own w B R) [e : Ext w w'] : Own w' B R :=
  h.same fun k _ hk => e.below.block k hk
theorem Own.mono {w : World} {B B' : Nat} {R : List Row} (h : Own w B R) (hB : B' ≤ B) : Own w B' R :=
  ⟨fun r hr => ownsRow_mono (h.1 r hr) hB, h.2⟩
theorem Own.perm {w : World} {B : Nat} {R S : List Row} (h : Own w B R) (p : S.Perm R) : Own w B S :=
  ⟨fun r hr => h.1 r (p.mem_iff.1 hr), by
    refine h.2.perm p.symm (fun {x y} hxy => ?_)
    rcases hxy with hxy | hxy
    · by_cases hy : y.v.ownBlock = none
      · exact .inl hy
      · exact .inr (by rw [hxy]; exact hy)
    · exact .inr (fun e => hxy e.symm)⟩
theorem Own.sub {w : World} {B : Nat} {R S : List Row} (h : Own w B R) (p : S.Sublist R) : Own w B S :=
  ⟨fun r hr => h.1 r (p.subset hr), h.2.sublist p⟩
theorem Own.tail {w : World} {B : Nat} {r : Row} {R : List Row} (h : Own w B (r :: R)) : Own w B R := h.sub (List.sublist_cons_self _ _)
theorem Own.head {w : World} {B : Nat} {r : Row} {R : List Row} (h : Own w B (r :: R)) : w.ownsRow B r.e r.z r.v r.n r.cs := h.1 r (by simp)
theorem Own.left {w : World} {B : Nat} {R S : List Row} (h : Own w B (R ++ S)) : Own w B R := h.sub (List.sublist_append_left _ _)
theorem Own.right {w : World} {B : Nat} {R S : List Row} (h : Own w B (R ++ S)) : Own w B S := h.sub (List.sublist_append_right _ _)
theorem Own.swap {w : World} {B : Nat} {R S : List Row} (h : Own w B (R ++ S)) : Own w B (S ++ R) := h.perm List.perm_append_comm
/-- What a callee has made joins what was owned before. -/
theorem Own.join {w w' : World} {B : Nat} {R S : List Row} (h : Own w B R) (hn : Own w' w.heap.size S) [e : Ext w w'] (hB : B ≤ w.heap.size) : Own w' B (S ++ R) := by
  have h' : Own w' B R := h.ext
  refine ⟨fun r hr => ?_, List.pairwise_append.2 ⟨hn.2, h'.2, fun s hs r hr => ?_⟩⟩
  · rcases List.mem_append.1 hr with hr | hr
    · exact ownsRow_mono (hn.1 r hr) hB
    · exact h'.1 r hr
  · cases hb : s.v.ownBlock with
    | none => exact .inl rfl
    | some k =>
      refine .inr fun e' => ?_
      have h1 := (hn.1 s hs).lt k hb
      have h2 := (h.1 r hr).lt k e'.symm
      omega
/-- A new row, written out. -/
theorem Own.lit {w : World} {B : Nat} {R : List Row} (h : Own w B R) (e z n : Nat) (cs : Array Value) (hB : B ≤ w.heap.size) (hm : n ≤ maxLen) (hs : cs.size = n * z) :
    Own (w.alloc (.cells cs e)) B (⟨e, z, .slice (some ⟨w.heap.size, 0, none⟩) n n, n, cs.toList⟩ :: R) := by
  have h' : Own (w.alloc (.cells cs e)) B R := h.ext
  refine ⟨fun r hr => ?_, List.pairwise_cons.2 ⟨fun r hr => .inr fun e' => ?_, h'.2⟩⟩
  · rcases List.mem_cons.1 hr with rfl | hr
    · exact World.ownsRow_lit w cs n hB hm hs
    · exact h'.1 r hr
  · have := (h.1 r hr).lt w.heap.size e'.symm
    omega
theorem Own.litInts {W : World} {B k e n : Nat} {cs : Array Value} {xs : List Int} (hB : B ≤ W.heap.size) (hk : k = W.heap.size) (h : cs.toList = xs.map (Value.int .i64)) (hs : xs.length ≤ 1000000) (hn : n = xs.length) :
    Own (W.alloc (.cells cs e)) B [intRowOf e (.slice (some ⟨k, 0, none⟩) xs.length n) xs] := by
  subst hk
  subst hn
  have hl : cs.size = xs.length * 1 := by rw [← Array.length_toList, h]; simp
  have := (Own.nil W B).lit e 1 xs.length cs hB (by unfold maxLen; omega) hl
  rw [h] at this
  exact this
theorem Own.cons_nil {w : World} {B : Nat} {R : List Row} (h : Own w B R) (e z : Nat) : Own w B (⟨e, z, .slice none 0 0, 0, []⟩ :: R) :=
  ⟨fun r hr => by
    rcases List.mem_cons.1 hr with rfl | hr
    · exact World.ownsRow_nil w B e z
    · exact h.1 r hr, List.pairwise_cons.2 ⟨fun r _ => .inl rfl, h.2⟩⟩
/-- One row is written anew, or laid elsewhere; the others stay. -/
theorem Own.turn {w w' : World} {B : Nat} {r : Row} {R : List Row} (h : Own w B (r :: R)) {r' : Row} (hr' : w'.ownsRow B r'.e r'.z r'.v r'.n r'.cs)
    (hg : w.grownBy w' r.v.ownBlock) (hb : r'.v.ownBlock = r.v.ownBlock ∨ ∀ k, r'.v.ownBlock = some k → w.heap.size ≤ k) : Own w' B (r' :: R) := by
  have hp := List.pairwise_cons.1 h.2
  have keep : ∀ s ∈ R, w'.ownsRow B s.e s.z s.v s.n s.cs := fun s hs => ownsRow_same (h.1 s (by simp [hs])) fun k hk => by
    have hlt := (h.1 s (by simp [hs])).lt k hk
    refine hg.block k hlt.2 fun e' => ?_
    rcases hp.1 s hs with h1 | h1
    · rw [h1] at e'; cases e'
    · exact h1 (e'.symm.trans hk.symm)
  refine ⟨fun s hs => ?_, List.pairwise_cons.2 ⟨fun s hs => ?_, hp.2⟩⟩
  · rcases List.mem_cons.1 hs with rfl | hs
    · exact hr'
    · exact keep s hs
  · rcases hb with hb | hb
    · rw [hb]; exact hp.1 s hs
    · cases hk : r'.v.ownBlock with
      | none => exact .inl rfl
      | some k =>
        refine .inr fun e' => ?_
        have h1 := hb k hk
        have h2 := (h.1 s (by simp [hs])).lt k e'.symm
        omega
theorem below_of_grown {w w' : World} {B e z n : Nat} {v : Value} {cs : List Value} (h : w.ownsRow B e z v n cs) (hg : w.grownBy w' v.ownBlock) (hB : B ≤ w.heap.size) : Below B w w' :=
  (Below.refl B w).grown hg hB fun k hk => (h.lt k hk).1
/-- The form of an owned value. -/
theorem Own.form {w : World} {B : Nat} {r : Row} {R : List Row} (h : Own w B (r :: R)) : ∃ a c, r.v = .slice a r.n c := by
  rcases h.head.2 with ⟨h1, h2⟩ | ⟨g, cap, cur, hv, _⟩
  · exact ⟨none, 0, by rw [h1, h2]⟩
  · exact ⟨_, cap, hv⟩
theorem Own.reads {w : World} {B e : Nat} {v : Value} {xs : List Int} {R : List Row} (h : Own w B (intRowOf e v xs :: R)) (hs : Short xs.length) (hi : ∀ x ∈ xs, I64 x) : IsInts w v xs := by
  rcases h.head.2 with ⟨h1, h2⟩ | ⟨g, cap, cur, hv, hb, hg, hc, hm, hz, ht⟩
  · have hx : xs = [] := List.eq_nil_of_length_eq_zero h2
    subst hx
    have h1' : v = .slice none 0 0 := h1
    rw [h1']; exact IsInts.nil w
  · have hv' : v = .slice (some ⟨g, 0, none⟩) xs.length cap := hv
    refine ⟨_, cap, hv', ⟨hs, hc⟩, hi, fun j hj => ⟨g, 0, rfl, ?_⟩⟩
    have ho := h.head
    simp only [hv'] at ho
    have := ho.cellAt (0 + j) (by omega)
    rw [this]
    simp [nth, hj]
theorem Own.readsRows {w : World} {B e : Nat} {v : Value} {vs : List Value} {xss : List (List Int)} {R : List Row} (h : Own w B (valRowOf e v vs :: R)) (hs : ShortRows xss.length) (hl : vs.length = xss.length)
    (hi : ∀ j, j < xss.length → IsInts w (vs.getD j undef) (row xss j)) : IsRows w v xss := by
  rcases h.head.2 with ⟨h1, h2⟩ | ⟨g, cap, cur, hv, hb, hg, hc, hm, hz, ht⟩
  · have h2' : vs.length = 0 := h2
    have hx : xss = [] := List.eq_nil_of_length_eq_zero (by omega)
    subst hx
    have h1' : v = .slice none 0 0 := h1
    rw [h1']; exact IsRows.nil w
  · have hv' : v = .slice (some ⟨g, 0, none⟩) vs.length cap := hv
    refine ⟨_, cap, by rw [hv', hl], hs, fun j hj => ⟨g, 0, vs.getD j undef, rfl, ?_, hi j hj⟩⟩
    have ho := h.head
    simp only [hv'] at ho
    have := ho.cellAt (0 + j) (by omega)
    rw [this]
    have hj' : j < vs.length := by omega
    simp [hj']
theorem Own.cellAt {w w' : World} {B e g n c : Nat} {cs : List Value} {R : List Row} (h : Own w B (⟨e, 1, .slice (some ⟨g, 0, none⟩) n c, n, cs⟩ :: R)) [x : Ext w w'] {j : Nat} (hj : j < n) :
    w'.cell? ⟨g, j, none⟩ = some (cs.getD j undef) := by
  have h1 := h.head.cellAt j (by simpa using hj)
  have h2 : cs.length = n * 1 := h.head.1
  refine x.cell ?_
  rw [h1]
  have h3 : j < cs.length := by omega
  simp [h3]
theorem Own.frozenAt {w : World} {B e g n c : Nat} {cs : List Value} {R : List Row} (h : Own w B (⟨e, 1, .slice (some ⟨g, 0, none⟩) n c, n, cs⟩ :: R)) (j : Nat) :
    w.frozen? ⟨g, j, none⟩ = false := h.head.frozenAt j
theorem Own.set {w : World} {B e g n c : Nat} {cs : List Value} {R : List Row} (h : Own w B (⟨e, 1, .slice (some ⟨g, 0, none⟩) n c, n, cs⟩ :: R)) (j : Nat) (u : Value) :
    Own (w.setCell ⟨g, j, none⟩ u) B (⟨e, 1, .slice (some ⟨g, 0, none⟩) n c, n, cs.set j u⟩ :: R) :=
  h.turn (h.head.stored j u).1 (h.head.stored j u).2 (.inl rfl)
theorem Own.lt {w : World} {B e g n c : Nat} {cs : List Value} {R : List Row} (h : Own w B (⟨e, 1, .slice (some ⟨g, 0, none⟩) n c, n, cs⟩ :: R)) : B ≤ g ∧ g < w.heap.size :=
  h.head.lt g rfl
theorem Ext.set {a w : World} [h : Ext a w] {p : Addr} (hp : a.heap.size ≤ p.block) (u : Value) : Ext a (w.setCell p u) := ⟨h.below.setCell hp u⟩
theorem Own.at {w : World} {B e n c : Nat} {a : Option Addr} {cs : List Value} {R : List Row} (h : Own w B (⟨e, 1, .slice a n c, n, cs⟩ :: R)) {j : Nat} (hj : j < n) : ∃ g, a = some ⟨g, 0, none⟩ := by
  rcases h.head.2 with ⟨h1, h2⟩ | ⟨g, cap, cur, hv, _⟩
  · have : n = 0 := h2
    omega
  · have hv' : (Value.slice a n c) = .slice (some ⟨g, 0, none⟩) n cap := hv
    simp only [Value.slice.injEq] at hv'
    exact ⟨g, hv'.1⟩
theorem Own.setBelow {w : World} {B : Nat} {R : List Row} (h : Own w B R) {p : Addr} (hp : p.block < B) (u : Value) : Own (w.setCell p u) B R :=
  h.same fun k hk _ => Below.heap_setCell _ _ _ _ (by omega)
theorem perm_set {α : Type} : ∀ (l : List α) (j : Nat) (x : α), j < l.length → (l.set j x).Perm (x :: l.eraseIdx j)
  | [], j, x, h => by simp at h
  | a :: l, 0, x, _ => by simp
  | a :: l, j + 1, x, h => by
    simp only [List.set_cons_succ, List.eraseIdx_cons_succ]
    exact ((perm_set l j x (by simpa using h)).cons a).trans (List.Perm.swap _ _ _)
theorem Own.pick {w : World} {B : Nat} {R : List Row} (h : Own w B R) {j : Nat} {r : Row} (hr : R[j]? = some r) : Own w B (r :: R.eraseIdx j) := by
  obtain ⟨hj, rfl⟩ := List.getElem?_eq_some_iff.1 hr
  refine h.perm (List.Perm.symm ?_)
  have := perm_set R j R[j] hj
  rwa [List.set_getElem_self] at this
theorem Own.put {w : World} {B : Nat} {R : List Row} {j : Nat} {r : Row} (h : Own w B (r :: R.eraseIdx j)) (hj : j < R.length) : Own w B (R.set j r) :=
  h.perm (perm_set R j r hj)
/-- The rows of a slice of slices of ints. -/
def rowsOf (e1 e2 : Nat) (u : Value) (vs : List Value) (M : List (List Int)) : List Row := valRowOf e1 u vs :: List.zipWith (intRowOf e2) vs M
theorem zipWith_set {α β γ : Type} (f : α → β → γ) : ∀ (l : List α) (m : List β) (j : Nat) (b : β) (a : α), l[j]? = some a → (List.zipWith f l m).set j (f a b) = List.zipWith f l (m.set j b)
  | [], m, j, b, a, h => by simp at h
  | x :: l, [], j, b, a, h => by simp
  | x :: l, y :: m, 0, b, a, h => by simp at h; subst h; simp
  | x :: l, y :: m, j + 1, b, a, h => by
    simp only [List.zipWith_cons_cons, List.set_cons_succ]
    rw [zipWith_set f l m j b a (by simpa using h)]
theorem Own.readsAll {w : World} {B e1 e2 : Nat} {u : Value} {vs : List Value} {M : List (List Int)} {R : List Row} (h : Own w B (rowsOf e1 e2 u vs M ++ R)) (hl : vs.length = M.length)
    (hs : ShortRows M.length) (hr : ∀ r ∈ M, Short r.length) (hi : ∀ r ∈ M, ∀ x ∈ r, I64 x) : IsRows w u M := by
  refine Own.readsRows (e := e1) (vs := vs) (R := List.zipWith (intRowOf e2) vs M ++ R) (by simpa [rowsOf] using h) hs hl fun j hj => ?_
  have h1 : (List.zipWith (intRowOf e2) vs M ++ R)[j]? = some (intRowOf e2 (vs.getD j undef) (row M j)) := by
    have hj' : j < vs.length := by omega
    rw [List.getElem?_append_left (by simp; omega)]
    simp [List.getElem?_zipWith, hj', row, hj]
  have h2 : Own w B (List.zipWith (intRowOf e2) vs M ++ R) := Own.tail (r := valRowOf e1 u vs) (by simpa [rowsOf] using h)
  exact (h2.pick h1).reads (hr _ (row_mem hj)) (hi _ (row_mem hj))
/-- The block behind an append: the old one, or a new one. -/
theorem append_block {P : Program} {w w' : World} {B t ty e : Nat} {i : TypeInfo} {z : Value} {size bytes : Nat} (ht : P.underlying t = some (.slice e)) (hi : P.info? e = some i) (hz : i.zero = some z)
    (hsize : i.size = size) (hby : i.bytes = bytes)
    {v v' : Value} {n : Nat} {xs : List Value} (hown : w.ownsRow B e size v n xs)
    {a : Addr} {m c : Nat} {news : List Value} (hl : news.length = m * size) (hnews : ∀ j u, news[j]? = some u → w.cell? (a.add j) = some u) (h1 : ∀ u ∈ news, u.oneCell' = true)
    (h63 : n + m ≤ maxLen) (hbytes : (n + m) * bytes ≤ 140737488355328)
    (hr : (Builtin.append_ #[t, t] ty #[v, .slice (some a) m c]).run P w = .ok v' w') :
    v'.ownBlock = v.ownBlock ∨ ∀ k, v'.ownBlock = some k → w.heap.size ≤ k := by
  subst hsize
  subst hby
  have hsmall : n + m ≤ 9223372036854775807 := by simp only [maxLen] at h63; omega
  rcases hown.2 with ⟨rfl, rfl⟩ | ⟨g, cap, cur, rfl, hbg, hg, hnc, hcm, hcs, htake⟩
  · by_cases hm : m = 0
    · subst hm
      have hn : news = [] := List.eq_nil_of_length_eq_zero (by simpa using hl)
      subst hn
      have : (Builtin.append_ #[t, t] ty #[.slice none 0 0, .slice (some a) 0 c]).run P w = .ok (.slice none 0 0) w := by
        simp [Builtin.append_, run_underlying ht, sizeOf, typeInfo, hi, Builtin.lenOf, Builtin.firstCells, loadCells, loadCellsFrom]
      rw [this] at hr
      cases hr
      exact .inl rfl
    · have := run_append_nil (P := P) w t ty e i z ht hi hz a m c news hl hnews (by omega) (by omega) (by have hb := hbytes; simp only [Nat.zero_add] at hb; omega)
      rw [this] at hr
      cases hr
      refine .inr fun k hk => ?_
      simp [Value.ownBlock] at hk
      omega
  · by_cases hroom : n + m ≤ cap
    · have hfit : n * i.size + news.length ≤ cur.size := by rw [hl, hcs, ← Nat.add_mul]; exact Nat.mul_le_mul_right _ hroom
      have := run_append_room (P := P) w t ty e i ht hi g n cap cur hg a m c news hl hnews h1 hroom hfit
      rw [this] at hr
      cases hr
      exact .inl rfl
    · have := run_append_grow (P := P) w t ty e i z ht hi hz ⟨g, 0, none⟩ n cap xs hown.1 (hown.cells (g := g) rfl) a m c news hl hnews (by omega) (by omega) (growslice_fits (by omega) hbytes)
      rw [this] at hr
      cases hr
      refine .inr fun k hk => ?_
      simp [Value.ownBlock] at hk
      omega
end Go.Proofs.Ytnlbjbnjjkilhaa

/- The bound of marks, in plain words: what the program counts mark by mark is what the reference counts interval by interval. -/
namespace Go.Proofs.Ytnlbjbnjjkilhaa
open Go.RowKit
end Go.Proofs.Ytnlbjbnjjkilhaa

/- The different numbers of a list in ascending order, in plain words. -/
namespace Go.Proofs.Ytnlbjbnjjkilhaa
open Go.RowKit

/-- a number put to its place, once -/
def putL : List Int → Int → List Int
  | [], x => [x]
  | y :: l, x => if x < y then x :: y :: l else if x = y then y :: l else y :: putL l x
/-- the different numbers of a list in ascending order -/
def difL (X : List Int) : List Int := X.foldl putL []
def SAsc (l : List Int) : Prop := l.Pairwise (· < ·)
theorem mem_putL {x y : Int} : ∀ {l : List Int}, y ∈ putL l x ↔ y = x ∨ y ∈ l
  | [] => by simp [putL]
  | z :: l => by
    unfold putL
    by_cases h1 : x < z
    · rw [if_pos h1]; simp
    · rw [if_neg h1]
      by_cases h2 : x = z
      · rw [if_pos h2]; subst h2; simp
      · rw [if_neg h2, List.mem_cons, mem_putL, List.mem_cons]
        constructor
        · rintro (h | h | h)
          · exact .inr (.inl h)
          · exact .inl h
          · exact .inr (.inr h)
        · rintro (h | h | h)
          · exact .inr (.inl h)
          · exact .inl h
          · exact .inr (.inr h)
theorem putL_sasc {x : Int} : ∀ {l : List Int}, SAsc l → SAsc (putL l x)
  | [], _ => by simp [putL, SAsc]
  | z :: l, h => by
    have h' := List.pairwise_cons.1 h
    unfold putL
    by_cases h1 : x < z
    · rw [if_pos h1]
      refine List.pairwise_cons.2 ⟨fun y hy => ?_, h⟩
      rcases List.mem_cons.1 hy with e | hy
      · omega
      · have := h'.1 y hy; omega
    · rw [if_neg h1]
      by_cases h2 : x = z
      · rw [if_pos h2]; exact h
      · rw [if_neg h2]
        refine List.pairwise_cons.2 ⟨fun y hy => ?_, putL_sasc h'.2⟩
        rcases mem_putL.1 hy with e | hy
        · omega
        · exact h'.1 y hy
theorem difL_snoc (X : List Int) (x : Int) : difL (X ++ [x]) = putL (difL X) x := by simp [difL]
theorem difL_spec : ∀ (n : Nat) (X : List Int), X.length = n → SAsc (difL X) ∧ ∀ y, y ∈ difL X ↔ y ∈ X
  | 0, X, h => by
    have : X = [] := List.eq_nil_of_length_eq_zero h
    subst this
    simp [difL, SAsc]
  | n + 1, X, h => by
    have hne : X ≠ [] := fun e => by rw [e] at h; simp at h
    have e := List.dropLast_concat_getLast hne
    have ih := difL_spec n X.dropLast (by simp [h])
    rw [← e, difL_snoc]
    refine ⟨putL_sasc ih.1, fun y => ?_⟩
    rw [mem_putL, ih.2]
    simp only [List.mem_append, List.mem_singleton]
    exact Or.comm
theorem difL_sasc (X : List Int) : SAsc (difL X) := (difL_spec _ X rfl).1
theorem mem_difL {X : List Int} {y : Int} : y ∈ difL X ↔ y ∈ X := (difL_spec _ X rfl).2 y
theorem putL_len {x : Int} : ∀ {l : List Int}, (putL l x).length ≤ l.length + 1
  | [] => by simp [putL]
  | z :: l => by
    unfold putL
    split
    · simp
    · split
      · simp
      · have := putL_len (x := x) (l := l)
        simp only [List.length_cons]; omega
theorem difL_len (X : List Int) : (difL X).length ≤ X.length := by
  have key : ∀ (Y A : List Int), (Y.foldl putL A).length ≤ A.length + Y.length := by
    intro Y
    induction Y with
    | nil => intro A; simp
    | cons y Y ih =>
      intro A
      have h1 := ih (putL A y)
      have h2 := putL_len (x := y) (l := A)
      rw [List.foldl_cons]
      simp only [List.length_cons]
      omega
  simpa [difL] using key X []
theorem sasc_uniq : ∀ {a b : List Int}, SAsc a → SAsc b → (∀ y, y ∈ a ↔ y ∈ b) → a = b
  | [], [], _, _, _ => rfl
  | [], y :: b, _, _, h => by have := (h y).2 (by simp); simp at this
  | x :: a, [], _, _, h => by have := (h x).1 (by simp); simp at this
  | x :: a, y :: b, h1, h2, h => by
    have h1' := List.pairwise_cons.1 h1
    have h2' := List.pairwise_cons.1 h2
    have hx := (h x).1 (by simp)
    have hy := (h y).2 (by simp)
    have e : x = y := by
      rcases List.mem_cons.1 hx with e | hx
      · exact e
      · rcases List.mem_cons.1 hy with e | hy
        · exact e.symm
        · have := h1'.1 y hy
          have := h2'.1 x hx
          omega
    subst e
    rw [sasc_uniq h1'.2 h2'.2 fun z => ?_]
    constructor
    · intro hz
      rcases List.mem_cons.1 ((h z).1 (List.mem_cons_of_mem _ hz)) with e | hz'
      · subst e; have := h1'.1 z hz; omega
      · exact hz'
    · intro hz
      rcases List.mem_cons.1 ((h z).2 (List.mem_cons_of_mem _ hz)) with e | hz'
      · subst e; have := h2'.1 z hz; omega
      · exact hz'
/-- what the library's Compact makes of a sorted list -/
theorem compact_sorted {Y X : List Int} (hs : Y.Pairwise (· ≤ ·)) (hm : ∀ y, y ∈ Y ↔ y ∈ X) : Go.Lib.compactUpTo Y.toArray Y.length = difL X := by
  have hget : ∀ j, j < Y.length → Y.toArray[j]! = nth Y j := fun j hj => by simp [nth, hj]
  have hle : ∀ i j, i < j → j < Y.length → nth Y i ≤ nth Y j := fun i j hij hj => by
    have := List.pairwise_iff_getElem.1 hs i j (by omega) hj hij
    have hi : i < Y.length := by omega
    simpa [nth, hj, hi] using this
  have key : ∀ m : Nat, m ≤ Y.length → SAsc (Go.Lib.compactUpTo Y.toArray m) ∧ (∀ y, y ∈ Go.Lib.compactUpTo Y.toArray m ↔ ∃ j, j < m ∧ nth Y j = y) := by
    intro m
    induction m with
    | zero => intro _; simp [Go.Lib.compactUpTo, SAsc]
    | succ m ih =>
      intro hm
      obtain ⟨h1, h2⟩ := ih (by omega)
      rw [Go.Lib.compactUpTo_succ, hget m (by omega)]
      cases hk : Go.Lib.keeps Y.toArray m with
      | true =>
        rw [if_pos rfl]
        have hk' : m = 0 ∨ nth Y m ≠ nth Y (m - 1) := by
          rw [← hget m (by omega), ← hget (m - 1) (by omega)]
          simpa [Go.Lib.keeps] using hk
        refine ⟨List.pairwise_append.2 ⟨h1, by simp, fun a ha b hb => ?_⟩, fun y => ?_⟩
        · obtain ⟨j, hj, rfl⟩ := (h2 a).1 ha
          rw [List.mem_singleton.1 hb]
          have h3 : nth Y (m - 1) ≤ nth Y m := hle _ _ (by omega) (by omega)
          have h4 : nth Y j ≤ nth Y (m - 1) := by
            by_cases e : j = m - 1
            · rw [e]; omega
            · exact hle _ _ (by omega) (by omega)
          omega
        · rw [List.mem_append, h2, List.mem_singleton]
          constructor
          · rintro (⟨j, hj, e⟩ | e)
            · exact ⟨j, by omega, e⟩
            · exact ⟨m, by omega, e.symm⟩
          · rintro ⟨j, hj, e⟩
            by_cases c : j = m
            · subst c; exact .inr e.symm
            · exact .inl ⟨j, by omega, e⟩
      | false =>
        have hk' : m ≠ 0 ∧ nth Y m = nth Y (m - 1) := by
          rw [← hget m (by omega), ← hget (m - 1) (by omega)]
          simpa [Go.Lib.keeps] using hk
        simp only [Bool.false_eq_true, if_false, List.append_nil]
        refine ⟨h1, fun y => ?_⟩
        rw [h2]
        constructor
        · rintro ⟨j, hj, e⟩; exact ⟨j, by omega, e⟩
        · rintro ⟨j, hj, e⟩
          by_cases c : j = m
          · subst c; exact ⟨j - 1, by omega, by rw [← hk'.2, e]⟩
          · exact ⟨j, by omega, e⟩
  obtain ⟨h1, h2⟩ := key Y.length (Nat.le_refl _)
  refine sasc_uniq h1 (difL_sasc X) fun y => ?_
  rw [h2, mem_difL, ← hm, mem_iff_nth]
end Go.Proofs.Ytnlbjbnjjkilhaa

/- Laws for append and make on rows of one's own. -/
namespace Go.Proofs.Ytnlbjbnjjkilhaa
open Go.RowKit

/-- What a program's table says of an element type: zero value, cells, bytes. -/
structure Elem (P : Program) (t e : Nat) (z : Value) (size bytes : Nat) : Prop where
  under : P.underlying t = some (.slice e)
  info : ∃ i, P.info? e = some i ∧ i.zero = some z ∧ i.size = size ∧ i.bytes = bytes
  cells : z.cells.size = size
  pos : 0 < size
section
variable {P : Program} {w : World} {ops : Array Oper} {rest : List Oper} {o : Oper} {a : Act} {Q : Exit → Act → World → Prop}

theorem run_append_Own {t ty e size bytes : Nat} {z : Value} (E : Elem P t e z size bytes) {B : Nat} {R : List Row} {v : Value} {n : Nat} {cs : List Value}
    (own : Own w B (⟨e, size, v, n, cs⟩ :: R)) (hB : B ≤ w.heap.size)
    {ad : Addr} {m c : Nat} {news : List Value} (hl : news.length = m * size) (hnews : ∀ j u, news[j]? = some u → w.cell? (ad.add j) = some u) (h1 : ∀ u ∈ news, u.oneCell' = true)
    (h63 : n + m ≤ maxLen) (hbytes : (n + m) * bytes ≤ 140737488355328) :
    ∃ v' w', (Builtin.append_ #[t, t] ty #[v, .slice (some ad) m c]).run P w = .ok v' w' ∧ Own w' B (⟨e, size, v', n + m, cs ++ news⟩ :: R) ∧ Below B w w' := by
  obtain ⟨i, hi, hz, hs, hb⟩ := E.info
  obtain ⟨v', w', hr, h2, h3, h4⟩ := run_append_own (P := P) w B t ty e i z size bytes E.under hi hz hs hb E.cells E.pos v n cs own.head ad m c news hl hnews h1 h63 hbytes hB
  have hblk := append_block (P := P) (ty := ty) E.under hi hz hs hb own.head hl hnews h1 h63 hbytes hr
  exact ⟨v', w', hr, own.turn h2 h3 hblk, below_of_grown own.head h3 hB⟩
theorem wpList_append_Own (hgd : o.guard = none) {s x : Operand} {t : TypeId}
    (ho : o.op = .call { callee := .builtin .append, args := #[s, x], argTypes := #[t, t] })
    {e size bytes : Nat} {z : Value} (E : Elem P t e z size bytes) {B : Nat} {R : List Row} {v : Value} {n : Nat} {cs : List Value} (hs : a.eval s = v)
    (own : Own w B (⟨e, size, v, n, cs⟩ :: R)) (hB : B ≤ w.heap.size)
    {ad : Addr} {m c : Nat} {news : List Value} (hx : a.eval x = .slice (some ad) m c) (hl : news.length = m * size) (hnews : ∀ j u, news[j]? = some u → w.cell? (ad.add j) = some u) (h1 : ∀ u ∈ news, u.oneCell' = true)
    (h63 : n + m ≤ maxLen) (hbytes : (n + m) * bytes ≤ 140737488355328)
    (h : ∀ v' w', Own w' B (⟨e, size, v', n + m, cs ++ news⟩ :: R) → Below B w w' → wpList P ops Q rest (a.put o.dst v') w') : wpList P ops Q (o :: rest) a w := by
  refine wpList_plain hgd fun K hK => ?_
  obtain ⟨v', w', hr, h2, h3⟩ := run_append_Own (P := P) (ty := o.type) E own hB hl hnews h1 h63 hbytes
  unfold Oper.wp execOp
  simp only [ho, resolve, invoke, builtin, Sem.run_bind, Sem.run_pure, Result.andThen_ok, List.map_toArray, List.map_cons, List.map_nil, hs, hx]
  rw [hr]
  exact hK _ _ (h v' w' h2 h3)
/-- 'append(s, x)': x lies in a new block of one cell. -/
theorem wpList_append1 (hgd : o.guard = none) (s x : Operand) (t : TypeId)
    (ho : o.op = .call { callee := .builtin .append, args := #[s, x], argTypes := #[t, t] })
    {e bytes : Nat} {z : Value} (E : Elem P t e z 1 bytes) {B : Nat} {R : List Row} {v : Value} {n : Nat} {cs : List Value} (hs : a.eval s = v)
    (own : Own w B (⟨e, 1, v, n, cs⟩ :: R)) (hB : B ≤ w.heap.size) {u : Value}
    (hx : a.eval x = .slice (some ⟨w.heap.size, 0, none⟩) 1 1) (h1 : u.oneCell' = true) (h63 : n ≤ 17592186044415) (hb16 : (n + 1) * bytes ≤ 140737488355328)
    (h : ∀ v' w', Own w' B (⟨e, 1, v', n + 1, cs ++ [u]⟩ :: R) → Below B w w' → wpList P ops Q rest (a.put o.dst v') w') : wpList P ops Q (o :: rest) a (w.alloc (.cells #[u] e)) := by
  refine wpList_append_Own (w := w.alloc (.cells #[u] e)) hgd ho E hs own.ext (by simp; omega) hx (news := [u]) (by simp) ?_ (by intro y hy; simp at hy; subst hy; exact h1) (by unfold maxLen; omega) hb16 ?_
  · intro j y hj
    match j, hj with
    | 0, hj =>
      simp at hj; subst hj
      simp [Addr.add]
  · intro v' w' h2 h3
    exact h v' w' h2 (((Below.refl B w).alloc hB _).trans h3)
theorem run_append_none {t ty e size bytes : Nat} {z : Value} (E : Elem P t e z size bytes) {B : Nat} {v : Value} {n : Nat} {cs : List Value}
    (own : w.ownsRow B e size v n cs) (c : Nat) : (Builtin.append_ #[t, t] ty #[v, .slice none 0 c]).run P w = .ok v w := by
  obtain ⟨i, hi, hz, hs, hb⟩ := E.info
  have ht := E.under
  rcases own.2 with ⟨rfl, rfl⟩ | ⟨g, cap, cur, rfl, _, _, hnc, _⟩
  · simp [Builtin.append_, run_underlying ht, sizeOf, typeInfo, hi, Builtin.lenOf, Builtin.firstCells]
  · simp [Builtin.append_, run_underlying ht, sizeOf, typeInfo, hi, Builtin.lenOf, Builtin.firstCells, hnc, storeCells]
theorem cells_of_ints {w : World} {ad : Addr} {n c : Nat} {ys : List Int} (hy : IsInts w (.slice (some ad) n c) ys) :
    ∀ j u, (ys.map (Value.int .i64))[j]? = some u → w.cell? (ad.add j) = some u := by
  intro j u hj
  have hl : j < ys.length := by
    by_cases hl : j < ys.length
    · exact hl
    · rw [List.getElem?_eq_none (by simp; omega)] at hj; cases hj
  obtain ⟨b, o, h1, h2⟩ := hy.at (w' := w) hl
  cases h1
  have : (⟨b, o, none⟩ : Addr).add j = ⟨b, o + j, none⟩ := by
    unfold Addr.add; split <;> simp_all
  rw [this, h2, ← hj]
  simp [nth, hl]
/-- 'append(s, xs...)': the ints of another slice. -/
theorem wpList_appendInts (hgd : o.guard = none) (s x : Operand) (t : TypeId)
    (ho : o.op = .call { callee := .builtin .append, args := #[s, x], argTypes := #[t, t] })
    {e : Nat} (E : Elem P t e (.int .i64 0) 1 8) {B : Nat} {R : List Row} {v u : Value} {n : Nat} {cs : List Value} (hs : a.eval s = v)
    (own : Own w B (⟨e, 1, v, n, cs⟩ :: R)) (hB : B ≤ w.heap.size) {ys : List Int} (hx : a.eval x = u) (hy : IsInts w u ys)
    (h63 : n + ys.length ≤ 17592186044415)
    (h : ∀ v' w', Own w' B (⟨e, 1, v', n + ys.length, cs ++ ys.map (Value.int .i64)⟩ :: R) → Below B w w' → wpList P ops Q rest (a.put o.dst v') w') : wpList P ops Q (o :: rest) a w := by
  obtain ⟨d, c, rfl, hl⟩ := hy.form
  cases d with
  | some ad =>
    exact wpList_append_Own hgd ho E hs own hB hx (by simp) (cells_of_ints hy) (by intro y hy'; simp at hy'; obtain ⟨k, _, rfl⟩ := hy'; rfl) (by unfold maxLen; omega) (by omega) h
  | none =>
    have hy0 : ys = [] := by
      cases ys with
      | nil => rfl
      | cons y ys =>
        obtain ⟨b, o, h1, _⟩ := hy.at (w' := w) (k := 0) (by simp)
        cases h1
    subst hy0
    refine wpList_plain hgd fun K hK => ?_
    have hr := run_append_none (P := P) (ty := o.type) E own.head c
    unfold Oper.wp execOp
    simp only [ho, resolve, invoke, builtin, Sem.run_bind, Sem.run_pure, Result.andThen_ok, List.map_toArray, List.map_cons, List.map_nil, hs, hx, List.length_nil]
    rw [hr]
    exact hK _ _ (h v w (by rw [List.length_nil, Nat.add_zero, List.map_nil, List.append_nil]; exact own) (Below.refl _ _))
/-- 'make([]T, n)'. -/
theorem wpList_makeOwn (hg : o.guard = none) (l c : Operand) (t : TypeId) (hop : o.op = Op.makeSlice t l c)
    {e bytes : Nat} {z : Value} (E : Elem P t e z 1 bytes) (n : Nat) (hl : a.eval l = .int .i64 n) (hc : a.eval c = .int .i64 n) (hn : n ≤ 17592186044415) (hb16 : n * bytes ≤ 140737488355328) (hz1 : z.cells = #[z])
    (h : Own (w.alloc (.cells (Array.replicate n z) e)) w.heap.size [⟨e, 1, .slice (some ⟨w.heap.size, 0, none⟩) n n, n, List.replicate n z⟩] →
      wpList P ops Q rest (a.put o.dst (.slice (some ⟨w.heap.size, 0, none⟩) n n)) (w.alloc (.cells (Array.replicate n z) e))) : wpList P ops Q (o :: rest) a w := by
  refine wpList_plain hg fun K hK => ?_
  obtain ⟨i, hi, hz, hs, hb⟩ := E.info
  subst hb
  have hbb : i.bytes * n ≤ 140737488355328 := by rw [Nat.mul_comm]; exact hb16
  have h2 : (i.bytes : Int) * (n : Int) ≤ 281474976710656 := by
    have h' : ((i.bytes * n : Nat) : Int) ≤ 281474976710656 := by omega
    rwa [Int.natCast_mul] at h'
  have hr := run_make (P := P) w t e i z E.under hi hz .i64 .i64 n n (by omega) (Int.le_refl _) h2 (by omega)
  have hm : madeCells z.cells ((n : Int).toNat * i.size) = Array.replicate n z := by
    rw [hs, hz1]
    apply Array.toList_inj.1
    rw [toList_madeCells_one]
    rw [Array.toList_replicate, Int.toNat_natCast, Nat.mul_one]
  rw [hm] at hr
  unfold Oper.wp
  simp [execOp, hop, hl, hc, hr, Result.andThen]
  refine hK _ _ (h ?_)
  have := (Own.nil w w.heap.size).lit e 1 n (Array.replicate n z) (Nat.le_refl _) (by unfold maxLen; omega) (by rw [Array.size_replicate, Nat.mul_one])
  rw [Array.toList_replicate] at this
  exact this
end
end Go.Proofs.Ytnlbjbnjjkilhaa

/- The laws' own helpers on lists of ints. -/
namespace Go.Proofs.Ytnlbjbnjjkilhaa
open Go.RowKit

theorem Try.infoInt : (Try.prog.info? 3).map (fun i => (i.zero, i.size, i.bytes)) = some (some (.int .i64 0), 1, 8) := by kernel_rfl
theorem elemInt : Elem Try.prog 24 3 (.int .i64 0) 1 8 := ⟨Try.underlying24, info_parts Try.infoInt, rfl, by decide⟩
theorem ret_bool {a b : Bool} (h : a = b) : Ending.returned (.bool a) = .returned (.bool b) := by rw [h]
theorem ret_int {a b : Int} (h : a = b) : Ending.returned (.int .i64 a) = .returned (.int .i64 b) := by rw [h]
end Go.Proofs.Ytnlbjbnjjkilhaa

/- The laws' own helpers on rows of ints and on problems. -/
namespace Go.Proofs.Ytnlbjbnjjkilhaa
open Go.RowKit

theorem Try.infoInts : (Try.prog.info? 24).map (fun i => (i.zero, i.size, i.bytes)) = some (some (.slice none 0 0), 1, 24) := by kernel_rfl
theorem elemInts : Elem Try.prog 27 24 (.slice none 0 0) 1 24 := ⟨Try.underlying27, info_parts Try.infoInts, rfl, by decide⟩
/-- the j-th of rows that are owned -/
theorem Own.rowAt {w : World} {B e1 e2 : Nat} {v : Value} {vs : List Value} {M : List (List Int)} {R : List Row} (_h : Own w B (rowsOf e1 e2 v vs M ++ R)) {j : Nat} {r : List Int} {u : Value} (hr : M[j]? = some r) (hu : vs[j]? = some u) :
    (rowsOf e1 e2 v vs M ++ R)[j + 1]? = some (intRowOf e2 u r) := by
  have h1 : j < M.length := (List.getElem?_eq_some_iff.1 hr).1
  have h2 : j < vs.length := (List.getElem?_eq_some_iff.1 hu).1
  simp only [rowsOf, List.cons_append, List.getElem?_cons_succ]
  rw [List.getElem?_append_left (by simp; omega), List.getElem?_zipWith, hu, hr]
theorem rowsOf_set {e1 e2 : Nat} {v : Value} {vs : List Value} {M : List (List Int)} {R : List Row} {j : Nat} {r : List Int} {u : Value} (hj : j < M.length) (hu : vs[j]? = some u) :
    (rowsOf e1 e2 v vs M ++ R).set (j + 1) (intRowOf e2 u r) = rowsOf e1 e2 v vs (M.set j r) ++ R := by
  have h2 : j < vs.length := (List.getElem?_eq_some_iff.1 hu).1
  simp only [rowsOf, List.cons_append, List.set_cons_succ]
  rw [List.set_append, if_pos (by simp; omega), zipWith_set _ _ _ _ _ _ hu]
end Go.Proofs.Ytnlbjbnjjkilhaa

/- eqIntSS -/
namespace Go.Proofs.Ytnlbjbnjjkilhaa
open Go.RowKit
/-- A value that reads as a problem of moves M and serves S. -/
def IsProb (w : World) (v : Value) (M S : List (List Int)) : Prop := ∃ v1 v2, v = .agg #[v1, v2] ∧ IsRows w v1 M ∧ IsRows w v2 S
theorem IsProb.ext {w w' : World} {v : Value} {M S : List (List Int)} (h : IsProb w v M S) [e : Ext w w'] : IsProb w' v M S := by
  obtain ⟨v1, v2, h0, h1, h2⟩ := h
  exact ⟨v1, v2, h0, h1.ext, h2.ext⟩
end Go.Proofs.Ytnlbjbnjjkilhaa

/- What owned memory reads as, by the reading of what it was copied from. -/
namespace Go.Proofs.Ytnlbjbnjjkilhaa
open Go.RowKit

theorem IsInts.all {w : World} {v : Value} {xs : List Int} (h : IsInts w v xs) : Short xs.length ∧ ∀ x ∈ xs, I64 x := by
  obtain ⟨a, c, _, h2, h3, _⟩ := h
  exact ⟨h2.1, h3⟩
end Go.Proofs.Ytnlbjbnjjkilhaa

/- The marks that a law lays into what it owns, and their reading. -/
namespace Go.Proofs.Ytnlbjbnjjkilhaa
open Go.RowKit
theorem Own.add {w u w' : World} {B : Nat} {R S : List Row} (hn : Own w' u.heap.size S) (h : Own w B R) [e : Ext w u] (e' : Ext u w') (hB : B ≤ w.heap.size) : Own w' B (S ++ R) :=
  Own.join (h.ext (w' := u)) hn (hB := Nat.le_trans hB e.size)
end Go.Proofs.Ytnlbjbnjjkilhaa

/- The states in which a request can be served; the number of algorithms. -/
namespace Go.Proofs.Ytnlbjbnjjkilhaa
open Go.RowKit
/-- the behind of an append: the value's form -/
theorem Own.formInts {w : World} {B e : Nat} {v : Value} {xs : List Int} {R : List Row} (h : Own w B (intRowOf e v xs :: R)) : ∃ d m, v = .slice d xs.length m := h.form
end Go.Proofs.Ytnlbjbnjjkilhaa

/- Arguments that came in, read as lists of ints, as rows of ints, as a problem. -/
namespace Go.Proofs.Ytnlbjbnjjkilhaa
open Go.ChangeShapes Go.WideShapes Go.ChangeAt Go.RowKit Go.Deep Go.Joins
theorem addr_add_nil {b o j : Nat} : (⟨b, o, none⟩ : Addr).add j = ⟨b, o + j, none⟩ := by
  unfold Addr.add; split <;> simp_all
theorem spot_of_cell {w : World} {a : Addr} {u : Value} (h : w.cell? (a.add 0) = some u) : ∃ b o, a = ⟨b, o, none⟩ := by
  obtain ⟨b, o, s⟩ := a
  have hs := World.cell?_spot h
  simp [Addr.add] at hs
  subst hs
  exact ⟨b, o, rfl⟩
section
variable {H : Type} {enc : TypeId × Value → H} {w : World}
theorem weights_of {ts : List TypeId} {ds : List (DataW H)} (h : (DataW.weightsEach Try.prog ts ds).all (· ≤ reachBytes) = true) {j : Nat} {t : TypeId} {d : DataW H} (ht : ts[j]? = some t) (hd : ds[j]? = some d) :
    ∀ n ∈ d.weights Try.prog t, n ≤ reachBytes := fun n hn => by
  simpa using List.all_eq_true.1 h _ (DataW.weights_mem_each ht hd n hn)
end
end Go.Proofs.Ytnlbjbnjjkilhaa

/- Tables of one's own that grow: their values hidden, their rows told. -/
namespace Go.Proofs.Ytnlbjbnjjkilhaa
open Go.RowKit

/-- w has a table of one's own, v, whose rows are M, and the rows R beside it -/
def Tab (w : World) (B : Nat) (v : Value) (M : List (List Int)) (R : List Row) : Prop := ∃ vs, vs.length = M.length ∧ Own w B (rowsOf 24 3 v vs M ++ R)
/-- and a row xs that is being made -/
def TabX (w : World) (B : Nat) (v : Value) (M : List (List Int)) (rv : Value) (xs : List Int) (R : List Row) : Prop := ∃ vs, vs.length = M.length ∧ Own w B (intRowOf 3 rv xs :: (rowsOf 24 3 v vs M ++ R))
theorem Tab.ext {w w' : World} {B : Nat} {v : Value} {M : List (List Int)} {R : List Row} (h : Tab w B v M R) [e : Ext w w'] : Tab w' B v M R := by
  obtain ⟨vs, h1, h2⟩ := h
  exact ⟨vs, h1, h2.ext⟩
theorem TabX.ext {w w' : World} {B : Nat} {v rv : Value} {M : List (List Int)} {xs : List Int} {R : List Row} (h : TabX w B v M rv xs R) [e : Ext w w'] : TabX w' B v M rv xs R := by
  obtain ⟨vs, h1, h2⟩ := h
  exact ⟨vs, h1, h2.ext⟩
theorem Tab.form {w : World} {B : Nat} {v : Value} {M : List (List Int)} {R : List Row} (h : Tab w B v M R) : ∃ d m, v = .slice d M.length m := by
  obtain ⟨vs, h1, h2⟩ := h
  have h3 : Own w B (⟨24, 1, v, vs.length, vs⟩ :: (List.zipWith (intRowOf 3) vs M ++ R)) := h2
  obtain ⟨d, m, h4⟩ := h3.form
  have h4' : v = .slice d vs.length m := h4
  exact ⟨d, m, by rw [h4', h1]⟩
theorem TabX.tab {w : World} {B : Nat} {v rv : Value} {M : List (List Int)} {xs : List Int} {R : List Row} (h : TabX w B v M rv xs R) : Tab w B v M R := by
  obtain ⟨vs, h1, h2⟩ := h
  exact ⟨vs, h1, h2.tail⟩
theorem TabX.own {w : World} {B : Nat} {v rv : Value} {M : List (List Int)} {xs : List Int} {R : List Row} (h : TabX w B v M rv xs R) : ∃ R', Own w B (intRowOf 3 rv xs :: R') := by
  obtain ⟨vs, h1, h2⟩ := h
  exact ⟨_, h2⟩
theorem Tab.start {w : World} {B : Nat} {R : List Row} (h : Own w B R) (hB : B ≤ w.heap.size) : Tab (w.alloc (.cells #[] 24)) B (.slice (some ⟨w.heap.size, 0, none⟩) 0 0) [] R :=
  ⟨[], rfl, h.lit 24 1 0 #[] hB (by unfold maxLen; omega) rfl⟩
theorem Tab.nil {w : World} {B : Nat} {R : List Row} (h : Own w B R) : Tab w B (.slice none 0 0) [] R := ⟨[], rfl, h.cons_nil _ _⟩
/-- a row of one's own joins, made by a callee -/
theorem Tab.join {w w' : World} {B : Nat} {v rv : Value} {M : List (List Int)} {xs : List Int} {R : List Row} (h : Tab w B v M R) (hn : Own w' w.heap.size [intRowOf 3 rv xs]) (e : Ext w w') (hB : B ≤ w.heap.size) : TabX w' B v M rv xs R := by
  obtain ⟨vs, h1, h2⟩ := h
  exact ⟨vs, h1, Own.join h2 hn hB⟩
/-- a row that is written out -/
theorem Tab.lit {w : World} {B : Nat} {v : Value} {M : List (List Int)} {R : List Row} (h : Tab w B v M R) (cs : Array Value) (xs : List Int) {n : Nat} (hB : B ≤ w.heap.size) (hx : cs.toList = xs.map (Value.int .i64)) (hn : n = xs.length) (hs : xs.length ≤ 1000000) :
    TabX (w.alloc (.cells cs 3)) B v M (.slice (some ⟨w.heap.size, 0, none⟩) n n) xs R := by
  subst hn
  obtain ⟨vs, h1, h2⟩ := h
  have hl : cs.size = xs.length * 1 := by rw [← Array.length_toList, hx]; simp
  have h3 := h2.lit 3 1 xs.length cs hB (by unfold maxLen; omega) hl
  rw [hx] at h3
  exact ⟨vs, h1, h3⟩
theorem Tab.reads {w : World} {B : Nat} {v : Value} {M : List (List Int)} {R : List Row} (h : Tab w B v M R) (hs : ShortRows M.length) (hr : ∀ r ∈ M, Short r.length) (hi : ∀ r ∈ M, ∀ x ∈ r, I64 x) : IsRows w v M := by
  obtain ⟨vs, h1, h2⟩ := h
  exact h2.readsAll h1 hs hr hi
theorem Tab.rows {w : World} {B : Nat} {v : Value} {M : List (List Int)} {R : List Row} (h : Tab w B v M R) : ∃ vs, vs.length = M.length ∧ Own w B (rowsOf 24 3 v vs M ++ R) := h
theorem TabX.reads {w : World} {B : Nat} {v rv : Value} {M : List (List Int)} {xs : List Int} {R : List Row} (h : TabX w B v M rv xs R) (hs : Short xs.length) (hi : ∀ x ∈ xs, I64 x) : IsInts w rv xs := by
  obtain ⟨R', h⟩ := h.own
  exact h.reads hs hi
section
variable {P : Program} {ops : Array Oper} {o : Oper} {rest : List Oper} {a : Act} {w : World} {Q : Exit → Act → World → Prop}
end
end Go.Proofs.Ytnlbjbnjjkilhaa

/- Steps of a drawing region that append. -/
namespace Go.Proofs.Ytnlbjbnjjkilhaa
open Go.RowKit

theorem stp_one {P : Program} {ops : Array Oper} {o : Oper} {a : Act} {w : World} {K : Act → World → Prop} {Q : Exit → Act → World → Prop} {E0 : Prop} (hgd : o.guard = none) (s x : Operand) (t : TypeId)
    (ho : o.op = .call { callee := .builtin .append, args := #[s, x], argTypes := #[t, t] })
    {e z bytes : Nat} {zv : Value} (E : Elem P t e zv z bytes) {B : Nat} {R : List Row} {v : Value} {n : Nat} {cs : List Value} (hs : a.eval s = v)
    (own : Own w B (⟨e, z, v, n, cs⟩ :: R)) (hB : B ≤ w.heap.size) {g : Nat} {us : List Value} (hus : us.length = z)
    (hx : a.eval x = .slice (some ⟨g, 0, none⟩) 1 1) (hnews : ∀ j u, us[j]? = some u → w.cell? ⟨g, j, none⟩ = some u) (h1 : ∀ u ∈ us, u.oneCell' = true) (h63 : n ≤ 17592186044415) (hb16 : (n + 1) * bytes ≤ 140737488355328)
    (h : ∀ v' w', Own w' B (⟨e, z, v', n + 1, cs ++ us⟩ :: R) → Below B w w' → K (a.put o.dst v') w') :
    if Region.wanted o (yielded ops a.tmps) = true then Oper.wp P o a w K Q else E0 := by
  have hw : Region.wanted o (yielded ops a.tmps) = true := by simp [Region.wanted, hgd]
  rw [if_pos hw]
  have hn2 : ∀ j u, us[j]? = some u → w.cell? ((⟨g, 0, none⟩ : Addr).add j) = some u := by
    intro j u hj
    have e1 : (⟨g, 0, none⟩ : Addr).add j = ⟨g, j, none⟩ := by
      unfold Addr.add; split <;> simp_all
    rw [e1]
    exact hnews j u hj
  obtain ⟨v', w', hr, h2, h3⟩ := run_append_Own (P := P) (ty := o.type) E own hB (m := 1) (c := 1) (by omega) hn2 h1 (by unfold maxLen; omega) hb16
  unfold Oper.wp execOp
  simp only [ho, resolve, invoke, builtin, Sem.run_bind, Sem.run_pure, Result.andThen_ok, List.map_toArray, List.map_cons, List.map_nil, hs, hx]
  rw [hr]
  exact h v' w' h2 h3
theorem stp_ints {P : Program} {ops : Array Oper} {o : Oper} {a : Act} {w : World} {K : Act → World → Prop} {Q : Exit → Act → World → Prop} {E0 : Prop} (hgd : o.guard = none) (s x : Operand) (t : TypeId)
    (ho : o.op = .call { callee := .builtin .append, args := #[s, x], argTypes := #[t, t] })
    {e : Nat} (E : Elem P t e (.int .i64 0) 1 8) {B : Nat} {R : List Row} {v u : Value} {n : Nat} {cs : List Value} (hs : a.eval s = v)
    (own : Own w B (⟨e, 1, v, n, cs⟩ :: R)) (hB : B ≤ w.heap.size) {ys : List Int} (hx : a.eval x = u) (hy : IsInts w u ys)
    (h63 : n + ys.length ≤ 17592186044415)
    (h : ∀ v' w', Own w' B (⟨e, 1, v', n + ys.length, cs ++ ys.map (Value.int .i64)⟩ :: R) → Below B w w' → K (a.put o.dst v') w') :
    if Region.wanted o (yielded ops a.tmps) = true then Oper.wp P o a w K Q else E0 := by
  have hw : Region.wanted o (yielded ops a.tmps) = true := by simp [Region.wanted, hgd]
  rw [if_pos hw]
  obtain ⟨d, c, rfl, hl⟩ := hy.form
  cases d with
  | some ad =>
    obtain ⟨v', w', hr, h2, h3⟩ := run_append_Own (P := P) (ty := o.type) E own hB (ad := ad) (m := ys.length) (c := c) (news := ys.map (Value.int .i64)) (by simp) (cells_of_ints hy) (by intro y hy'; simp at hy'; obtain ⟨k, _, rfl⟩ := hy'; rfl) (by unfold maxLen; omega) (by omega)
    unfold Oper.wp execOp
    simp only [ho, resolve, invoke, builtin, Sem.run_bind, Sem.run_pure, Result.andThen_ok, List.map_toArray, List.map_cons, List.map_nil, hs, hx]
    rw [hr]
    exact h v' w' h2 h3
  | none =>
    have hy0 : ys = [] := by
      cases ys with
      | nil => rfl
      | cons y ys =>
        obtain ⟨b, o, h1, _⟩ := hy.at (w' := w) (k := 0) (by simp)
        cases h1
    subst hy0
    have hr := run_append_none (P := P) (ty := o.type) E own.head c
    unfold Oper.wp execOp
    simp only [ho, resolve, invoke, builtin, Sem.run_bind, Sem.run_pure, Result.andThen_ok, List.map_toArray, List.map_cons, List.map_nil, hs, hx, List.length_nil]
    rw [hr]
    exact h v w (by rw [List.length_nil, Nat.add_zero, List.map_nil, List.append_nil]; exact own) (Below.refl _ _)
theorem region_held_from {P : Program} {ops : Array Oper} {Q : Exit → Act → World → Prop} {S : World → Prop} {id : Nat} {a : Act} {w w0 : World} [e : Ext w0 w] (hm : P.follows .mixedOrders = true) (hS : ∀ u, Ext w0 u → S u)
    (h : ∀ wd, Ext w0 wd → S wd → wpAnyH P .any ops Q S ops.size (Array.replicate ops.size false) a wd) : (Code.region id ops true).wp P Q a w :=
  wp_region_held_drew hm (hS _ inferInstance) (fun h0 => h _ inferInstance h0)
theorem own_formN {w : World} {B e : Nat} {v : Value} {xs : List Int} {R : List Row} (h : Own w B (intRowOf e v xs :: R)) : ∃ d n m, v = .slice d n m ∧ Hid (n = xs.length) := by
  obtain ⟨d, m, h⟩ := h.form
  exact ⟨d, _, m, h, rfl⟩
theorem own_grow1 {w : World} {B e n : Nat} {v : Value} {xs : List Int} {x : Int} {R : List Row} (h : Own w B (⟨e, 1, v, n + 1, xs.map (Value.int .i64) ++ [.int .i64 x]⟩ :: R)) (hn : n = xs.length) : Own w B (intRowOf e v (xs ++ [x]) :: R) := by
  subst hn
  unfold intRowOf
  rw [List.length_append, List.map_append]
  exact h
theorem own_more {w : World} {B e n : Nat} {v : Value} {xs ys : List Int} {R : List Row} (h : Own w B (⟨e, 1, v, n + ys.length, xs.map (Value.int .i64) ++ ys.map (Value.int .i64)⟩ :: R)) (hn : n = xs.length) : Own w B (intRowOf e v (xs ++ ys) :: R) := by
  subst hn
  unfold intRowOf
  rw [List.length_append, List.map_append]
  exact h
end Go.Proofs.Ytnlbjbnjjkilhaa

/- Whether a list has a number, and where first. -/
namespace Go.Proofs.Ytnlbjbnjjkilhaa
open Go.RowKit

def hasB (xs : List Int) (x : Int) : Bool := decide (x ∈ xs)
theorem hasB_true {xs : List Int} {x : Int} : hasB xs x = true ↔ x ∈ xs := by simp [hasB]
theorem hasB_false {xs : List Int} {x : Int} : hasB xs x = false ↔ x ∉ xs := by simp [hasB]
/-- the place where a number stands first, or -1 -/
def ixOf (xs : List Int) (x : Int) : Int := if x ∈ xs then (xs.idxOf x : Int) else -1
theorem ixOf_at {xs : List Int} {x : Int} {k : Nat} (hk : k < xs.length) (h : nth xs k = x) (hno : ∀ j, j < k → nth xs j ≠ x) : ixOf xs x = k := by
  have hm : x ∈ xs := mem_iff_nth.2 ⟨k, hk, h⟩
  rw [ixOf, if_pos hm]
  have hlt := List.idxOf_lt_length_of_mem hm
  have h1 : nth xs (xs.idxOf x) = x := by
    simp [nth, hlt]
  by_cases h2 : xs.idxOf x < k
  · exact absurd h1 (hno _ h2)
  · by_cases h3 : xs.idxOf x = k
    · rw [h3]
    · exfalso
      have h4 : k < xs.idxOf x := by omega
      have h5 := List.not_of_lt_findIdx (p := fun y => y == x) (xs := xs) (i := k) h4
      have h6 : xs[k]'hk = x := by simpa [nth, hk] using h
      rw [h6] at h5
      simp at h5
theorem ixOf_none {xs : List Int} {x : Int} (h : x ∉ xs) : ixOf xs x = -1 := by rw [ixOf, if_neg h]
theorem ixOf_in {xs : List Int} {x : Int} (h : x ∈ xs) : 0 ≤ ixOf xs x ∧ ixOf xs x < xs.length ∧ nth xs (ixOf xs x).toNat = x := by
  rw [ixOf, if_pos h]
  have hlt := List.idxOf_lt_length_of_mem h
  refine ⟨by omega, by omega, ?_⟩
  simp [nth, hlt]
theorem ixOf_ge {xs : List Int} {x : Int} : decide (0 ≤ ixOf xs x) = hasB xs x := by
  by_cases h : x ∈ xs
  · have := (ixOf_in h).1
    rw [hasB_true.2 h]; simpa using this
  · rw [hasB_false.2 h, ixOf_none h]; rfl
set_option maxHeartbeats 400000 in
set_option maxRecDepth 100000 in
theorem sIndex_any {v : Value} {xs : List Int} {x : Int} {w0 w : World} [Ext w0 w] (hx : IsInts w0 v xs) :
    Calls Try.prog 82 #[v, .int .i64 x] w fun e w' => e = .returned (.int .i64 (ixOf xs x)) ∧ w = w' := by
  obtain ⟨a, c, rfl, la⟩ := hx.form
  go_enter Try.func82, Try.ntmps82
  go_wp2
  go_loop [8] (fun i => ∃ k : Nat, k ≤ xs.length ∧ i = .int .i64 k ∧ Hid (∀ j, j < k → nth xs j ≠ x)) (fun i => xs.length - (intOf i).toNat)
  case atStart => exact ⟨0, by omega, rfl, by intro j hj; omega⟩
  case round =>
    obtain ⟨k, hk, rfl, hno⟩ := hrel
    by_cases hlt : k < xs.length
    · obtain ⟨b, o, rfl, hc⟩ := hx.at (w' := w) hlt
      by_cases he : x = nth xs k
      · have hr := hid (ixOf_at hlt he.symm hno.out)
        have hb : (x == nth xs k) = true := by simp [he]
        replace he := hid he
        go_wp2
        go_ret
        exact ⟨ret_int hr.out.symm, rfl⟩
      · have hb : (x == nth xs k) = false := by simpa using he
        replace he := hid he
        go_wp2
        go_round
        case rel =>
          refine ⟨k + 1, by omega, by go_num, fun j hj => ?_⟩
          by_cases e : j = k
          · rw [e]; exact fun h => he.out h.symm
          · exact hno.out j (by omega)
        case measure => simp [intOf]; omega
    · have hr := hid (show ixOf xs x = -1 from ixOf_none fun h => by
        obtain ⟨j, hj, e⟩ := mem_iff_nth.1 h
        exact hno.out j (by omega) e)
      go_wp2
      go_ret
      exact ⟨ret_int hr.out.symm, rfl⟩
theorem sContains_any {v : Value} {xs : List Int} {x : Int} {w0 w : World} [Ext w0 w] (hx : IsInts w0 v xs) :
    Calls Try.prog 55 #[v, .int .i64 x] w fun e w' => e = .returned (.bool (hasB xs x)) ∧ w = w' := by
  have hr := hid (ixOf_ge (xs := xs) (x := x))
  go_enter Try.func55, Try.ntmps55
  go_wp2_with fail
  refine (sIndex_any (w0 := w0) hx).mono ?_
  rintro e w1 ⟨rfl, rfl⟩
  generalize ixOf xs x = q at *
  go_wp2_with fail
  go_ret
  exact ⟨ret_bool hr.out, rfl⟩
set_option maxHeartbeats 400000 in
set_option maxRecDepth 100000 in
theorem l1Has_any {v : Value} {xs : List Int} {x : Int} {w0 w : World} [Ext w0 w] (hx : IsInts w0 v xs) :
    Calls Try.prog 63 #[v, .int .i64 x] w fun e w' => e = .returned (.bool (hasB xs x)) ∧ w = w' := by
  obtain ⟨a, c, rfl, la⟩ := hx.form
  go_enter Try.func63, Try.ntmps63
  go_wp2
  go_loop [5] (fun i => ∃ k : Nat, k ≤ xs.length ∧ i = .int .i64 k ∧ Hid (∀ j, j < k → nth xs j ≠ x)) (fun i => xs.length - (intOf i).toNat)
  case atStart => exact ⟨0, by omega, rfl, by intro j hj; omega⟩
  case round =>
    obtain ⟨k, hk, rfl, hno⟩ := hrel
    by_cases hlt : k < xs.length
    · obtain ⟨b, o, rfl, hc⟩ := hx.at (w' := w) hlt
      by_cases he : nth xs k = x
      · have hr := hid (show hasB xs x = true from hasB_true.2 (mem_iff_nth.2 ⟨k, hlt, he⟩))
        have hb : (nth xs k == x) = true := by simp [he]
        replace he := hid he
        go_wp2
        go_ret
        exact ⟨ret_bool hr.out.symm, rfl⟩
      · have hb : (nth xs k == x) = false := by simpa using he
        replace he := hid he
        go_wp2
        go_round
        case rel =>
          refine ⟨k + 1, by omega, by go_num, fun j hj => ?_⟩
          by_cases e : j = k
          · rw [e]; exact he.out
          · exact hno.out j (by omega)
        case measure => simp [intOf]; omega
    · have hr := hid (show hasB xs x = false from hasB_false.2 fun h => by
        obtain ⟨j, hj, e⟩ := mem_iff_nth.1 h
        exact hno.out j (by omega) e)
      go_wp2
      go_ret
      exact ⟨ret_bool hr.out.symm, rfl⟩
end Go.Proofs.Ytnlbjbnjjkilhaa

/- The library's functions on slices that take a function. -/
namespace Go.Proofs.Ytnlbjbnjjkilhaa
open Go.RowKit

set_option maxHeartbeats 400000 in
set_option maxRecDepth 100000 in
theorem indexFuncInts_any {v : Value} {xs : List Int} {w0 w : World} [Ext w0 w] (hx : IsInts w0 v xs) (id : Nat) (caps : Array Value) (p : Int → Bool)
    (hcall : ∀ xa W, (callFunc id xa).run Try.prog W = .ok (.enter id xa) W)
    (hf : ∀ (W : World), Ext w W → ∀ k, k < xs.length → Calls Try.prog id (#[.int .i64 (nth xs k)] ++ caps) W fun e w' => e = .returned (.bool (p (nth xs k))) ∧ Ext W w') :
    Calls Try.prog 98 #[v, .func (.func id) #[] caps] w fun e w' => ∃ r : Int, e = .returned (.int .i64 r) ∧ ((r = -1 ∧ xs.any p = false) ∨ (0 ≤ r ∧ xs.any p = true)) ∧ Ext w w' := by
  obtain ⟨a, c, rfl, la⟩ := hx.form
  go_enter Try.func98, Try.ntmps98
  replace hf := hid hf
  go_wp2
  go_loopw [5, 8] (fun _ i wr => ∃ k : Nat, k ≤ xs.length ∧ i = .int .i64 k ∧ Hid (∀ j, j < k → p (nth xs j) = false) ∧ Ext w wr) (fun _ i _ => xs.length - (intOf i).toNat)
  case atStart => exact ⟨0, by omega, rfl, by intro x hx; omega, inferInstance⟩
  case round =>
    obtain ⟨k, hk, rfl, hno, hb⟩ := hrel
    by_cases hlt : k < xs.length
    · have e0 : Ext w0 wr := Ext.trans ‹Ext w0 w› hb
      obtain ⟨b, o, rfl, hc⟩ := hx.at (w' := wr) hlt
      cases hp : p (nth xs k) with
      | true =>
        replace hp := hid hp
        go_wp2_with fail
        refine (hf.out wr hb k hlt).mono ?_
        rw [hp.out]
        rintro e w1 ⟨rfl, hb1⟩
        go_wp2_with fail
        go_ret
        refine ⟨_, rfl, .inr ⟨by omega, ?_⟩, Ext.trans hb hb1⟩
        exact List.any_eq_true.2 ⟨_, nth_mem hlt, hp.out⟩
      | false =>
        replace hp := hid hp
        go_wp2_with fail
        refine (hf.out wr hb k hlt).mono ?_
        rw [hp.out]
        rintro e w1 ⟨rfl, hb1⟩
        go_wp2_with fail
        go_roundw
        case rel =>
          refine ⟨k + 1, by omega, by go_num, ?_, Ext.trans hb hb1⟩
          intro j hj
          by_cases hjk : j = k
          · subst hjk; exact hp.out
          · exact hno.out j (by omega)
        case measure => simp [intOf]; omega
    · go_wp2
      go_ret
      refine ⟨_, rfl, .inl ⟨rfl, ?_⟩, hb⟩
      rw [List.any_eq_false]
      intro x hx
      obtain ⟨j, hj, rfl⟩ := mem_iff_nth.1 hx
      rw [hno.out j (by omega)]
      simp
set_option maxHeartbeats 400000 in
set_option maxRecDepth 100000 in
theorem containsFuncInts_any {v : Value} {xs : List Int} {w0 w : World} [Ext w0 w] (hx : IsInts w0 v xs) (id : Nat) (caps : Array Value) (p : Int → Bool)
    (hcall : ∀ xa W, (callFunc id xa).run Try.prog W = .ok (.enter id xa) W)
    (hf : ∀ (W : World), Ext w W → ∀ k, k < xs.length → Calls Try.prog id (#[.int .i64 (nth xs k)] ++ caps) W fun e w' => e = .returned (.bool (p (nth xs k))) ∧ Ext W w') :
    Calls Try.prog 85 #[v, .func (.func id) #[] caps] w fun e w' => e = .returned (.bool (xs.any p)) ∧ Ext w w' := by
  obtain ⟨a, c, rfl, la⟩ := hx.form
  go_enter Try.func85, Try.ntmps85
  replace hcall := hid hcall
  replace hf := hid hf
  go_wp2_with fail
  refine (indexFuncInts_any (w0 := w0) hx id caps p hcall.out hf.out).mono ?_
  rintro e w1 ⟨r, rfl, hr, hb⟩
  rcases hr with ⟨rfl, h⟩ | ⟨h0, h⟩
  · replace h := hid h
    go_wp2_with fail
    go_ret
    exact ⟨ret_bool h.out.symm, hb⟩
  · replace h := hid h
    go_wp2_with fail
    go_ret
    exact ⟨ret_bool h.out.symm, hb⟩
set_option maxHeartbeats 400000 in
set_option maxRecDepth 100000 in
theorem indexFuncRows_any {v : Value} {xs : List (List Int)} {w0 w : World} [Ext w0 w] (hx : IsRows w0 v xs) (id : Nat) (caps : Array Value) (p : List Int → Bool)
    (hcall : ∀ xa W, (callFunc id xa).run Try.prog W = .ok (.enter id xa) W)
    (hf : ∀ (W : World), Ext w W → ∀ k, k < xs.length → ∀ d m, IsInts w0 (.slice d (row xs k).length m) (row xs k) → Calls Try.prog id (#[.slice d (row xs k).length m] ++ caps) W fun e w' => e = .returned (.bool (p (row xs k))) ∧ Ext W w') :
    Calls Try.prog 89 #[v, .func (.func id) #[] caps] w fun e w' => ∃ r : Int, e = .returned (.int .i64 r) ∧ ((r = -1 ∧ xs.any p = false) ∨ (0 ≤ r ∧ xs.any p = true)) ∧ Ext w w' := by
  obtain ⟨a, c, rfl, la⟩ := hx.form
  go_enter Try.func89, Try.ntmps89
  replace hf := hid hf
  go_wp2
  go_loopw [5, 8] (fun _ i wr => ∃ k : Nat, k ≤ xs.length ∧ i = .int .i64 k ∧ Hid (∀ j, j < k → p (row xs j) = false) ∧ Ext w wr) (fun _ i _ => xs.length - (intOf i).toNat)
  case atStart => exact ⟨0, by omega, rfl, by intro x hx; omega, inferInstance⟩
  case round =>
    obtain ⟨k, hk, rfl, hno, hb⟩ := hrel
    by_cases hlt : k < xs.length
    · have e0 : Ext w0 wr := Ext.trans ‹Ext w0 w› hb
      obtain ⟨b, o, d, m, rfl, hc, hr, _⟩ := hx.at (w' := wr) hlt
      cases hp : p (row xs k) with
      | true =>
        replace hp := hid hp
        go_wp2_with fail
        refine (hf.out wr hb k hlt d m hr).mono ?_
        rw [hp.out]
        rintro e w1 ⟨rfl, hb1⟩
        go_wp2_with fail
        go_ret
        refine ⟨_, rfl, .inr ⟨by omega, ?_⟩, Ext.trans hb hb1⟩
        exact List.any_eq_true.2 ⟨_, row_mem hlt, hp.out⟩
      | false =>
        replace hp := hid hp
        go_wp2_with fail
        refine (hf.out wr hb k hlt d m hr).mono ?_
        rw [hp.out]
        rintro e w1 ⟨rfl, hb1⟩
        go_wp2_with fail
        go_roundw
        case rel =>
          refine ⟨k + 1, by omega, by go_num, ?_, Ext.trans hb hb1⟩
          intro j hj
          by_cases hjk : j = k
          · subst hjk; exact hp.out
          · exact hno.out j (by omega)
        case measure => simp [intOf]; omega
    · go_wp2
      go_ret
      refine ⟨_, rfl, .inl ⟨rfl, ?_⟩, hb⟩
      rw [List.any_eq_false]
      intro x hx
      obtain ⟨j, hj, rfl⟩ := mem_iff_row.1 hx
      rw [hno.out j (by omega)]
      simp
set_option maxHeartbeats 400000 in
set_option maxRecDepth 100000 in
theorem containsFuncRows_any {v : Value} {xs : List (List Int)} {w0 w : World} [Ext w0 w] (hx : IsRows w0 v xs) (id : Nat) (caps : Array Value) (p : List Int → Bool)
    (hcall : ∀ xa W, (callFunc id xa).run Try.prog W = .ok (.enter id xa) W)
    (hf : ∀ (W : World), Ext w W → ∀ k, k < xs.length → ∀ d m, IsInts w0 (.slice d (row xs k).length m) (row xs k) → Calls Try.prog id (#[.slice d (row xs k).length m] ++ caps) W fun e w' => e = .returned (.bool (p (row xs k))) ∧ Ext W w') :
    Calls Try.prog 68 #[v, .func (.func id) #[] caps] w fun e w' => e = .returned (.bool (xs.any p)) ∧ Ext w w' := by
  obtain ⟨a, c, rfl, la⟩ := hx.form
  go_enter Try.func68, Try.ntmps68
  replace hcall := hid hcall
  replace hf := hid hf
  go_wp2_with fail
  refine (indexFuncRows_any (w0 := w0) hx id caps p hcall.out hf.out).mono ?_
  rintro e w1 ⟨r, rfl, hr, hb⟩
  rcases hr with ⟨rfl, h⟩ | ⟨h0, h⟩
  · replace h := hid h
    go_wp2_with fail
    go_ret
    exact ⟨ret_bool h.out.symm, hb⟩
  · replace h := hid h
    go_wp2_with fail
    go_ret
    exact ⟨ret_bool h.out.symm, hb⟩
end Go.Proofs.Ytnlbjbnjjkilhaa

/- Regions that draw their order, whose last operation writes what they read: the condition on the world is not asked behind operations that wait for all others. -/
namespace Go.Proofs.Ytnlbjbnjjkilhaa
open Go
section
variable {P : Program} {ops : Array Oper} {Q : Exit → Act → World → Prop} {md : Region.Mode} {S : World → Prop} {X : Nat → Bool}

def wpAnyE (P : Program) (md : Region.Mode) (ops : Array Oper) (Q : Exit → Act → World → Prop) (S : World → Prop) (X : Nat → Bool) : Nat → Array Bool → Act → World → Prop
  | 0, listed, a, w => Region.ready md ops listed = [] ∧ Q .normal a w
  | fuel + 1, listed, a, w =>
    (Region.ready md ops listed = [] → Q .normal a w) ∧
    ∀ i ∈ Region.ready md ops listed, wpOp P ops Q i (fun a' w' => (X i = true ∨ S w') ∧ wpAnyE P md ops Q S X fuel (listed.setIfInBounds i true) a' w') a w
theorem wpAny_of_E : ∀ (fuel : Nat) (listed : Array Bool) (a : Act) (w : World), wpAnyE P md ops Q S X fuel listed a w → wpAny P md ops Q fuel listed a w
  | 0, _, _, _, h => h
  | fuel + 1, _, _, _, h => ⟨h.1, fun i hi => wpOp_mono (fun a' w' h' => wpAny_of_E fuel _ a' w' h'.2) (h.2 i hi)⟩
/-- whoever is free of the condition waits for i -/
def waitsB (md : Region.Mode) (ops : Array Oper) (X : Nat → Bool) (i : Nat) : Bool :=
  (List.range ops.size).all fun j => !X j || (j == i || match ops[j]? with | some o => o.after.toList.any (fun e => Region.binds md e && e.on == i) | none => true)
theorem waitsB_spec {i : Nat} (h : waitsB md ops X i = true) : ∀ j oj, ops[j]? = some oj → X j = true → j ≠ i → ∃ e ∈ oj.after, Region.binds md e = true ∧ e.on = i := by
  intro j oj hj hx hne
  have h1 := List.all_eq_true.1 h j (List.mem_range.2 (Array.getElem?_eq_some_iff.1 hj).1)
  simp only [hx, hj, Bool.not_true, Bool.false_or, Bool.or_eq_true, beq_iff_eq] at h1
  rcases h1 with h1 | h1
  · exact absurd h1 hne
  · obtain ⟨e, he, h2⟩ := List.any_eq_true.1 h1
    simp only [Bool.and_eq_true, beq_iff_eq] at h2
    exact ⟨e, Array.mem_toList_iff.1 he, h2.1, h2.2⟩
theorem wpAnyE_first {i : Nat} {oi : Oper} {v : Value} (hi : ops[i]? = some oi) (hsel : ∀ (j : Nat) (o : Oper) cs b, ops[j]? = some o → o.op ≠ .select cs b)
    (hQ : ∀ c a w, Q (.panic c) (a.put oi.dst v) w → Q (.panic c) a w) (hX : ∀ j oj, ops[j]? = some oj → X j = true → j ≠ i → ∃ e ∈ oj.after, Region.binds md e = true ∧ e.on = i) :
    ∀ (fuel : Nat) (listed : Array Bool) (a : Act) (w : World),
      (∀ j oj, ops[j]? = some oj → j ≠ i → listed.getD j true = false → (∀ e ∈ oj.after, Region.binds md e = true → e.on ≠ i) → oi.apart ops oj = true) →
      i ∈ Region.ready md ops listed → YieldsIf P ops S oi v a → S w →
      wpAnyE P md ops Q S X fuel (listed.setIfInBounds i true) (a.put oi.dst v) w → wpAnyE P md ops Q S X (fuel + 1) listed a w := by
  intro fuel
  induction fuel with
  | zero =>
    intro listed a w _ hr hy hS H
    refine ⟨fun h => (by rw [h] at hr; cases hr), fun j hj => ?_⟩
    by_cases hji : j = i
    · subst hji; exact hy.wpOp hi hS ⟨.inr hS, H⟩
    · have := ready_mono hj hji
      rw [H.1] at this
      cases this
  | succ fuel ih =>
    intro listed a w hfree hr hy hS H
    refine ⟨fun h => (by rw [h] at hr; cases hr), fun j hj => ?_⟩
    by_cases hji : j = i
    · subst hji; exact hy.wpOp hi hS ⟨.inr hS, H⟩
    · have h1 := H.2 j (ready_mono hj hji)
      obtain ⟨hjun, oj, hoj, hall⟩ := mem_ready.1 hj
      have hnot : ∀ e ∈ oj.after, Region.binds md e = true → e.on ≠ i := fun e he hb heq => by
        have h1 := hall e he hb
        have h0 := (mem_ready.1 hr).1
        rw [heq] at h1
        rcases Nat.lt_or_ge i listed.size with h' | h'
        · simp [h'] at h0 h1; rw [h0] at h1; cases h1
        · simp [Array.getElem?_eq_none h'] at h1
      have h2 := wpOp_putIf hoj (hfree j oj hoj hji hjun hnot) (fun cs b => hsel i oi cs b hi) (fun cs b => hsel j oj cs b hoj) hQ hy h1
      have hfree' : ∀ k ok, ops[k]? = some ok → k ≠ i → (listed.setIfInBounds j true).getD k true = false →
          (∀ e ∈ ok.after, Region.binds md e = true → e.on ≠ i) → oi.apart ops ok = true := fun k ok hk hki hun hno => by
        refine hfree k ok hk hki ?_ hno
        by_cases hjk : j = k
        · subst hjk; exact hjun
        · rw [getD_set_ne true hjk] at hun; exact hun
      refine wpOp_mono (fun a' w' h3 => ?_) h2
      have hSw : S w' := by
        rcases h3.2.1 with hx | hs
        · obtain ⟨e, he, hb, heq⟩ := hX j oj hoj hx hji
          exact absurd heq (hnot e he hb)
        · exact hs
      refine ⟨.inr hSw, ih (listed.setIfInBounds j true) a' w' hfree' (ready_mono hr (Ne.symm hji)) h3.1 hSw ?_⟩
      rw [Array.setIfInBounds_comm _ _ hji]
      exact h3.2.2
theorem wpAnyE_take {i : Nat} {oi : Oper} {v : Value} {fuel : Nat} {listed : Array Bool} {a : Act} {w : World} (hi : ops[i]? = some oi)
    (hs : Region.noSelect ops = true) (hf : Region.free md ops listed i = true) (hr : (Region.ready md ops listed).contains i = true)
    (hQ : ∀ c a w, Q (.panic c) (a.put oi.dst v) w → Q (.panic c) a w) (hy : YieldsIf P ops S oi v a) (hS : S w)
    (h : wpAnyE P md ops Q S X fuel (listed.setIfInBounds i true) (a.put oi.dst v) w) (hX : waitsB md ops X i = true := by kernel_rfl) : wpAnyE P md ops Q S X (fuel + 1) listed a w :=
  wpAnyE_first hi (Region.noSelect_spec hs) hQ (waitsB_spec hX) fuel listed a w (Region.free_spec hi hf) (by simpa using hr) hy hS h
def AllReadyE (P : Program) (md : Region.Mode) (ops : Array Oper) (Q : Exit → Act → World → Prop) (S : World → Prop) (X : Nat → Bool) (fuel : Nat) (listed : Array Bool) (a : Act) (w : World) (rs : List Nat) : Prop :=
  ∀ i ∈ rs, wpOp P ops Q i (fun a' w' => (X i = true ∨ S w') ∧ wpAnyE P md ops Q S X fuel (listed.setIfInBounds i true) a' w') a w
theorem AllReadyE.nil {fuel : Nat} {listed : Array Bool} {a : Act} {w : World} : AllReadyE P md ops Q S X fuel listed a w [] := fun _ h => by cases h
theorem AllReadyE.cons {fuel : Nat} {listed : Array Bool} {a : Act} {w : World} {i : Nat} {o : Oper} {rs : List Nat} (ho : ops[i]? = some o)
    (h : ∀ K' : Act → World → Prop, Shut (∀ a w, (X i = true ∨ S w) → ((X i = true ∨ S w) → wpAnyE P md ops Q S X fuel (listed.setIfInBounds i true) a w) → K' a w) → if Region.wanted o (yielded ops a.tmps) = true then Oper.wp P o a w K' Q else K' (a.put o.dst undef) w)
    (hs : AllReadyE P md ops Q S X fuel listed a w rs) : AllReadyE P md ops Q S X fuel listed a w (i :: rs) := fun j hj => by
  rcases List.mem_cons.1 hj with rfl | hj
  · exact wpOp_step ho (fun K' hK => h K' (fun a w hS hW => hK a w ⟨hS, hW hS⟩))
  · exact hs j hj
theorem wpAnyE_ready {rs : List Nat} {fuel : Nat} {listed : Array Bool} {a : Act} {w : World} (hr : Region.ready md ops listed = rs) (hne : rs ≠ [])
    (h : AllReadyE P md ops Q S X fuel listed a w rs) : wpAnyE P md ops Q S X (fuel + 1) listed a w :=
  ⟨fun h0 => absurd (hr ▸ h0) hne, hr ▸ h⟩
theorem wpAnyE_done {listed : Array Bool} {a : Act} {w : World} (hr : Region.ready md ops listed = []) (h : Q .normal a w) :
    ∀ fuel, wpAnyE P md ops Q S X fuel listed a w
  | 0 => ⟨hr, h⟩
  | _ + 1 => ⟨fun _ => h, by rw [hr]; simp⟩
theorem wp_region_E_drew {id : Nat} {a : Act} {w : World} (hm : P.follows .mixedOrders = true) (hS : S w.drew)
    (h : S w.drew → wpAnyE P .any ops Q S X ops.size (Array.replicate ops.size false) a w.drew) : (Code.region id ops true).wp P Q a w :=
  wp_region_any hm (wpAny_of_E _ _ _ _ (h hS))
end
end Go.Proofs.Ytnlbjbnjjkilhaa

/- As XEnd, with waiting in several steps: who is free of the condition waits, through others, for the operation that is taken. -/
namespace Go.Proofs.Ytnlbjbnjjkilhaa
open Go
section
variable {P : Program} {ops : Array Oper} {Q : Exit → Act → World → Prop} {md : Region.Mode} {S : World → Prop} {X : Nat → Bool}

def closedB (md : Region.Mode) (ops : Array Oper) (listed : Array Bool) : Bool :=
  (List.range ops.size).all fun j => !listed.getD j false || (match ops[j]? with | some o => o.after.toList.all (fun e => !Region.binds md e || listed.getD e.on false) | none => true)
def ClosedL (md : Region.Mode) (ops : Array Oper) (listed : Array Bool) : Prop :=
  ∀ j oj, ops[j]? = some oj → listed.getD j false = true → ∀ e ∈ oj.after, Region.binds md e = true → listed.getD e.on false = true
theorem closedB_spec {listed : Array Bool} (h : closedB md ops listed = true) : ClosedL md ops listed := by
  intro j oj hj hl e he hb
  have h1 := List.all_eq_true.1 h j (List.mem_range.2 (Array.getElem?_eq_some_iff.1 hj).1)
  simp only [hl, hj, Bool.not_true, Bool.false_or] at h1
  have h2 := List.all_eq_true.1 h1 e (Array.mem_toList_iff.2 he)
  simpa [hb] using h2
def reachB (md : Region.Mode) (ops : Array Oper) : Nat → Nat → Nat → Bool
  | 0, _, _ => false
  | n + 1, i, j => match ops[j]? with
    | some o => (o.after.toList.any fun e => Region.binds md e && e.on == i) || o.after.toList.any fun e => Region.binds md e && reachB md ops n i e.on
    | none => false
theorem reach_not {listed : Array Bool} {i : Nat} (hc : ClosedL md ops listed) (hi : ¬ listed.getD i false = true) : ∀ (n j : Nat), reachB md ops n i j = true → ¬ listed.getD j false = true
  | 0, _, h => by simp [reachB] at h
  | n + 1, j, h => by
    intro hl
    unfold reachB at h
    cases hj : ops[j]? with
    | none => rw [hj] at h; cases h
    | some o =>
      rw [hj] at h
      rw [Bool.or_eq_true] at h
      rcases h with h | h
      · obtain ⟨e, he, h2⟩ := List.any_eq_true.1 h
        rw [Bool.and_eq_true, beq_iff_eq] at h2
        have h3 := hc j o hj hl e (Array.mem_toList_iff.1 he) h2.1
        rw [h2.2] at h3; exact hi h3
      · obtain ⟨e, he, h2⟩ := List.any_eq_true.1 h
        rw [Bool.and_eq_true] at h2
        have h3 := hc j o hj hl e (Array.mem_toList_iff.1 he) h2.1
        exact reach_not hc hi n e.on h2.2 h3
theorem ready_unlisted {listed : Array Bool} {i : Nat} (h : listed.getD i true = false) : ¬ listed.getD i false = true := by
  intro h2
  rcases Nat.lt_or_ge i listed.size with h' | h'
  · simp [h'] at h h2
    rw [h] at h2; cases h2
  · simp [Array.getElem?_eq_none h'] at h2
theorem reach_blocks {listed : Array Bool} {i j n : Nat} (hc : ClosedL md ops listed) (hi : listed.getD i true = false) (hr : reachB md ops n i j = true) (hj : j ∈ Region.ready md ops listed) : False := by
  cases n with
  | zero => simp [reachB] at hr
  | succ n =>
    obtain ⟨_, o, ho, hall⟩ := mem_ready.1 hj
    unfold reachB at hr
    rw [ho] at hr
    rw [Bool.or_eq_true] at hr
    rcases hr with hr | hr
    · obtain ⟨e, he, h2⟩ := List.any_eq_true.1 hr
      rw [Bool.and_eq_true, beq_iff_eq] at h2
      have h3 := hall e (Array.mem_toList_iff.1 he) h2.1
      rw [h2.2] at h3; exact ready_unlisted hi h3
    · obtain ⟨e, he, h2⟩ := List.any_eq_true.1 hr
      rw [Bool.and_eq_true] at h2
      have h3 := hall e (Array.mem_toList_iff.1 he) h2.1
      exact reach_not hc (ready_unlisted hi) n e.on h2.2 h3
theorem closed_set {listed : Array Bool} {j : Nat} (hc : ClosedL md ops listed) (hj : j ∈ Region.ready md ops listed) : ClosedL md ops (listed.setIfInBounds j true) := by
  obtain ⟨hun, o, ho, hall⟩ := mem_ready.1 hj
  have hup : ∀ k, listed.getD k false = true → (listed.setIfInBounds j true).getD k false = true := fun k hk => by
    by_cases hjk : j = k
    · subst hjk; exact absurd hk (ready_unlisted hun)
    · rw [getD_set_ne false hjk]; exact hk
  intro k ok hk hl e he hb
  by_cases hjk : j = k
  · subst hjk
    rw [ho] at hk
    injection hk with hk
    subst hk
    exact hup _ (hall e he hb)
  · rw [getD_set_ne false hjk] at hl
    exact hup _ (hc k ok hk hl e he hb)
theorem wpAnyE_firstT {i : Nat} {oi : Oper} {v : Value} (hi : ops[i]? = some oi) (hsel : ∀ (j : Nat) (o : Oper) cs b, ops[j]? = some o → o.op ≠ .select cs b)
    (hQ : ∀ c a w, Q (.panic c) (a.put oi.dst v) w → Q (.panic c) a w) (hX : ∀ j oj, ops[j]? = some oj → X j = true → j ≠ i → reachB md ops ops.size i j = true) :
    ∀ (fuel : Nat) (listed : Array Bool) (a : Act) (w : World),
      (∀ j oj, ops[j]? = some oj → j ≠ i → listed.getD j true = false → (∀ e ∈ oj.after, Region.binds md e = true → e.on ≠ i) → oi.apart ops oj = true) →
      ClosedL md ops listed →
      i ∈ Region.ready md ops listed → YieldsIf P ops S oi v a → S w →
      wpAnyE P md ops Q S X fuel (listed.setIfInBounds i true) (a.put oi.dst v) w → wpAnyE P md ops Q S X (fuel + 1) listed a w := by
  intro fuel
  induction fuel with
  | zero =>
    intro listed a w _ _ hr hy hS H
    refine ⟨fun h => (by rw [h] at hr; cases hr), fun j hj => ?_⟩
    by_cases hji : j = i
    · subst hji; exact hy.wpOp hi hS ⟨.inr hS, H⟩
    · have := ready_mono hj hji
      rw [H.1] at this
      cases this
  | succ fuel ih =>
    intro listed a w hfree hcl hr hy hS H
    refine ⟨fun h => (by rw [h] at hr; cases hr), fun j hj => ?_⟩
    by_cases hji : j = i
    · subst hji; exact hy.wpOp hi hS ⟨.inr hS, H⟩
    · have h1 := H.2 j (ready_mono hj hji)
      obtain ⟨hjun, oj, hoj, hall⟩ := mem_ready.1 hj
      have hnot : ∀ e ∈ oj.after, Region.binds md e = true → e.on ≠ i := fun e he hb heq => by
        have h1 := hall e he hb
        have h0 := (mem_ready.1 hr).1
        rw [heq] at h1
        exact ready_unlisted h0 h1
      have h2 := wpOp_putIf hoj (hfree j oj hoj hji hjun hnot) (fun cs b => hsel i oi cs b hi) (fun cs b => hsel j oj cs b hoj) hQ hy h1
      have hfree' : ∀ k ok, ops[k]? = some ok → k ≠ i → (listed.setIfInBounds j true).getD k true = false →
          (∀ e ∈ ok.after, Region.binds md e = true → e.on ≠ i) → oi.apart ops ok = true := fun k ok hk hki hun hno => by
        refine hfree k ok hk hki ?_ hno
        by_cases hjk : j = k
        · subst hjk; exact hjun
        · rw [getD_set_ne true hjk] at hun; exact hun
      refine wpOp_mono (fun a' w' h3 => ?_) h2
      have hSw : S w' := by
        rcases h3.2.1 with hx | hs
        · exact absurd hj fun hj => reach_blocks hcl (mem_ready.1 hr).1 (hX j oj hoj hx hji) hj
        · exact hs
      refine ⟨.inr hSw, ih (listed.setIfInBounds j true) a' w' hfree' (closed_set hcl hj) (ready_mono hr (Ne.symm hji)) h3.1 hSw ?_⟩
      rw [Array.setIfInBounds_comm _ _ hji]
      exact h3.2.2
def waitsT (md : Region.Mode) (ops : Array Oper) (X : Nat → Bool) (i : Nat) : Bool := (List.range ops.size).all fun j => !X j || (j == i || reachB md ops ops.size i j)
theorem wpAnyE_takeT {i : Nat} {oi : Oper} {v : Value} {fuel : Nat} {listed : Array Bool} {a : Act} {w : World} (hi : ops[i]? = some oi)
    (hs : Region.noSelect ops = true) (hf : Region.free md ops listed i = true) (hr : (Region.ready md ops listed).contains i = true)
    (hQ : ∀ c a w, Q (.panic c) (a.put oi.dst v) w → Q (.panic c) a w) (hy : YieldsIf P ops S oi v a) (hS : S w)
    (h : wpAnyE P md ops Q S X fuel (listed.setIfInBounds i true) (a.put oi.dst v) w) (hX : waitsT md ops X i = true := by kernel_rfl) (hcl : closedB md ops listed = true := by kernel_rfl) : wpAnyE P md ops Q S X (fuel + 1) listed a w :=
  wpAnyE_firstT hi (Region.noSelect_spec hs) hQ (fun j oj hj hx hne => by
    have h1 := List.all_eq_true.1 hX j (List.mem_range.2 (Array.getElem?_eq_some_iff.1 hj).1)
    simp only [hx, Bool.not_true, Bool.false_or, Bool.or_eq_true, beq_iff_eq] at h1
    exact h1.resolve_left hne) fuel listed a w (Region.free_spec hi hf) (closedB_spec hcl) (by simpa using hr) hy hS h
end
end Go.Proofs.Ytnlbjbnjjkilhaa

/- The reference's tests of a metric and a problem. -/
namespace Go.Proofs.Ytnlbjbnjjkilhaa
open Go.RowKit

/-- whether a number lies in a range -/
def inB (x a b : Int) : Bool := decide (a ≤ x ∧ x ≤ b)
theorem inB_true {x a b : Int} : inB x a b = true ↔ a ≤ x ∧ x ≤ b := by simp [inB]
theorem inB_false {x a b : Int} : inB x a b = false ↔ ¬ (a ≤ x ∧ x ≤ b) := by rw [← inB_true, Bool.not_eq_true]
theorem inB_ge {x a b : Int} (h1 : a ≤ x) : inB x a b = decide (x ≤ b) := by simp [inB, h1]
theorem inB_lt {x a b : Int} (h1 : ¬ a ≤ x) : inB x a b = false := by simp [inB, h1]
set_option maxHeartbeats 400000 in
theorem l1In_any (x a b : Int) (w : World) :
    Calls Try.prog 28 #[.int .i64 x, .int .i64 a, .int .i64 b] w fun e w' => e = .returned (.bool (inB x a b)) ∧ w = w' := by
  by_cases h1 : a ≤ x
  · have hr := hid (inB_ge (b := b) h1)
    go_enter Try.func28, Try.ntmps28
    go_wp2
    go_ret
    exact ⟨ret_bool hr.out.symm, rfl⟩
  · have hr := hid (inB_lt (b := b) h1)
    have h1' : x < a := by omega
    clear h1
    go_enter Try.func28, Try.ntmps28
    go_wp2
    go_ret
    exact ⟨ret_bool hr.out.symm, rfl⟩
/-- the cell of a table -/
def cell (M : List (List Int)) (x y : Nat) : Int := nth (row M x) y
/-- whether a cell of a table is right -/
def cellOk (M : List (List Int)) (x y : Nat) : Bool := decide (cell M x y = cell M y x) && (if x = y then decide (cell M x y = 0) else inB (cell M x y) 1 99)
def square (M : List (List Int)) : Bool := decide (∀ r ∈ M, r.length = M.length)
def cellsOk (M : List (List Int)) : Bool := decide (∀ x, x < M.length → ∀ y, y < M.length → cellOk M x y = true)
def tableB (M : List (List Int)) : Bool := inB M.length 1 6 && square M && cellsOk M
theorem square_row {M : List (List Int)} (h : square M = true) {x : Nat} (hx : x < M.length) : (row M x).length = M.length := by
  simp only [square, decide_eq_true_eq] at h
  exact h _ (row_mem hx)
theorem square_not {M : List (List Int)} {x : Nat} (hx : x < M.length) (h : (row M x).length ≠ M.length) : square M = false := by
  rw [Bool.eq_false_iff]
  intro h'
  exact h (square_row h' hx)
theorem square_of {M : List (List Int)} (h : ∀ x, x < M.length → (row M x).length = M.length) : square M = true := by
  simp only [square, decide_eq_true_eq]
  intro r hr
  obtain ⟨k, hk, rfl⟩ := mem_iff_row.1 hr
  exact h k hk
theorem cellsOk_not {M : List (List Int)} {x y : Nat} (hx : x < M.length) (hy : y < M.length) (h : cellOk M x y = false) : cellsOk M = false := by
  rw [Bool.eq_false_iff]
  intro h'
  simp only [cellsOk, decide_eq_true_eq] at h'
  rw [h' x hx y hy] at h
  cases h
/-- A value that reads as a metric of distances M. -/
def IsMet (w : World) (v : Value) (M : List (List Int)) : Prop := ∃ v1, v = .agg #[v1] ∧ IsRows w v1 M
set_option maxHeartbeats 1000000 in
set_option maxRecDepth 100000 in
theorem l6Table_any {v : Value} {M : List (List Int)} {w0 w : World} [Ext w0 w] (hm : IsMet w0 v M) :
    Calls Try.prog 61 #[v, .bool false] w fun e w' => e = .returned (.bool (tableB M)) ∧ Ext w w' := by
  obtain ⟨v1, rfl, hM⟩ := hm
  obtain ⟨a, c, rfl, la⟩ := hM.form
  cases hn : inB M.length 1 6 with
  | false =>
    have hr := hid (show tableB M = false by rw [tableB, hn]; rfl)
    replace hn := hid hn
    go_enter Try.func61, Try.ntmps61
    go_wp2_with (go_at_call 28; refine (l1In_any _ _ _ _).mono ?_; rw [hn.out]; rintro e w' ⟨rfl, rfl⟩)
    go_ret
    exact ⟨ret_bool hr.out.symm, inferInstance⟩
  | true =>
    have hlen := inB_true.1 hn
    replace hn := hid hn
    go_enter Try.func61, Try.ntmps61
    go_wp2_with fail
    generalize hW : w.alloc (.cells #[.slice a M.length c] 29) = W
    have eW : Ext w W := hW ▸ inferInstance
    have e0 : Ext w0 W := Ext.trans ‹Ext w0 w› eW
    have hbx : W.cell? ⟨w.heap.size, 0, none⟩ = some (.slice a M.length c) := by subst hW; go_simp
    clear hW
    go_wp2_with (go_at_call 28; refine (l1In_any _ _ _ _).mono ?_; rw [hn.out]; rintro e w' ⟨rfl, rfl⟩)
    go_loop [6] (fun i => ∃ k : Nat, k ≤ M.length ∧ i = .int .i64 k ∧ Hid (∀ x, x < k → (row M x).length = M.length)) (fun i => M.length - (intOf i).toNat)
    case atStart => exact ⟨0, by omega, rfl, by intro x hx; omega⟩
    case round =>
      obtain ⟨k, hk, rfl, hrows⟩ := hrel
      by_cases hlt : k < M.length
      · obtain ⟨b1, o1, d1, m1, rfl, hc1, hr1, _⟩ := hM.at (w' := W) hlt
        by_cases hl : (row M k).length = M.length
        · have hl1 : (((row M k).length : Int) != M.length) = false := by simp [hl]
          replace hl := hid hl
          go_wp2
          go_round
          case rel =>
            refine ⟨k + 1, by omega, by go_num, ?_⟩
            intro x hx
            by_cases hxk : x = k
            · subst hxk; exact hl.out
            · exact hrows.out x (by omega)
          case measure => simp [intOf]; omega
        · have hl1 : (((row M k).length : Int) != M.length) = true := by simp; omega
          have hr := hid (show tableB M = false by rw [tableB, square_not hlt hl]; simp)
          replace hl := hid hl
          go_wp2
          go_ret
          exact ⟨ret_bool hr.out.symm, eW⟩
      · have hsq := hid (square_of fun x hx => hrows.out x (by omega))
        go_wp2
        go_loop [7, 8, 9] (fun i _ _ => ∃ x : Nat, x ≤ M.length ∧ i = .int .i64 x ∧ Hid (∀ x', x' < x → ∀ y, y < M.length → cellOk M x' y = true)) (fun i _ _ => M.length - (intOf i).toNat)
        case atStart => exact ⟨0, by omega, rfl, by intro x hx; omega⟩
        case round =>
          obtain ⟨x, hx, rfl, hcells⟩ := hrel
          by_cases hltx : x < M.length
          · go_wp2
            go_loop [8, 9] (fun i _ => ∃ y : Nat, y ≤ M.length ∧ i = .int .i64 y ∧ Hid (∀ y', y' < y → cellOk M x y' = true)) (fun i _ => M.length - (intOf i).toNat)
            case atStart => exact ⟨0, by omega, rfl, by intro x hx; omega⟩
            case round =>
              obtain ⟨y, hy, rfl, hcy⟩ := hrel
              by_cases hlty : y < M.length
              · obtain ⟨b1, o1, d1, m1, rfl, hc1, hr1, _⟩ := hM.at (w' := W) hltx
                obtain ⟨b2, o2, d2, m2, hq, hc2, hr2, _⟩ := hM.at (w' := W) hlty
                cases hq
                have hl1 := square_row hsq.out hltx
                have hl2 := square_row hsq.out hlty
                rw [hl1] at hr1 hc1
                rw [hl2] at hr2 hc2
                obtain ⟨b3, o3, rfl, hc3⟩ := hr1.at (w' := W) (k := y) (by omega)
                obtain ⟨b4, o4, rfl, hc4⟩ := hr2.at (w' := W) (k := x) (by omega)
                replace hl1 := hid hl1
                replace hl2 := hid hl2
                by_cases h1 : nth (row M x) y = nth (row M y) x
                · have h1' : (nth (row M x) y != nth (row M y) x) = false := by simp [h1]
                  by_cases h2 : x = y
                  · by_cases h3 : nth (row M x) y = 0
                    · have hok := hid (show cellOk M x y = true by simp [cellOk, cell, h2]; rw [← h2]; rw [← h2] at h3; exact h3)
                      have h3' : (nth (row M x) y != 0) = false := by simp [h3]
                      have h2' : ((x : Int) == (y : Int)) = true := by simp [h2]
                      have h2'' : ((x : Int) != (y : Int)) = false := by simp [h2]
                      clear h1 h2 h3
                      go_wp2
                      go_round
                      case rel =>
                        refine ⟨y + 1, by omega, by go_num, ?_⟩
                        intro y' hy'
                        by_cases hyy : y' = y
                        · subst hyy; exact hok.out
                        · exact hcy.out y' (by omega)
                      case measure => simp [intOf]; omega
                    · have hok := hid (show cellOk M x y = false by simp [cellOk, cell, h2]; rw [← h2]; rw [← h2] at h3; exact h3)
                      have h3' : (nth (row M x) y != 0) = true := by simp [h3]
                      have h2' : ((x : Int) == (y : Int)) = true := by simp [h2]
                      have h2'' : ((x : Int) != (y : Int)) = false := by simp [h2]
                      clear h1 h2 h3
                      go_wp2
                      go_ret
                      exact ⟨ret_bool (by rw [tableB, cellsOk_not hltx hlty hok.out]; simp), eW⟩
                  · have h2' : ((x : Int) == (y : Int)) = false := by simp; omega
                    have h2'' : ((x : Int) != (y : Int)) = true := by simp; omega
                    cases hin : inB (nth (row M x) y) 1 99 with
                    | true =>
                      have hok := hid (show cellOk M x y = true by simp [cellOk, cell, h2, hin, h1.symm])
                      clear h1 h2
                      replace hin := hid hin
                      go_wp2_with (go_at_call 28; refine (l1In_any _ _ _ _).mono ?_; rw [hin.out]; rintro e w' ⟨rfl, rfl⟩)
                      go_round
                      case rel =>
                        refine ⟨y + 1, by omega, by go_num, ?_⟩
                        intro y' hy'
                        by_cases hyy : y' = y
                        · subst hyy; exact hok.out
                        · exact hcy.out y' (by omega)
                      case measure => simp [intOf]; omega
                    | false =>
                      have hok := hid (show cellOk M x y = false by simp [cellOk, cell, h2, hin])
                      clear h1 h2
                      replace hin := hid hin
                      go_wp2_with (go_at_call 28; refine (l1In_any _ _ _ _).mono ?_; rw [hin.out]; rintro e w' ⟨rfl, rfl⟩)
                      go_ret
                      exact ⟨ret_bool (by rw [tableB, cellsOk_not hltx hlty hok.out]; simp), eW⟩
                · have h1' : (nth (row M x) y != nth (row M y) x) = true := by simp [h1]
                  have hok := hid (show cellOk M x y = false by simp [cellOk, cell, h1])
                  clear h1
                  go_wp2
                  go_ret
                  exact ⟨ret_bool (by rw [tableB, cellsOk_not hltx hlty hok.out]; simp), eW⟩
              · go_wp2
                go_round
                case rel =>
                  refine ⟨x + 1, by omega, by go_num, ?_⟩
                  intro x' hx' y' hy'
                  by_cases hxx : x' = x
                  · subst hxx; exact hcy.out y' (by omega)
                  · exact hcells.out x' (by omega) y' hy'
                case measure => simp [intOf]; omega
          · go_wp2
            go_ret
            have hcs : cellsOk M = true := by
              simp only [cellsOk, decide_eq_true_eq]
              exact fun x' hx' y hy => hcells.out x' (by omega) y hy
            exact ⟨ret_bool (by rw [tableB, hn.out, hsq.out, hcs]; rfl), eW⟩
end Go.Proofs.Ytnlbjbnjjkilhaa

/- The reference's search for a detour; its tests of a metric and a problem, whole. -/
namespace Go.Proofs.Ytnlbjbnjjkilhaa
open Go.RowKit

def detourAt (M : List (List Int)) (x y z : Nat) : Bool := decide (cell M x y + cell M y z < cell M x z)
abbrev NoDetour (M : List (List Int)) : Prop := ∀ x, x < M.length → ∀ y, y < M.length → ∀ z, z < M.length → detourAt M x y z = false
/-- what is known of the first detour -/
def FirstDet (M : List (List Int)) (xs : List Int) : Prop :=
  (NoDetour M ∧ xs = []) ∨ ∃ x y z : Nat, x < M.length ∧ y < M.length ∧ z < M.length ∧ detourAt M x y z = true ∧ xs = [(x : Int), (y : Int), (z : Int)] ∧
    (∀ x', x' < x → ∀ y', y' < M.length → ∀ z', z' < M.length → detourAt M x' y' z' = false) ∧ (∀ y', y' < y → ∀ z', z' < M.length → detourAt M x y' z' = false) ∧ (∀ z', z' < z → detourAt M x y z' = false)
theorem tableB_square {M : List (List Int)} (h : tableB M = true) : square M = true := by
  simp only [tableB, Bool.and_eq_true] at h; exact h.1.2
theorem tableB_len {M : List (List Int)} (h : tableB M = true) : 1 ≤ M.length ∧ M.length ≤ 6 := by
  simp only [tableB, Bool.and_eq_true] at h
  have := inB_true.1 h.1.1
  omega
theorem tableB_cell {M : List (List Int)} (h : tableB M = true) {x y : Nat} (hx : x < M.length) (hy : y < M.length) : 0 ≤ cell M x y ∧ cell M x y ≤ 99 := by
  simp only [tableB, Bool.and_eq_true, cellsOk, decide_eq_true_eq] at h
  have h1 := h.2 x hx y hy
  simp only [cellOk, Bool.and_eq_true, decide_eq_true_eq] at h1
  obtain ⟨_, h2⟩ := h1
  split at h2
  · rw [decide_eq_true_eq] at h2; omega
  · have := inB_true.1 h2; omega
/-- Row x of a table, its cell y: where it lies. -/
theorem IsRows.cellAt {w w' : World} {b o c n : Nat} {M : List (List Int)} (h : IsRows w (.slice (some ⟨b, o, none⟩) n c) M) (hs : square M = true) [e : Ext w w'] {x y : Nat} (hx : x < M.length) (hy : y < M.length) :
    ∃ d p m, w'.cell? ⟨b, o + x, none⟩ = some (.slice (some ⟨d, p, none⟩) M.length m) ∧ w'.cell? ⟨d, p + y, none⟩ = some (.int .i64 (cell M x y)) ∧ (∀ y', y' < M.length → w'.cell? ⟨d, p + y', none⟩ = some (.int .i64 (cell M x y'))) := by
  obtain ⟨b1, o1, d1, m1, h1, hc1, hr1, _⟩ := h.at (w' := w') hx
  cases h1
  have hl := square_row hs hx
  rw [hl] at hr1 hc1
  obtain ⟨d, p, rfl, hc2⟩ := hr1.at (w' := w') (k := y) (by omega)
  refine ⟨d, p, m1, hc1, hc2, fun y' hy' => ?_⟩
  obtain ⟨d', p', h2, hc3⟩ := hr1.at (w' := w') (k := y') (by omega)
  cases h2
  exact hc3
set_option maxHeartbeats 1000000 in
set_option maxRecDepth 100000 in
theorem l6Detour_any {v : Value} {M : List (List Int)} {w0 w : World} [Ext w0 w] (hm : IsMet w0 v M) (ht : tableB M = true) :
    Calls Try.prog 62 #[v] w fun e w' => ∃ d m xs, e = .returned (.slice d xs.length m) ∧ FirstDet M xs ∧ Own w' w.heap.size [intRowOf 3 (.slice d xs.length m) xs] ∧ Ext w w' := by
  obtain ⟨v1, rfl, hM⟩ := hm
  obtain ⟨a, c, rfl, la⟩ := hM.form
  obtain ⟨hl0, hl6⟩ := tableB_len ht
  obtain ⟨b, o, rfl, _⟩ : ∃ b o, a = some ⟨b, o, none⟩ ∧ True := by
    obtain ⟨b, o, _, _, h, _⟩ := hM.at (w' := w0) (k := 0) (by omega)
    exact ⟨b, o, h, trivial⟩
  have hsq := hid (tableB_square ht)
  have HT := hid ht
  clear ht
  go_enter Try.func62, Try.ntmps62
  go_wp2
  go_loopw [4, 5, 6] (fun i _ _ wr => ∃ x : Nat, x ≤ M.length ∧ i = .int .i64 x ∧ Hid (∀ x', x' < x → ∀ y', y' < M.length → ∀ z', z' < M.length → detourAt M x' y' z' = false) ∧ Drew (w.alloc (.cells #[.slice (some ⟨b, o, none⟩) M.length c] 29)) wr) (fun i _ _ _ => M.length - (intOf i).toNat)
  case atStart => exact ⟨0, by omega, rfl, by intro x hx; omega, Drew.refl _⟩
  case round =>
    obtain ⟨x, hx, rfl, hbx, hd⟩ := hrel
    by_cases hltx : x < M.length
    · go_wp2
      obtain ⟨wo, rfl⟩ : ∃ wo : World, wo = wr := ⟨_, rfl⟩
      go_loopw [5, 6] (fun i _ wr => ∃ y : Nat, y ≤ M.length ∧ i = .int .i64 y ∧ Hid (∀ y', y' < y → ∀ z', z' < M.length → detourAt M x y' z' = false) ∧ Drew (w.alloc (.cells #[.slice (some ⟨b, o, none⟩) M.length c] 29)) wr) (fun i _ _ => M.length - (intOf i).toNat)
      case atStart => exact ⟨0, by omega, rfl, by intro x hx; omega, hd⟩
      case round =>
        obtain ⟨y, hy, rfl, hby, hd⟩ := hrel
        by_cases hlty : y < M.length
        · go_wp2
          obtain ⟨wo2, rfl⟩ : ∃ wo : World, wo = wr := ⟨_, rfl⟩
          go_loopw [6] (fun i wr => ∃ z : Nat, z ≤ M.length ∧ i = .int .i64 z ∧ Hid (∀ z', z' < z → detourAt M x y z' = false) ∧ Drew (w.alloc (.cells #[.slice (some ⟨b, o, none⟩) M.length c] 29)) wr) (fun i _ => M.length - (intOf i).toNat)
          case atStart => exact ⟨0, by omega, rfl, by intro x hx; omega, hd⟩
          case round =>
            obtain ⟨z, hz, rfl, hbz, hd⟩ := hrel
            by_cases hltz : z < M.length
            · have e1 : Ext w wr := Ext.trans inferInstance hd.ext
              have e0 : Ext w0 wr := Ext.trans ‹Ext w0 w› e1
              have hbox : wr.cell? ⟨w.heap.size, 0, none⟩ = some (.slice (some ⟨b, o, none⟩) M.length c) := hd.ext.cell (by go_simp)
              obtain ⟨d1, p1, m1, hc1, hc2, hall⟩ := hM.cellAt (w' := wr) hsq.out hltx hltz
              have hc3 := hall y hlty
              obtain ⟨d2, p2, m2, hc4, hc5, _⟩ := hM.cellAt (w' := wr) hsq.out hlty hltz
              have b1 := tableB_cell HT.out hltx hltz
              have b2 := tableB_cell HT.out hltx hlty
              have b3 := tableB_cell HT.out hlty hltz
              clear hall
              by_cases hbad : cell M x y + cell M y z < cell M x z
              · have hdet := hid (show detourAt M x y z = true by simp [detourAt, hbad])
                go_wp2_with (go_quiet (fail))
                go_ret
                refine ⟨_, _, [(x : Int), (y : Int), (z : Int)], rfl, .inr ⟨x, y, z, hltx, hlty, hltz, hdet.out, rfl, hbx.out, hby.out, hbz.out⟩, ?_, ?_⟩
                · exact Own.litInts (by simpa using e1.size) rfl rfl (by simp) rfl
                · infer_instance
              · have hdet := hid (show detourAt M x y z = false by simp [detourAt, hbad])
                have hbad' : decide (cell M x y + cell M y z < cell M x z) = false := by simpa using hbad
                go_wp2_with (go_quiet (fail))
                go_roundw
                case rel =>
                  refine ⟨z + 1, by omega, by go_num, ?_, hd.step _⟩
                  intro z' hz'
                  by_cases hzz : z' = z
                  · subst hzz; exact hdet.out
                  · exact hbz.out z' (by omega)
                case measure => simp [intOf]; omega
            · go_wp2
              go_roundw
              case rel =>
                refine ⟨y + 1, by omega, by go_num, ?_, hd⟩
                intro y' hy' z' hz'
                by_cases hyy : y' = y
                · subst hyy; exact hbz.out z' (by omega)
                · exact hby.out y' (by omega) z' hz'
              case measure => simp [intOf]; omega
        · go_wp2
          go_roundw
          case rel =>
            refine ⟨x + 1, by omega, by go_num, ?_, hd⟩
            intro x' hx' y' hy' z' hz'
            by_cases hxx : x' = x
            · subst hxx; exact hby.out y' (by omega) z' hz'
            · exact hbx.out x' (by omega) y' hy' z' hz'
          case measure => simp [intOf]; omega
    · go_wp2
      go_ret
      have e1 : Ext w wr := Ext.trans inferInstance hd.ext
      refine ⟨_, _, [], rfl, .inl ⟨fun x' hx' => hbx.out x' (by omega), rfl⟩, ?_, ?_⟩
      · exact Own.litInts e1.size rfl rfl (by simp) rfl
      · infer_instance
/-- whether distances are a metric -/
def NoDetB (M : List (List Int)) : Bool := decide (NoDetour M)
def metB (M : List (List Int)) : Bool := tableB M && NoDetB M
theorem NoDetB_of {M : List (List Int)} {xs : List Int} (h : FirstDet M xs) : NoDetB M = decide (xs = []) := by
  rcases h with ⟨h1, h2⟩ | ⟨x, y, z, hx, hy, hz, h1, h2, _⟩
  · rw [h2, NoDetB, decide_eq_true h1]; rfl
  · rw [decide_eq_false (by rw [h2]; simp), NoDetB, decide_eq_false]
    intro h
    rw [h x hx y hy z hz] at h1
    cases h1
set_option maxHeartbeats 400000 in
theorem l6Good_any {v : Value} {M : List (List Int)} {w0 w : World} [Ext w0 w] (hm : IsMet w0 v M) :
    Calls Try.prog 37 #[v] w fun e w' => e = .returned (.bool (metB M)) ∧ Ext w w' := by
  have hm' := hm
  obtain ⟨v1, rfl, hM⟩ := hm
  obtain ⟨a, c, rfl, la⟩ := hM.form
  cases ht : tableB M with
  | false =>
    have hr := hid (show metB M = false by rw [metB, ht]; rfl)
    replace ht := hid ht
    go_enter Try.func37, Try.ntmps37
    go_wp2_with (go_at_call 61; refine (l6Table_any (w0 := w0) hm').mono ?_; rw [ht.out]; rintro e w' ⟨rfl, hb⟩)
    go_ret
    exact ⟨ret_bool hr.out.symm, Ext.trans inferInstance hb⟩
  | true =>
    replace ht := hid ht
    go_enter Try.func37, Try.ntmps37
    go_wp2_with fail
    refine (l6Table_any (w0 := w0) hm').mono ?_
    rw [ht.out]
    rintro e w1 ⟨rfl, hb1⟩
    have c1 : w1.cell? ⟨w.heap.size, 0, none⟩ = some (.slice a M.length c) := hb1.cell (by go_simp)
    have e1 : Ext w w1 := Ext.trans inferInstance hb1
    have e0 : Ext w0 w1 := Ext.trans ‹Ext w0 w› e1
    go_wp2_with fail
    refine (l6Detour_any (w0 := w0) hm' ht.out).mono ?_
    rintro e w2 ⟨d, m, xs, rfl, hdet, _, hb2⟩
    have e2 : Ext w w2 := Ext.trans e1 hb2
    have hN := hid (NoDetB_of hdet)
    cases xs with
    | nil =>
      go_wp2_with fail
      go_ret
      exact ⟨ret_bool (by rw [metB, ht.out, hN.out]; rfl), e2⟩
    | cons x xs =>
      have h0 : (((x :: xs).length : Int) == 0) = false := by simp; omega
      go_wp2_with fail
      go_ret
      exact ⟨ret_bool (by rw [metB, ht.out, hN.out]; simp; omega), e2⟩
end Go.Proofs.Ytnlbjbnjjkilhaa

/- The program's tests of a metric. -/
namespace Go.Proofs.Ytnlbjbnjjkilhaa
open Go.RowKit

set_option maxHeartbeats 400000 in
theorem within_any (x a b : Int) (w : World) :
    Calls Try.prog 24 #[.int .i64 x, .int .i64 a, .int .i64 b] w fun e w' => e = .returned (.bool (inB x a b)) ∧ w = w' := by
  by_cases h1 : a ≤ x
  · have hr := hid (inB_ge (b := b) h1)
    go_enter Try.func24, Try.ntmps24
    go_wp2
    go_ret
    exact ⟨ret_bool hr.out.symm, rfl⟩
  · have hr := hid (inB_lt (b := b) h1)
    have h1' : x < a := by omega
    clear h1
    go_enter Try.func24, Try.ntmps24
    go_wp2
    go_ret
    exact ⟨ret_bool hr.out.symm, rfl⟩
/-- whether a number is another one -/
def neB (a b : Int) : Bool := a != b
theorem neB_false {a b : Int} : neB a b = false ↔ a = b := by simp [neB]
set_option maxHeartbeats 400000 in
theorem isTable1_any {v : Value} {r : List Int} {n : Int} {B : Nat} {w0 w : World} [Ext w0 w] (hr : IsInts w0 v r) (hn : w.cell? ⟨B, 0, none⟩ = some (.int .i64 n)) :
    Calls Try.prog 69 #[v, .pointer (some ⟨B, 0, none⟩)] w fun e w' => e = .returned (.bool (neB r.length n)) ∧ w = w' := by
  obtain ⟨a, c, rfl, la⟩ := hr.form
  go_enter Try.func69, Try.ntmps69
  go_wp2
  go_ret
  exact ⟨rfl, rfl⟩
theorem isTable1_call (xa : Array Value) (W : World) : (callFunc 69 xa).run Try.prog W = .ok (.enter 69 xa) W := by kernel_rfl
theorem isTable1_all {M : List (List Int)} {n : Int} {B : Nat} {w0 w : World} [Ext w0 w] (hn : w.cell? ⟨B, 0, none⟩ = some (.int .i64 n)) :
    ∀ (W : World), Ext w W → ∀ k, k < M.length → ∀ d m, IsInts w0 (.slice d (row M k).length m) (row M k) →
      Calls Try.prog 69 (#[.slice d (row M k).length m] ++ #[.pointer (some ⟨B, 0, none⟩)]) W fun e w' => e = .returned (.bool ((fun r => neB r.length n) (row M k))) ∧ Ext W w' := by
  intro W hW k hk d m hrow
  have e0 : Ext w0 W := Ext.trans ‹Ext w0 w› hW
  refine (isTable1_any (w0 := w0) hrow (hW.cell hn)).mono ?_
  rintro e w' ⟨rfl, rfl⟩
  exact ⟨rfl, Ext.refl _⟩
theorem square_any (M : List (List Int)) : M.any (fun r => neB r.length M.length) = !square M := by
  rw [Bool.eq_iff_iff, Bool.not_eq_true', List.any_eq_true]
  constructor
  · rintro ⟨r, hr, h⟩
    obtain ⟨k, hk, rfl⟩ := mem_iff_row.1 hr
    refine square_not hk fun h' => ?_
    rw [neB_false.2 (by omega)] at h
    cases h
  · intro h
    simp only [square, decide_eq_false_iff_not] at h
    have h' : ∃ r ∈ M, ¬ r.length = M.length := by
      apply Classical.byContradiction
      intro h2
      exact h fun r hr => Classical.byContradiction fun h3 => h2 ⟨r, hr, h3⟩
    obtain ⟨r, hr, h3⟩ := h'
    refine ⟨r, hr, ?_⟩
    cases hb : neB r.length M.length with
    | true => rfl
    | false => have := neB_false.1 hb; omega
set_option maxHeartbeats 1600000 in
set_option maxRecDepth 100000 in
theorem isTable_any {v : Value} {M : List (List Int)} {w0 w : World} [Ext w0 w] (hm : IsMet w0 v M) :
    Calls Try.prog 49 #[v, .bool false] w fun e w' => e = .returned (.bool (tableB M)) ∧ Ext w w' := by
  obtain ⟨v1, rfl, hM⟩ := hm
  obtain ⟨a, c, rfl, la⟩ := hM.form
  cases hn : inB M.length 1 6 with
  | false =>
    have hr := hid (show tableB M = false by rw [tableB, hn]; rfl)
    replace hn := hid hn
    go_enter Try.func49, Try.ntmps49
    go_wp2_with (go_at_call 24; refine (within_any _ _ _ _).mono ?_; rw [hn.out]; rintro e w' ⟨rfl, rfl⟩)
    go_ret
    exact ⟨ret_bool hr.out.symm, inferInstance⟩
  | true =>
    have hlen := inB_true.1 hn
    replace hn := hid hn
    cases hsq : square M with
    | false =>
      have hr := hid (show tableB M = false by rw [tableB, hsq]; simp)
      have hs := hid (square_any M)
      replace hsq := hid hsq
      go_enter Try.func49, Try.ntmps49
      go_wp2_with fail
      refine (within_any _ _ _ _).mono ?_; rw [hn.out]; rintro e w' ⟨rfl, rfl⟩
      go_wp2_with fail
      generalize hW : (w.alloc (.cells #[.slice a M.length c] 29)).alloc (.cells #[.int .i64 M.length] 3) = W1
      have e1 : Ext w W1 := hW ▸ inferInstance
      have x0 : W1.cell? ⟨w.heap.size, 0, none⟩ = some (.slice a M.length c) := by subst hW; go_simp
      have xn : W1.cell? ⟨w.heap.size + 1, 0, none⟩ = some (.int .i64 M.length) := by subst hW; go_simp
      clear hW
      have e01 : Ext w0 W1 := Ext.trans ‹Ext w0 w› e1
      refine (containsFuncRows_any (w0 := w0) hM _ _ (fun r => neB r.length M.length) isTable1_call (isTable1_all xn)).mono ?_
      rw [hs.out, hsq.out]
      rintro e w2 ⟨rfl, hb⟩
      go_wp2_with fail
      go_ret
      exact ⟨ret_bool hr.out.symm, Ext.trans e1 hb⟩
    | true =>
      have hs := hid (square_any M)
      replace hsq := hid hsq
      go_enter Try.func49, Try.ntmps49
      go_wp2_with fail
      refine (within_any _ _ _ _).mono ?_; rw [hn.out]; rintro e w' ⟨rfl, rfl⟩
      go_wp2_with fail
      generalize hW : (w.alloc (.cells #[.slice a M.length c] 29)).alloc (.cells #[.int .i64 M.length] 3) = W1
      have e1 : Ext w W1 := hW ▸ inferInstance
      have x0 : W1.cell? ⟨w.heap.size, 0, none⟩ = some (.slice a M.length c) := by subst hW; go_simp
      have xn : W1.cell? ⟨w.heap.size + 1, 0, none⟩ = some (.int .i64 M.length) := by subst hW; go_simp
      clear hW
      have e01 : Ext w0 W1 := Ext.trans ‹Ext w0 w› e1
      refine (containsFuncRows_any (w0 := w0) hM _ _ (fun r => neB r.length M.length) isTable1_call (isTable1_all xn)).mono ?_
      rw [hs.out, hsq.out]
      rintro e w2 ⟨rfl, hb⟩
      replace x0 := hb.cell x0
      replace xn := hb.cell xn
      have e2 : Ext w w2 := Ext.trans e1 hb
      have e0 : Ext w0 w2 := Ext.trans ‹Ext w0 w› e2
      clear hb
      obtain ⟨b, o, rfl, _⟩ : ∃ b o, a = some ⟨b, o, none⟩ ∧ True := by
        obtain ⟨b, o, _, _, h, _⟩ := hM.at (w' := w0) (k := 0) (by omega)
        exact ⟨b, o, h, trivial⟩
      go_wp2_with fail
      go_loop [6, 7, 8, 22] (fun _ _ _ i => ∃ x : Nat, x ≤ M.length ∧ i = .int .i64 x ∧ Hid (∀ x', x' < x → ∀ y, y < M.length → cellOk M x' y = true)) (fun _ _ _ i => M.length - (intOf i).toNat)
      case atStart => exact ⟨0, by omega, rfl, by intro x hx; omega⟩
      case round =>
        obtain ⟨x, hx, rfl, hcells⟩ := hrel
        by_cases hltx : x < M.length
        · obtain ⟨d1, p1, m1, hc1, hc2, hall⟩ := hM.cellAt (w' := w2) hsq.out hltx hltx
          replace hall := hid hall
          clear hc2
          go_wp2
          go_loop [7, 8, 31] (fun _ _ i => ∃ y : Nat, y ≤ M.length ∧ i = .int .i64 y ∧ Hid (∀ y', y' < y → cellOk M x y' = true)) (fun _ _ i => M.length - (intOf i).toNat)
          case atStart => exact ⟨0, by omega, rfl, by intro x hx; omega⟩
          case round =>
            obtain ⟨y, hy, rfl, hcy⟩ := hrel
            by_cases hlty : y < M.length
            · have hc2 := hall.out y hlty
              obtain ⟨d2, p2, m2, hc3, hc4, _⟩ := hM.cellAt (w' := w2) hsq.out hlty hltx
              by_cases h2 : x = y
              · have h2' : ((x : Int) == (y : Int)) = true := by simp [h2]
                have h2'' : ((x : Int) != (y : Int)) = false := by simp [h2]
                by_cases h3 : cell M x y = 0
                · have hok := hid (show cellOk M x y = true by rw [cellOk, if_pos h2, decide_eq_true h3, ← h2]; simp)
                  have h3' : (cell M x y != 0) = false := by simp [h3]
                  have h1' : (cell M x y != cell M y x) = false := by rw [← h2]; simp
                  have h4 : cell M x y ≤ 99 := by omega
                  have h5 : decide (99 < cell M x y) = false := by simpa using h4
                  clear h2 h3 h4
                  go_wp2
                  go_round
                  case rel =>
                    refine ⟨y + 1, by omega, by go_num, ?_⟩
                    intro y' hy'
                    by_cases hyy : y' = y
                    · subst hyy; exact hok.out
                    · exact hcy.out y' (by omega)
                  case measure => simp [intOf]; omega
                · have hok := hid (show cellOk M x y = false by rw [cellOk, if_pos h2, decide_eq_false h3]; simp)
                  have h3' : (cell M x y != 0) = true := by simp [h3]
                  clear h2 h3
                  go_wp2
                  go_ret
                  exact ⟨ret_bool (by rw [tableB, cellsOk_not hltx hlty hok.out]; simp), e2⟩
              · have h2' : ((x : Int) == (y : Int)) = false := by simp; omega
                have h2'' : ((x : Int) != (y : Int)) = true := by simp; omega
                by_cases h1 : cell M x y = cell M y x
                · have h1' : (cell M x y != cell M y x) = false := by simp [h1]
                  by_cases h4 : cell M x y ≤ 99
                  · have h5 : decide (99 < cell M x y) = false := by simpa using h4
                    by_cases h6 : cell M x y < 1
                    · have h6' : decide (cell M x y < 1) = true := by simpa using h6
                      have hok := hid (show cellOk M x y = false by rw [cellOk, if_neg h2, inB_lt (by omega)]; simp)
                      clear h1 h2 h4 h6
                      go_wp2
                      go_ret
                      exact ⟨ret_bool (by rw [tableB, cellsOk_not hltx hlty hok.out]; simp), e2⟩
                    · have h6' : decide (cell M x y < 1) = false := by simpa using h6
                      have hok := hid (show cellOk M x y = true by rw [cellOk, if_neg h2, inB_true.2 ⟨by omega, h4⟩, decide_eq_true h1]; rfl)
                      clear h1 h2 h4 h6
                      go_wp2
                      go_round
                      case rel =>
                        refine ⟨y + 1, by omega, by go_num, ?_⟩
                        intro y' hy'
                        by_cases hyy : y' = y
                        · subst hyy; exact hok.out
                        · exact hcy.out y' (by omega)
                      case measure => simp [intOf]; omega
                  · have h5 : decide (99 < cell M x y) = true := by simp; omega
                    have hok := hid (show cellOk M x y = false by rw [cellOk, if_neg h2, inB_false.2 (fun h => h4 h.2)]; simp)
                    clear h1 h2 h4
                    go_wp2
                    go_ret
                    exact ⟨ret_bool (by rw [tableB, cellsOk_not hltx hlty hok.out]; simp), e2⟩
                · have h1' : (cell M x y != cell M y x) = true := by simp [h1]
                  have hok := hid (show cellOk M x y = false by rw [cellOk, decide_eq_false h1]; rfl)
                  clear h1 h2
                  go_wp2
                  go_ret
                  exact ⟨ret_bool (by rw [tableB, cellsOk_not hltx hlty hok.out]; simp), e2⟩
            · go_wp2
              go_round
              case rel =>
                refine ⟨x + 1, by omega, by go_num, ?_⟩
                intro x' hx' y' hy'
                by_cases hxx : x' = x
                · subst hxx; exact hcy.out y' (by omega)
                · exact hcells.out x' (by omega) y' hy'
              case measure => simp [intOf]; omega
        · go_wp2
          go_ret
          have hcs : cellsOk M = true := by
            simp only [cellsOk, decide_eq_true_eq]
            exact fun x' hx' y hy => hcells.out x' (by omega) y hy
          exact ⟨ret_bool (by rw [tableB, hn.out, hsq.out, hcs]; rfl), e2⟩
end Go.Proofs.Ytnlbjbnjjkilhaa

/- Fractions: the greatest common divisor, validity, the fraction of two numbers; both sides. Written by fracs.py. -/
namespace Go.Proofs.Ytnlbjbnjjkilhaa
open Go.RowKit
end Go.Proofs.Ytnlbjbnjjkilhaa

/- The program's search for a detour, IsMetric, IsProblem. -/
namespace Go.Proofs.Ytnlbjbnjjkilhaa
open Go.RowKit

theorem ret_tuple2 {a b c d : Value} (h1 : a = c) (h2 : b = d) : Ending.returned (.tuple #[a, b]) = .returned (.tuple #[c, d]) := by rw [h1, h2]
def isNil (xs : List Int) : Bool := decide (xs = [])
set_option maxHeartbeats 1000000 in
set_option maxRecDepth 100000 in
theorem detour_any {v : Value} {M : List (List Int)} {w0 w : World} [Ext w0 w] (hm : IsMet w0 v M) (ht : tableB M = true) :
    Calls Try.prog 50 #[v] w fun e w' => ∃ d m xs, e = .returned (.tuple #[.slice d xs.length m, .bool (!isNil xs)]) ∧ FirstDet M xs ∧ Own w' w.heap.size [intRowOf 3 (.slice d xs.length m) xs] ∧ Ext w w' := by
  obtain ⟨v1, rfl, hM⟩ := hm
  obtain ⟨a, c, rfl, la⟩ := hM.form
  obtain ⟨hl0, hl6⟩ := tableB_len ht
  obtain ⟨b, o, rfl, _⟩ : ∃ b o, a = some ⟨b, o, none⟩ ∧ True := by
    obtain ⟨b, o, _, _, h, _⟩ := hM.at (w' := w0) (k := 0) (by omega)
    exact ⟨b, o, h, trivial⟩
  have hsq := hid (tableB_square ht)
  have HT := hid ht
  clear ht
  go_enter Try.func50, Try.ntmps50
  go_wp2
  go_loopw [12] (fun i wr => ∃ x : Nat, x ≤ M.length ∧ i = .int .i64 x ∧ Hid (∀ x', x' < x → ∀ y', y' < M.length → ∀ z', z' < M.length → detourAt M x' y' z' = false) ∧ Drew (w.alloc (.cells #[.slice (some ⟨b, o, none⟩) M.length c] 29)) wr) (fun i _ => M.length - (intOf i).toNat)
  case atStart => exact ⟨0, by omega, rfl, by intro x hx; omega, Drew.refl _⟩
  case round =>
    obtain ⟨x, hx, rfl, hbx, hd⟩ := hrel
    by_cases hltx : x < M.length
    · have e1 : Ext w wr := Ext.trans inferInstance hd.ext
      have e0 : Ext w0 wr := Ext.trans ‹Ext w0 w› e1
      obtain ⟨d1, p1, m1, hc1, hc2, hall⟩ := hM.cellAt (w' := wr) hsq.out hltx hltx
      clear hc2 hall
      go_wp2
      obtain ⟨wo, rfl⟩ : ∃ wo : World, wo = wr := ⟨_, rfl⟩
      go_loopw [19] (fun i wr => ∃ y : Nat, y ≤ M.length ∧ i = .int .i64 y ∧ Hid (∀ y', y' < y → ∀ z', z' < M.length → detourAt M x y' z' = false) ∧ Drew wo wr) (fun i _ => M.length - (intOf i).toNat)
      case atStart => exact ⟨0, by omega, rfl, by intro x hx; omega, Drew.refl _⟩
      case round =>
        obtain ⟨y, hy, rfl, hby, hd2⟩ := hrel
        by_cases hlty : y < M.length
        · have hc1' := hd2.ext.cell hc1
          have hbox : wr.cell? ⟨w.heap.size, 0, none⟩ = some (.slice (some ⟨b, o, none⟩) M.length c) := (hd.trans hd2).ext.cell (by go_simp)
          have e2 : Ext w0 wr := Ext.trans e0 hd2.ext
          obtain ⟨d1', p1', m1', hq, hc2, hall⟩ := hM.cellAt (w' := wr) hsq.out hltx hlty
          have hq2 := hq.symm.trans hc1'
          simp only [Option.some.injEq, Value.slice.injEq, Addr.mk.injEq, and_true, true_and] at hq2
          obtain ⟨⟨rfl, rfl⟩, rfl⟩ := hq2
          clear hc1' hq
          replace hall := hid hall
          go_wp2
          obtain ⟨wo2, rfl⟩ : ∃ wo : World, wo = wr := ⟨_, rfl⟩
          go_loopw [27] (fun i wr => ∃ z : Nat, z ≤ M.length ∧ i = .int .i64 z ∧ Hid (∀ z', z' < z → detourAt M x y z' = false) ∧ Drew wo2 wr) (fun i _ => M.length - (intOf i).toNat)
          case atStart => exact ⟨0, by omega, rfl, by intro x hx; omega, Drew.refl _⟩
          case round =>
            obtain ⟨z, hz, rfl, hbz, hd3⟩ := hrel
            by_cases hltz : z < M.length
            · have hbox3 := hd3.ext.cell hbox
              have e3 : Ext w0 wr := Ext.trans e2 hd3.ext
              have hc3 := hd3.ext.cell (hall.out z hltz)
              obtain ⟨d2, p2, m2, hc4, hc5, _⟩ := hM.cellAt (w' := wr) hsq.out hlty hltz
              have b1 := tableB_cell HT.out hltx hltz
              have b2 := tableB_cell HT.out hltx hlty
              have b3 := tableB_cell HT.out hlty hltz
              clear hbox hc2 hc1
              by_cases hbad : cell M x y + cell M y z < cell M x z
              · have hdet := hid (show detourAt M x y z = true by simp [detourAt, hbad])
                have e4 : Ext w wr := Ext.trans (Ext.trans e1 hd2.ext) hd3.ext
                go_wp2_with (go_quiet (fail))
                go_ret2
                refine ⟨_, _, [(x : Int), (y : Int), (z : Int)], ret_tuple2 rfl rfl, .inr ⟨x, y, z, hltx, hlty, hltz, hdet.out, rfl, hbx.out, hby.out, hbz.out⟩, ?_, ?_⟩
                · exact Own.litInts (by simpa using e4.size) rfl rfl (by simp) rfl
                · infer_instance
              · have hdet := hid (show detourAt M x y z = false by simp [detourAt, hbad])
                have hbad' : decide (cell M x y + cell M y z < cell M x z) = false := by simpa using hbad
                go_wp2_with (go_quiet (fail))
                go_roundw
                case rel =>
                  refine ⟨z + 1, by omega, by go_num, ?_, hd3.step _⟩
                  intro z' hz'
                  by_cases hzz : z' = z
                  · subst hzz; exact hdet.out
                  · exact hbz.out z' (by omega)
                case measure => simp [intOf]; omega
            · go_wp2
              go_roundw
              case rel =>
                refine ⟨y + 1, by omega, by go_num, ?_, hd2.trans hd3⟩
                intro y' hy' z' hz'
                by_cases hyy : y' = y
                · subst hyy; exact hbz.out z' (by omega)
                · exact hby.out y' (by omega) z' hz'
              case measure => simp [intOf]; omega
        · go_wp2
          go_roundw
          case rel =>
            refine ⟨x + 1, by omega, by go_num, ?_, hd.trans hd2⟩
            intro x' hx' y' hy' z' hz'
            by_cases hxx : x' = x
            · subst hxx; exact hby.out y' (by omega) z' hz'
            · exact hbx.out x' (by omega) y' hy' z' hz'
          case measure => simp [intOf]; omega
    · have e1 : Ext w wr := Ext.trans inferInstance hd.ext
      go_wp2
      go_ret2
      refine ⟨none, 0, [], ret_tuple2 rfl rfl, .inl ⟨fun x' hx' => hbx.out x' (by omega), rfl⟩, ?_, ?_⟩
      · exact (Own.nil _ _).cons_nil _ _
      · exact e1
set_option maxHeartbeats 400000 in
theorem IsMetric_any {v : Value} {M : List (List Int)} {w0 w : World} [Ext w0 w] (hm : IsMet w0 v M) :
    Calls Try.prog 31 #[v] w fun e w' => e = .returned (.bool (metB M)) ∧ Ext w w' := by
  have hm' := hm
  obtain ⟨v1, rfl, hM⟩ := hm
  obtain ⟨a, c, rfl, la⟩ := hM.form
  cases ht : tableB M with
  | false =>
    have hr := hid (show metB M = false by rw [metB, ht]; rfl)
    replace ht := hid ht
    go_enter Try.func31, Try.ntmps31
    go_wp2_with (go_at_call 49; refine (isTable_any (w0 := w0) hm').mono ?_; rw [ht.out]; rintro e w' ⟨rfl, hb⟩)
    go_ret
    exact ⟨ret_bool hr.out.symm, Ext.trans inferInstance hb⟩
  | true =>
    replace ht := hid ht
    go_enter Try.func31, Try.ntmps31
    go_wp2_with fail
    refine (isTable_any (w0 := w0) hm').mono ?_
    rw [ht.out]
    rintro e w1 ⟨rfl, hb1⟩
    have c1 : w1.cell? ⟨w.heap.size, 0, none⟩ = some (.slice a M.length c) := hb1.cell (by go_simp)
    have e1 : Ext w w1 := Ext.trans inferInstance hb1
    have e0 : Ext w0 w1 := Ext.trans ‹Ext w0 w› e1
    go_wp2_with fail
    refine (detour_any (w0 := w0) hm' ht.out).mono ?_
    rintro e w2 ⟨d, m, xs, rfl, hdet, _, hb2⟩
    have e2 : Ext w w2 := Ext.trans e1 hb2
    have hN := hid (NoDetB_of hdet)
    go_wp2_with fail
    go_ret
    exact ⟨ret_bool (by rw [metB, ht.out, hN.out]; rfl), e2⟩
set_option maxHeartbeats 400000 in
theorem sMax_any {v : Value} {xs : List Int} {w0 w : World} [Ext w0 w] (hx : IsInts w0 v xs) (h0 : 0 < xs.length) :
    Calls Try.prog 44 #[v] w fun e w' => ∃ r, e = .returned (.int .i64 r) ∧ r ∈ xs ∧ (∀ x ∈ xs, x ≤ r) ∧ w = w' := by
  obtain ⟨a, c, rfl, la⟩ := hx.form
  obtain ⟨b, o, rfl, hc0⟩ := hx.at (w' := w) h0
  have h1 : decide ((xs.length : Int) < 1) = false := by simp; omega
  rw [Nat.add_zero] at hc0
  go_enter Try.func44, Try.ntmps44
  go_wp2
  go_loop [3, 4] (fun q i => ∃ k : Nat, ∃ r : Int, k ≤ xs.length ∧ 1 ≤ k ∧ i = .int .i64 k ∧ q = .int .i64 r ∧ Hid (r ∈ xs) ∧ Hid (∀ j, j < k → nth xs j ≤ r)) (fun _ i => xs.length - (intOf i).toNat)
  case atStart => exact ⟨1, _, by omega, by omega, rfl, rfl, nth_mem h0, fun j hj => (by rw [show j = 0 by omega]; exact Int.le_refl _)⟩
  case round =>
    obtain ⟨k, r, hk, hk1, rfl, rfl, hr, hle⟩ := hrel
    by_cases hlt : k < xs.length
    · obtain ⟨b', o', hq, hc⟩ := hx.at (w' := w) hlt
      cases hq
      by_cases hg : nth xs k ≤ r
      · go_wp2
        go_round
        case rel =>
          refine ⟨k + 1, r, by omega, by omega, by go_num, by go_num, hr, ?_⟩
          intro j hj
          by_cases hjk : j = k
          · subst hjk; exact hg
          · exact hle.out j (by omega)
        case measure => simp [intOf]; omega
      · go_wp2
        go_round
        case rel =>
          refine ⟨k + 1, nth xs k, by omega, by omega, by go_num, by go_num, nth_mem hlt, ?_⟩
          intro j hj
          by_cases hjk : j = k
          · subst hjk; exact Int.le_refl _
          · have := hle.out j (by omega)
            omega
        case measure => simp [intOf]; omega
    · go_wp2
      go_ret
      refine ⟨r, rfl, hr.out, ?_, rfl⟩
      intro x hx'
      obtain ⟨j, hj, rfl⟩ := mem_iff_nth.1 hx'
      exact hle.out j (by omega)
end Go.Proofs.Ytnlbjbnjjkilhaa

/- The number of algorithms: the program's and the reference's. -/
namespace Go.Proofs.Ytnlbjbnjjkilhaa
open Go.RowKit
end Go.Proofs.Ytnlbjbnjjkilhaa

/- Tests of an algorithm: the reference's and the program's. -/
namespace Go.Proofs.Ytnlbjbnjjkilhaa
open Go.RowKit

/-- whether a request r can be served in s -/
def stOk (M S : List (List Int)) (r : Nat) (s : Int) : Bool := inB s 0 (M.length - 1) && decide (0 ≤ cell S r s.toNat)
end Go.Proofs.Ytnlbjbnjjkilhaa

/- Tests of a start state and a sequence. -/
namespace Go.Proofs.Ytnlbjbnjjkilhaa
open Go.RowKit

/-- whether all numbers of a list are in 0..n-1 -/
def belowB (n : Int) (l : List Int) : Bool := decide (∀ a ∈ l, inB a 0 (n - 1) = true)
theorem below_any (n : Int) (l : List Int) : (!l.any fun a => !inB a 0 (n - 1)) = belowB n l := by
  rw [List.not_any_eq_all_not, Bool.eq_iff_iff, List.all_eq_true]
  simp [belowB]
set_option maxHeartbeats 400000 in
theorem areBelow1_any {a n : Int} {B : Nat} {w : World} (hn : w.cell? ⟨B, 0, none⟩ = some (.int .i64 n)) (h0 : 0 ≤ n) (h1 : n ≤ 17592186044415) :
    Calls Try.prog 86 #[.int .i64 a, .pointer (some ⟨B, 0, none⟩)] w fun e w' => e = .returned (.bool (!inB a 0 (n - 1))) ∧ w = w' := by
  go_enter Try.func86, Try.ntmps86
  go_wp2_with (go_at_call 24; refine (within_any _ _ _ _).mono ?_; rintro e w' ⟨rfl, rfl⟩)
  go_ret
  exact ⟨rfl, rfl⟩
theorem areBelow1_call (xa : Array Value) (W : World) : (callFunc 86 xa).run Try.prog W = .ok (.enter 86 xa) W := by kernel_rfl
theorem areBelow1_all {l : List Int} {n : Int} {B : Nat} {w : World} (hn : w.cell? ⟨B, 0, none⟩ = some (.int .i64 n)) (h0 : 0 ≤ n) (h1 : n ≤ 17592186044415) :
    ∀ (W : World), Ext w W → ∀ k, k < l.length → Calls Try.prog 86 (#[.int .i64 (nth l k)] ++ #[.pointer (some ⟨B, 0, none⟩)]) W fun e w' => e = .returned (.bool ((fun a => !inB a 0 (n - 1)) (nth l k))) ∧ Ext W w' := by
  intro W hW k hk
  refine (areBelow1_any (hW.cell hn) h0 h1).mono ?_
  rintro e w' ⟨rfl, rfl⟩
  exact ⟨rfl, Ext.refl _⟩
set_option maxHeartbeats 400000 in
theorem areBelow_any {v : Value} {l : List Int} {n : Int} {w0 w : World} [Ext w0 w] (hl : IsInts w0 v l) (h0 : 0 ≤ n) (h1 : n ≤ 17592186044415) :
    Calls Try.prog 59 #[.int .i64 n, v] w fun e w' => e = .returned (.bool (belowB n l)) ∧ Ext w w' := by
  have hl' := hl
  obtain ⟨a, c, rfl, la⟩ := hl.form
  have hR := hid (below_any n l)
  go_enter Try.func59, Try.ntmps59
  go_wp2_with fail
  generalize hW : w.alloc (.cells #[.int .i64 n] 3) = W1
  have e1 : Ext w W1 := hW ▸ inferInstance
  have e0 : Ext w0 W1 := Ext.trans ‹Ext w0 w› e1
  have x0 : W1.cell? ⟨w.heap.size, 0, none⟩ = some (.int .i64 n) := by subst hW; go_simp
  clear hW
  refine (containsFuncInts_any (w0 := w0) hl' _ _ (fun a => !inB a 0 (n - 1)) areBelow1_call (areBelow1_all x0 h0 h1)).mono ?_
  rintro e w2 ⟨rfl, hb⟩
  generalize hz : (l.any fun a => !inB a 0 (n - 1)) = z at *
  replace hz := hid hz
  go_wp2_with fail
  go_ret
  exact ⟨ret_bool hR.out, Ext.trans e1 hb⟩
end Go.Proofs.Ytnlbjbnjjkilhaa

/- The cost of a schedule. -/
namespace Go.Proofs.Ytnlbjbnjjkilhaa
open Go.RowKit
def okTo (M S : List (List Int)) (reqs states : List Int) (k : Nat) : Prop := ∀ i, i < k → stOk M S (nth reqs i).toNat (nth states i) = true
instance (M S : List (List Int)) (reqs states : List Int) (k : Nat) : Decidable (okTo M S reqs states k) := by unfold okTo; infer_instance
end Go.Proofs.Ytnlbjbnjjkilhaa

/- ScheduleCost of the reference and of the program. -/
namespace Go.Proofs.Ytnlbjbnjjkilhaa
open Go.RowKit
end Go.Proofs.Ytnlbjbnjjkilhaa

/- The run of an algorithm on a sequence: its states and its cost. -/
namespace Go.Proofs.Ytnlbjbnjjkilhaa
open Go.RowKit
end Go.Proofs.Ytnlbjbnjjkilhaa

/- The run of an algorithm: the reference's states and cost, the program's run. -/
namespace Go.Proofs.Ytnlbjbnjjkilhaa
open Go.RowKit
end Go.Proofs.Ytnlbjbnjjkilhaa

/- AlgorithmStates and AlgorithmCost of the reference and of the program. Written by algs.py. -/
namespace Go.Proofs.Ytnlbjbnjjkilhaa
open Go.RowKit
end Go.Proofs.Ytnlbjbnjjkilhaa

/- Least values over lists: what loops compute and what they are. -/
namespace Go.Proofs.Ytnlbjbnjjkilhaa
open Go.RowKit
/-- v is the least of f on l -/
def IsMin (v : Int) (l : List Int) (f : Int → Int) : Prop := (∃ s ∈ l, v = f s) ∧ ∀ s ∈ l, v ≤ f s
theorem IsMin.uniq {u v : Int} {l : List Int} {f : Int → Int} (h : IsMin u l f) (k : IsMin v l f) : u = v := by
  obtain ⟨⟨s, hs, h1⟩, h2⟩ := h
  obtain ⟨⟨t, ht, k1⟩, k2⟩ := k
  have := h2 t ht
  have := k2 s hs
  omega
end Go.Proofs.Ytnlbjbnjjkilhaa

/- Work functions as lists: their bounds, the least cost, the best schedule. -/
namespace Go.Proofs.Ytnlbjbnjjkilhaa
open Go.RowKit
end Go.Proofs.Ytnlbjbnjjkilhaa

/- First least places: the greedy state, the best schedule. -/
namespace Go.Proofs.Ytnlbjbnjjkilhaa
open Go.RowKit
end Go.Proofs.Ytnlbjbnjjkilhaa

/- Offsets: the lists that the loops make. -/
namespace Go.Proofs.Ytnlbjbnjjkilhaa
open Go.RowKit
end Go.Proofs.Ytnlbjbnjjkilhaa

/- Plain words on configurations of servers: costs of matchings, which are least over all orders, and the laws of a distance. -/
namespace Go.Proofs.Ytnlbjbnjjkilhaa
open Go.RowKit
/-- a list of points below n -/
def Pts (n : Nat) (a : List Int) : Prop := ∀ x ∈ a, 0 ≤ x ∧ x < (n : Int)
theorem Pts.perm {n : Nat} {a b : List Int} (h : Pts n b) (p : a.Perm b) : Pts n a := fun x hx => h x (p.mem_iff.1 hx)
/-- what a metric gives -/
structure Dst (M : List (List Int)) (n : Nat) : Prop where
  pos : ∀ x y, x < n → y < n → 0 ≤ cell M x y ∧ cell M x y ≤ 99
  self : ∀ x, x < n → cell M x x = 0
  zero : ∀ x y, x < n → y < n → cell M x y = 0 → x = y
  symm : ∀ x y, x < n → y < n → cell M x y = cell M y x
  tri : ∀ x y z, x < n → y < n → z < n → cell M x z ≤ cell M x y + cell M y z
theorem Pts.set {n : Nat} {a : List Int} {s : Nat} {r : Int} (h : Pts n a) (hr : 0 ≤ r ∧ r < (n : Int)) : Pts n (a.set s r) := fun x hx => by
  rcases List.mem_or_eq_of_mem_set hx with h1 | h1
  · exact h x h1
  · rw [h1]; exact hr
end Go.Proofs.Ytnlbjbnjjkilhaa

/- Plain words on the configurations of servers: all of them, in order. -/
namespace Go.Proofs.Ytnlbjbnjjkilhaa
open Go.RowKit
/-- what holds of a configuration -/
def Asc (c : List Int) : Prop := c.Pairwise (· ≤ ·)
end Go.Proofs.Ytnlbjbnjjkilhaa

/- Plain words on how lists of orders and of configurations grow. -/
namespace Go.Proofs.Ytnlbjbnjjkilhaa
open Go.RowKit
end Go.Proofs.Ytnlbjbnjjkilhaa

/- The lists of all configurations, of the program and of the reference. -/
namespace Go.Proofs.Ytnlbjbnjjkilhaa
open Go.RowKit

theorem Tab.drop {w : World} {B : Nat} {v : Value} {M : List (List Int)} {R : List Row} (h : Tab w B v M R) : Tab w B v M [] := by
  obtain ⟨vs, h1, h2⟩ := h
  exact ⟨vs, h1, by rw [List.append_nil]; exact h2.left⟩
theorem Tab.with {w w' : World} {B : Nat} {v u : Value} {M L : List (List Int)} {R : List Row} (h : Tab w B v M R) (hn : Tab w' w.heap.size u L []) (e : Ext w w') (hB : B ≤ w.heap.size)
    (hs : ShortRows L.length) (hr : ∀ r ∈ L, Short r.length) (hi : ∀ r ∈ L, ∀ x ∈ r, I64 x) : ∃ R', Tab w' B v M R' ∧ ∀ z, Own z B R' → IsRows z u L := by
  obtain ⟨vs, h1, h2⟩ := h
  obtain ⟨us, h3, h4⟩ := hn
  have h5 := (Own.join h2 h4 hB).swap
  rw [List.append_assoc] at h5
  refine ⟨R ++ (rowsOf 24 3 u us L ++ []), ⟨vs, h1, h5⟩, fun z hz => ?_⟩
  exact hz.right.readsAll h3 hs hr hi
end Go.Proofs.Ytnlbjbnjjkilhaa

/- Plain words on matchings: sums place by place, and what a metric gives. -/
namespace Go.Proofs.Ytnlbjbnjjkilhaa
open Go.RowKit
theorem dst_of_met {M : List (List Int)} (h : metB M = true) : Dst M M.length := by
  simp only [metB, Bool.and_eq_true] at h
  obtain ⟨ht, hn⟩ := h
  have hc : ∀ x y, x < M.length → y < M.length → cellOk M x y = true := fun x y hx hy => by
    simp only [tableB, Bool.and_eq_true] at ht
    have := ht.2
    simp only [cellsOk, decide_eq_true_eq] at this
    exact this x hx y hy
  simp only [NoDetB, decide_eq_true_eq] at hn
  refine ⟨fun x y hx hy => tableB_cell ht hx hy, fun x hx => ?_, fun x y hx hy hz => ?_, fun x y hx hy => ?_, fun x y z hx hy hz => ?_⟩
  · have := hc x x hx hx
    simp only [cellOk, Bool.and_eq_true, if_true] at this
    simpa using this.2
  · by_cases e : x = y
    · exact e
    · have := hc x y hx hy
      simp only [cellOk, Bool.and_eq_true, if_neg e] at this
      have := inB_true.1 this.2
      omega
  · have := hc x y hx hy
    simp only [cellOk, Bool.and_eq_true] at this
    simpa using this.1
  · have := hn x hx y hy z hz
    simp only [detourAt, decide_eq_false_iff_not] at this
    omega
theorem met_sq {M : List (List Int)} (h : metB M = true) : square M = true := by
  simp only [metB, Bool.and_eq_true] at h
  exact tableB_square h.1
theorem met_len {M : List (List Int)} (h : metB M = true) : 1 ≤ M.length ∧ M.length ≤ 6 := by
  simp only [metB, Bool.and_eq_true] at h
  exact tableB_len h.1
end Go.Proofs.Ytnlbjbnjjkilhaa

/- The library's functions on slices of ints: Clone, Min, Repeat; the reference's least. -/
namespace Go.Proofs.Ytnlbjbnjjkilhaa
open Go.RowKit

theorem nilRow (w : World) (B e : Nat) : Own w B [intRowOf e (.slice none ([] : List Int).length 0) []] := (Own.nil w B).cons_nil _ _
theorem eqlNilInts (c : Nat) (w : World) : (binOp .eql 24 (.slice none 0 c) (.slice none 0 0)).run Try.prog w = .ok (.bool true) w := by kernel_rfl
theorem eqlSomeInts (ad : Addr) (n c : Nat) (w : World) : (binOp .eql 24 (.slice (some ad) n c) (.slice none 0 0)).run Try.prog w = .ok (.bool false) w := by kernel_rfl
set_option maxHeartbeats 400000 in
set_option maxRecDepth 100000 in
theorem cloneInts_any {v : Value} {xs : List Int} {w0 w : World} [Ext w0 w] (hx : IsInts w0 v xs) :
    Calls Try.prog 87 #[v] w fun e w' => ∃ d m, e = .returned (.slice d xs.length m) ∧ Own w' w.heap.size [intRowOf 3 (.slice d xs.length m) xs] ∧ Ext w w' := by
  have hx' := hx
  obtain ⟨a, c, rfl, la⟩ := hx.form
  cases a with
  | none =>
    have hz : xs = [] := by
      cases xs with
      | nil => rfl
      | cons x xs =>
        obtain ⟨b, o, h, _⟩ := hx.at (w' := w) (k := 0) (by simp)
        cases h
    subst hz
    have hnil := eqlNilInts c
    go_enter Try.func87, Try.ntmps87
    go_wp2
    go_ret
    exact ⟨none, 0, rfl, nilRow _ _ _, inferInstance⟩
  | some ad =>
    have own0 : Own (w.alloc (.cells #[] 3)) w.heap.size [⟨3, 1, .slice (some ⟨w.heap.size, 0, none⟩) 0 0, 0, []⟩] := Own.litInts (xs := []) (Nat.le_refl _) rfl rfl (by simp) rfl
    have hB : w.heap.size ≤ (w.alloc (.cells #[] 3)).heap.size := by simp
    have e0 : Ext w0 (w.alloc (.cells #[] 3)) := Ext.trans ‹Ext w0 w› inferInstance
    have hnil := eqlSomeInts ad xs.length c
    go_enter Try.func87, Try.ntmps87
    go_wp2_with (at_builtin; refine wpList_appendInts rfl _ _ _ rfl elemInt rfl own0 hB rfl (hx'.ext (w' := w.alloc (.cells #[] 3))) (by omega) ?_; intro v1 w1 ho hb1)
    go_ret
    rw [Nat.zero_add, List.nil_append] at ho
    obtain ⟨d, m, rfl⟩ := Own.formInts (e := 3) (xs := xs) ho
    exact ⟨d, m, rfl, ho, ⟨((Below.refl _ w).alloc (Nat.le_refl _) _).trans hb1⟩⟩
end Go.Proofs.Ytnlbjbnjjkilhaa

/- The work function after one more request, as the reference makes it. -/
namespace Go.Proofs.Ytnlbjbnjjkilhaa
open Go.RowKit
end Go.Proofs.Ytnlbjbnjjkilhaa

/- The orders of the numbers below k: of the program and of the reference. -/
namespace Go.Proofs.Ytnlbjbnjjkilhaa
open Go.RowKit
end Go.Proofs.Ytnlbjbnjjkilhaa

/- The orders of the numbers below k: of the reference. -/
namespace Go.Proofs.Ytnlbjbnjjkilhaa
open Go.RowKit
end Go.Proofs.Ytnlbjbnjjkilhaa

/- The best matching of two configurations and its cost: the program's. -/
namespace Go.Proofs.Ytnlbjbnjjkilhaa
open Go.RowKit
end Go.Proofs.Ytnlbjbnjjkilhaa

/- The best matching of two configurations and its cost: the reference's. -/
namespace Go.Proofs.Ytnlbjbnjjkilhaa
open Go.RowKit
end Go.Proofs.Ytnlbjbnjjkilhaa

/- slices.Repeat of one int. -/
namespace Go.Proofs.Ytnlbjbnjjkilhaa
open Go.RowKit
/-- the row of a Repeat when k of its n cells are laid -/
def repL (c : Int) (n k : Nat) : List Value := (List.replicate k c ++ List.replicate (n - k) 0).map (Value.int .i64)
theorem repL_length {c : Int} {n k : Nat} (h : k ≤ n) : (repL c n k).length = n := by simp [repL]; omega
theorem rep_make (w : World) (c : Int) (n : Nat) (t : TypeId) : (w.alloc (.cells (Array.replicate n (.int .i64 0)) t)).heap[w.heap.size]? = some (.cells (repL c n 0).toArray t (0, 0)) := by
  have e : (repL c n 0).toArray = Array.replicate n (.int .i64 0) := by
    apply Array.toList_inj.1
    simp [repL]
  rw [e]
  exact Array.getElem?_push_size
theorem rep_splice {c : Int} {n k m : Nat} (_h : k + m ≤ n) : splice (repL c n k) k (List.replicate m (Value.int .i64 c)) = repL c n (k + m) := by
  have e1 : (repL c n k).take k = List.replicate k (Value.int .i64 c) := by
    rw [repL, List.map_append, List.take_append_of_le_length (by simp)]
    simp
  have e2 : (repL c n k).drop (k + m) = List.replicate (n - (k + m)) (Value.int .i64 0) := by
    rw [repL, List.map_append, List.drop_append]
    simp
    omega
  rw [splice, e1, List.length_replicate, e2, repL, List.map_append, List.map_replicate, List.map_replicate, ← List.append_assoc, List.replicate_append_replicate]
theorem rep_cell {w : World} {g n k j : Nat} {c : Int} {t : TypeId} (h : w.heap[g]? = some (.cells (repL c n k).toArray t (0, 0))) (hj : j < k) (hk : k ≤ n) : w.cell? ⟨g, j, none⟩ = some (.int .i64 c) := by
  have hl := repL_length (c := c) hk
  have : (repL c n k)[j]? = some (.int .i64 c) := by
    rw [repL, List.getElem?_map, List.getElem?_append_left (by simpa using hj)]
    simp [hj]
  simp [World.cell?, h, this]
end Go.Proofs.Ytnlbjbnjjkilhaa

/- The work function after one more request, as the program makes it. -/
namespace Go.Proofs.Ytnlbjbnjjkilhaa
open Go.RowKit
end Go.Proofs.Ytnlbjbnjjkilhaa

/- Work functions and least costs walked, the reference's and the program's. -/
namespace Go.Proofs.Ytnlbjbnjjkilhaa
open Go.RowKit
end Go.Proofs.Ytnlbjbnjjkilhaa

/- The greedy state, the reference's and the program's. -/
namespace Go.Proofs.Ytnlbjbnjjkilhaa
open Go.RowKit
end Go.Proofs.Ytnlbjbnjjkilhaa

/- The algorithms that are made row by row: the reference's and the program's. Written by made.py. -/
namespace Go.Proofs.Ytnlbjbnjjkilhaa
open Go.RowKit
end Go.Proofs.Ytnlbjbnjjkilhaa

/- Small walks for offsets: sameness, places, normal lists. -/
namespace Go.Proofs.Ytnlbjbnjjkilhaa
open Go.RowKit
end Go.Proofs.Ytnlbjbnjjkilhaa

