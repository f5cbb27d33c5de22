/- Several texts in one: the last ones and the statement. -/
import Derived.Test.YtmgcfnciejfpbaaRows
import Derived.JoinedOf
import Derived.KernelRfl
import Derived.Test.YtmgcfnciejfpbaaWks
import Derived.Test.YtmgcfnciejfpbaaTakes
import Derived.Test.YtmgcfnciejfpbaaSrt
import Derived.Test.YtmgcfnciejfpbaaRepB
import Derived.StillTailTactics
import Derived.Test.YtmgcfnciejfpbaaSrvB
import Derived.Test.YtmgcfnciejfpbaaSrs
import Derived.Test.YtmgcfnciejfpbaaOrd
import Derived.Test.YtmgcfnciejfpbaaStep
import Derived.Test.YtmgcfnciejfpbaaProg
import Derived.Test.YtmgcfnciejfpbaaAppend
import Derived.WalkKit
import Derived.WalkSpells
import Derived.WalkLawsBesides
import Derived.Deep.QuietTactic
import Derived.BigQuiet
import Derived.Deep.RegionHeld3
import Derived.Deep.Cut
import Derived.Deep.CutRange
import Derived.IntWalk
import Derived.Laws.Bits64b
import Derived.Test.YtmgcfnciejfpbaaLawB
import Derived.Test.YtmgcfnciejfpbaaMark
import Derived.Test.YtmgcfnciejfpbaaSpecA
/- Closed facts of the program that every row asks: each by itself. -/
namespace Go.Proofs.Ytmgcfnciejfpbaa

/-- the letters of the program's head -/
def headSigns : List Char := [Char.ofNat 104, Char.ofNat 97, Char.ofNat 114, Char.ofNat 110, Char.ofNat 101, Char.ofNat 115, Char.ofNat 115, Char.ofNat 32, Char.ofNat 101, Char.ofNat 48, Char.ofNat 99, Char.ofNat 54, Char.ofNat 53, Char.ofNat 49, Char.ofNat 101, Char.ofNat 48, Char.ofNat 53, Char.ofNat 54, Char.ofNat 55, Char.ofNat 50, Char.ofNat 55, Char.ofNat 99, Char.ofNat 50, Char.ofNat 54, Char.ofNat 97, Char.ofNat 100, Char.ofNat 101, Char.ofNat 54, Char.ofNat 53, Char.ofNat 49, Char.ofNat 101, Char.ofNat 53, Char.ofNat 51, Char.ofNat 51, Char.ofNat 49, Char.ofNat 100, Char.ofNat 55, Char.ofNat 101, Char.ofNat 53, Char.ofNat 99, Char.ofNat 55, Char.ofNat 56, Char.ofNat 97, Char.ofNat 52, Char.ofNat 100, Char.ofNat 56, Char.ofNat 102, Char.ofNat 51, Char.ofNat 99, Char.ofNat 101, Char.ofNat 54, Char.ofNat 52, Char.ofNat 53, Char.ofNat 52, Char.ofNat 56, Char.ofNat 97, Char.ofNat 56, Char.ofNat 53, Char.ofNat 100, Char.ofNat 48, Char.ofNat 57, Char.ofNat 102, Char.ofNat 97, Char.ofNat 102, Char.ofNat 99, Char.ofNat 54, Char.ofNat 56, Char.ofNat 102, Char.ofNat 52, Char.ofNat 52, Char.ofNat 54, Char.ofNat 51, Char.ofNat 32, Char.ofNat 99, Char.ofNat 117, Char.ofNat 116, Char.ofNat 32, Char.ofNat 97, Char.ofNat 116, Char.ofNat 32, Char.ofNat 108, Char.ofNat 111, Char.ofNat 111, Char.ofNat 112, Char.ofNat 46, Char.ofNat 101, Char.ofNat 120, Char.ofNat 97, Char.ofNat 109, Char.ofNat 112, Char.ofNat 108, Char.ofNat 101, Char.ofNat 47, Char.ofNat 103, Char.ofNat 48, Char.ofNat 49, Char.ofNat 48, Char.ofNat 56, Char.ofNat 55, Char.ofNat 47, Char.ofNat 108, Char.ofNat 97, Char.ofNat 119, Char.ofNat 115, Char.ofNat 46, Char.ofNat 70, Char.ofNat 110, Char.ofNat 69, Char.ofNat 120, Char.ofNat 97, Char.ofNat 99, Char.ofNat 116, Char.ofNat 69, Char.ofNat 120, Char.ofNat 99, Char.ofNat 104, Char.ofNat 97, Char.ofNat 110, Char.ofNat 103, Char.ofNat 101, Char.ofNat 66, Char.ofNat 114, Char.ofNat 101, Char.ofNat 97, Char.ofNat 107, Char.ofNat 32, Char.ofNat 108, Char.ofNat 111, Char.ofNat 111, Char.ofNat 112, Char.ofNat 46, Char.ofNat 101, Char.ofNat 120, Char.ofNat 97, Char.ofNat 109, Char.ofNat 112, Char.ofNat 108, Char.ofNat 101, Char.ofNat 47, Char.ofNat 103, Char.ofNat 48, Char.ofNat 49, Char.ofNat 48, Char.ofNat 56, Char.ofNat 55, Char.ofNat 47, Char.ofNat 108, Char.ofNat 97, Char.ofNat 119, Char.ofNat 115, Char.ofNat 46, Char.ofNat 70, Char.ofNat 110, Char.ofNat 77, Char.ofNat 111, Char.ofNat 118, Char.ofNat 101, Char.ofNat 115, Char.ofNat 32, Char.ofNat 108, Char.ofNat 111, Char.ofNat 111, Char.ofNat 112, Char.ofNat 46, Char.ofNat 101, Char.ofNat 120, Char.ofNat 97, Char.ofNat 109, Char.ofNat 112, Char.ofNat 108, Char.ofNat 101, Char.ofNat 47, Char.ofNat 103, Char.ofNat 48, Char.ofNat 49, Char.ofNat 48, Char.ofNat 56, Char.ofNat 55, Char.ofNat 47, Char.ofNat 108, Char.ofNat 97, Char.ofNat 119, Char.ofNat 115, Char.ofNat 46, Char.ofNat 70, Char.ofNat 110, Char.ofNat 83, Char.ofNat 117, Char.ofNat 112, Char.ofNat 112, Char.ofNat 111, Char.ofNat 114, Char.ofNat 116]

set_option maxRecDepth 100000 in
theorem factHead : Try.prog.initOrder = String.ofList headSigns := by kernel_rfl
theorem factSigns : Try.prog.initOrder.toList = headSigns := by rw [factHead, String.toList_ofList]
theorem factLaid : laidOutB Try.prog = true := by kernel_rfl
theorem factMaps : mapsRowed Try.prog = true := by kernel_rfl
theorem factStops : (Try.prog.stops == []) = true := by kernel_rfl
theorem factKnobs : (Try.prog.stopKnobs == []) = true := by kernel_rfl
theorem factKeys : Try.prog.plainKeys = true := by kernel_rfl
theorem factOwn : ownKnob Try.prog.godebug = none := by kernel_rfl
theorem headFirst : (behindMainWord (wordsSigns headSigns)).head? = some "cut".toList := by kernel_rfl
theorem factHeard : Try.prog.stopsHeard = true := by kernel_rfl
theorem factLater : Try.prog.laysLater = false := by kernel_rfl
theorem factReflect : Try.prog.bearsReflect = false := by kernel_rfl
theorem factDoor : Try.prog.doorFits [] = true := by kernel_rfl

theorem factStrip (rest : List (List Char)) : stripLifts liftWords ("cut".toList :: rest) = ([], "cut".toList :: rest) := by rfl
theorem make_of {P : Program} {L : List Char} (h : P.initOrder.toList = L) (h0 : (behindMainWord (wordsSigns L)).head? = some "cut".toList) : P.make = some .cut := by
  unfold Program.make
  rw [h]
  generalize behindMainWord (wordsSigns L) = l at h0
  cases l with
  | nil => cases h0
  | cons c rest =>
    have hc : c = "cut".toList := Option.some.inj h0
    subst hc
    rfl
theorem lifts_of {P : Program} {L : List Char} (h : P.initOrder.toList = L) (h0 : (behindMainWord (wordsSigns L)).head? = some "cut".toList) : P.liftsFinal = false := by
  unfold Program.liftsFinal Program.headLifts
  rw [h]
  generalize behindMainWord (wordsSigns L) = l at h0
  cases l with
  | nil => cases h0
  | cons c rest =>
    have hc : c = "cut".toList := Option.some.inj h0
    subst hc
    simp only [factStrip]
    rfl
theorem enter_of {P : Program} {L : List Char} (h : P.initOrder.toList = L) (h0 : (behindMainWord (wordsSigns L)).head? = some "cut".toList) (h1 : P.laysLater = false) (h2 : P.bearsReflect = false) (h3 : P.doorFits [] = true) : P.mayEnter = true := by
  unfold Program.mayEnter
  rw [h]
  generalize behindMainWord (wordsSigns L) = l at h0
  cases l with
  | nil => cases h0
  | cons c rest =>
    have hc : c = "cut".toList := Option.some.inj h0
    subst hc
    simp only [factStrip, h1, h2, h3]
    rfl
theorem factMake : Try.prog.make = some .cut := make_of factSigns headFirst
theorem factLifts : Try.prog.liftsFinal = false := lifts_of factSigns headFirst
theorem factEnter : Try.prog.mayEnter = true := enter_of factSigns headFirst factLater factReflect factDoor

/-- What a row asks besides the program's own facts. -/
def lawFacts (P : Program) (f : FuncId) (fn : Func) (s : ChangeSpec) (c : OpenClaim) : Bool :=
  c.wf (OpenSpec.ofChange s) && fn.params.all (P.readableRec ·) && namedTie P c.named s.vars && (c.stops == []) && (c.knobs == []) &&
  (c.inPlace == P.inPlace f) && (c.unfollowed == P.unfollowed f) && (c.recurses == P.recurses f) && (c.named == P.varsNamed f) &&
  (c.maps == (fn.params.toList ++ s.plain.varTypes P).any (P.mapsRec ·)) && (c.ifaces == (fn.params.toList ++ s.plain.varTypes P).any (P.ifacesRec ·)) && (c.mapsOut == P.mapsAmong fn.resultTypes.toList) &&
  (c.loops == (fn.params.toList ++ s.plain.varTypes P).any (P.loopsFrom ·)) && (c.wideKeys == (fn.params.toList ++ s.plain.varTypes P ++ fn.resultTypes.toList).any (P.wideKeysFrom ·)) &&
  s.vars.all (P.varReadable ·) && fn.resultTypes.all (fun t => P.readableRec t && decide (t < P.types.size)) && (c.ifacesOut == fn.resultTypes.toList.any (P.ifacesRec ·)) && (c.loopsOut == fn.resultTypes.toList.any (P.loopsFrom ·)) && (c.plainKeys == true) && c.shortTexts.isNone && (c.lifted == false) && (some Make.cut == some c.make) && (c.kinds == (if c.domain.isEmpty then [] else fn.params.toList.map fun t => match P.underlying t with | some (.int k) => some k | _ => none)) && (c.pinned == c.pinnedBy) &&
  (c.veiled == (fn.params.toList ++ s.plain.varTypes P ++ fn.resultTypes.toList).any (P.veiledRec ·)) && c.veiledFits P fn.params.toList (fn.params.toList ++ s.plain.varTypes P ++ fn.resultTypes.toList)

theorem joined_of {P : Program} {f : FuncId} {fn : Func} {s : ChangeSpec} {c : OpenClaim} (h1 : laidOutB P = true) (h2 : mapsRowed P = true) (h3 : (P.stops == []) = true) (h4 : (P.stopKnobs == []) = true)
    (h5 : P.stopsHeard = true) (h6 : P.mayEnter = true) (h7 : P.liftsFinal = false) (h8 : P.make = some .cut) (h9 : P.plainKeys = true) (h : lawFacts P f fn s c = true) : joinedFacts P f fn s c = true := by
  unfold joinedFacts
  rw [h1, h2, h3, h4, h5, h6, h7, h8, h9]
  unfold lawFacts at h
  simp only [Bool.and_eq_true] at h ⊢
  obtain ⟨⟨⟨⟨⟨⟨⟨⟨⟨⟨⟨⟨⟨⟨⟨⟨⟨⟨⟨⟨⟨⟨⟨⟨⟨k1, k2⟩, k3⟩, k4⟩, k5⟩, k6⟩, k7⟩, k8⟩, k9⟩, k10⟩, k11⟩, k12⟩, k13⟩, k14⟩, k15⟩, k16⟩, k17⟩, k18⟩, k19⟩, k20⟩, k21⟩, k22⟩, k23⟩, k24⟩, k25⟩, k26⟩ := h
  simp only [k1, k2, k3, k4, k5, k6, k7, k8, k9, k10, k11, k12, k13, k14, k15, k16, k17, k18, k19, k20, k21, k22, k24, k25, k26, and_self]
  exact ⟨⟨⟨⟨trivial, k23⟩, trivial⟩, trivial⟩, trivial⟩

theorem joined_here {f : FuncId} {fn : Func} {s : ChangeSpec} {c : OpenClaim} (h : lawFacts Try.prog f fn s c = true) : joinedFacts Try.prog f fn s c = true :=
  joined_of factLaid factMaps factStops factKnobs factHeard factEnter factLifts factMake factKeys h

end Go.Proofs.Ytmgcfnciejfpbaa

/- Whether a list is a work list: the program's test. -/
namespace Go.Proofs.Ytmgcfnciejfpbaa
open Go.RowKit

def lipB (M P : List (List Int)) (ws : List Int) : Bool := decide (∀ i, i < ws.length → ∀ j, j < ws.length → nth ws i - nth ws j ≤ mvC M (row P i) (row P j))
def workB (M P : List (List Int)) (ws : List Int) : Bool := decide (ws.length = P.length) && (belowB 100000 ws && lipB M P ws)
theorem lipB_not {M P : List (List Int)} {ws : List Int} {i j : Nat} (hi : i < ws.length) (hj : j < ws.length) (h : mvC M (row P i) (row P j) < nth ws i - nth ws j) : lipB M P ws = false := by
  rw [lipB, decide_eq_false_iff_not]
  intro h'
  have := h' i hi j hj
  omega
theorem lipB_of {M P : List (List Int)} {ws : List Int} (h : ∀ i, i < ws.length → ∀ j, j < ws.length → nth ws i - nth ws j ≤ mvC M (row P i) (row P j)) : lipB M P ws = true := decide_eq_true h
theorem cosL_at {M P : List (List Int)} {i j : Nat} (hi : i < P.length) (hj : j < P.length) : (row (cosL M P) i).length = P.length ∧ nth (row (cosL M P) i) j = mvC M (row P i) (row P j) := by
  have e : row (cosL M P) i = P.map fun b => mvC M (row P i) b := by simp [row, cosL, hi]
  rw [e]
  refine ⟨by simp, ?_⟩
  simp [nth, row, hj]

set_option maxHeartbeats 1600000 in
set_option maxRecDepth 100000 in
theorem isWork_any {v vw : Value} {M P : List (List Int)} {ws : List Int} {w0 w : World} [Ext w0 w] (hW : IsWorks w0 v M P) (hw : IsInts w0 vw ws) (hl : P.length ≤ 1000) (hmv : ∀ i j, i < P.length → j < P.length → 0 ≤ mvC M (row P i) (row P j) ∧ mvC M (row P i) (row P j) ≤ 1000) :
    Calls Try.prog 81 #[v, vw] w fun e w' => e = .returned (.bool (workB M P ws)) ∧ Ext w w' := by
  obtain ⟨b, mv, pv, cv, rfl, h0, h1, h2, hM, hP, hC⟩ := hW
  have x1 := (‹Ext w0 w›).cell h1
  have hw' := hw
  obtain ⟨dw, mw, rfl, lw⟩ := hw.form
  obtain ⟨aP, cP, rfl, lP⟩ := hP.form
  have hCf := hC
  obtain ⟨aC, cC, rfl, lC⟩ := hC.form
  replace hmv := hid hmv
  have hcl := hid (show (cosL M P).length = P.length by simp [cosL])
  by_cases hlen : ws.length = P.length
  · have hn1 : ((ws.length : Int) != (P.length : Int)) = false := by rw [hlen]; simp
    cases hbl : belowB 100000 ws with
    | false =>
      have hr := hid (show workB M P ws = false by simp [workB, hbl])
      replace hbl := hid hbl
      replace hlen := hid hlen
      go_enter Try.func81, Try.ntmps81
      go_wp2_with fail
      with_reducible refine (areBelow_any (w0 := w0) hw' (by omega) (by omega)).mono ?_
      rw [hbl.out]
      rintro e w1 ⟨rfl, e1⟩
      go_wp2_with fail
      go_ret
      exact ⟨ret_bool hr.out.symm, e1⟩
    | true =>
      have hbel := hid (fun k hk => belowB_at hbl (k := k) hk)
      replace hbl := hid hbl
      replace hlen := hid hlen
      go_enter Try.func81, Try.ntmps81
      go_wp2_with fail
      with_reducible refine (areBelow_any (w0 := w0) hw' (by omega) (by omega)).mono ?_
      rw [hbl.out]
      rintro e w1 ⟨rfl, e1⟩
      have e01 : Ext w0 w1 := Ext.trans ‹Ext w0 w› e1
      have y2 := e01.cell h2
      go_wp2_with fail
      go_loop [24] (fun i => ∃ p : Nat, p ≤ ws.length ∧ i = .int .i64 p ∧ Hid (∀ i, i < p → ∀ j, j < ws.length → nth ws i - nth ws j ≤ mvC M (row P i) (row P j))) (fun i => ws.length - (intOf i).toNat)
      case atStart => exact ⟨0, by omega, rfl, fun i hi => by omega⟩
      case round =>
        obtain ⟨p, hp, rfl, hno⟩ := hrel
        by_cases hlt : p < ws.length
        · obtain ⟨bw, ow, hdw, hcw⟩ := hw'.at (w' := w1) hlt
          cases hdw
          have hpP : p < P.length := by rw [← hlen.out]; exact hlt
          obtain ⟨bc, oc, dr, mr, hdC, hcr, hir, hlr⟩ := hCf.at (w' := w1) (k := p) (by rw [hcl.out]; exact hpP)
          cases hdC
          have hcl2 : p < (cosL M P).length := by rw [hcl.out]; exact hpP
          go_wp2_with fail
          go_loop [31] (fun i => ∃ q : Nat, q ≤ ws.length ∧ i = .int .i64 q ∧ Hid (∀ j, j < q → nth ws p - nth ws j ≤ mvC M (row P p) (row P j))) (fun i => ws.length - (intOf i).toNat)
          case atStart => exact ⟨0, by omega, rfl, fun i hi => by omega⟩
          case round =>
            obtain ⟨q, hq, rfl, hno2⟩ := hrel
            by_cases hltq : q < ws.length
            · obtain ⟨bw2, ow2, hdw2, hcw2⟩ := hw'.at (w' := w1) hltq
              cases hdw2
              have hqP : q < P.length := by rw [← hlen.out]; exact hltq
              obtain ⟨hrl, hrn⟩ := cosL_at (M := M) hpP hqP
              obtain ⟨br, orr, hdr, hcc⟩ := hir.at (w' := w1) (k := q) (by rw [hrl]; exact hqP)
              cases hdr
              have hqr : q < (row (cosL M P) p).length := by rw [hrl]; exact hqP
              have hb1 := hbel.out p hlt
              have hb2 := hbel.out q hltq
              have hb3 := hmv.out p q hpP hqP
              rw [hrn] at hcc
              replace hrn := hid hrn
              replace hrl := hid hrl
              by_cases hg : mvC M (row P p) (row P q) < nth ws p - nth ws q
              · have hr := hid (show workB M P ws = false by simp [workB, lipB_not hlt hltq hg])
                go_wp2_with fail
                go_ret
                exact ⟨ret_bool hr.out.symm, e1⟩
              · have hno3 := hid (show ∀ j, j < q + 1 → nth ws p - nth ws j ≤ mvC M (row P p) (row P j) from fun j hj => by
                  by_cases e : j = q
                  · rw [e]; omega
                  · exact hno2.out j (by omega))
                go_wp2_with fail
                go_round
                case rel => exact ⟨q + 1, by omega, by go_num, hno3.out⟩
                case measure => simp [intOf]; omega
            · have hno3 := hid (show ∀ i, i < p + 1 → ∀ j, j < ws.length → nth ws i - nth ws j ≤ mvC M (row P i) (row P j) from fun i hi j hj => by
                by_cases e : i = p
                · rw [e]; exact hno2.out j (by omega)
                · exact hno.out i (by omega) j hj)
              go_wp2_with fail
              go_round
              case rel => exact ⟨p + 1, by omega, by go_num, hno3.out⟩
              case measure => simp [intOf]; omega
        · have hr := hid (show workB M P ws = true by
            rw [workB, decide_eq_true hlen.out, hbl.out, lipB_of fun i hi j hj => hno.out i (by omega) j hj]; rfl)
          go_wp2_with fail
          go_ret
          exact ⟨ret_bool hr.out.symm, e1⟩
  · have hn1 : ((ws.length : Int) != (P.length : Int)) = true := by simp; omega
    have hr := hid (show workB M P ws = false by simp [workB, hlen])
    replace hlen := hid hlen
    go_enter Try.func81, Try.ntmps81
    go_wp2_with fail
    go_ret
    exact ⟨ret_bool hr.out.symm, Ext.refl _⟩
end Go.Proofs.Ytmgcfnciejfpbaa

/- The plain law of the next work list: the program's least sum over the configurations with a point is the reference's over one point moved. -/
namespace Go.Proofs.Ytmgcfnciejfpbaa
open Go.RowKit

--PURE
/-- a configuration with the s-th point moved to r, and its sum -/
def swC (P : List (List Int)) (r : Int) (i s : Nat) : List Int := sortL ((row P i).set s r)
def swS (M P : List (List Int)) (ws : List Int) (r : Int) (i s : Nat) : Int := nth ws (atR P (swC P r i s)) + cell M (nth (row P i) s).toNat r.toNat
def viS (M P : List (List Int)) (ws : List Int) (i j : Nat) : Int := nth ws j + mvC M (row P j) (row P i)
def LipW (M P : List (List Int)) (ws : List Int) : Prop := ws.length = P.length ∧ ∀ i j, i < P.length → j < P.length → nth ws i - nth ws j ≤ mvC M (row P i) (row P j)
theorem row_conf {n k i : Nat} (hi : i < (confs n k 0).length) : (row (confs n k 0) i).length = k ∧ Pts n (row (confs n k 0) i) ∧ Asc (row (confs n k 0) i) := by
  obtain ⟨h1, h2, h3⟩ := confs_iff.1 (row_mem hi)
  exact ⟨h1, fun x hx => by have := h3 x hx; omega, h2⟩
theorem sw_conf {n k i s : Nat} {r : Int} (hi : i < (confs n k 0).length) (hs : s < k) (hr : 0 ≤ r ∧ r < (n : Int)) : swC (confs n k 0) r i s ∈ confs n k 0 ∧ r ∈ swC (confs n k 0) r i s := by
  obtain ⟨h1, h2, h3⟩ := row_conf hi
  refine ⟨confs_iff.2 ⟨by rw [swC, sortL_len, List.length_set, h1], sortL_asc _, fun x hx => ?_⟩, ?_⟩
  · have h4 := (sortL_perm _).mem_iff.1 hx
    have := h2.set (s := s) hr x h4
    omega
  · refine (sortL_perm _).mem_iff.2 ?_
    rw [List.mem_iff_getElem]
    exact ⟨s, by rw [List.length_set, h1]; exact hs, by simp⟩
/-- each moved point is a way over a configuration with it -/
theorem sw_via {M : List (List Int)} {n k i s : Nat} {r : Int} {ws : List Int} (hd : Dst M n) (hk : k ≤ 3) (hi : i < (confs n k 0).length) (hs : s < k) (hr : 0 ≤ r ∧ r < (n : Int)) :
    ∃ j, j < (confs n k 0).length ∧ r ∈ row (confs n k 0) j ∧ viS M (confs n k 0) ws i j ≤ swS M (confs n k 0) ws r i s := by
  obtain ⟨h1, h2, h3⟩ := row_conf hi
  obtain ⟨hm, hrm⟩ := sw_conf hi hs hr
  obtain ⟨hlt, hrow⟩ := atR_lt hm
  refine ⟨_, hlt, by rw [hrow]; exact hrm, ?_⟩
  have hset := mvC_set hd (s := s) (r := r) h2 hr (by omega) (by omega)
  have hp := mvC_permR hd (sortL_perm ((row (confs n k 0) i).set s r)).symm h2 (h2.set hr) (by simp) (by omega)
  have hpts : Pts n (swC (confs n k 0) r i s) := (h2.set hr).perm (sortL_perm _)
  have hsy := mvC_symm hd h2 hpts (by rw [swC, sortL_len, List.length_set]) (by omega)
  unfold viS swS
  rw [hrow]
  unfold swC at *
  omega
/-- and each way is no less than a moved point -/
theorem via_sw {M : List (List Int)} {n k i j : Nat} {r : Int} {ws : List Int} (hd : Dst M n) (hk : k ≤ 3) (hw : LipW M (confs n k 0) ws) (hi : i < (confs n k 0).length) (hj : j < (confs n k 0).length) (hr : r ∈ row (confs n k 0) j) :
    ∃ s, s < k ∧ swS M (confs n k 0) ws r i s ≤ viS M (confs n k 0) ws i j := by
  obtain ⟨h1, h2, h3⟩ := row_conf hi
  obtain ⟨g1, g2, g3⟩ := row_conf hj
  have hrr := g2 r hr
  obtain ⟨s, hs, hle⟩ := mvC_via hd h2 g2 (by rw [h1, g1]) (by omega) hr
  rw [h1] at hs
  obtain ⟨hm, hrm⟩ := sw_conf hi hs hrr
  obtain ⟨hlt, hrow⟩ := atR_lt hm
  have hlip := hw.2 _ j hlt hj
  rw [hrow] at hlip
  have hp := mvC_permL hd (sortL_perm ((row (confs n k 0) i).set s r)).symm (h2.set hrr) g2 (by simp; omega) (by simp; omega)
  have hsy := mvC_symm hd h2 g2 (by rw [h1, g1]) (by omega)
  refine ⟨s, hs, ?_⟩
  unfold viS swS
  unfold swC at *
  omega
/-- a value that is the least of the ways is at least the old one, and not much more -/
theorem via_ge {M : List (List Int)} {n k i j : Nat} {ws : List Int} (hd : Dst M n) (hk : k ≤ 3) (hw : LipW M (confs n k 0) ws) (hi : i < (confs n k 0).length) (hj : j < (confs n k 0).length) : nth ws i ≤ viS M (confs n k 0) ws i j := by
  obtain ⟨h1, h2, h3⟩ := row_conf hi
  obtain ⟨g1, g2, g3⟩ := row_conf hj
  have := hw.2 i j hi hj
  have hsy := mvC_symm hd h2 g2 (by rw [h1, g1]) (by omega)
  unfold viS
  omega
theorem via_lip {M : List (List Int)} {n k i q j : Nat} {ws : List Int} (hd : Dst M n) (hk : k ≤ 3) (hi : i < (confs n k 0).length) (hq : q < (confs n k 0).length) (hj : j < (confs n k 0).length) : viS M (confs n k 0) ws i j ≤ viS M (confs n k 0) ws q j + mvC M (row (confs n k 0) q) (row (confs n k 0) i) := by
  obtain ⟨h1, h2, h3⟩ := row_conf hi
  obtain ⟨g1, g2, g3⟩ := row_conf hj
  obtain ⟨f1, f2, f3⟩ := row_conf hq
  have := mvC_tri hd g2 f2 h2 (by rw [g1, f1]) (by rw [f1, h1]) (by omega)
  unfold viS
  omega
end Go.Proofs.Ytmgcfnciejfpbaa

/- The next work list, as the program makes it. -/
namespace Go.Proofs.Ytmgcfnciejfpbaa
open Go.RowKit

/-- the value at i when j configurations are seen -/
def wxAt (M P : List (List Int)) (ws : List Int) (r : Int) : Nat → Nat → Int
  | 0, _ => 1073741824
  | j + 1, i => if hasB (row P j) r then (if viS M P ws i j < wxAt M P ws r j i then viS M P ws i j else wxAt M P ws r j i) else wxAt M P ws r j i
def wxL (M P : List (List Int)) (ws : List Int) (r : Int) (j x : Nat) : List Int := (List.range ws.length).map fun y => wxAt M P ws r (if y < x then j + 1 else j) y
def wnxL (M P : List (List Int)) (ws : List Int) (r : Int) : List Int := wxL M P ws r P.length 0
theorem wxL_length (M P : List (List Int)) (ws : List Int) (r : Int) (j x : Nat) : (wxL M P ws r j x).length = ws.length := by simp [wxL]
theorem nth_wxL {M P : List (List Int)} {ws : List Int} {r : Int} {j x y : Nat} (h : y < ws.length) : nth (wxL M P ws r j x) y = wxAt M P ws r (if y < x then j + 1 else j) y := by simp [wxL, nth, h]
theorem wxL_zero (M P : List (List Int)) (ws : List Int) (r : Int) : wxL M P ws r 0 0 = List.replicate ws.length 1073741824 := by
  refine eq_of_nth (by rw [wxL_length, List.length_replicate]) fun y hy => ?_
  rw [wxL_length] at hy
  rw [nth_wxL hy]
  simp [wxAt, nth, hy]
theorem wxL_full (M P : List (List Int)) (ws : List Int) (r : Int) (j : Nat) : wxL M P ws r j ws.length = wxL M P ws r (j + 1) 0 := by
  refine eq_of_nth (by rw [wxL_length, wxL_length]) fun y hy => ?_
  rw [wxL_length] at hy
  rw [nth_wxL hy, nth_wxL hy, if_pos hy, if_neg (by omega)]
theorem wxL_skip {M P : List (List Int)} {ws : List Int} {r : Int} {j : Nat} (h : hasB (row P j) r = false) : wxL M P ws r (j + 1) 0 = wxL M P ws r j 0 := by
  refine eq_of_nth (by rw [wxL_length, wxL_length]) fun y hy => ?_
  rw [wxL_length] at hy
  rw [nth_wxL hy, nth_wxL hy, if_neg (by omega), if_neg (by omega), wxAt, h]
  rfl
theorem wxL_set {M P : List (List Int)} {ws : List Int} {r : Int} {j x : Nat} (hx : x < ws.length) : ((wxL M P ws r j x).map (Value.int .i64)).set x (.int .i64 (wxAt M P ws r (j + 1) x)) = (wxL M P ws r j (x + 1)).map (Value.int .i64) := by
  rw [← List.map_set]
  congr 1
  refine eq_of_nth (by rw [List.length_set, wxL_length, wxL_length]) fun y hy => ?_
  rw [List.length_set, wxL_length] at hy
  rw [nth_wxL hy]
  by_cases h : y = x
  · subst h
    simp [nth, wxL_length, hy]
  · have e : nth ((wxL M P ws r j x).set x (wxAt M P ws r (j + 1) x)) y = nth (wxL M P ws r j x) y := by
      simp [nth, Ne.symm h]
    rw [e, nth_wxL hy]
    by_cases h2 : y < x
    · rw [if_pos h2, if_pos (by omega)]
    · rw [if_neg h2, if_neg (by omega)]
theorem wxAt_succ {M P : List (List Int)} {ws : List Int} {r : Int} {j i : Nat} (h : hasB (row P j) r = true) : wxAt M P ws r (j + 1) i = if viS M P ws i j < wxAt M P ws r j i then viS M P ws i j else wxAt M P ws r j i := by rw [wxAt, if_pos h]
/-- what is made so is the least of the ways, and far where there is none -/
theorem wxAt_le {M P : List (List Int)} {ws : List Int} {r : Int} {i : Nat} : ∀ j, wxAt M P ws r j i ≤ 1073741824 ∧ (∀ t, t < j → r ∈ row P t → wxAt M P ws r j i ≤ viS M P ws i t) ∧ (wxAt M P ws r j i = 1073741824 ∨ ∃ t, t < j ∧ r ∈ row P t ∧ wxAt M P ws r j i = viS M P ws i t) := by
  intro j
  induction j with
  | zero => exact ⟨by simp [wxAt], fun t ht => by omega, .inl rfl⟩
  | succ j ih =>
    obtain ⟨h1, h2, h3⟩ := ih
    have h3' : wxAt M P ws r j i = 1073741824 ∨ ∃ t, t < j + 1 ∧ r ∈ row P t ∧ wxAt M P ws r j i = viS M P ws i t := h3.imp_right fun ⟨t, a, b, c⟩ => ⟨t, by omega, b, c⟩
    cases hb : hasB (row P j) r with
    | false =>
      rw [show wxAt M P ws r (j + 1) i = wxAt M P ws r j i by rw [wxAt, hb]; rfl]
      refine ⟨h1, fun t ht hr => ?_, h3'⟩
      by_cases h4 : t = j
      · subst h4; exact absurd hr (hasB_false.1 hb)
      · exact h2 t (by omega) hr
    | true =>
      rw [wxAt_succ hb]
      by_cases h5 : viS M P ws i j < wxAt M P ws r j i
      · rw [if_pos h5]
        refine ⟨by omega, fun t ht hr => ?_, .inr ⟨j, by omega, hasB_true.1 hb, rfl⟩⟩
        by_cases h4 : t = j
        · subst h4; exact Int.le_refl _
        · have := h2 t (by omega) hr; omega
      · rw [if_neg h5]
        refine ⟨h1, fun t ht hr => ?_, h3'⟩
        by_cases h4 : t = j
        · subst h4; omega
        · exact h2 t (by omega) hr

end Go.Proofs.Ytmgcfnciejfpbaa

/- The reference's next work list and the program's are one. -/
namespace Go.Proofs.Ytmgcfnciejfpbaa
open Go.RowKit

--PURE
/-- the reference's least over the first servers; -1 ahead of the first -/
def snAt (M P : List (List Int)) (ws : List Int) (r : Int) (i : Nat) : Nat → Int
  | 0 => -1
  | s + 1 => if snAt M P ws r i s < 0 ∨ swS M P ws r i s < snAt M P ws r i s then swS M P ws r i s else snAt M P ws r i s
theorem snAt_le {M P : List (List Int)} {ws : List Int} {r : Int} {i : Nat} : ∀ k, 1 ≤ k → (∀ s, s < k → 0 ≤ swS M P ws r i s) → (∀ s, s < k → snAt M P ws r i k ≤ swS M P ws r i s) ∧ ∃ s, s < k ∧ snAt M P ws r i k = swS M P ws r i s := by
  intro k
  induction k with
  | zero => intro h; omega
  | succ k ih =>
    intro _ h0
    by_cases hk : k = 0
    · subst hk
      have e : snAt M P ws r i (0 + 1) = swS M P ws r i 0 := by rw [snAt, if_pos (.inl (by simp [snAt]))]
      exact ⟨fun s hs => by rw [e, show s = 0 by omega]; exact Int.le_refl _, 0, by omega, e⟩
    · obtain ⟨h1, s1, h2, h3⟩ := ih (by omega) (fun s hs => h0 s (by omega))
      have h4 := h0 s1 (by omega)
      by_cases h5 : swS M P ws r i k < snAt M P ws r i k
      · have e : snAt M P ws r i (k + 1) = swS M P ws r i k := by rw [snAt, if_pos (.inr h5)]
        refine ⟨fun s hs => ?_, k, by omega, e⟩
        by_cases h6 : s = k
        · rw [e, h6]; exact Int.le_refl _
        · have := h1 s (by omega)
          omega
      · have e : snAt M P ws r i (k + 1) = snAt M P ws r i k := by rw [snAt, if_neg (by omega)]
        refine ⟨fun s hs => ?_, s1, by omega, by rw [e, h3]⟩
        by_cases h6 : s = k
        · rw [e, h6]; omega
        · have := h1 s (by omega)
          omega
theorem next_eq {M : List (List Int)} {n k i : Nat} {r : Int} {ws : List Int} (hd : Dst M n) (h1 : 1 ≤ k) (hk : k ≤ 3) (hw : LipW M (confs n k 0) ws) (hb : ∀ j, j < (confs n k 0).length → 0 ≤ nth ws j ∧ nth ws j ≤ 1000000) (hc : ∀ x y : Nat, x < n → y < n → 0 ≤ cell M x y ∧ cell M x y ≤ 99) (hi : i < (confs n k 0).length) (hr : 0 ≤ r ∧ r < (n : Int)) :
    snAt M (confs n k 0) ws r i k = wxAt M (confs n k 0) ws r (confs n k 0).length i := by
  have hin : ∀ s, s < k → 0 ≤ swS M (confs n k 0) ws r i s ∧ swS M (confs n k 0) ws r i s ≤ 1000099 := by
    intro s hs
    obtain ⟨g1, g2, g3⟩ := row_conf hi
    obtain ⟨hm, _⟩ := sw_conf hi hs hr
    have h2 := hb _ (atR_lt hm).1
    have h3 := g2 _ (nth_mem (show s < (row (confs n k 0) i).length by omega))
    have h4 := hc (nth (row (confs n k 0) i) s).toNat r.toNat (by omega) (by omega)
    unfold swS
    omega
  obtain ⟨h2, s, hs, h3⟩ := snAt_le k h1 (fun s hs => (hin s hs).1)
  obtain ⟨h4, h5, h6⟩ := wxAt_le (M := M) (P := confs n k 0) (ws := ws) (r := r) (i := i) (confs n k 0).length
  obtain ⟨j, hj, hrj, hle⟩ := sw_via (ws := ws) hd hk hi hs hr
  have h7 := h5 j hj hrj
  have h8 := hin s hs
  rcases h6 with h6 | ⟨t, ht, hrt, h6⟩
  · omega
  · obtain ⟨s', hs', h9⟩ := via_sw hd hk hw hi ht hrt
    have := h2 s' hs'
    omega
end Go.Proofs.Ytmgcfnciejfpbaa

/- Plain law: work lists stay good; the choice of the work function algorithm. -/
namespace Go.Proofs.Ytmgcfnciejfpbaa
open Go.RowKit

--PURE
/-- a work list with values up to a limit -/
def GoodW (M P : List (List Int)) (ws : List Int) (L : Int) : Prop := LipW M P ws ∧ ∀ j, j < P.length → 0 ≤ nth ws j ∧ nth ws j ≤ L
theorem GoodW.mono {M P : List (List Int)} {ws : List Int} {L L' : Int} (h : GoodW M P ws L) (hl : L ≤ L') : GoodW M P ws L' := ⟨h.1, fun j hj => ⟨(h.2 j hj).1, Int.le_trans (h.2 j hj).2 hl⟩⟩
theorem wnx_at {M P : List (List Int)} {ws : List Int} {r : Int} {i : Nat} (h : i < ws.length) : nth (wnxL M P ws r) i = wxAt M P ws r P.length i := by rw [wnxL, nth_wxL h, if_neg (by omega)]
theorem wnxL_len {M P : List (List Int)} {ws : List Int} {r : Int} : (wnxL M P ws r).length = ws.length := wxL_length _ _ _ _ _ _
theorem wnx_way {M : List (List Int)} {n k i : Nat} {r L : Int} {ws : List Int} (hd : Dst M n) (h1 : 1 ≤ k) (hk : k ≤ 3) (hg : GoodW M (confs n k 0) ws L) (hL : L ≤ 1000000) (hi : i < (confs n k 0).length) (hr : 0 ≤ r ∧ r < (n : Int)) :
    (∀ t, t < (confs n k 0).length → r ∈ row (confs n k 0) t → wxAt M (confs n k 0) ws r (confs n k 0).length i ≤ viS M (confs n k 0) ws i t) ∧
    ∃ t, t < (confs n k 0).length ∧ r ∈ row (confs n k 0) t ∧ wxAt M (confs n k 0) ws r (confs n k 0).length i = viS M (confs n k 0) ws i t := by
  obtain ⟨h4, h5, h6⟩ := wxAt_le (M := M) (P := confs n k 0) (ws := ws) (r := r) (i := i) (confs n k 0).length
  refine ⟨h5, ?_⟩
  rcases h6 with h6 | h6
  · obtain ⟨j, hj, hrj, hle⟩ := sw_via (ws := ws) (s := 0) hd hk hi (by omega) hr
    have h7 := h5 j hj hrj
    obtain ⟨g1, g2, g3⟩ := row_conf hi
    obtain ⟨hm, _⟩ := sw_conf (s := 0) hi (by omega) hr
    have h8 := hg.2 _ (atR_lt hm).1
    have h9 := g2 _ (nth_mem (show 0 < (row (confs n k 0) i).length by omega))
    have h10 := hd.pos (nth (row (confs n k 0) i) 0).toNat r.toNat (by omega) (by omega)
    unfold swS at hle
    omega
  · exact h6
/-- one more request: the work list is good, and its values are not much greater -/
theorem wnx_good {M : List (List Int)} {n k : Nat} {r L : Int} {ws : List Int} (hd : Dst M n) (h1 : 1 ≤ k) (hk : k ≤ 3) (hg : GoodW M (confs n k 0) ws L) (hL : L ≤ 1000000) (hr : 0 ≤ r ∧ r < (n : Int)) :
    GoodW M (confs n k 0) (wnxL M (confs n k 0) ws r) (L + 198) ∧ ∀ i, i < (confs n k 0).length → nth ws i ≤ nth (wnxL M (confs n k 0) ws r) i := by
  have hlen := hg.1.1
  have hge : ∀ i, i < (confs n k 0).length → nth ws i ≤ nth (wnxL M (confs n k 0) ws r) i := fun i hi => by
    obtain ⟨_, t, ht, _, h6⟩ := wnx_way hd h1 hk hg hL hi hr
    rw [wnx_at (by omega), h6]
    exact via_ge hd hk hg.1 hi ht
  refine ⟨⟨⟨by rw [wnxL_len, hlen], fun i q hi hq => ?_⟩, fun i hi => ⟨?_, ?_⟩⟩, hge⟩
  · obtain ⟨h5, _⟩ := wnx_way hd h1 hk hg hL hi hr
    obtain ⟨_, t, ht, hrt, h6⟩ := wnx_way hd h1 hk hg hL hq hr
    rw [wnx_at (by omega), wnx_at (by omega), h6]
    have h7 := h5 t ht hrt
    have h8 := via_lip (ws := ws) hd hk hi hq ht
    obtain ⟨g1, g2, g3⟩ := row_conf hi
    obtain ⟨f1, f2, f3⟩ := row_conf hq
    have := mvC_symm hd g2 f2 (by rw [g1, f1]) (by omega)
    omega
  · have := hge i hi
    have := (hg.2 i hi).1
    omega
  · obtain ⟨h5, _⟩ := wnx_way hd h1 hk hg hL hi hr
    obtain ⟨j, hj, hrj, hle⟩ := sw_via (ws := ws) (s := 0) hd hk hi (by omega) hr
    obtain ⟨g1, g2, g3⟩ := row_conf hi
    obtain ⟨hm, _⟩ := sw_conf (s := 0) hi (by omega) hr
    obtain ⟨hlt, hrow⟩ := atR_lt hm
    have hlip := hg.1.2 _ i hlt hi
    rw [hrow] at hlip
    have hpts : Pts n (swC (confs n k 0) r i 0) := (g2.set hr).perm (sortL_perm _)
    have h9 := g2 _ (nth_mem (show 0 < (row (confs n k 0) i).length by omega))
    have h10 := hd.pos (nth (row (confs n k 0) i) 0).toNat r.toNat (by omega) (by omega)
    have hset := mvC_set hd (s := 0) (r := r) g2 hr (by omega) (by omega)
    have hp := mvC_permR hd (sortL_perm ((row (confs n k 0) i).set 0 r)).symm g2 (g2.set hr) (by simp) (by omega)
    have hsy := mvC_symm hd g2 hpts (by rw [swC, sortL_len, List.length_set]) (by omega)
    have h7 := h5 j hj hrj
    have h8 := (hg.2 i hi).2
    rw [wnx_at (by omega)]
    unfold swS at hle
    unfold swC at *
    omega
/-- the work list of the empty sequence -/
theorem start_good {M : List (List Int)} {n k : Nat} {a : List Int} (hd : Dst M n) (hk : k ≤ 3) (ha : a ∈ confs n k 0) : GoodW M (confs n k 0) ((confs n k 0).map fun b => mvC M a b) 297 := by
  obtain ⟨h1, h2, h3⟩ := confs_iff.1 ha
  have hpa : Pts n a := fun x hx => by have := h3 x hx; omega
  have hnth : ∀ i, i < (confs n k 0).length → nth ((confs n k 0).map fun b => mvC M a b) i = mvC M a (row (confs n k 0) i) := fun i hi => by simp [nth, row, hi]
  refine ⟨⟨by simp, fun i j hi hj => ?_⟩, fun j hj => ?_⟩
  · obtain ⟨g1, g2, g3⟩ := row_conf hi
    obtain ⟨f1, f2, f3⟩ := row_conf hj
    rw [hnth i hi, hnth j hj]
    have := mvC_tri hd hpa f2 g2 (by rw [h1, f1]) (by rw [f1, g1]) (by omega)
    have := mvC_symm hd g2 f2 (by rw [g1, f1]) (by omega)
    omega
  · obtain ⟨f1, f2, f3⟩ := row_conf hj
    rw [hnth j hj]
    have := mvC_in hd hpa f2 (by rw [h1, f1]) (by omega)
    omega
theorem work_good {M : List (List Int)} {P : List (List Int)} {ws : List Int} (h : workB M P ws = true) : GoodW M P ws 99999 := by
  simp only [workB, Bool.and_eq_true, decide_eq_true_eq] at h
  obtain ⟨h1, h2, h3⟩ := h
  simp only [lipB, decide_eq_true_eq] at h3
  refine ⟨⟨h1, fun i j hi hj => h3 i (by omega) j (by omega)⟩, fun j hj => ?_⟩
  have := belowB_at h2 (k := j) (by omega)
  omega

/-- the s-th server moved to r; the sum -/
def svX (a : List Int) (r : Int) (s : Nat) : List Int := sortL (a.set s r)
def svN (M P : List (List Int)) (nx a : List Int) (r : Int) (s : Nat) : Int := nth nx (atR P (svX a r s)) + cell M (nth a s).toNat r.toNat
/-- the best one of the first servers, its cost, its sum -/
def svT (M P : List (List Int)) (nx a : List Int) (r : Int) : Nat → List Int × Int × Int
  | 0 => ([], 0, 1073741824)
  | s + 1 => if svN M P nx a r s < (svT M P nx a r s).2.2 ∨ (svN M P nx a r s = (svT M P nx a r s).2.2 ∧ lexC (svX a r s) (svT M P nx a r s).1 < 0) then (svX a r s, cell M (nth a s).toNat r.toNat, svN M P nx a r s) else svT M P nx a r s
def svC (M P : List (List Int)) (nx a : List Int) (r : Int) : List Int := if hasB a r then a else (svT M P nx a r a.length).1
def svK (M P : List (List Int)) (nx a : List Int) (r : Int) : Int := if hasB a r then 0 else (svT M P nx a r a.length).2.1
theorem svT_at {M P : List (List Int)} {nx a : List Int} {r : Int} : ∀ {s : Nat}, (∀ t, t < s → svN M P nx a r t < 1073741824) → 1 ≤ s → ∃ t, t < s ∧ svT M P nx a r s = (svX a r t, cell M (nth a t).toNat r.toNat, svN M P nx a r t) := by
  intro s
  induction s with
  | zero => intro _ h; omega
  | succ s ih =>
    intro h _
    rw [svT]
    split
    · exact ⟨s, by omega, rfl⟩
    · rename_i hn
      by_cases hs : s = 0
      · subst hs
        exact absurd (.inl (h 0 (by omega))) hn
      · obtain ⟨t, ht, h2⟩ := ih (fun t ht => h t (by omega)) (by omega)
        exact ⟨t, by omega, h2⟩
theorem set_conf {n k s : Nat} {r : Int} {a : List Int} (ha : a ∈ confs n k 0) (hs : s < k) (hr : 0 ≤ r ∧ r < (n : Int)) : svX a r s ∈ confs n k 0 ∧ r ∈ svX a r s := by
  obtain ⟨h1, h2, h3⟩ := confs_iff.1 ha
  have hpa : Pts n a := fun x hx => by have := h3 x hx; omega
  refine ⟨confs_iff.2 ⟨by rw [svX, sortL_len, List.length_set, h1], sortL_asc _, fun x hx => ?_⟩, ?_⟩
  · have h4 := (sortL_perm _).mem_iff.1 hx
    have := hpa.set (s := s) hr x h4
    omega
  · refine (sortL_perm _).mem_iff.2 ?_
    rw [List.mem_iff_getElem]
    exact ⟨s, by rw [List.length_set, h1]; exact hs, by simp⟩
theorem svN_in {M : List (List Int)} {n k s : Nat} {r L : Int} {nx a : List Int} (hd : Dst M n) (hg : GoodW M (confs n k 0) nx L) (ha : a ∈ confs n k 0) (hs : s < k) (hr : 0 ≤ r ∧ r < (n : Int)) : 0 ≤ svN M (confs n k 0) nx a r s ∧ svN M (confs n k 0) nx a r s ≤ L + 99 := by
  obtain ⟨hm, _⟩ := set_conf ha hs hr
  obtain ⟨h1, h2, h3⟩ := confs_iff.1 ha
  have h4 := hg.2 _ (atR_lt hm).1
  have h5 := h3 _ (nth_mem (show s < a.length by omega))
  have h6 := hd.pos (nth a s).toNat r.toNat (by omega) (by omega)
  unfold svN
  omega
/-- the choice is a configuration with the point, and the cost is a distance -/
theorem sv_conf {M : List (List Int)} {n k : Nat} {r L : Int} {nx a : List Int} (hd : Dst M n) (h1k : 1 ≤ k) (hg : GoodW M (confs n k 0) nx L) (hL : L ≤ 2000000) (ha : a ∈ confs n k 0) (hr : 0 ≤ r ∧ r < (n : Int)) :
    svC M (confs n k 0) nx a r ∈ confs n k 0 ∧ r ∈ svC M (confs n k 0) nx a r ∧ 0 ≤ svK M (confs n k 0) nx a r ∧ svK M (confs n k 0) nx a r ≤ 99 := by
  obtain ⟨h1, h2, h3⟩ := confs_iff.1 ha
  cases hh : hasB a r with
  | true =>
    rw [svC, svK, hh]
    exact ⟨ha, hasB_true.1 hh, by simp, by simp⟩
  | false =>
    rw [svC, svK, hh]
    obtain ⟨t, ht, h4⟩ := svT_at (M := M) (P := confs n k 0) (nx := nx) (a := a) (r := r) (s := a.length) (fun t ht => by have := (svN_in hd hg ha (s := t) (by omega) hr).2; omega) (by omega)
    obtain ⟨h5, h6⟩ := set_conf ha (s := t) (by omega) hr
    have h7 := h3 _ (nth_mem ht)
    have h8 := hd.pos (nth a t).toNat r.toNat (by omega) (by omega)
    simp only [h4]
    exact ⟨h5, h6, h8.1, h8.2⟩
/-- the program's moved configuration is the reference's -/
theorem mov_sv {a : List Int} {r : Int} {s : Nat} (hs : s < a.length) : movL a (nth a s) r = svX a r s := by
  have hm := nth_mem hs
  obtain ⟨h1, h2, h3⟩ := ixOf_in hm
  unfold movL svX
  refine asc_uniq (sortL_asc _) (sortL_asc _) ((sortL_perm _).trans (List.Perm.trans ?_ (sortL_perm _).symm))
  have hi : (ixOf a (nth a s)).toNat < a.length := by omega
  generalize (ixOf a (nth a s)).toNat = i at *
  have e1 := perm_set a i r hi
  have e2 := perm_set a s r hs
  refine e1.trans (List.Perm.trans (List.Perm.cons r ?_) e2.symm)
  have f1 := perm_set a i a[i] hi
  have f2 := perm_set a s a[s] hs
  rw [List.set_getElem_self] at f1 f2
  have e : a[i] = a[s] := by simpa [nth, hi, hs] using h3
  have g := f1.symm.trans f2
  rw [e] at g
  exact (List.perm_cons _).1 g
/-- the reference's least: -1 ahead of the first -/
def svL (M P : List (List Int)) (nx a : List Int) (r : Int) (s : Nat) : Int := if s = 0 then -1 else (svT M P nx a r s).2.2
def svQ (M P : List (List Int)) (nx a : List Int) (r : Int) (s : Nat) : Prop := svN M P nx a r s < (svT M P nx a r s).2.2 ∨ (svN M P nx a r s = (svT M P nx a r s).2.2 ∧ lexC (svX a r s) (svT M P nx a r s).1 < 0)
theorem svT_yes {M P : List (List Int)} {nx a : List Int} {r : Int} {s : Nat} (h : svN M P nx a r s < (svT M P nx a r s).2.2 ∨ (svN M P nx a r s = (svT M P nx a r s).2.2 ∧ lexC (svX a r s) (svT M P nx a r s).1 < 0)) : svT M P nx a r (s + 1) = (svX a r s, cell M (nth a s).toNat r.toNat, svN M P nx a r s) := by rw [svT, if_pos h]
theorem svT_no {M P : List (List Int)} {nx a : List Int} {r : Int} {s : Nat} (h : ¬ (svN M P nx a r s < (svT M P nx a r s).2.2 ∨ (svN M P nx a r s = (svT M P nx a r s).2.2 ∧ lexC (svX a r s) (svT M P nx a r s).1 < 0))) : svT M P nx a r (s + 1) = svT M P nx a r s := by rw [svT, if_neg h]

/-- the greatest number of a list -/
def grtL (xs : List Int) : Int := xs.foldl max 0
theorem grtL_snoc (xs : List Int) (x : Int) : grtL (xs ++ [x]) = max (grtL xs) x := by simp [grtL]
theorem grtL_ge : ∀ (xs : List Int) (b : Int), b ≤ xs.foldl max b ∧ ∀ x ∈ xs, x ≤ xs.foldl max b
  | [], b => ⟨Int.le_refl _, by simp⟩
  | y :: xs, b => by
    obtain ⟨h1, h2⟩ := grtL_ge xs (max b y)
    refine ⟨by simp only [List.foldl_cons]; omega, fun x hx => ?_⟩
    simp only [List.foldl_cons]
    rcases List.mem_cons.1 hx with rfl | hx
    · omega
    · exact h2 x hx
theorem grtL_or : ∀ (xs : List Int) (b : Int), xs.foldl max b = b ∨ xs.foldl max b ∈ xs
  | [], b => .inl rfl
  | y :: xs, b => by
    simp only [List.foldl_cons]
    rcases grtL_or xs (max b y) with h | h
    · rw [h]
      by_cases hb : b ≤ y
      · exact .inr (by rw [show max b y = y by omega]; simp)
      · exact .inl (by omega)
    · exact .inr (List.mem_cons_of_mem _ h)
theorem grtL_below {xs : List Int} (h : ∀ x ∈ xs, 0 ≤ x) : decide (99999 < grtL xs) = !belowB 100000 xs := by
  cases hb : belowB 100000 xs with
  | true =>
    have : ¬ 99999 < grtL xs := by
      intro h'
      rcases grtL_or xs 0 with h1 | h1
      · rw [grtL, h1] at h'; omega
      · obtain ⟨k, hk, h2⟩ := mem_iff_nth.1 h1
        have := belowB_at hb hk
        rw [grtL] at h'
        omega
    simp [this]
  | false =>
    have : 99999 < grtL xs := by
      by_cases h' : 99999 < grtL xs
      · exact h'
      · exfalso
        have : belowB 100000 xs = true := belowB_of fun k hk => inB_true.2 ⟨h _ (nth_mem hk), by have := (grtL_ge xs 0).2 _ (nth_mem hk); rw [grtL] at h'; omega⟩
        rw [this] at hb
        cases hb
    simp [this]
theorem grtL_in {xs : List Int} {b : Int} (h0 : 0 ≤ b) (h : ∀ x ∈ xs, x ≤ b) : 0 ≤ grtL xs ∧ grtL xs ≤ b := by
  refine ⟨(grtL_ge xs 0).1, ?_⟩
  rcases grtL_or xs 0 with h1 | h1
  · rw [grtL, h1]; exact h0
  · exact h _ h1
end Go.Proofs.Ytmgcfnciejfpbaa

/- Plain law of exchanges between two configurations. -/
namespace Go.Proofs.Ytmgcfnciejfpbaa
open Go.RowKit

--PURE
/-- the values behind an exchange of the s-th point of x and the t-th of y -/
def exS (P : List (List Int)) (ws x y : List Int) (s t : Nat) : Int := nth ws (atR P (svX x (nth y t) s)) + nth ws (atR P (svX y (nth x s) t))
/-- whether the s-th point of x can be exchanged -/
def exOk (P : List (List Int)) (ws x y : List Int) (s : Nat) : Bool := decide (∃ t, t < y.length ∧ exS P ws x y s t ≤ nth ws (atR P x) + nth ws (atR P y))
theorem exOk_yes {P : List (List Int)} {ws x y : List Int} {s t : Nat} (ht : t < y.length) (h : exS P ws x y s t ≤ nth ws (atR P x) + nth ws (atR P y)) : exOk P ws x y s = true := decide_eq_true ⟨t, ht, h⟩
theorem exOk_no {P : List (List Int)} {ws x y : List Int} {s : Nat} (h : ∀ t, t < y.length → ¬ exS P ws x y s t ≤ nth ws (atR P x) + nth ws (atR P y)) : exOk P ws x y s = false := decide_eq_false fun ⟨t, ht, h'⟩ => h t ht h'
/-- the first hit below n -/
def fstTo {β : Type} (f : Nat → Option β) : Nat → Option β
  | 0 => none
  | n + 1 => match fstTo f n with
    | some b => some b
    | none => f n
theorem fst_none {β : Type} {f : Nat → Option β} : ∀ {n : Nat}, (∀ i, i < n → f i = none) → fstTo f n = none
  | 0, _ => rfl
  | n + 1, h => by
    rw [fstTo, fst_none (n := n) fun i hi => h i (by omega)]
    exact h n (by omega)
theorem fst_at {β : Type} {f : Nat → Option β} {i : Nat} {b : β} (h : ∀ j, j < i → f j = none) (hb : f i = some b) : ∀ {n : Nat}, i < n → fstTo f n = some b
  | 0, hn => by omega
  | n + 1, hn => by
    rw [fstTo]
    by_cases e : i = n
    · rw [← e, fst_none h]
      exact hb
    · rw [fst_at h hb (n := n) (by omega)]
def exS3 (P : List (List Int)) (ws : List Int) (i j s : Nat) : Option (Nat × Nat × Nat) := if exOk P ws (row P i) (row P j) s then none else some (i, j, s)
def exS2 (P : List (List Int)) (ws : List Int) (k i j : Nat) : Option (Nat × Nat × Nat) := fstTo (exS3 P ws i j) k
def exS1 (P : List (List Int)) (ws : List Int) (k i : Nat) : Option (Nat × Nat × Nat) := fstTo (exS2 P ws k i) P.length
def exR (P : List (List Int)) (ws : List Int) (k : Nat) : Option (Nat × Nat × Nat) := fstTo (exS1 P ws k) P.length
theorem exS3_ok {P : List (List Int)} {ws : List Int} {i j s : Nat} (h : exOk P ws (row P i) (row P j) s = true) : exS3 P ws i j s = none := by rw [exS3, h]; rfl
theorem exR_hit {P : List (List Int)} {ws : List Int} {k i j s : Nat} (h1 : ∀ q, q < i → exS1 P ws k q = none) (h2 : ∀ q, q < j → exS2 P ws k i q = none) (h3 : ∀ q, q < s → exS3 P ws i j q = none) (hi : i < P.length) (hj : j < P.length) (hs : s < k) (h : exOk P ws (row P i) (row P j) s = false) : exR P ws k = some (i, j, s) :=
  fst_at h1 (fst_at h2 (fst_at h3 (by rw [exS3, h]; rfl) hs) hj) hi
theorem exR_miss {P : List (List Int)} {ws : List Int} {k : Nat} (h1 : ∀ q, q < P.length → exS1 P ws k q = none) : exR P ws k = none := fst_none h1

def exbO (M : List (List Int)) (k : Int) (ws : List Int) : Option (Nat × Nat × Nat) := if metB M && (inB k 1 3 && workB M (confs M.length k.toNat 0) ws) then exR (confs M.length k.toNat 0) ws k.toNat else none
def exbB (M : List (List Int)) (k : Int) (ws : List Int) : Bool := (exbO M k ws).isSome
def exbX (M : List (List Int)) (k : Int) (ws : List Int) : List Int := match exbO M k ws with
  | some (i, _, _) => row (confs M.length k.toNat 0) i
  | none => []
def exbY (M : List (List Int)) (k : Int) (ws : List Int) : List Int := match exbO M k ws with
  | some (_, j, _) => row (confs M.length k.toNat 0) j
  | none => []
def exbP (M : List (List Int)) (k : Int) (ws : List Int) : Int := match exbO M k ws with
  | some (i, _, s) => nth (row (confs M.length k.toNat 0) i) s
  | none => 0
theorem exb_none {M : List (List Int)} {k : Int} {ws : List Int} (h : exbO M k ws = none) : exbX M k ws = [] ∧ exbY M k ws = [] ∧ exbP M k ws = 0 ∧ exbB M k ws = false := by
  simp only [exbX, exbY, exbP, exbB, h]
  exact ⟨trivial, trivial, trivial, rfl⟩
theorem exb_some {M : List (List Int)} {k : Int} {ws : List Int} {i j s : Nat} (h : exbO M k ws = some (i, j, s)) : exbX M k ws = row (confs M.length k.toNat 0) i ∧ exbY M k ws = row (confs M.length k.toNat 0) j ∧ exbP M k ws = nth (row (confs M.length k.toNat 0) i) s ∧ exbB M k ws = true := by
  simp only [exbX, exbY, exbP, exbB, h]
  exact ⟨trivial, trivial, trivial, rfl⟩
theorem exb_len {M : List (List Int)} {k : Int} {ws : List Int} : (exbX M k ws).length ≤ 1000 ∧ (exbY M k ws).length ≤ 1000 := by
  have hrow : ∀ i, (row (confs M.length k.toNat 0) i).length ≤ k.toNat := fun i => by
    by_cases h : i < (confs M.length k.toNat 0).length
    · have := (confs_iff.1 (row_mem h)).1; omega
    · rw [show row (confs M.length k.toNat 0) i = [] by simp [row, show ¬ i < (confs M.length k.toNat 0).length from h]]
      exact Nat.zero_le _
  cases h : exbO M k ws with
  | none => rw [(exb_none h).1, (exb_none h).2.1]; simp
  | some t =>
    obtain ⟨i, j, s⟩ := t
    rw [(exb_some h).1, (exb_some h).2.1]
    have hk : k.toNat ≤ 3 := by
      unfold exbO at h
      split at h
      · rename_i hc
        simp only [Bool.and_eq_true] at hc
        have := inB_true.1 hc.2.1
        omega
      · cases h
    have := hrow i
    have := hrow j
    omega
end Go.Proofs.Ytmgcfnciejfpbaa

/- One point of a configuration in the place of another one, in order: the reference's. -/
namespace Go.Proofs.Ytmgcfnciejfpbaa
open Go.RowKit

set_option maxHeartbeats 400000 in
set_option maxRecDepth 100000 in
theorem l7Swap_any {v : Value} {a : List Int} {s : Nat} {r : Int} {w0 w : World} [Ext w0 w] (ha : IsInts w0 v a) (hs : s < a.length) (hr : I64 r) (hl : a.length ≤ 1000) :
    Calls Try.prog 79 #[v, .int .i64 s, .int .i64 r] w fun e w' => ∃ u, e = .returned u ∧ Own w' w.heap.size [intRowOf 3 u (sortL (a.set s r))] ∧ Ext w w' := by
  have ha' := ha
  have hai : ∀ x ∈ a.set s r, I64 x := fun x hx => by
    rcases List.mem_or_eq_of_mem_set hx with h | h
    · obtain ⟨k, hk, rfl⟩ := mem_iff_nth.1 h
      exact ha'.i64 hk
    · rw [h]; exact hr
  replace hai := hid hai
  obtain ⟨da, ma, rfl, la⟩ := ha.form
  go_enter Try.func79, Try.ntmps79
  go_wp2_with fail
  with_reducible refine (l4With_any (w0 := w0) ha' hs).mono ?_
  rintro e w1 ⟨d, m, rfl, own1, e1⟩
  have hsl := hid (show (a.set s r).length = a.length from List.length_set)
  have hi1 : IsInts w1 (.slice d a.length m) (a.set s r) := own1.reads (by unfold Short; rw [hsl.out]; omega) hai.out
  have hl2 : (a.set s r).length ≤ 1000 := by rw [hsl.out]; exact hl
  go_wp2_with fail
  with_reducible refine (l6Sort_any (w0 := w1) (w := w1) hi1 hl2).mono ?_
  rintro e w2 ⟨u, rfl, own2, e2⟩
  go_wp2_with fail
  go_ret
  exact ⟨_, rfl, own2.mono e1.size, Ext.trans e1 e2⟩
end Go.Proofs.Ytmgcfnciejfpbaa

/- The configurations, of the reference. -/
namespace Go.Proofs.Ytmgcfnciejfpbaa
open Go.RowKit

theorem itTo_len {n i : Nat} (hn : n ≤ 6) (hi : i ≤ 3) : (itTo n i).length ≤ 216 := by
  have h2 := confs_len hn i 0
  rw [← itTo_confs] at h2
  have h3 : 6 ^ i ≤ 6 ^ 3 := Nat.pow_le_pow_right (by omega) hi
  omega
theorem itTo_rows {n i : Nat} (hn : n ≤ 6) (hi : i ≤ 3) : ShortRows (itTo n i).length ∧ (∀ r ∈ itTo n i, Short r.length) ∧ ∀ r ∈ itTo n i, ∀ x ∈ r, I64 x := by
  rw [itTo_confs]; exact confs_rows hn hi
theorem nth_none {xs : List Int} {k : Nat} (h : xs.length ≤ k) : nth xs k = 0 := by simp [nth, h]
theorem frm_last {n : Nat} {r : List Int} (h : ∀ x ∈ r, 0 ≤ x ∧ x < (n : Int)) : (frm r : Int) = nth r (r.length - 1) := by
  unfold frm
  by_cases h0 : r.length - 1 < r.length
  · have := h _ (nth_mem h0); omega
  · rw [nth_none (by omega)]; rfl
theorem frm_in {n : Nat} {r : List Int} (h : ∀ x ∈ r, 0 ≤ x ∧ x < (n : Int)) : frm r ≤ n := by
  have e := frm_last h
  by_cases h0 : r.length - 1 < r.length
  · have := h _ (nth_mem h0); omega
  · rw [nth_none (by omega)] at e; omega

set_option maxHeartbeats 1600000 in
set_option maxRecDepth 100000 in
theorem l6Configs_any {n k : Nat} (hn : n ≤ 6) (hk : k ≤ 3) (w : World) :
    Calls Try.prog 39 #[.int .i64 n, .int .i64 k] w fun e w' => ∃ v, e = .returned v ∧ IsRows w' v (confs n k 0) ∧ Ext w w' := by
  go_enter Try.func39, Try.ntmps39
  go_upto_region 2 with fail
  have hS := Tab.one w
  have e0 : Ext w ((w.alloc (.cells #[] 3)).alloc (.cells #[.slice (some ⟨w.heap.size, 0, none⟩) 0 0] 25)) := inferInstance
  obtain ⟨B, hB⟩ : ∃ b, b = w.heap.size := ⟨_, rfl⟩
  have b0 : Below B w ((w.alloc (.cells #[] 3)).alloc (.cells #[.slice (some ⟨w.heap.size, 0, none⟩) 0 0] 25)) := by rw [hB]; exact e0.below
  rw [← hB] at hS b0 ⊢
  have hl0 : B ≤ w.heap.size := Nat.le_of_eq hB
  generalize (w.alloc (.cells #[] 3)).alloc (.cells #[.slice (some ⟨B, 0, none⟩) 0 0] 25) = w1 at *
  replace hB := hid hB
  clear e0
  have hS0 : Tab w1 B (.slice (some ⟨B + 1, 0, none⟩) 1 1) (itTo n 0) [] := hS
  clear hS
  go_wp2
  go_loopw [5, 6] (fun v i wr => ∃ j : Nat, j ≤ k ∧ i = .int .i64 j ∧ (∃ R, Tab wr B v (itTo n j) R) ∧ Below B w wr) (fun _ i _ => k - (intOf i).toNat)
  case atStart => exact ⟨0, by omega, rfl, ⟨_, hS0⟩, b0⟩
  case round =>
    obtain ⟨j, hj, rfl, ⟨R0, htab⟩, hb⟩ := hrel
    obtain ⟨d, m, rfl⟩ := htab.form
    obtain ⟨wo, rfl⟩ : ∃ y : World, y = wr := ⟨_, rfl⟩
    have hBo : B ≤ wo.heap.size := Nat.le_trans hl0 hb.size
    by_cases hlt : j < k
    · obtain ⟨R, fr, hown, hR⟩ := htab.sealed (itTo_rows hn (show j ≤ 3 by omega)).1 (itTo_rows hn (show j ≤ 3 by omega)).2.1 (itTo_rows hn (show j ≤ 3 by omega)).2.2
      have h27 := itTo_len hn (show j ≤ 3 by omega)
      have h81 := hid (fun a => itN_len (n := n) (i := j) (a := a) hn (by omega))
      have hns := hid (fun a h => itN_succ (n := n) (i := j) (a := a) h)
      have hna := hid (itN_all n j)
      have hLm := hid (show ∀ r ∈ itTo n j, r.length = j ∧ (∀ x ∈ r, 0 ≤ x ∧ x < (n : Int)) from fun r hr => by
        rw [itTo_confs] at hr
        exact ⟨(confs_mem hr).1, fun x hx => by have := (confs_mem hr).2 x hx; omega⟩)
      have hN0 := itN_zero n j
      obtain ⟨L, hL⟩ : ∃ l, l = itTo n j := ⟨_, rfl⟩
      obtain ⟨N, hN⟩ : ∃ f, f = itN n j := ⟨_, rfl⟩
      rw [← hL] at hR h27 hns hna hLm ⊢
      rw [← hN] at h81 hns hna hN0
      replace hR := hid hR
      replace hL := hid hL
      replace hN := hid hN
      have tab0 : Tab (wo.alloc (.cells #[] 25)) B (.slice (some ⟨wo.heap.size, 0, none⟩) 0 0) (N 0) R := by rw [hN0]; exact Tab.start hown hBo
      have b1 : Below B w (wo.alloc (.cells #[] 25)) := hb.alloc hBo _
      replace hN0 := hid hN0
      clear htab hown
      go_upto_region 6 with fail
      generalize wo.alloc (.cells #[] 25) = w2 at *
      generalize wo.heap.size = g2 at *
      go_wp2
      go_loopw [7, 8] (fun v i wr => ∃ a : Nat, a ≤ L.length ∧ i = .int .i64 a ∧ Tab wr B v (N a) R ∧ Below B w wr) (fun _ i _ => L.length - (intOf i).toNat)
      case atStart => exact ⟨0, by omega, rfl, tab0, b1⟩
      case round =>
        obtain ⟨a, ha, rfl, htab, hb⟩ := hrel
        obtain ⟨d3, n3, m3, rfl, hn3⟩ := htab.formN
        obtain ⟨wq, rfl⟩ : ∃ y : World, y = wr := ⟨_, rfl⟩
        by_cases hlta : a < L.length
        · obtain ⟨b, o, n7, c7, dr, mr, hd2, hfa, hcr, hir⟩ := (hR.out wq htab.rest).2 a hlta
          rw [hfa] at hcr hir
          cases hd2
          have hrl := hid (hLm.out _ (row_mem hlta)).1
          have hrp := hid (hLm.out _ (row_mem hlta)).2
          have hnsa := hid (hns.out a hlta)
          have h81a := h81.out (a + 1)
          rw [hnsa.out, List.length_append] at h81a
          obtain ⟨r, hr⟩ : ∃ r, r = row L a := ⟨_, rfl⟩
          rw [← hr] at hcr hir hrl hrp hnsa h81a
          have hok := hid (show ∀ z, Own z B R → IsInts z (.slice dr r.length mr) r ∧ z.cell? ⟨b, o + a, none⟩ = some (.slice dr r.length mr) from fun z hz => by
            obtain ⟨_, _, _, _, _, _, hq, _, hc, h⟩ := (hR.out z hz).2 a hlta
            cases hq
            rw [hfa, ← hr] at h hc
            exact ⟨h, hc⟩)
          replace hfa := hid hfa
          have hlr : r.length ≤ 17592186044415 := by have := hrl.out; omega
          replace hr := hid hr
          have hfr := hid (frm_in hrp.out)
          have hfr2 := hid (frm_last hrp.out)
          have hS3 : Tab wq B (.slice d3 n3 m3) (N a ++ extT r (frm r)) R := by rw [extT_start, List.append_nil]; exact htab
          clear htab
          by_cases hj0 : j = 0
          · have hjb : ¬ 0 < j := by omega
            have hf0 := hid (show (frm r : Int) = 0 by rw [hfr2.out, nth_none (by have := hrl.out; omega)])
            replace hj0 := hid hj0
            go_wp2_with fail
            go_loopw [7, 10] (fun v i wr => ∃ q : Nat, frm r ≤ q ∧ q ≤ n ∧ i = .int .i64 q ∧ Tab wr B v (N a ++ extT r q) R ∧ Below B w wr) (fun _ i _ => n - (intOf i).toNat)
            case atStart => exact ⟨frm r, Nat.le_refl _, hfr.out, (by rw [hf0.out]), hS3, hb⟩
            case round =>
              obtain ⟨q, hfq, hq, rfl, htab, hb⟩ := hrel
              obtain ⟨d4, n4, m4, rfl, hn4⟩ := htab.formN
              obtain ⟨wp, rfl⟩ : ∃ y : World, y = wr := ⟨_, rfl⟩
              have hBp : B ≤ wp.heap.size := Nat.le_trans hl0 hb.size
              by_cases hltq : q < n
              · obtain ⟨hirp, hcrp⟩ := hok.out wp htab.rest
                have hn := hid (extT_succ hfq)
                have hql := hid (extT_len r q)
                have tab5 := htab.lit #[] [] hBp rfl rfl (by simp) (n := 0)
                have b5 : Below B w (wp.alloc (.cells #[] 3)) := hb.alloc hBp _
                have hB5 : B ≤ (wp.alloc (.cells #[] 3)).heap.size := Nat.le_trans hl0 b5.size
                have hirq : IsInts (wp.alloc (.cells #[] 3)) (.slice dr r.length mr) r := hirp.ext
                have hcrq : (wp.alloc (.cells #[] 3)).cell? ⟨b, o + a, none⟩ = some (.slice dr r.length mr) := (inferInstance : Ext wp _).cell hcrp
                have hzz : ([] : List Int).length = 0 := rfl
                have hlN : (N a ++ extT r q).length ≤ 2000 := by rw [List.length_append]; have := hql.out; have := h81.out a; omega
                obtain ⟨Tq, hTq⟩ : ∃ l, l = N a ++ extT r q := ⟨_, rfl⟩
                rw [← hTq] at tab5 hlN
                have hfin := hid (show N a ++ extT r (q + 1) = Tq ++ [r ++ [(q : Int)]] by rw [hn.out, hTq, List.append_assoc])
                replace hTq := hid hTq
                clear htab
                go_wp2_with (first
                  | (at_builtin; refine wpList_more rfl (.tmp 42) (.tmp 46) rfl rfl tab5 hB5 rfl hirq (by have := hrl.out; simp; omega) ?_; intro v6 w6 tab6 b6; rw [List.nil_append] at tab6; obtain ⟨d6, n6, m6, hv6, hn6⟩ := tab6.rformN; subst hv6)
                  | (at_builtin; refine wpList_grow rfl (.tmp 47) (.tmp 49) rfl rfl tab6 (Nat.le_trans hl0 (b5.trans b6).size) rfl (by have := hrl.out; omega) ?_; intro v7 w7 tab7 b7; obtain ⟨d7, n7, m7, hv7, hn7⟩ := tab7.rformN; subst hv7)
                  | (at_builtin; refine wpList_push rfl (.tmp 41) (.tmp 51) rfl rfl tab7 (Nat.le_trans hl0 ((b5.trans b6).trans b7).size) rfl (by omega) ?_; intro v8 w8 tab8 b8))
                go_roundw
                case rel => exact ⟨q + 1, by omega, by omega, by go_num, tab8.eq hfin.out.symm, ((b5.trans b6).trans b7).trans b8⟩
                case measure => simp [intOf]; omega
              · have hqk : q = n := by omega
                go_wp2_with fail
                go_roundw
                case rel => exact ⟨a + 1, by omega, by go_num, htab.eq (by rw [hnsa.out, hqk]), hb⟩
                case measure => simp [intOf]; omega
          · have hjb : 0 < j := by omega
            replace hj0 := hid hj0
            obtain ⟨b2, o2, hd2, hc2⟩ := hir.at (w' := wq) (k := j - 1) (by have := hrl.out; omega)
            have hjl : j - 1 < r.length := by have := hrl.out; omega
            have hj1 : ((j : Int) - 1) = ((j - 1 : Nat) : Int) := by omega
            have hff := hid (show (frm r : Int) = nth r (j - 1) by rw [hfr2.out, hrl.out])
            subst hd2
            go_wp2_with fail
            go_loopw [7, 10] (fun v i wr => ∃ q : Nat, frm r ≤ q ∧ q ≤ n ∧ i = .int .i64 q ∧ Tab wr B v (N a ++ extT r q) R ∧ Below B w wr) (fun _ i _ => n - (intOf i).toNat)
            case atStart => exact ⟨frm r, Nat.le_refl _, hfr.out, (by rw [hff.out]), hS3, hb⟩
            case round =>
              obtain ⟨q, hfq, hq, rfl, htab, hb⟩ := hrel
              obtain ⟨d4, n4, m4, rfl, hn4⟩ := htab.formN
              obtain ⟨wp, rfl⟩ : ∃ y : World, y = wr := ⟨_, rfl⟩
              have hBp : B ≤ wp.heap.size := Nat.le_trans hl0 hb.size
              by_cases hltq : q < n
              · obtain ⟨hirp, hcrp⟩ := hok.out wp htab.rest
                have hn := hid (extT_succ hfq)
                have hql := hid (extT_len r q)
                have tab5 := htab.lit #[] [] hBp rfl rfl (by simp) (n := 0)
                have b5 : Below B w (wp.alloc (.cells #[] 3)) := hb.alloc hBp _
                have hB5 : B ≤ (wp.alloc (.cells #[] 3)).heap.size := Nat.le_trans hl0 b5.size
                have hirq : IsInts (wp.alloc (.cells #[] 3)) (.slice (some ⟨b2, o2, none⟩) r.length mr) r := hirp.ext
                have hcrq : (wp.alloc (.cells #[] 3)).cell? ⟨b, o + a, none⟩ = some (.slice (some ⟨b2, o2, none⟩) r.length mr) := (inferInstance : Ext wp _).cell hcrp
                have hzz : ([] : List Int).length = 0 := rfl
                have hlN : (N a ++ extT r q).length ≤ 2000 := by rw [List.length_append]; have := hql.out; have := h81.out a; omega
                obtain ⟨Tq, hTq⟩ : ∃ l, l = N a ++ extT r q := ⟨_, rfl⟩
                rw [← hTq] at tab5 hlN
                have hfin := hid (show N a ++ extT r (q + 1) = Tq ++ [r ++ [(q : Int)]] by rw [hn.out, hTq, List.append_assoc])
                replace hTq := hid hTq
                clear htab
                go_wp2_with (first
                  | (at_builtin; refine wpList_more rfl (.tmp 42) (.tmp 46) rfl rfl tab5 hB5 rfl hirq (by have := hrl.out; simp; omega) ?_; intro v6 w6 tab6 b6; rw [List.nil_append] at tab6; obtain ⟨d6, n6, m6, hv6, hn6⟩ := tab6.rformN; subst hv6)
                  | (at_builtin; refine wpList_grow rfl (.tmp 47) (.tmp 49) rfl rfl tab6 (Nat.le_trans hl0 (b5.trans b6).size) rfl (by have := hrl.out; omega) ?_; intro v7 w7 tab7 b7; obtain ⟨d7, n7, m7, hv7, hn7⟩ := tab7.rformN; subst hv7)
                  | (at_builtin; refine wpList_push rfl (.tmp 41) (.tmp 51) rfl rfl tab7 (Nat.le_trans hl0 ((b5.trans b6).trans b7).size) rfl (by omega) ?_; intro v8 w8 tab8 b8))
                go_roundw
                case rel => exact ⟨q + 1, by omega, by omega, by go_num, tab8.eq hfin.out.symm, ((b5.trans b6).trans b7).trans b8⟩
                case measure => simp [intOf]; omega
              · have hqk : q = n := by omega
                go_wp2_with fail
                go_roundw
                case rel => exact ⟨a + 1, by omega, by go_num, htab.eq (by rw [hnsa.out, hqk]), hb⟩
                case measure => simp [intOf]; omega
        · have hal : a = L.length := by omega
          go_wp2_with fail
          go_roundw
          case rel => exact ⟨j + 1, by omega, by go_num, ⟨R, htab.eq (by rw [hal]; exact hna.out)⟩, hb⟩
          case measure => simp [intOf]; omega
    · have hjk : j = k := by omega
      have hrd := htab.reads (itTo_rows hn (show j ≤ 3 by omega)).1 (itTo_rows hn (show j ≤ 3 by omega)).2.1 (itTo_rows hn (show j ≤ 3 by omega)).2.2
      have hfin := hid (show IsRows wo (.slice d (itTo n j).length m) (confs n k 0) by rw [← itTo_confs, ← hjk]; exact hrd)
      replace hjk := hid hjk
      go_wp2_with fail
      go_ret
      exact ⟨_, rfl, hfin.out, ⟨by rw [← hB.out]; exact hb⟩⟩
end Go.Proofs.Ytmgcfnciejfpbaa

/- The next work list, as the reference makes it. -/
namespace Go.Proofs.Ytmgcfnciejfpbaa
open Go.RowKit

theorem confs_216 {n k : Nat} (hn : n ≤ 6) (hk : k ≤ 3) : (confs n k 0).length ≤ 216 := by
  have h1 := confs_len hn k 0
  have h2 : 6 ^ k ≤ 6 ^ 3 := Nat.pow_le_pow_right (by omega) hk
  omega
theorem pts_i64 {n : Nat} {a : List Int} (h : Pts n a) (hn : n ≤ 1000000) : ∀ x ∈ a, I64 x := fun x hx => by
  have := h x hx
  unfold I64
  omega
theorem met_row {M : List (List Int)} (h : metB M = true) {x : Nat} (hx : x < M.length) : (row M x).length = M.length := by
  have := met_sq h
  simp only [square, decide_eq_true_eq] at this
  exact this _ (row_mem hx)
theorem good_i64 {M P : List (List Int)} {ws : List Int} {L : Int} (h : GoodW M P ws L) (hL : L ≤ 2000000) : ∀ x ∈ ws, I64 x := fun x hx => by
  obtain ⟨j, hj, rfl⟩ := mem_iff_nth.1 hx
  have := h.2 j (by rw [← h.1.1]; exact hj)
  unfold I64
  omega

set_option maxHeartbeats 3200000 in
set_option maxRecDepth 100000 in
theorem l7NextO_any {v vw : Value} {M : List (List Int)} {ws : List Int} {k : Nat} {r L : Int} {w0 w : World} [Ext w0 w] (hm : IsMet w0 v M) (hM : metB M = true) (hw : IsInts w0 vw ws) (h1k : 1 ≤ k) (hk : k ≤ 3) (hg : GoodW M (confs M.length k 0) ws L) (hL : L ≤ 1000000) (hr : 0 ≤ r ∧ r < (M.length : Int)) :
    Calls Try.prog 120 #[v, .int .i64 k, vw, .int .i64 r] w fun e w' => ∃ u, e = .returned u ∧ Own w' w.heap.size [intRowOf 3 u (wnxL M (confs M.length k 0) ws r)] ∧ Ext w w' := by
  obtain ⟨rn, rfl⟩ : ∃ rn : Nat, r = (rn : Int) := ⟨r.toNat, by omega⟩
  obtain ⟨v1, rfl, hR⟩ := hm
  obtain ⟨a1, c1, rfl, l1⟩ := hR.form
  obtain ⟨dw, mw, rfl, lw⟩ := hw.form
  have hMl := met_len hM
  have hMr := hid (fun (x : Nat) (hx : x < M.length) => met_row hM hx)
  have hdst := hid (dst_of_met hM)
  replace hM := hid hM
  have hrn : rn < M.length := by omega
  have hri := hid (show I64 (rn : Int) by unfold I64; omega)
  have hrp := hid hr
  clear hr
  have hPm := hid (show ∀ i, i < (confs M.length k 0).length → (row (confs M.length k 0) i).length = k ∧ Pts M.length (row (confs M.length k 0) i) from fun i hi => by
    obtain ⟨h1, h2, _⟩ := row_conf hi
    exact ⟨h1, h2⟩)
  have hSw := hid (show ∀ i s, i < (confs M.length k 0).length → s < k → sortL ((row (confs M.length k 0) i).set s rn) ∈ confs M.length k 0 from fun i s hi hs => (sw_conf hi hs hrp.out).1)
  have hNx := hid (show ∀ i, i < (confs M.length k 0).length → snAt M (confs M.length k 0) ws rn i k = nth (wnxL M (confs M.length k 0) ws rn) i from fun i hi => by
    rw [wnx_at (by rw [hg.1.1]; exact hi)]
    exact next_eq hdst.out h1k hk hg.1 (fun j hj => ⟨(hg.2 j hj).1, by have := (hg.2 j hj).2; omega⟩) hdst.out.pos hi hrp.out)
  have hgood := hid (wnx_good hdst.out h1k hk hg hL hrp.out).1
  have hwb := hid (show ∀ j, j < (confs M.length k 0).length → 0 ≤ nth ws j ∧ nth ws j ≤ 1000000 from fun j hj => by have := hg.2 j hj; omega)
  have hlw := hid hg.1.1
  replace hg := hid hg
  have h216 := confs_216 hMl.2 hk
  go_enter Try.func120, Try.ntmps120
  go_wp2_with fail
  refine (l6Configs_any (n := M.length) hMl.2 hk _).mono ?_
  rintro e wP ⟨vP, rfl, hP, eP⟩
  have x0 : wP.cell? ⟨w.heap.size, 0, none⟩ = some (.slice a1 M.length c1) := eP.cell (by go_simp)
  have ePw : Ext w wP := Ext.trans inferInstance eP
  have e0P : Ext w0 wP := Ext.trans ‹Ext w0 w› ePw
  clear eP
  obtain ⟨bx, hbx⟩ : ∃ q, q = w.heap.size := ⟨_, rfl⟩
  rw [← hbx] at x0 ⊢
  have hBw := hid (show w.heap.size ≤ wP.heap.size from ePw.size)
  replace hbx := hid hbx
  obtain ⟨P, hPd⟩ : ∃ p, p = confs M.length k 0 := ⟨_, rfl⟩
  rw [← hPd] at hP hPm hSw hNx hgood hwb hlw h216
  replace hPd := hid hPd
  obtain ⟨aP, cP, rfl, lP⟩ := hP.form
  obtain ⟨Xs, hXs⟩ : ∃ x, x = wnxL M P ws rn := ⟨_, rfl⟩
  have hXl := hid (show Xs.length = P.length by rw [hXs, wnxL_len, hlw.out])
  rw [← hXs] at hNx hgood
  replace hXs := hid hXs
  obtain ⟨B, hB⟩ : ∃ b, b = wP.heap.size := ⟨_, rfl⟩
  have own0 : Own (wP.alloc (.cells #[] 3)) B [intRowOf 3 (.slice (some ⟨wP.heap.size, 0, none⟩) ([] : List Int).length 0) []] := by
    rw [hB]
    exact Own.litInts (Nat.le_refl _) rfl rfl (by simp) rfl
  have b0 : Below B wP (wP.alloc (.cells #[] 3)) := by rw [hB]; exact (Below.refl _ _).alloc (Nat.le_refl _) _
  have hEx := hid (show ∀ u, Below B wP u → Ext wP u from fun u h => ⟨by rw [← hB]; exact h⟩)
  rw [← hB] at hBw
  replace hB := hid hB
  go_wp2_with fail
  go_loopw [10, 11] (fun ov i wr => ∃ j : Nat, j ≤ P.length ∧ i = .int .i64 j ∧ Own wr B [intRowOf 3 ov (Xs.take j)] ∧ Below B wP wr) (fun _ i _ => P.length - (intOf i).toNat)
  case atStart => exact ⟨0, by omega, rfl, own0, b0⟩
  case round =>
    obtain ⟨j, hj, rfl, hown, hb⟩ := hrel
    obtain ⟨wo, rfl⟩ : ∃ y : World, y = wr := ⟨_, rfl⟩
    obtain ⟨d0, n0, m0, rfl, hn0⟩ := own_formN hown
    clear own0 b0
    by_cases hlt : j < P.length
    · go_wp2_with fail
      go_loopw [12, 13] (fun lv i wr => ∃ s : Nat, s ≤ k ∧ i = .int .i64 s ∧ lv = .int .i64 (snAt M P ws rn j s) ∧ Own wr B [intRowOf 3 (.slice d0 n0 m0) (Xs.take j)] ∧ Below B wP wr) (fun _ i _ => k - (intOf i).toNat)
      case atStart => exact ⟨0, by omega, rfl, rfl, hown, hb⟩
      case round =>
        clear hown hb
        obtain ⟨s, hs, rfl, rfl, hown, hb⟩ := hrel
        obtain ⟨wq, rfl⟩ : ∃ y : World, y = wr := ⟨_, rfl⟩
        by_cases hlts : s < k
        · have eq : Ext wP wq := hEx.out _ hb
          have e0q : Ext w0 wq := Ext.trans e0P eq
          have hBq : B ≤ wq.heap.size := by rw [hB.out]; exact eq.size
          obtain ⟨bP, oP, d1, m1, hdP, hc1, hi1, _⟩ := hP.at (w' := wq) hlt
          cases hdP
          obtain ⟨hcl, hcp⟩ := hPm.out j hlt
          have hmem := hid (hSw.out j s hlt hlts)
          have htl := (atR_lt hmem.out).1
          have hsc : s < (row P j).length := by rw [hcl]; exact hlts
          obtain ⟨bc, oc, x, hd1, hx, hxM, hcc⟩ := hi1.pt (w' := wq) hcp (k := s) hsc
          cases hd1
          obtain ⟨bM, oM, dR, mR, hdM, hcM, hiR, _⟩ := hR.at (w' := wq) (k := x) hxM
          cases hdM
          have hRl : rn < (row M x).length := by rw [hMr.out x hxM]; exact hrn
          obtain ⟨bR, oR, hdR, hcR⟩ := hiR.at (w' := wq) (k := rn) hRl
          cases hdR
          have hswl := hid (show (sortL ((row P j).set s rn)).length = k by rw [sortL_len, List.length_set, hcl])
          have hswi := hid (show ∀ y ∈ sortL ((row P j).set s rn), I64 y from pts_i64 (n := M.length) ((hcp.set hrp.out).perm (sortL_perm _)) (by omega))
          obtain ⟨t, ht⟩ : ∃ t, t = atR P (sortL ((row P j).set s rn)) := ⟨_, rfl⟩
          rw [← ht] at htl
          have htw : t < ws.length := by rw [hlw.out]; exact htl
          obtain ⟨bw, ow, hdw, hcw⟩ := hw.at (w' := wq) htw
          cases hdw
          have x0q := eq.cell x0
          have hsum := hid (show swS M P ws rn j s = nth ws t + nth (row M x) rn by
            unfold swS swC
            rw [← ht, hx]
            rfl)
          have hq1 := hwb.out t htl
          have hq2 : 0 ≤ nth (row M x) rn ∧ nth (row M x) rn ≤ 99 := hdst.out.pos x rn hxM hrn
          have hnx := hid (show snAt M P ws rn j (s + 1) = if snAt M P ws rn j s < 0 ∨ swS M P ws rn j s < snAt M P ws rn j s then swS M P ws rn j s else snAt M P ws rn j s from rfl)
          rw [hsum.out] at hnx
          generalize hlg : snAt M P ws rn j s = l at *
          replace hlg := hid hlg
          have hat := hid ht.symm
          replace ht := hid ht
          replace hx := hid hx
          obtain ⟨wt, hwt⟩ : ∃ y, y = nth ws t := ⟨_, rfl⟩
          rw [← hwt] at hcw hnx hq1
          replace hwt := hid hwt
          obtain ⟨dc, hdc⟩ : ∃ y, y = nth (row M x) rn := ⟨_, rfl⟩
          rw [← hdc] at hcR hnx hq2
          replace hdc := hid hdc
          obtain ⟨Rx, hRx⟩ : ∃ y, y = row M x := ⟨_, rfl⟩
          rw [← hRx] at hcM hiR hRl
          replace hRx := hid hRx
          obtain ⟨c, hc⟩ : ∃ y, y = row P j := ⟨_, rfl⟩
          rw [← hc] at hc1 hi1 hcl hcp hmem hsc hswl hswi hat
          replace hc := hid hc
          replace hcl := hid hcl
          have hck : c.length ≤ 3 := by rw [hcl.out]; exact hk
          have hSx := hid (show ∀ u, Ext wq u → u.cell? ⟨bP, oP + j, none⟩ = some (.slice (some ⟨bc, oc, none⟩) c.length m1) ∧ u.cell? ⟨bw, ow + t, none⟩ = some (.int .i64 wt) ∧ u.cell? ⟨bx, 0, none⟩ = some (.slice (some ⟨bM, oM, none⟩) M.length c1) ∧ u.cell? ⟨bc, oc + s, none⟩ = some (.int .i64 (x : Int)) ∧ u.cell? ⟨bM, oM + x, none⟩ = some (.slice (some ⟨bR, oR, none⟩) Rx.length mR) ∧ u.cell? ⟨bR, oR + rn, none⟩ = some (.int .i64 dc) from fun u e => ⟨e.cell hc1, e.cell hcw, e.cell x0q, e.cell hcc, e.cell hcM, e.cell hcR⟩)
          clear hc1 hcw hcc hcM hcR x0q
          have hs1 : IntKind.i64.wrap (wt + dc) = wt + dc := IntWalk.i64_in _ (by omega)
          by_cases hl0 : l < 0
          · have hl0' : decide (l < 0) = true := decide_eq_true hl0
            have hy := hid (show snAt M P ws rn j (s + 1) = wt + dc by rw [hnx.out, if_pos (.inl hl0)])
            clear hnx
            go_wp2_with fail
            refine region_held_from (w0 := wq) (S := fun u => u.cell? ⟨bP, oP + j, none⟩ = some (.slice (some ⟨bc, oc, none⟩) c.length m1) ∧ u.cell? ⟨bw, ow + t, none⟩ = some (.int .i64 wt) ∧ u.cell? ⟨bx, 0, none⟩ = some (.slice (some ⟨bM, oM, none⟩) M.length c1) ∧ u.cell? ⟨bc, oc + s, none⟩ = some (.int .i64 (x : Int)) ∧ u.cell? ⟨bM, oM + x, none⟩ = some (.slice (some ⟨bR, oR, none⟩) Rx.length mR) ∧ u.cell? ⟨bR, oR + rn, none⟩ = some (.int .i64 dc)) (by kernel_rfl) hSx.out (fun wd ed hHeld0 => ?_)
            have ePd : Ext wP wd := Ext.trans eq ed
            refine wpAnyH_take (i := 0) (v := .slice (some ⟨bw, ow, none⟩) ws.length mw) rfl (by kernel_rfl) (by kernel_rfl) (by kernel_rfl) (fun _ _ _ h => h) (Or.inl ⟨by rfl, by intro wx hx; go_simp⟩) (by assumption) ?_
            try simp only [List.getElem_toArray, List.getElem_cons_zero, Act.put, List.setIfInBounds_toArray, List.set_cons_zero, List.set_cons_succ]
            refine wpAnyH_take (i := 1) (v := .slice (some ⟨bP, oP, none⟩) P.length cP) rfl (by kernel_rfl) (by kernel_rfl) (by kernel_rfl) (fun _ _ _ h => h) (Or.inl ⟨by rfl, by intro wx hx; go_simp⟩) (by assumption) ?_
            try simp only [List.getElem_toArray, List.getElem_cons_succ, List.getElem_cons_zero, Act.put, List.setIfInBounds_toArray, List.set_cons_zero, List.set_cons_succ]
            refine wpAnyH_take (i := 2) (v := .slice (some ⟨bP, oP, none⟩) P.length cP) rfl (by kernel_rfl) (by kernel_rfl) (by kernel_rfl) (fun _ _ _ h => h) (Or.inl ⟨by rfl, by intro wx hx; go_simp⟩) (by assumption) ?_
            try simp only [List.getElem_toArray, List.getElem_cons_succ, List.getElem_cons_zero, Act.put, List.setIfInBounds_toArray, List.set_cons_zero, List.set_cons_succ]
            refine wpAnyH_take (i := 3) (v := .int .i64 j) rfl (by kernel_rfl) (by kernel_rfl) (by kernel_rfl) (fun _ _ _ h => h) (Or.inl ⟨by rfl, by intro wx hx; go_simp⟩) (by assumption) ?_
            try simp only [List.getElem_toArray, List.getElem_cons_succ, List.getElem_cons_zero, Act.put, List.setIfInBounds_toArray, List.set_cons_zero, List.set_cons_succ]
            refine wpAnyH_take (i := 4) (v := .pointer (some ⟨bP, oP + j, none⟩)) rfl (by kernel_rfl) (by kernel_rfl) (by kernel_rfl) (fun _ _ _ h => h) (Or.inl ⟨by rfl, by intro wx hx; go_simp⟩) (by assumption) ?_
            try simp only [List.getElem_toArray, List.getElem_cons_succ, List.getElem_cons_zero, Act.put, List.setIfInBounds_toArray, List.set_cons_zero, List.set_cons_succ]
            refine wpAnyH_take (i := 5) (v := .slice (some ⟨bc, oc, none⟩) c.length m1) rfl (by kernel_rfl) (by kernel_rfl) (by kernel_rfl) (fun _ _ _ h => h) (Or.inl ⟨by rfl, by intro wx hx; obtain ⟨_, _, _, _, _, _⟩ := hx; go_simp⟩) (by assumption) ?_
            try simp only [List.getElem_toArray, List.getElem_cons_succ, List.getElem_cons_zero, Act.put, List.setIfInBounds_toArray, List.set_cons_zero, List.set_cons_succ]
            refine wpAnyH_take (i := 6) (v := .int .i64 s) rfl (by kernel_rfl) (by kernel_rfl) (by kernel_rfl) (fun _ _ _ h => h) (Or.inl ⟨by rfl, by intro wx hx; go_simp⟩) (by assumption) ?_
            try simp only [List.getElem_toArray, List.getElem_cons_succ, List.getElem_cons_zero, Act.put, List.setIfInBounds_toArray, List.set_cons_zero, List.set_cons_succ]
            refine wpAnyH_take (i := 7) (v := .int .i64 rn) rfl (by kernel_rfl) (by kernel_rfl) (by kernel_rfl) (fun _ _ _ h => h) (Or.inl ⟨by rfl, by intro wx hx; go_simp⟩) (by assumption) ?_
            try simp only [List.getElem_toArray, List.getElem_cons_succ, List.getElem_cons_zero, Act.put, List.setIfInBounds_toArray, List.set_cons_zero, List.set_cons_succ]
            refine wpAnyH_take (i := 12) (v := .pointer (some ⟨bx, 0, none⟩)) rfl (by kernel_rfl) (by kernel_rfl) (by kernel_rfl) (fun _ _ _ h => h) (Or.inl ⟨by rfl, by intro wx hx; go_simp⟩) (by assumption) ?_
            try simp only [List.getElem_toArray, List.getElem_cons_succ, List.getElem_cons_zero, Act.put, List.setIfInBounds_toArray, List.set_cons_zero, List.set_cons_succ]
            refine wpAnyH_take (i := 13) (v := .slice (some ⟨bM, oM, none⟩) M.length c1) rfl (by kernel_rfl) (by kernel_rfl) (by kernel_rfl) (fun _ _ _ h => h) (Or.inl ⟨by rfl, by intro wx hx; obtain ⟨_, _, _, _, _, _⟩ := hx; go_simp⟩) (by assumption) ?_
            try simp only [List.getElem_toArray, List.getElem_cons_succ, List.getElem_cons_zero, Act.put, List.setIfInBounds_toArray, List.set_cons_zero, List.set_cons_succ]
            refine wpAnyH_take (i := 14) (v := .slice (some ⟨bP, oP, none⟩) P.length cP) rfl (by kernel_rfl) (by kernel_rfl) (by kernel_rfl) (fun _ _ _ h => h) (Or.inl ⟨by rfl, by intro wx hx; go_simp⟩) (by assumption) ?_
            try simp only [List.getElem_toArray, List.getElem_cons_succ, List.getElem_cons_zero, Act.put, List.setIfInBounds_toArray, List.set_cons_zero, List.set_cons_succ]
            refine wpAnyH_take (i := 15) (v := .int .i64 j) rfl (by kernel_rfl) (by kernel_rfl) (by kernel_rfl) (fun _ _ _ h => h) (Or.inl ⟨by rfl, by intro wx hx; go_simp⟩) (by assumption) ?_
            try simp only [List.getElem_toArray, List.getElem_cons_succ, List.getElem_cons_zero, Act.put, List.setIfInBounds_toArray, List.set_cons_zero, List.set_cons_succ]
            refine wpAnyH_take (i := 16) (v := .pointer (some ⟨bP, oP + j, none⟩)) rfl (by kernel_rfl) (by kernel_rfl) (by kernel_rfl) (fun _ _ _ h => h) (Or.inl ⟨by rfl, by intro wx hx; go_simp⟩) (by assumption) ?_
            try simp only [List.getElem_toArray, List.getElem_cons_succ, List.getElem_cons_zero, Act.put, List.setIfInBounds_toArray, List.set_cons_zero, List.set_cons_succ]
            refine wpAnyH_take (i := 17) (v := .slice (some ⟨bc, oc, none⟩) c.length m1) rfl (by kernel_rfl) (by kernel_rfl) (by kernel_rfl) (fun _ _ _ h => h) (Or.inl ⟨by rfl, by intro wx hx; obtain ⟨_, _, _, _, _, _⟩ := hx; go_simp⟩) (by assumption) ?_
            try simp only [List.getElem_toArray, List.getElem_cons_succ, List.getElem_cons_zero, Act.put, List.setIfInBounds_toArray, List.set_cons_zero, List.set_cons_succ]
            refine wpAnyH_take (i := 18) (v := .int .i64 s) rfl (by kernel_rfl) (by kernel_rfl) (by kernel_rfl) (fun _ _ _ h => h) (Or.inl ⟨by rfl, by intro wx hx; go_simp⟩) (by assumption) ?_
            try simp only [List.getElem_toArray, List.getElem_cons_succ, List.getElem_cons_zero, Act.put, List.setIfInBounds_toArray, List.set_cons_zero, List.set_cons_succ]
            refine wpAnyH_take (i := 19) (v := .pointer (some ⟨bc, oc + s, none⟩)) rfl (by kernel_rfl) (by kernel_rfl) (by kernel_rfl) (fun _ _ _ h => h) (Or.inl ⟨by rfl, by intro wx hx; go_simp⟩) (by assumption) ?_
            try simp only [List.getElem_toArray, List.getElem_cons_succ, List.getElem_cons_zero, Act.put, List.setIfInBounds_toArray, List.set_cons_zero, List.set_cons_succ]
            refine wpAnyH_take (i := 20) (v := .int .i64 x) rfl (by kernel_rfl) (by kernel_rfl) (by kernel_rfl) (fun _ _ _ h => h) (Or.inl ⟨by rfl, by intro wx hx; obtain ⟨_, _, _, _, _, _⟩ := hx; go_simp⟩) (by assumption) ?_
            try simp only [List.getElem_toArray, List.getElem_cons_succ, List.getElem_cons_zero, Act.put, List.setIfInBounds_toArray, List.set_cons_zero, List.set_cons_succ]
            refine wpAnyH_take (i := 21) (v := .pointer (some ⟨bM, oM + x, none⟩)) rfl (by kernel_rfl) (by kernel_rfl) (by kernel_rfl) (fun _ _ _ h => h) (Or.inl ⟨by rfl, by intro wx hx; go_simp⟩) (by assumption) ?_
            try simp only [List.getElem_toArray, List.getElem_cons_succ, List.getElem_cons_zero, Act.put, List.setIfInBounds_toArray, List.set_cons_zero, List.set_cons_succ]
            refine wpAnyH_take (i := 22) (v := .slice (some ⟨bR, oR, none⟩) Rx.length mR) rfl (by kernel_rfl) (by kernel_rfl) (by kernel_rfl) (fun _ _ _ h => h) (Or.inl ⟨by rfl, by intro wx hx; obtain ⟨_, _, _, _, _, _⟩ := hx; go_simp⟩) (by assumption) ?_
            try simp only [List.getElem_toArray, List.getElem_cons_succ, List.getElem_cons_zero, Act.put, List.setIfInBounds_toArray, List.set_cons_zero, List.set_cons_succ]
            refine wpAnyH_take (i := 23) (v := .int .i64 rn) rfl (by kernel_rfl) (by kernel_rfl) (by kernel_rfl) (fun _ _ _ h => h) (Or.inl ⟨by rfl, by intro wx hx; go_simp⟩) (by assumption) ?_
            try simp only [List.getElem_toArray, List.getElem_cons_succ, List.getElem_cons_zero, Act.put, List.setIfInBounds_toArray, List.set_cons_zero, List.set_cons_succ]
            refine wpAnyH_take (i := 24) (v := .pointer (some ⟨bR, oR + rn, none⟩)) rfl (by kernel_rfl) (by kernel_rfl) (by kernel_rfl) (fun _ _ _ h => h) (Or.inl ⟨by rfl, by intro wx hx; go_simp⟩) (by assumption) ?_
            try simp only [List.getElem_toArray, List.getElem_cons_succ, List.getElem_cons_zero, Act.put, List.setIfInBounds_toArray, List.set_cons_zero, List.set_cons_succ]
            refine wpAnyH_take (i := 25) (v := .int .i64 dc) rfl (by kernel_rfl) (by kernel_rfl) (by kernel_rfl) (fun _ _ _ h => h) (Or.inl ⟨by rfl, by intro wx hx; obtain ⟨_, _, _, _, _, _⟩ := hx; go_simp⟩) (by assumption) ?_
            try simp only [List.getElem_toArray, List.getElem_cons_succ, List.getElem_cons_zero, Act.put, List.setIfInBounds_toArray, List.set_cons_zero, List.set_cons_succ]
            refine wpAnyH_ready (rs := [8]) (by kernel_rfl) (by simp) ?_
            refine AllReadyH.cons rfl (fun K hK => ?_) AllReadyH.nil
            go_simp
            go_at_call 79
            refine (l7Swap_any (w0 := wP) hi1 hsc hri.out (by omega)).mono ?_
            rintro e w5 ⟨u5, rfl, own5, e5⟩
            have e5q : Ext wq w5 := Ext.trans ed e5
            have hU : IsInts w5 u5 (sortL (c.set s rn)) := own5.reads (by unfold Short; rw [hswl.out]; omega) hswi.out
            clear own5
            have hS5 := hSx.out w5 e5q
            go_wp2_with fail
            refine hK.out _ _ hS5 (fun _ => ?_)
            clear hK K
            try simp only [List.getElem_toArray, List.getElem_cons_succ, List.getElem_cons_zero, Act.put, List.setIfInBounds_toArray, List.set_cons_zero, List.set_cons_succ]
            refine wpAnyH_ready (rs := [9]) (by kernel_rfl) (by simp) ?_
            refine AllReadyH.cons rfl (fun K hK => ?_) AllReadyH.nil
            go_simp
            go_at_call 78
            refine (l7Index_any (w0 := w5) (w := w5) (hP.ext (e := Ext.trans eq e5q)) hU hmem.out).mono ?_
            rw [hat.out]
            rintro e w6 ⟨rfl, e6⟩
            have e6q : Ext wq w6 := Ext.trans e5q e6
            have hS6 := hSx.out w6 e6q
            go_wp2_with fail
            refine hK.out _ _ hS6 (fun _ => ?_)
            clear hK K
            try simp only [List.getElem_toArray, List.getElem_cons_succ, List.getElem_cons_zero, Act.put, List.setIfInBounds_toArray, List.set_cons_zero, List.set_cons_succ]
            refine wpAnyH_take (i := 10) (v := .pointer (some ⟨bw, ow + t, none⟩)) rfl (by kernel_rfl) (by kernel_rfl) (by kernel_rfl) (fun _ _ _ h => h) (Or.inl ⟨by rfl, by intro wx hx; go_simp⟩) (by assumption) ?_
            try simp only [List.getElem_toArray, List.getElem_cons_succ, List.getElem_cons_zero, Act.put, List.setIfInBounds_toArray, List.set_cons_zero, List.set_cons_succ]
            refine wpAnyH_take (i := 11) (v := .int .i64 wt) rfl (by kernel_rfl) (by kernel_rfl) (by kernel_rfl) (fun _ _ _ h => h) (Or.inl ⟨by rfl, by intro wx hx; obtain ⟨_, _, _, _, _, _⟩ := hx; go_simp⟩) (by assumption) ?_
            try simp only [List.getElem_toArray, List.getElem_cons_succ, List.getElem_cons_zero, Act.put, List.setIfInBounds_toArray, List.set_cons_zero, List.set_cons_succ]
            refine wpAnyH_take (i := 26) (v := .int .i64 (wt + dc)) rfl (by kernel_rfl) (by kernel_rfl) (by kernel_rfl) (fun _ _ _ h => h) (Or.inl ⟨by rfl, by intro wx hx; go_simp⟩) (by assumption) ?_
            try simp only [List.getElem_toArray, List.getElem_cons_succ, List.getElem_cons_zero, Act.put, List.setIfInBounds_toArray, List.set_cons_zero, List.set_cons_succ]
            refine wpAnyH_take (i := 27) (v := .int .i64 (wt + dc)) rfl (by kernel_rfl) (by kernel_rfl) (by kernel_rfl) (fun _ _ _ h => h) (Or.inl ⟨by rfl, by intro wx hx; go_simp⟩) (by assumption) ?_
            try simp only [List.getElem_toArray, List.getElem_cons_succ, List.getElem_cons_zero, Act.put, List.setIfInBounds_toArray, List.set_cons_zero, List.set_cons_succ]
            refine wpAnyH_done (by kernel_rfl) ?_ _
            go_wp2_with fail
            go_roundw
            case rel => exact ⟨s + 1, by omega, by go_num, by rw [hy.out], hown.ext (e := e6q), hb.trans (e6q.below.mono hBq)⟩
            case measure => simp [intOf]; omega
          · have hl0' : decide (l < 0) = false := decide_eq_false hl0
            by_cases hl1 : wt + dc < l
            · have hl1' : decide (wt + dc < l) = true := decide_eq_true hl1
              have hy := hid (show snAt M P ws rn j (s + 1) = wt + dc by rw [hnx.out, if_pos (.inr hl1)])
              clear hnx
              go_wp2_with fail
              refine region_held_from (w0 := wq) (S := fun u => u.cell? ⟨bP, oP + j, none⟩ = some (.slice (some ⟨bc, oc, none⟩) c.length m1) ∧ u.cell? ⟨bw, ow + t, none⟩ = some (.int .i64 wt) ∧ u.cell? ⟨bx, 0, none⟩ = some (.slice (some ⟨bM, oM, none⟩) M.length c1) ∧ u.cell? ⟨bc, oc + s, none⟩ = some (.int .i64 (x : Int)) ∧ u.cell? ⟨bM, oM + x, none⟩ = some (.slice (some ⟨bR, oR, none⟩) Rx.length mR) ∧ u.cell? ⟨bR, oR + rn, none⟩ = some (.int .i64 dc)) (by kernel_rfl) hSx.out (fun wd ed hHeld0 => ?_)
              have ePd : Ext wP wd := Ext.trans eq ed
              refine wpAnyH_take (i := 0) (v := .slice (some ⟨bw, ow, none⟩) ws.length mw) rfl (by kernel_rfl) (by kernel_rfl) (by kernel_rfl) (fun _ _ _ h => h) (Or.inl ⟨by rfl, by intro wx hx; go_simp⟩) (by assumption) ?_
              try simp only [List.getElem_toArray, List.getElem_cons_zero, Act.put, List.setIfInBounds_toArray, List.set_cons_zero, List.set_cons_succ]
              refine wpAnyH_take (i := 1) (v := .slice (some ⟨bP, oP, none⟩) P.length cP) rfl (by kernel_rfl) (by kernel_rfl) (by kernel_rfl) (fun _ _ _ h => h) (Or.inl ⟨by rfl, by intro wx hx; go_simp⟩) (by assumption) ?_
              try simp only [List.getElem_toArray, List.getElem_cons_succ, List.getElem_cons_zero, Act.put, List.setIfInBounds_toArray, List.set_cons_zero, List.set_cons_succ]
              refine wpAnyH_take (i := 2) (v := .slice (some ⟨bP, oP, none⟩) P.length cP) rfl (by kernel_rfl) (by kernel_rfl) (by kernel_rfl) (fun _ _ _ h => h) (Or.inl ⟨by rfl, by intro wx hx; go_simp⟩) (by assumption) ?_
              try simp only [List.getElem_toArray, List.getElem_cons_succ, List.getElem_cons_zero, Act.put, List.setIfInBounds_toArray, List.set_cons_zero, List.set_cons_succ]
              refine wpAnyH_take (i := 3) (v := .int .i64 j) rfl (by kernel_rfl) (by kernel_rfl) (by kernel_rfl) (fun _ _ _ h => h) (Or.inl ⟨by rfl, by intro wx hx; go_simp⟩) (by assumption) ?_
              try simp only [List.getElem_toArray, List.getElem_cons_succ, List.getElem_cons_zero, Act.put, List.setIfInBounds_toArray, List.set_cons_zero, List.set_cons_succ]
              refine wpAnyH_take (i := 4) (v := .pointer (some ⟨bP, oP + j, none⟩)) rfl (by kernel_rfl) (by kernel_rfl) (by kernel_rfl) (fun _ _ _ h => h) (Or.inl ⟨by rfl, by intro wx hx; go_simp⟩) (by assumption) ?_
              try simp only [List.getElem_toArray, List.getElem_cons_succ, List.getElem_cons_zero, Act.put, List.setIfInBounds_toArray, List.set_cons_zero, List.set_cons_succ]
              refine wpAnyH_take (i := 5) (v := .slice (some ⟨bc, oc, none⟩) c.length m1) rfl (by kernel_rfl) (by kernel_rfl) (by kernel_rfl) (fun _ _ _ h => h) (Or.inl ⟨by rfl, by intro wx hx; obtain ⟨_, _, _, _, _, _⟩ := hx; go_simp⟩) (by assumption) ?_
              try simp only [List.getElem_toArray, List.getElem_cons_succ, List.getElem_cons_zero, Act.put, List.setIfInBounds_toArray, List.set_cons_zero, List.set_cons_succ]
              refine wpAnyH_take (i := 6) (v := .int .i64 s) rfl (by kernel_rfl) (by kernel_rfl) (by kernel_rfl) (fun _ _ _ h => h) (Or.inl ⟨by rfl, by intro wx hx; go_simp⟩) (by assumption) ?_
              try simp only [List.getElem_toArray, List.getElem_cons_succ, List.getElem_cons_zero, Act.put, List.setIfInBounds_toArray, List.set_cons_zero, List.set_cons_succ]
              refine wpAnyH_take (i := 7) (v := .int .i64 rn) rfl (by kernel_rfl) (by kernel_rfl) (by kernel_rfl) (fun _ _ _ h => h) (Or.inl ⟨by rfl, by intro wx hx; go_simp⟩) (by assumption) ?_
              try simp only [List.getElem_toArray, List.getElem_cons_succ, List.getElem_cons_zero, Act.put, List.setIfInBounds_toArray, List.set_cons_zero, List.set_cons_succ]
              refine wpAnyH_take (i := 12) (v := .pointer (some ⟨bx, 0, none⟩)) rfl (by kernel_rfl) (by kernel_rfl) (by kernel_rfl) (fun _ _ _ h => h) (Or.inl ⟨by rfl, by intro wx hx; go_simp⟩) (by assumption) ?_
              try simp only [List.getElem_toArray, List.getElem_cons_succ, List.getElem_cons_zero, Act.put, List.setIfInBounds_toArray, List.set_cons_zero, List.set_cons_succ]
              refine wpAnyH_take (i := 13) (v := .slice (some ⟨bM, oM, none⟩) M.length c1) rfl (by kernel_rfl) (by kernel_rfl) (by kernel_rfl) (fun _ _ _ h => h) (Or.inl ⟨by rfl, by intro wx hx; obtain ⟨_, _, _, _, _, _⟩ := hx; go_simp⟩) (by assumption) ?_
              try simp only [List.getElem_toArray, List.getElem_cons_succ, List.getElem_cons_zero, Act.put, List.setIfInBounds_toArray, List.set_cons_zero, List.set_cons_succ]
              refine wpAnyH_take (i := 14) (v := .slice (some ⟨bP, oP, none⟩) P.length cP) rfl (by kernel_rfl) (by kernel_rfl) (by kernel_rfl) (fun _ _ _ h => h) (Or.inl ⟨by rfl, by intro wx hx; go_simp⟩) (by assumption) ?_
              try simp only [List.getElem_toArray, List.getElem_cons_succ, List.getElem_cons_zero, Act.put, List.setIfInBounds_toArray, List.set_cons_zero, List.set_cons_succ]
              refine wpAnyH_take (i := 15) (v := .int .i64 j) rfl (by kernel_rfl) (by kernel_rfl) (by kernel_rfl) (fun _ _ _ h => h) (Or.inl ⟨by rfl, by intro wx hx; go_simp⟩) (by assumption) ?_
              try simp only [List.getElem_toArray, List.getElem_cons_succ, List.getElem_cons_zero, Act.put, List.setIfInBounds_toArray, List.set_cons_zero, List.set_cons_succ]
              refine wpAnyH_take (i := 16) (v := .pointer (some ⟨bP, oP + j, none⟩)) rfl (by kernel_rfl) (by kernel_rfl) (by kernel_rfl) (fun _ _ _ h => h) (Or.inl ⟨by rfl, by intro wx hx; go_simp⟩) (by assumption) ?_
              try simp only [List.getElem_toArray, List.getElem_cons_succ, List.getElem_cons_zero, Act.put, List.setIfInBounds_toArray, List.set_cons_zero, List.set_cons_succ]
              refine wpAnyH_take (i := 17) (v := .slice (some ⟨bc, oc, none⟩) c.length m1) rfl (by kernel_rfl) (by kernel_rfl) (by kernel_rfl) (fun _ _ _ h => h) (Or.inl ⟨by rfl, by intro wx hx; obtain ⟨_, _, _, _, _, _⟩ := hx; go_simp⟩) (by assumption) ?_
              try simp only [List.getElem_toArray, List.getElem_cons_succ, List.getElem_cons_zero, Act.put, List.setIfInBounds_toArray, List.set_cons_zero, List.set_cons_succ]
              refine wpAnyH_take (i := 18) (v := .int .i64 s) rfl (by kernel_rfl) (by kernel_rfl) (by kernel_rfl) (fun _ _ _ h => h) (Or.inl ⟨by rfl, by intro wx hx; go_simp⟩) (by assumption) ?_
              try simp only [List.getElem_toArray, List.getElem_cons_succ, List.getElem_cons_zero, Act.put, List.setIfInBounds_toArray, List.set_cons_zero, List.set_cons_succ]
              refine wpAnyH_take (i := 19) (v := .pointer (some ⟨bc, oc + s, none⟩)) rfl (by kernel_rfl) (by kernel_rfl) (by kernel_rfl) (fun _ _ _ h => h) (Or.inl ⟨by rfl, by intro wx hx; go_simp⟩) (by assumption) ?_
              try simp only [List.getElem_toArray, List.getElem_cons_succ, List.getElem_cons_zero, Act.put, List.setIfInBounds_toArray, List.set_cons_zero, List.set_cons_succ]
              refine wpAnyH_take (i := 20) (v := .int .i64 x) rfl (by kernel_rfl) (by kernel_rfl) (by kernel_rfl) (fun _ _ _ h => h) (Or.inl ⟨by rfl, by intro wx hx; obtain ⟨_, _, _, _, _, _⟩ := hx; go_simp⟩) (by assumption) ?_
              try simp only [List.getElem_toArray, List.getElem_cons_succ, List.getElem_cons_zero, Act.put, List.setIfInBounds_toArray, List.set_cons_zero, List.set_cons_succ]
              refine wpAnyH_take (i := 21) (v := .pointer (some ⟨bM, oM + x, none⟩)) rfl (by kernel_rfl) (by kernel_rfl) (by kernel_rfl) (fun _ _ _ h => h) (Or.inl ⟨by rfl, by intro wx hx; go_simp⟩) (by assumption) ?_
              try simp only [List.getElem_toArray, List.getElem_cons_succ, List.getElem_cons_zero, Act.put, List.setIfInBounds_toArray, List.set_cons_zero, List.set_cons_succ]
              refine wpAnyH_take (i := 22) (v := .slice (some ⟨bR, oR, none⟩) Rx.length mR) rfl (by kernel_rfl) (by kernel_rfl) (by kernel_rfl) (fun _ _ _ h => h) (Or.inl ⟨by rfl, by intro wx hx; obtain ⟨_, _, _, _, _, _⟩ := hx; go_simp⟩) (by assumption) ?_
              try simp only [List.getElem_toArray, List.getElem_cons_succ, List.getElem_cons_zero, Act.put, List.setIfInBounds_toArray, List.set_cons_zero, List.set_cons_succ]
              refine wpAnyH_take (i := 23) (v := .int .i64 rn) rfl (by kernel_rfl) (by kernel_rfl) (by kernel_rfl) (fun _ _ _ h => h) (Or.inl ⟨by rfl, by intro wx hx; go_simp⟩) (by assumption) ?_
              try simp only [List.getElem_toArray, List.getElem_cons_succ, List.getElem_cons_zero, Act.put, List.setIfInBounds_toArray, List.set_cons_zero, List.set_cons_succ]
              refine wpAnyH_take (i := 24) (v := .pointer (some ⟨bR, oR + rn, none⟩)) rfl (by kernel_rfl) (by kernel_rfl) (by kernel_rfl) (fun _ _ _ h => h) (Or.inl ⟨by rfl, by intro wx hx; go_simp⟩) (by assumption) ?_
              try simp only [List.getElem_toArray, List.getElem_cons_succ, List.getElem_cons_zero, Act.put, List.setIfInBounds_toArray, List.set_cons_zero, List.set_cons_succ]
              refine wpAnyH_take (i := 25) (v := .int .i64 dc) rfl (by kernel_rfl) (by kernel_rfl) (by kernel_rfl) (fun _ _ _ h => h) (Or.inl ⟨by rfl, by intro wx hx; obtain ⟨_, _, _, _, _, _⟩ := hx; go_simp⟩) (by assumption) ?_
              try simp only [List.getElem_toArray, List.getElem_cons_succ, List.getElem_cons_zero, Act.put, List.setIfInBounds_toArray, List.set_cons_zero, List.set_cons_succ]
              refine wpAnyH_ready (rs := [8]) (by kernel_rfl) (by simp) ?_
              refine AllReadyH.cons rfl (fun K hK => ?_) AllReadyH.nil
              go_simp
              go_at_call 79
              refine (l7Swap_any (w0 := wP) hi1 hsc hri.out (by omega)).mono ?_
              rintro e w5 ⟨u5, rfl, own5, e5⟩
              have e5q : Ext wq w5 := Ext.trans ed e5
              have hU : IsInts w5 u5 (sortL (c.set s rn)) := own5.reads (by unfold Short; rw [hswl.out]; omega) hswi.out
              clear own5
              have hS5 := hSx.out w5 e5q
              go_wp2_with fail
              refine hK.out _ _ hS5 (fun _ => ?_)
              clear hK K
              try simp only [List.getElem_toArray, List.getElem_cons_succ, List.getElem_cons_zero, Act.put, List.setIfInBounds_toArray, List.set_cons_zero, List.set_cons_succ]
              refine wpAnyH_ready (rs := [9]) (by kernel_rfl) (by simp) ?_
              refine AllReadyH.cons rfl (fun K hK => ?_) AllReadyH.nil
              go_simp
              go_at_call 78
              refine (l7Index_any (w0 := w5) (w := w5) (hP.ext (e := Ext.trans eq e5q)) hU hmem.out).mono ?_
              rw [hat.out]
              rintro e w6 ⟨rfl, e6⟩
              have e6q : Ext wq w6 := Ext.trans e5q e6
              have hS6 := hSx.out w6 e6q
              go_wp2_with fail
              refine hK.out _ _ hS6 (fun _ => ?_)
              clear hK K
              try simp only [List.getElem_toArray, List.getElem_cons_succ, List.getElem_cons_zero, Act.put, List.setIfInBounds_toArray, List.set_cons_zero, List.set_cons_succ]
              refine wpAnyH_take (i := 10) (v := .pointer (some ⟨bw, ow + t, none⟩)) rfl (by kernel_rfl) (by kernel_rfl) (by kernel_rfl) (fun _ _ _ h => h) (Or.inl ⟨by rfl, by intro wx hx; go_simp⟩) (by assumption) ?_
              try simp only [List.getElem_toArray, List.getElem_cons_succ, List.getElem_cons_zero, Act.put, List.setIfInBounds_toArray, List.set_cons_zero, List.set_cons_succ]
              refine wpAnyH_take (i := 11) (v := .int .i64 wt) rfl (by kernel_rfl) (by kernel_rfl) (by kernel_rfl) (fun _ _ _ h => h) (Or.inl ⟨by rfl, by intro wx hx; obtain ⟨_, _, _, _, _, _⟩ := hx; go_simp⟩) (by assumption) ?_
              try simp only [List.getElem_toArray, List.getElem_cons_succ, List.getElem_cons_zero, Act.put, List.setIfInBounds_toArray, List.set_cons_zero, List.set_cons_succ]
              refine wpAnyH_take (i := 26) (v := .int .i64 (wt + dc)) rfl (by kernel_rfl) (by kernel_rfl) (by kernel_rfl) (fun _ _ _ h => h) (Or.inl ⟨by rfl, by intro wx hx; go_simp⟩) (by assumption) ?_
              try simp only [List.getElem_toArray, List.getElem_cons_succ, List.getElem_cons_zero, Act.put, List.setIfInBounds_toArray, List.set_cons_zero, List.set_cons_succ]
              refine wpAnyH_take (i := 27) (v := .int .i64 (wt + dc)) rfl (by kernel_rfl) (by kernel_rfl) (by kernel_rfl) (fun _ _ _ h => h) (Or.inl ⟨by rfl, by intro wx hx; go_simp⟩) (by assumption) ?_
              try simp only [List.getElem_toArray, List.getElem_cons_succ, List.getElem_cons_zero, Act.put, List.setIfInBounds_toArray, List.set_cons_zero, List.set_cons_succ]
              refine wpAnyH_done (by kernel_rfl) ?_ _
              go_wp2_with fail
              go_roundw
              case rel => exact ⟨s + 1, by omega, by go_num, by rw [hy.out], hown.ext (e := e6q), hb.trans (e6q.below.mono hBq)⟩
              case measure => simp [intOf]; omega
            · have hl1' : decide (wt + dc < l) = false := decide_eq_false hl1
              have hy := hid (show snAt M P ws rn j (s + 1) = l by rw [hnx.out, if_neg (by omega)])
              clear hnx
              go_wp2_with fail
              refine region_held_from (w0 := wq) (S := fun u => u.cell? ⟨bP, oP + j, none⟩ = some (.slice (some ⟨bc, oc, none⟩) c.length m1) ∧ u.cell? ⟨bw, ow + t, none⟩ = some (.int .i64 wt) ∧ u.cell? ⟨bx, 0, none⟩ = some (.slice (some ⟨bM, oM, none⟩) M.length c1) ∧ u.cell? ⟨bc, oc + s, none⟩ = some (.int .i64 (x : Int)) ∧ u.cell? ⟨bM, oM + x, none⟩ = some (.slice (some ⟨bR, oR, none⟩) Rx.length mR) ∧ u.cell? ⟨bR, oR + rn, none⟩ = some (.int .i64 dc)) (by kernel_rfl) hSx.out (fun wd ed hHeld0 => ?_)
              have ePd : Ext wP wd := Ext.trans eq ed
              refine wpAnyH_take (i := 0) (v := .slice (some ⟨bw, ow, none⟩) ws.length mw) rfl (by kernel_rfl) (by kernel_rfl) (by kernel_rfl) (fun _ _ _ h => h) (Or.inl ⟨by rfl, by intro wx hx; go_simp⟩) (by assumption) ?_
              try simp only [List.getElem_toArray, List.getElem_cons_zero, Act.put, List.setIfInBounds_toArray, List.set_cons_zero, List.set_cons_succ]
              refine wpAnyH_take (i := 1) (v := .slice (some ⟨bP, oP, none⟩) P.length cP) rfl (by kernel_rfl) (by kernel_rfl) (by kernel_rfl) (fun _ _ _ h => h) (Or.inl ⟨by rfl, by intro wx hx; go_simp⟩) (by assumption) ?_
              try simp only [List.getElem_toArray, List.getElem_cons_succ, List.getElem_cons_zero, Act.put, List.setIfInBounds_toArray, List.set_cons_zero, List.set_cons_succ]
              refine wpAnyH_take (i := 2) (v := .slice (some ⟨bP, oP, none⟩) P.length cP) rfl (by kernel_rfl) (by kernel_rfl) (by kernel_rfl) (fun _ _ _ h => h) (Or.inl ⟨by rfl, by intro wx hx; go_simp⟩) (by assumption) ?_
              try simp only [List.getElem_toArray, List.getElem_cons_succ, List.getElem_cons_zero, Act.put, List.setIfInBounds_toArray, List.set_cons_zero, List.set_cons_succ]
              refine wpAnyH_take (i := 3) (v := .int .i64 j) rfl (by kernel_rfl) (by kernel_rfl) (by kernel_rfl) (fun _ _ _ h => h) (Or.inl ⟨by rfl, by intro wx hx; go_simp⟩) (by assumption) ?_
              try simp only [List.getElem_toArray, List.getElem_cons_succ, List.getElem_cons_zero, Act.put, List.setIfInBounds_toArray, List.set_cons_zero, List.set_cons_succ]
              refine wpAnyH_take (i := 4) (v := .pointer (some ⟨bP, oP + j, none⟩)) rfl (by kernel_rfl) (by kernel_rfl) (by kernel_rfl) (fun _ _ _ h => h) (Or.inl ⟨by rfl, by intro wx hx; go_simp⟩) (by assumption) ?_
              try simp only [List.getElem_toArray, List.getElem_cons_succ, List.getElem_cons_zero, Act.put, List.setIfInBounds_toArray, List.set_cons_zero, List.set_cons_succ]
              refine wpAnyH_take (i := 5) (v := .slice (some ⟨bc, oc, none⟩) c.length m1) rfl (by kernel_rfl) (by kernel_rfl) (by kernel_rfl) (fun _ _ _ h => h) (Or.inl ⟨by rfl, by intro wx hx; obtain ⟨_, _, _, _, _, _⟩ := hx; go_simp⟩) (by assumption) ?_
              try simp only [List.getElem_toArray, List.getElem_cons_succ, List.getElem_cons_zero, Act.put, List.setIfInBounds_toArray, List.set_cons_zero, List.set_cons_succ]
              refine wpAnyH_take (i := 6) (v := .int .i64 s) rfl (by kernel_rfl) (by kernel_rfl) (by kernel_rfl) (fun _ _ _ h => h) (Or.inl ⟨by rfl, by intro wx hx; go_simp⟩) (by assumption) ?_
              try simp only [List.getElem_toArray, List.getElem_cons_succ, List.getElem_cons_zero, Act.put, List.setIfInBounds_toArray, List.set_cons_zero, List.set_cons_succ]
              refine wpAnyH_take (i := 7) (v := .int .i64 rn) rfl (by kernel_rfl) (by kernel_rfl) (by kernel_rfl) (fun _ _ _ h => h) (Or.inl ⟨by rfl, by intro wx hx; go_simp⟩) (by assumption) ?_
              try simp only [List.getElem_toArray, List.getElem_cons_succ, List.getElem_cons_zero, Act.put, List.setIfInBounds_toArray, List.set_cons_zero, List.set_cons_succ]
              refine wpAnyH_take (i := 12) (v := .pointer (some ⟨bx, 0, none⟩)) rfl (by kernel_rfl) (by kernel_rfl) (by kernel_rfl) (fun _ _ _ h => h) (Or.inl ⟨by rfl, by intro wx hx; go_simp⟩) (by assumption) ?_
              try simp only [List.getElem_toArray, List.getElem_cons_succ, List.getElem_cons_zero, Act.put, List.setIfInBounds_toArray, List.set_cons_zero, List.set_cons_succ]
              refine wpAnyH_take (i := 13) (v := .slice (some ⟨bM, oM, none⟩) M.length c1) rfl (by kernel_rfl) (by kernel_rfl) (by kernel_rfl) (fun _ _ _ h => h) (Or.inl ⟨by rfl, by intro wx hx; obtain ⟨_, _, _, _, _, _⟩ := hx; go_simp⟩) (by assumption) ?_
              try simp only [List.getElem_toArray, List.getElem_cons_succ, List.getElem_cons_zero, Act.put, List.setIfInBounds_toArray, List.set_cons_zero, List.set_cons_succ]
              refine wpAnyH_take (i := 14) (v := .slice (some ⟨bP, oP, none⟩) P.length cP) rfl (by kernel_rfl) (by kernel_rfl) (by kernel_rfl) (fun _ _ _ h => h) (Or.inl ⟨by rfl, by intro wx hx; go_simp⟩) (by assumption) ?_
              try simp only [List.getElem_toArray, List.getElem_cons_succ, List.getElem_cons_zero, Act.put, List.setIfInBounds_toArray, List.set_cons_zero, List.set_cons_succ]
              refine wpAnyH_take (i := 15) (v := .int .i64 j) rfl (by kernel_rfl) (by kernel_rfl) (by kernel_rfl) (fun _ _ _ h => h) (Or.inl ⟨by rfl, by intro wx hx; go_simp⟩) (by assumption) ?_
              try simp only [List.getElem_toArray, List.getElem_cons_succ, List.getElem_cons_zero, Act.put, List.setIfInBounds_toArray, List.set_cons_zero, List.set_cons_succ]
              refine wpAnyH_take (i := 16) (v := .pointer (some ⟨bP, oP + j, none⟩)) rfl (by kernel_rfl) (by kernel_rfl) (by kernel_rfl) (fun _ _ _ h => h) (Or.inl ⟨by rfl, by intro wx hx; go_simp⟩) (by assumption) ?_
              try simp only [List.getElem_toArray, List.getElem_cons_succ, List.getElem_cons_zero, Act.put, List.setIfInBounds_toArray, List.set_cons_zero, List.set_cons_succ]
              refine wpAnyH_take (i := 17) (v := .slice (some ⟨bc, oc, none⟩) c.length m1) rfl (by kernel_rfl) (by kernel_rfl) (by kernel_rfl) (fun _ _ _ h => h) (Or.inl ⟨by rfl, by intro wx hx; obtain ⟨_, _, _, _, _, _⟩ := hx; go_simp⟩) (by assumption) ?_
              try simp only [List.getElem_toArray, List.getElem_cons_succ, List.getElem_cons_zero, Act.put, List.setIfInBounds_toArray, List.set_cons_zero, List.set_cons_succ]
              refine wpAnyH_take (i := 18) (v := .int .i64 s) rfl (by kernel_rfl) (by kernel_rfl) (by kernel_rfl) (fun _ _ _ h => h) (Or.inl ⟨by rfl, by intro wx hx; go_simp⟩) (by assumption) ?_
              try simp only [List.getElem_toArray, List.getElem_cons_succ, List.getElem_cons_zero, Act.put, List.setIfInBounds_toArray, List.set_cons_zero, List.set_cons_succ]
              refine wpAnyH_take (i := 19) (v := .pointer (some ⟨bc, oc + s, none⟩)) rfl (by kernel_rfl) (by kernel_rfl) (by kernel_rfl) (fun _ _ _ h => h) (Or.inl ⟨by rfl, by intro wx hx; go_simp⟩) (by assumption) ?_
              try simp only [List.getElem_toArray, List.getElem_cons_succ, List.getElem_cons_zero, Act.put, List.setIfInBounds_toArray, List.set_cons_zero, List.set_cons_succ]
              refine wpAnyH_take (i := 20) (v := .int .i64 x) rfl (by kernel_rfl) (by kernel_rfl) (by kernel_rfl) (fun _ _ _ h => h) (Or.inl ⟨by rfl, by intro wx hx; obtain ⟨_, _, _, _, _, _⟩ := hx; go_simp⟩) (by assumption) ?_
              try simp only [List.getElem_toArray, List.getElem_cons_succ, List.getElem_cons_zero, Act.put, List.setIfInBounds_toArray, List.set_cons_zero, List.set_cons_succ]
              refine wpAnyH_take (i := 21) (v := .pointer (some ⟨bM, oM + x, none⟩)) rfl (by kernel_rfl) (by kernel_rfl) (by kernel_rfl) (fun _ _ _ h => h) (Or.inl ⟨by rfl, by intro wx hx; go_simp⟩) (by assumption) ?_
              try simp only [List.getElem_toArray, List.getElem_cons_succ, List.getElem_cons_zero, Act.put, List.setIfInBounds_toArray, List.set_cons_zero, List.set_cons_succ]
              refine wpAnyH_take (i := 22) (v := .slice (some ⟨bR, oR, none⟩) Rx.length mR) rfl (by kernel_rfl) (by kernel_rfl) (by kernel_rfl) (fun _ _ _ h => h) (Or.inl ⟨by rfl, by intro wx hx; obtain ⟨_, _, _, _, _, _⟩ := hx; go_simp⟩) (by assumption) ?_
              try simp only [List.getElem_toArray, List.getElem_cons_succ, List.getElem_cons_zero, Act.put, List.setIfInBounds_toArray, List.set_cons_zero, List.set_cons_succ]
              refine wpAnyH_take (i := 23) (v := .int .i64 rn) rfl (by kernel_rfl) (by kernel_rfl) (by kernel_rfl) (fun _ _ _ h => h) (Or.inl ⟨by rfl, by intro wx hx; go_simp⟩) (by assumption) ?_
              try simp only [List.getElem_toArray, List.getElem_cons_succ, List.getElem_cons_zero, Act.put, List.setIfInBounds_toArray, List.set_cons_zero, List.set_cons_succ]
              refine wpAnyH_take (i := 24) (v := .pointer (some ⟨bR, oR + rn, none⟩)) rfl (by kernel_rfl) (by kernel_rfl) (by kernel_rfl) (fun _ _ _ h => h) (Or.inl ⟨by rfl, by intro wx hx; go_simp⟩) (by assumption) ?_
              try simp only [List.getElem_toArray, List.getElem_cons_succ, List.getElem_cons_zero, Act.put, List.setIfInBounds_toArray, List.set_cons_zero, List.set_cons_succ]
              refine wpAnyH_take (i := 25) (v := .int .i64 dc) rfl (by kernel_rfl) (by kernel_rfl) (by kernel_rfl) (fun _ _ _ h => h) (Or.inl ⟨by rfl, by intro wx hx; obtain ⟨_, _, _, _, _, _⟩ := hx; go_simp⟩) (by assumption) ?_
              try simp only [List.getElem_toArray, List.getElem_cons_succ, List.getElem_cons_zero, Act.put, List.setIfInBounds_toArray, List.set_cons_zero, List.set_cons_succ]
              refine wpAnyH_ready (rs := [8]) (by kernel_rfl) (by simp) ?_
              refine AllReadyH.cons rfl (fun K hK => ?_) AllReadyH.nil
              go_simp
              go_at_call 79
              refine (l7Swap_any (w0 := wP) hi1 hsc hri.out (by omega)).mono ?_
              rintro e w5 ⟨u5, rfl, own5, e5⟩
              have e5q : Ext wq w5 := Ext.trans ed e5
              have hU : IsInts w5 u5 (sortL (c.set s rn)) := own5.reads (by unfold Short; rw [hswl.out]; omega) hswi.out
              clear own5
              have hS5 := hSx.out w5 e5q
              go_wp2_with fail
              refine hK.out _ _ hS5 (fun _ => ?_)
              clear hK K
              try simp only [List.getElem_toArray, List.getElem_cons_succ, List.getElem_cons_zero, Act.put, List.setIfInBounds_toArray, List.set_cons_zero, List.set_cons_succ]
              refine wpAnyH_ready (rs := [9]) (by kernel_rfl) (by simp) ?_
              refine AllReadyH.cons rfl (fun K hK => ?_) AllReadyH.nil
              go_simp
              go_at_call 78
              refine (l7Index_any (w0 := w5) (w := w5) (hP.ext (e := Ext.trans eq e5q)) hU hmem.out).mono ?_
              rw [hat.out]
              rintro e w6 ⟨rfl, e6⟩
              have e6q : Ext wq w6 := Ext.trans e5q e6
              have hS6 := hSx.out w6 e6q
              go_wp2_with fail
              refine hK.out _ _ hS6 (fun _ => ?_)
              clear hK K
              try simp only [List.getElem_toArray, List.getElem_cons_succ, List.getElem_cons_zero, Act.put, List.setIfInBounds_toArray, List.set_cons_zero, List.set_cons_succ]
              refine wpAnyH_take (i := 10) (v := .pointer (some ⟨bw, ow + t, none⟩)) rfl (by kernel_rfl) (by kernel_rfl) (by kernel_rfl) (fun _ _ _ h => h) (Or.inl ⟨by rfl, by intro wx hx; go_simp⟩) (by assumption) ?_
              try simp only [List.getElem_toArray, List.getElem_cons_succ, List.getElem_cons_zero, Act.put, List.setIfInBounds_toArray, List.set_cons_zero, List.set_cons_succ]
              refine wpAnyH_take (i := 11) (v := .int .i64 wt) rfl (by kernel_rfl) (by kernel_rfl) (by kernel_rfl) (fun _ _ _ h => h) (Or.inl ⟨by rfl, by intro wx hx; obtain ⟨_, _, _, _, _, _⟩ := hx; go_simp⟩) (by assumption) ?_
              try simp only [List.getElem_toArray, List.getElem_cons_succ, List.getElem_cons_zero, Act.put, List.setIfInBounds_toArray, List.set_cons_zero, List.set_cons_succ]
              refine wpAnyH_take (i := 26) (v := .int .i64 (wt + dc)) rfl (by kernel_rfl) (by kernel_rfl) (by kernel_rfl) (fun _ _ _ h => h) (Or.inl ⟨by rfl, by intro wx hx; go_simp⟩) (by assumption) ?_
              try simp only [List.getElem_toArray, List.getElem_cons_succ, List.getElem_cons_zero, Act.put, List.setIfInBounds_toArray, List.set_cons_zero, List.set_cons_succ]
              refine wpAnyH_take (i := 27) (v := .int .i64 (wt + dc)) rfl (by kernel_rfl) (by kernel_rfl) (by kernel_rfl) (fun _ _ _ h => h) (Or.inl ⟨by rfl, by intro wx hx; go_simp⟩) (by assumption) ?_
              try simp only [List.getElem_toArray, List.getElem_cons_succ, List.getElem_cons_zero, Act.put, List.setIfInBounds_toArray, List.set_cons_zero, List.set_cons_succ]
              refine wpAnyH_done (by kernel_rfl) ?_ _
              go_wp2_with fail
              go_roundw
              case rel => exact ⟨s + 1, by omega, by go_num, by rw [hy.out], hown.ext (e := e6q), hb.trans (e6q.below.mono hBq)⟩
              case measure => simp [intOf]; omega
        · have hsk : s = k := by omega
          have hval := hid (show snAt M P ws rn j s = nth Xs j by rw [hsk]; exact hNx.out j hlt)
          have hXj := hid (show Xs.take (j + 1) = Xs.take j ++ [nth Xs j] from take_succ_nth (by rw [hXl.out]; exact hlt))
          rw [hval.out]
          replace hsk := hid hsk
          have hT : (Xs.take j).length ≤ 1000 := by rw [List.length_take]; omega
          have hn1000 : n0 ≤ 1000 := by rw [hn0.out]; exact hT
          have eq : Ext wP wq := hEx.out _ hb
          have hBq : B ≤ wq.heap.size := by rw [hB.out]; exact eq.size
          generalize nth Xs j = y at *
          obtain ⟨T, hTd⟩ : ∃ l, l = Xs.take j := ⟨_, rfl⟩
          rw [← hTd] at hown hn0 hXj hT
          replace hTd := hid hTd
          have hown' : Own wq B [⟨3, 1, .slice d0 n0 m0, n0, T.map (Value.int .i64)⟩] := by rw [hn0.out]; rw [hn0.out] at hown; exact hown
          clear hown
          go_wp2_with (at_builtin; refine wpList_append1 rfl _ _ _ rfl elemInt rfl hown' hBq rfl rfl (by omega) (by omega) ?_; intro v7 w7 ho hb7)
          have own7 := own_grow1 ho hn0.out
          go_roundw
          case rel => exact ⟨j + 1, by omega, by go_num, by rw [hXj.out]; exact own7, hb.trans hb7⟩
          case measure => simp [intOf]; omega
    · have hjP : j = P.length := by omega
      have eo : Ext wP wo := hEx.out _ hb
      have hfin := hid (show Own wo B [intRowOf 3 (.slice d0 n0 m0) Xs] by
        have e : Xs.take j = Xs := by rw [hjP, ← hXl.out, List.take_length]
        rw [e] at hown
        exact hown)
      replace hjP := hid hjP
      go_wp2_with fail
      go_ret
      exact ⟨_, rfl, by rw [← hPd.out, ← hXs.out]; exact hfin.out.mono hBw.out, Ext.trans ePw eo⟩
theorem l7Next_any {v vw : Value} {M : List (List Int)} {ws : List Int} {k : Nat} {r L : Int} {w0 w : World} [Ext w0 w] (hm : IsMet w0 v M) (hM : metB M = true) (hw : IsInts w0 vw ws) (h1k : 1 ≤ k) (hk : k ≤ 3) (hg : GoodW M (confs M.length k 0) ws L) (hL : L ≤ 1000000) (hr : 0 ≤ r ∧ r < (M.length : Int)) :
    Calls Try.prog 120 #[v, .int .i64 k, vw, .int .i64 r] w fun e w' => ∃ u, e = .returned u ∧ IsInts w' u (wnxL M (confs M.length k 0) ws r) ∧ Ext w w' :=
  (l7NextO_any hm hM hw h1k hk hg hL hr).mono fun e w' ⟨u, h1, h2, h3⟩ => ⟨u, h1, h2.reads (by
    unfold Short
    rw [wnxL_len, hg.1.1]
    have := confs_216 (n := M.length) (k := k) (met_len hM).2 hk
    omega) (good_i64 (wnx_good (dst_of_met hM) h1k hk hg hL hr).1 (by omega)), h3⟩
end Go.Proofs.Ytmgcfnciejfpbaa

/- The choice of the work function algorithm, the reference's; its first work list. -/
namespace Go.Proofs.Ytmgcfnciejfpbaa
open Go.RowKit

theorem ext_below {B : Nat} {a b c : World} (h : Below B a b) (hB : B ≤ b.heap.size) [e : Ext b c] : Below B a c := h.trans (e.below.mono hB)
theorem lexC_pre {a b : List Int} : ∀ {i : Nat}, i ≤ a.length → i ≤ b.length → (∀ j, j < i → nth a j = nth b j) → lexC a b = lexC (a.drop i) (b.drop i) := by
  intro i
  induction i with
  | zero => intro _ _ _; rfl
  | succ i ih =>
    intro ha hb h
    rw [ih (by omega) (by omega) (fun j hj => h j (by omega)), lexC_step (by omega) (by omega), h i (by omega)]
    simp [cmpI]
theorem lexC_at {a b : List Int} {i : Nat} (ha : i < a.length) (hb : i < b.length) (h : ∀ j, j < i → nth a j = nth b j) (hne : nth a i ≠ nth b i) : decide (lexC a b < 0) = decide (nth a i < nth b i) := by
  have e : lexC a b = cmpI (nth a i) (nth b i) := by
    rw [lexC_pre (by omega) (by omega) h, lexC_step ha hb, if_pos]
    unfold cmpI
    split
    · decide
    · rw [if_pos (by omega)]; decide
  rw [e, cmpI]
  by_cases h1 : nth a i < nth b i
  · simp [h1]
  · rw [if_neg h1, if_pos (by omega)]; simp; omega

theorem sv_yes {M P : List (List Int)} {nx a : List Int} {r : Int} {s : Nat} (h : svN M P nx a r s < (svT M P nx a r s).2.2 ∨ (svN M P nx a r s = (svT M P nx a r s).2.2 ∧ lexC (svX a r s) (svT M P nx a r s).1 < 0)) : (svT M P nx a r (s + 1)).1 = svX a r s ∧ (svT M P nx a r (s + 1)).2.1 = cell M (nth a s).toNat r.toNat ∧ svL M P nx a r (s + 1) = svN M P nx a r s := by
  rw [svL, svT_yes h]
  exact ⟨rfl, rfl, if_neg (by omega)⟩
theorem sv_no {M P : List (List Int)} {nx a : List Int} {r : Int} {s : Nat} (h : ¬ (svN M P nx a r s < (svT M P nx a r s).2.2 ∨ (svN M P nx a r s = (svT M P nx a r s).2.2 ∧ lexC (svX a r s) (svT M P nx a r s).1 < 0))) : (svT M P nx a r (s + 1)).1 = (svT M P nx a r s).1 ∧ (svT M P nx a r (s + 1)).2.1 = (svT M P nx a r s).2.1 ∧ svL M P nx a r (s + 1) = (svT M P nx a r s).2.2 := by
  rw [svL, svT_no h]
  exact ⟨rfl, rfl, if_neg (by omega)⟩
theorem svL_pos {M P : List (List Int)} {nx a : List Int} {r : Int} {s : Nat} (h : s ≠ 0) : svL M P nx a r s = (svT M P nx a r s).2.2 := if_neg h
theorem svT_len {M : List (List Int)} {n k : Nat} {r L : Int} {nx a : List Int} (hd : Dst M n) (hg : GoodW M (confs n k 0) nx L) (hL : L ≤ 2000000) (ha : a ∈ confs n k 0) (hr : 0 ≤ r ∧ r < (n : Int)) {s : Nat} (hs : s ≤ k) (h1 : 1 ≤ s) : (svT M (confs n k 0) nx a r s).1.length = a.length ∧ 0 ≤ (svT M (confs n k 0) nx a r s).2.2 := by
  obtain ⟨t, ht, h2⟩ := svT_at (M := M) (P := confs n k 0) (nx := nx) (a := a) (r := r) (s := s) (fun t ht => by have := (svN_in hd hg ha (s := t) (by omega) hr).2; omega) h1
  rw [h2]
  exact ⟨by rw [svX, sortL_len, List.length_set], (svN_in hd hg ha (s := t) (by omega) hr).1⟩

end Go.Proofs.Ytmgcfnciejfpbaa

/- The choice of the work function algorithm, the program's. -/
namespace Go.Proofs.Ytmgcfnciejfpbaa
open Go.RowKit

theorem sv_yesI {M P : List (List Int)} {nx a : List Int} {r : Int} {s : Nat} (h : svN M P nx a r s < (svT M P nx a r s).2.2 ∨ (svN M P nx a r s = (svT M P nx a r s).2.2 ∧ lexC (svX a r s) (svT M P nx a r s).1 < 0)) : (svT M P nx a r (s + 1)).1 = svX a r s ∧ (svT M P nx a r (s + 1)).2.1 = cell M (nth a s).toNat r.toNat ∧ (svT M P nx a r (s + 1)).2.2 = svN M P nx a r s := by
  rw [svT_yes h]
  exact ⟨rfl, rfl, rfl⟩

end Go.Proofs.Ytmgcfnciejfpbaa

/- Tests on a metric and a number of servers, both sides. Written by ch7.py. -/
namespace Go.Proofs.Ytmgcfnciejfpbaa
open Go.RowKit

def askB (M : List (List Int)) (k : Int) : Bool := metB M && inB k 1 3
def givB (M : List (List Int)) (k : Int) (ws : List Int) (r : Int) : Bool := askB M k && (inB r 0 (M.length - 1) && workB M (confs M.length k.toNat 0) ws)
theorem askB_iff {M : List (List Int)} {k : Int} : askB M k = true ↔ metB M = true ∧ 1 ≤ k ∧ k ≤ 3 := by simp [askB, inB]
theorem isSmall_any {v : Value} {l : List Int} {w0 w : World} [Ext w0 w] (hl : IsInts w0 v l) :
    Calls Try.prog 67 #[v] w fun e w' => e = .returned (.bool (belowB 100000 l)) ∧ Ext w w' := by
  have hl' := hl
  obtain ⟨a, c, rfl, la⟩ := hl.form
  go_enter Try.func67, Try.ntmps67
  go_wp2_with fail
  with_reducible refine (areBelow_any (w0 := w0) hl' (by omega) (by omega)).mono ?_
  rintro e w1 ⟨rfl, e1⟩
  go_wp2_with fail
  go_ret
  exact ⟨rfl, e1⟩
set_option maxHeartbeats 800000 in
set_option maxRecDepth 100000 in
theorem isKs_any {v : Value} {M : List (List Int)} {k : Int} {w0 w : World} [Ext w0 w] (hm : IsMet w0 v M) :
    Calls Try.prog 80 #[v, .int .i64 k] w fun e w' => e = .returned (.bool (askB M k)) ∧ Ext w w' := by
  have hm' := hm
  obtain ⟨v1, rfl, hR⟩ := hm
  obtain ⟨a1, c1, rfl, l1⟩ := hR.form
  obtain ⟨RES, hRES⟩ : ∃ b, b = askB M k := ⟨_, rfl⟩
  rw [← hRES]
  replace hRES := hid hRES
  cases hc0 : metB M with
  | false =>
    replace hc0 := hid hc0
    have hr := hid (show RES = false by rw [hRES.out]; simp [askB, hc0.out])
    go_enter Try.func80, Try.ntmps80
    go_wp2_with fail
    with_reducible refine (IsMetric_any (w0 := w0) hm').mono ?_
    rw [hc0.out]
    rintro e w1 ⟨rfl, hb1⟩
    have g1 : Ext w w1 := Ext.trans inferInstance hb1
    have e01 : Ext w0 w1 := Ext.trans ‹Ext w0 w› g1
    go_wp2_with fail
    go_ret
    exact ⟨ret_bool hr.out.symm, g1⟩
  | true =>
    replace hc0 := hid hc0
    cases hc1 : inB k 1 3 with
    | false =>
      replace hc1 := hid hc1
      have hr := hid (show RES = false by rw [hRES.out]; simp [askB, hc0.out, hc1.out])
      go_enter Try.func80, Try.ntmps80
      go_wp2_with fail
      with_reducible refine (IsMetric_any (w0 := w0) hm').mono ?_
      rw [hc0.out]
      rintro e w1 ⟨rfl, hb1⟩
      have g1 : Ext w w1 := Ext.trans inferInstance hb1
      have e01 : Ext w0 w1 := Ext.trans ‹Ext w0 w› g1
      go_wp2_with fail
      with_reducible refine (isServers_any _ _).mono ?_
      rw [hc1.out]
      rintro e wx ⟨rfl, rfl⟩
      go_wp2_with fail
      go_ret
      exact ⟨ret_bool hr.out.symm, g1⟩
    | true =>
      replace hc1 := hid hc1
      have hr := hid (show RES = true by rw [hRES.out]; simp [askB, hc0.out, hc1.out])
      go_enter Try.func80, Try.ntmps80
      go_wp2_with fail
      with_reducible refine (IsMetric_any (w0 := w0) hm').mono ?_
      rw [hc0.out]
      rintro e w1 ⟨rfl, hb1⟩
      have g1 : Ext w w1 := Ext.trans inferInstance hb1
      have e01 : Ext w0 w1 := Ext.trans ‹Ext w0 w› g1
      go_wp2_with fail
      with_reducible refine (isServers_any _ _).mono ?_
      rw [hc1.out]
      rintro e wx ⟨rfl, rfl⟩
      go_wp2_with fail
      go_ret
      exact ⟨ret_bool hr.out.symm, g1⟩

set_option maxHeartbeats 800000 in
set_option maxRecDepth 100000 in
theorem l7Asked_any {v : Value} {M : List (List Int)} {k : Int} {w0 w : World} [Ext w0 w] (hm : IsMet w0 v M) :
    Calls Try.prog 76 #[v, .int .i64 k] w fun e w' => e = .returned (.bool (askB M k)) ∧ Ext w w' := by
  have hm' := hm
  obtain ⟨v1, rfl, hR⟩ := hm
  obtain ⟨a1, c1, rfl, l1⟩ := hR.form
  obtain ⟨RES, hRES⟩ : ∃ b, b = askB M k := ⟨_, rfl⟩
  rw [← hRES]
  replace hRES := hid hRES
  cases hc0 : metB M with
  | false =>
    replace hc0 := hid hc0
    have hr := hid (show RES = false by rw [hRES.out]; simp [askB, hc0.out])
    go_enter Try.func76, Try.ntmps76
    go_wp2_with fail
    with_reducible refine (l6Good_any (w0 := w0) hm').mono ?_
    rw [hc0.out]
    rintro e w1 ⟨rfl, hb1⟩
    have g1 : Ext w w1 := Ext.trans inferInstance hb1
    have e01 : Ext w0 w1 := Ext.trans ‹Ext w0 w› g1
    go_wp2_with fail
    go_ret
    exact ⟨ret_bool hr.out.symm, g1⟩
  | true =>
    replace hc0 := hid hc0
    cases hc1 : inB k 1 3 with
    | false =>
      replace hc1 := hid hc1
      have hr := hid (show RES = false by rw [hRES.out]; simp [askB, hc0.out, hc1.out])
      go_enter Try.func76, Try.ntmps76
      go_wp2_with fail
      with_reducible refine (l6Good_any (w0 := w0) hm').mono ?_
      rw [hc0.out]
      rintro e w1 ⟨rfl, hb1⟩
      have g1 : Ext w w1 := Ext.trans inferInstance hb1
      have e01 : Ext w0 w1 := Ext.trans ‹Ext w0 w› g1
      go_wp2_with fail
      with_reducible refine (l1In_any _ _ _ _).mono ?_
      rw [hc1.out]
      rintro e wx ⟨rfl, rfl⟩
      go_wp2_with fail
      go_ret
      exact ⟨ret_bool hr.out.symm, g1⟩
    | true =>
      replace hc1 := hid hc1
      have hr := hid (show RES = true by rw [hRES.out]; simp [askB, hc0.out, hc1.out])
      go_enter Try.func76, Try.ntmps76
      go_wp2_with fail
      with_reducible refine (l6Good_any (w0 := w0) hm').mono ?_
      rw [hc0.out]
      rintro e w1 ⟨rfl, hb1⟩
      have g1 : Ext w w1 := Ext.trans inferInstance hb1
      have e01 : Ext w0 w1 := Ext.trans ‹Ext w0 w› g1
      go_wp2_with fail
      with_reducible refine (l1In_any _ _ _ _).mono ?_
      rw [hc1.out]
      rintro e wx ⟨rfl, rfl⟩
      go_wp2_with fail
      go_ret
      exact ⟨ret_bool hr.out.symm, g1⟩
end Go.Proofs.Ytmgcfnciejfpbaa

/- The cursor that reads choices from bytes: what it returns lies in its bounds, and nothing else changes. -/
namespace Go.Proofs.Ytmgcfnciejfpbaa
open Go.RowKit

theorem ow_pull {w : World} {B : Nat} {A L : List Row} {r : Row} (h : Own w B (A ++ (r :: L))) : Own w B (r :: (A ++ L)) := h.perm List.perm_middle.symm
theorem ow_push {w : World} {B : Nat} {A L : List Row} {r : Row} (h : Own w B (r :: (A ++ L))) : Own w B (A ++ (r :: L)) := h.perm List.perm_middle
theorem ow_cell {w : World} {B e z g n c : Nat} {cs : List Value} {R : List Row} (h : Own w B R) (hr : (⟨e, z, .slice (some ⟨g, 0, none⟩) n c, n, cs⟩ : Row) ∈ R) {j : Nat} (hj : j < n * z) : w.cell? ⟨g, j, none⟩ = some (cs.getD j undef) := by
  have ho := h.1 _ hr
  have h1 := ho.cellAt j hj
  have h2 : cs.length = n * z := ho.1
  rw [h1]
  have h3 : j < cs.length := by omega
  simp [h3]
theorem ow_frozen {w : World} {B e z g n c : Nat} {cs : List Value} {R : List Row} (h : Own w B R) (hr : (⟨e, z, .slice (some ⟨g, 0, none⟩) n c, n, cs⟩ : Row) ∈ R) (j : Nat) : w.frozen? ⟨g, j, none⟩ = false := (h.1 _ hr).frozenAt j
theorem ow_set {w : World} {B e z g n c : Nat} {cs : List Value} {A L : List Row} (h : Own w B (A ++ (⟨e, z, .slice (some ⟨g, 0, none⟩) n c, n, cs⟩ :: L))) (j : Nat) (u : Value) :
    Own (w.setCell ⟨g, j, none⟩ u) B (A ++ (⟨e, z, .slice (some ⟨g, 0, none⟩) n c, n, cs.set j u⟩ :: L)) := by
  have h' := ow_pull h
  exact ow_push (h'.turn (h'.head.stored j u).1 (h'.head.stored j u).2 (.inl rfl))
theorem ow_lt {w : World} {B e z g n c : Nat} {cs : List Value} {R : List Row} (h : Own w B (⟨e, z, .slice (some ⟨g, 0, none⟩) n c, n, cs⟩ :: R)) : B ≤ g ∧ g < w.heap.size :=
  h.head.lt g rfl

/-- the value reads as n bytes -/
def IsBytes (w : World) (v : Value) (n : Nat) : Prop := ∃ a c, v = .slice a n c ∧ ∀ j, j < n → ∃ b o x, a = some ⟨b, o, none⟩ ∧ w.cell? ⟨b, o + j, none⟩ = some (.int .u8 x) ∧ 0 ≤ x ∧ x ≤ 255
theorem IsBytes.form {w : World} {v : Value} {n : Nat} (h : IsBytes w v n) : ∃ a c, v = .slice a n c := by
  obtain ⟨a, c, h, _⟩ := h
  exact ⟨a, c, h⟩
theorem IsBytes.at {w w' : World} {a : Option Addr} {n c : Nat} (h : IsBytes w (.slice a n c) n) [e : Ext w w'] {k : Nat} (hk : k < n) : ∃ b o x, a = some ⟨b, o, none⟩ ∧ w'.cell? ⟨b, o + k, none⟩ = some (.int .u8 x) ∧ 0 ≤ x ∧ x ≤ 255 := by
  obtain ⟨a', c', h1, h2⟩ := h
  cases h1
  obtain ⟨b, o, x, h3, h4, h5⟩ := h2 k hk
  exact ⟨b, o, x, h3, e.cell h4, h5⟩
/-- the cursor lies in block c -/
abbrev curRow (c : Nat) (vc : Value) (a s : Int) : Row := ⟨70, 3, .slice (some ⟨c, 0, none⟩) 1 1, 1, [vc, .int .i64 a, .int .u64 s]⟩

theorem low_byte (y : Int) : 0 ≤ wrap64 (bits BinOp.and IntKind.u64 (IntKind.u64.wrap y / 1099511627776) 255) ∧ wrap64 (bits BinOp.and IntKind.u64 (IntKind.u64.wrap y / 1099511627776) 255) ≤ 255 := by
  have h1 : 0 ≤ IntKind.u64.wrap y ∧ IntKind.u64.wrap y < 18446744073709551616 := by
    simp only [IntKind.wrap, IntKind.bits, IntKind.signed]
    simp
    omega
  obtain ⟨m, hm⟩ := Int.eq_ofNat_of_zero_le h1.1
  rw [hm] at h1 ⊢
  have e : ((m : Int) / 1099511627776) = ((m / 1099511627776 : Nat) : Int) := by omega
  have h2 := bits_and_u64_nat (m / 1099511627776) 255 (by omega) (by omega)
  have h3 : (m / 1099511627776) &&& 255 ≤ 255 := Nat.and_le_right
  rw [e]
  have h2' : bits BinOp.and IntKind.u64 ((m / 1099511627776 : Nat) : Int) 255 = (((m / 1099511627776) &&& 255 : Nat) : Int) := h2
  rw [h2']
  generalize (m / 1099511627776) &&& 255 = q at *
  unfold wrap64
  omega
theorem cur_put {w : World} {B c : Nat} {vc : Value} {a s : Int} {R : List Row} (own : Own w B (curRow c vc a s :: R)) (m k : Nat) (a' s' : Int) :
    Own ((((w.drewN m).setCell ⟨c, 1, none⟩ (.int .i64 a')).setCell ⟨c, 2, none⟩ (.int .u64 s')).drewN k) B (curRow c vc a' s' :: R) ∧ Below B w ((((w.drewN m).setCell ⟨c, 1, none⟩ (.int .i64 a')).setCell ⟨c, 2, none⟩ (.int .u64 s')).drewN k) := by
  have o1 : Own (w.drewN m) B (curRow c vc a s :: R) := own.ext
  have o2 := ow_set (A := []) o1 1 (.int .i64 a')
  have o3 := ow_set (A := []) o2 2 (.int .u64 s')
  have hl := (ow_lt own).1
  refine ⟨o3.ext, ?_⟩
  have h1 : Below B w (w.drewN m) := ⟨rfl, rfl, rfl, Nat.le_refl _, fun _ _ => rfl⟩
  have h2 : Below B w (((w.drewN m).setCell ⟨c, 1, none⟩ (.int .i64 a')).setCell ⟨c, 2, none⟩ (.int .u64 s')) := (h1.setCell hl _).setCell hl _
  exact ⟨h2.os, h2.tape, h2.output, h2.size, h2.block⟩

set_option maxHeartbeats 1600000 in
set_option maxRecDepth 100000 in
theorem next_any {w0 w : World} [Ext w0 w] {vc : Value} {n : Nat} (hc : IsBytes w0 vc n) {B c : Nat} {a s : Int} {R : List Row} (own : Own w B (curRow c vc a s :: R)) (ha : 0 ≤ a) (ha2 : a ≤ 100000000) :
    Calls Try.prog 90 #[.pointer (some ⟨c, 0, none⟩)] w fun e w' => ∃ x s' : Int, e = .returned (.int .i64 x) ∧ 0 ≤ x ∧ x ≤ 255 ∧ Own w' B (curRow c vc (a + 1) s' :: R) ∧ Below B w w' := by
  obtain ⟨ac, cc, rfl⟩ := hc.form
  have k0 : w.cell? ⟨c, 0, none⟩ = some (.slice ac n cc) := ow_cell own (.head _) (j := 0) (by omega)
  have k1 : w.cell? ⟨c, 1, none⟩ = some (.int .i64 a) := ow_cell own (.head _) (j := 1) (by omega)
  have k2 : w.cell? ⟨c, 2, none⟩ = some (.int .u64 s) := ow_cell own (.head _) (j := 2) (by omega)
  have f1 := ow_frozen own (.head _) 1
  have f2 := ow_frozen own (.head _) 2
  obtain ⟨a, rfl⟩ := Int.eq_ofNat_of_zero_le ha
  by_cases hlt : a < n
  · obtain ⟨b, o, x, rfl, hcx, hx0, hx1⟩ := hc.at (w' := w) hlt
    go_enter Try.func90, Try.ntmps90
    go_wp2_with (go_quiet (fail))
    · go_ret
      exact ⟨x, _, rfl, hx0, hx1, (cur_put own _ _ _ _).1, (cur_put own _ _ _ _).2⟩
  · go_enter Try.func90, Try.ntmps90
    go_wp2_with (go_quiet (fail))
    go_ret
    exact ⟨_, _, rfl, (low_byte _).1, (low_byte _).2, (cur_put own _ _ _ _).1, (cur_put own _ _ _ _).2⟩

theorem mod_in {x N : Int} (hx : 0 ≤ x) (hN : 0 < N) : 0 ≤ x % N ∧ x % N < N ∧ x % N ≤ x := by
  have h1 := Int.emod_nonneg x (b := N) (by omega)
  have h2 := Int.emod_lt_of_pos x hN
  refine ⟨h1, h2, ?_⟩
  by_cases h : x < N
  · rw [Int.emod_eq_of_lt hx h]; omega
  · omega
/-- the cursor lies in block c, has read a steps, and the rows R are owned beside it -/
def CurAt (w : World) (B c : Nat) (vc : Value) (a : Int) (R : List Row) : Prop := ∃ s, Own w B (curRow c vc a s :: R)
theorem CurAt.ext {w w' : World} {B c : Nat} {vc : Value} {a : Int} {R : List Row} (h : CurAt w B c vc a R) [e : Ext w w'] : CurAt w' B c vc a R := by
  obtain ⟨s, h⟩ := h
  exact ⟨s, h.ext⟩
theorem CurAt.rows {w : World} {B c : Nat} {vc : Value} {a : Int} {R : List Row} (h : CurAt w B c vc a R) : Own w B R := by
  obtain ⟨s, h⟩ := h
  exact h.tail
theorem CurAt.perm {w : World} {B c : Nat} {vc : Value} {a : Int} {R R' : List Row} (h : CurAt w B c vc a R) (p : R'.Perm R) : CurAt w B c vc a R' := by
  obtain ⟨s, h⟩ := h
  exact ⟨s, h.perm (p.cons _)⟩
theorem CurAt.sub {w : World} {B c : Nat} {vc : Value} {a : Int} {R R' : List Row} (h : CurAt w B c vc a R) (p : R'.Sublist R) : CurAt w B c vc a R' := by
  obtain ⟨s, h⟩ := h
  exact ⟨s, h.sub (p.cons_cons _)⟩
theorem CurAt.drop {w : World} {B c : Nat} {vc : Value} {a : Int} {r : Row} {R : List Row} (h : CurAt w B c vc a (r :: R)) : CurAt w B c vc a R := h.sub (List.sublist_cons_self _ _)
/-- a fresh list of ints joins -/
theorem CurAt.lit {w : World} {B c : Nat} {vc : Value} {a : Int} {R : List Row} (h : CurAt w B c vc a R) {e n : Nat} {cs : Array Value} (xs : List Int) (hB : B ≤ w.heap.size) (hx : cs.toList = xs.map (Value.int .i64)) (hn : n = xs.length) (hs : xs.length ≤ 1000000) :
    CurAt (w.alloc (.cells cs e)) B c vc a (intRowOf e (.slice (some ⟨w.heap.size, 0, none⟩) n n) xs :: R) := by
  obtain ⟨s, h⟩ := h
  subst hn
  have hl : cs.size = xs.length * 1 := by rw [← Array.length_toList, hx]; simp
  have h1 := h.lit e 1 xs.length cs hB (by unfold maxLen; omega) hl
  rw [hx] at h1
  exact ⟨s, h1.perm (List.Perm.swap _ _ _)⟩
/-- a row that another list of rows was made into -/
theorem CurAt.of {w : World} {B c : Nat} {vc : Value} {a s : Int} {R : List Row} (h : Own w B (curRow c vc a s :: R)) : CurAt w B c vc a R := ⟨s, h⟩

set_option maxHeartbeats 1600000 in
set_option maxRecDepth 100000 in
theorem pick_any {w0 w : World} [Ext w0 w] {vc : Value} {n : Nat} (hc : IsBytes w0 vc n) {B c : Nat} {a N : Int} {R : List Row} (own : CurAt w B c vc a R) (hwB : w0.heap.size ≤ B) (ha : 0 ≤ a) (ha2 : a ≤ 10000000) :
    Calls Try.prog 49 #[.pointer (some ⟨c, 0, none⟩), .int .i64 N] w fun e w' => ∃ x a' : Int, e = .returned (.int .i64 x) ∧ 0 ≤ x ∧ x ≤ 65535 ∧ (0 < N → x < N) ∧ a ≤ a' ∧ a' ≤ a + 2 ∧ CurAt w' B c vc a' R ∧ Below B w w' := by
  obtain ⟨s, own⟩ := own
  by_cases hN : N ≤ 1
  · go_enter Try.func49, Try.ntmps49
    go_wp2
    go_ret
    exact ⟨0, a, rfl, by omega, by omega, fun h => by omega, by omega, by omega, ⟨s, own⟩, Below.refl _ _⟩
  · go_enter Try.func49, Try.ntmps49
    go_wp2_with fail
    refine (next_any (w0 := w0) hc own ha (by omega)).mono ?_
    rintro e w1 ⟨x, s1, rfl, hx0, hx1, own1, hb1⟩
    by_cases h200 : 200 < N
    · have e1 : Ext w0 w1 := ⟨(‹Ext w0 w›).below.trans (hb1.mono hwB)⟩
      go_wp2_with fail
      refine (next_any (w0 := w0) hc own1 (by omega) (by omega)).mono ?_
      rintro e w2 ⟨y, s2, rfl, hy0, hy1, own2, hb2⟩
      have hm := hid (mod_in (x := x * 256 + y) (N := N) (by omega) (by omega))
      go_wp2_with fail
      go_ret
      exact ⟨_, a + 1 + 1, rfl, hm.out.1, Int.le_trans hm.out.2.2 (by omega), fun _ => hm.out.2.1, by omega, by omega, ⟨s2, own2⟩, hb1.trans hb2⟩
    · have hm := hid (mod_in (x := x) (N := N) (by omega) (by omega))
      go_wp2_with fail
      go_ret
      exact ⟨_, a + 1, rfl, hm.out.1, Int.le_trans hm.out.2.2 (by omega), fun _ => hm.out.2.1, by omega, by omega, ⟨s1, own1⟩, hb1⟩

set_option maxHeartbeats 400000 in
theorem one_any {w0 w : World} [Ext w0 w] {vc : Value} {n : Nat} (hc : IsBytes w0 vc n) {B c : Nat} {a N : Int} {R : List Row} (own : CurAt w B c vc a R) (hwB : w0.heap.size ≤ B) (ha : 0 ≤ a) (ha2 : a ≤ 10000000) :
    Calls Try.prog 51 #[.pointer (some ⟨c, 0, none⟩), .int .i64 N] w fun e w' => ∃ (b : Bool) (a' : Int), e = .returned (.bool b) ∧ a ≤ a' ∧ a' ≤ a + 2 ∧ CurAt w' B c vc a' R ∧ Below B w w' := by
  go_enter Try.func51, Try.ntmps51
  go_wp2_with fail
  refine (pick_any (w0 := w0) hc own hwB ha ha2).mono ?_
  rintro e w1 ⟨x, a1, rfl, h0, h1, h2, h3, h4, h5, h6⟩
  go_wp2_with fail
  go_ret
  exact ⟨_, a1, rfl, h3, h4, h5, h6⟩

set_option maxHeartbeats 400000 in
theorem among_any {w0 w : World} [Ext w0 w] {vc : Value} {n : Nat} (hc : IsBytes w0 vc n) {B c : Nat} {a : Int} {e0 : Nat} {v : Value} {xs : List Int} {R : List Row} (own : CurAt w B c vc a (intRowOf e0 v xs :: R)) (hwB : w0.heap.size ≤ B) (ha : 0 ≤ a) (ha2 : a ≤ 10000000) (hx : 0 < xs.length) (hl : xs.length ≤ 1000000) :
    Calls Try.prog 64 #[.pointer (some ⟨c, 0, none⟩), v] w fun e w' => ∃ x a' : Int, e = .returned (.int .i64 x) ∧ x ∈ xs ∧ a ≤ a' ∧ a' ≤ a + 2 ∧ CurAt w' B c vc a' (intRowOf e0 v xs :: R) ∧ Below B w w' := by
  obtain ⟨d, m, hv⟩ := own.rows.form
  have hv' : v = .slice d xs.length m := hv
  subst hv'
  obtain ⟨g, rfl⟩ := own.rows.at (j := 0) hx
  go_enter Try.func64, Try.ntmps64
  go_wp2_with fail
  refine (pick_any (w0 := w0) hc own hwB ha ha2).mono ?_
  rintro e w1 ⟨x, a1, rfl, h0, h1, h2, h3, h4, h5, h6⟩
  obtain ⟨x, rfl⟩ := Int.eq_ofNat_of_zero_le h0
  have hlt : x < xs.length := by have := h2 (by omega); omega
  have vX : w1.cell? ⟨g, x, none⟩ = some (.int .i64 (nth xs x)) := by
    rw [h5.rows.cellAt (w' := w1) (j := x) hlt]
    simp [nth, hlt]
  go_wp2_with fail
  go_ret
  exact ⟨_, a1, rfl, nth_mem hlt, h3, h4, h5, h6⟩
end Go.Proofs.Ytmgcfnciejfpbaa

/- Metrics that draws make: uniform ones and lines. -/
namespace Go.Proofs.Ytmgcfnciejfpbaa
open Go.RowKit

/-- rows: their list comes to the front -/
theorem rw_out {w : World} {B e1 e2 : Nat} {v : Value} {vs : List Value} {M : List (List Int)} {W : Row} {A R : List Row} (h : Own w B (W :: (A ++ (rowsOf e1 e2 v vs M ++ R)))) :
    Own w B (⟨e1, 1, v, vs.length, vs⟩ :: (W :: (A ++ (List.zipWith (intRowOf e2) vs M ++ R)))) :=
  ow_pull (A := W :: A) (L := List.zipWith (intRowOf e2) vs M ++ R) h
/-- and goes back with a new row -/
theorem rw_in {w : World} {B e1 e2 : Nat} {v rv : Value} {vs : List Value} {M : List (List Int)} {xs : List Int} {A R : List Row} (h : Own w B (⟨e1, 1, v, vs.length + 1, vs ++ [rv]⟩ :: (intRowOf e2 rv xs :: (A ++ (List.zipWith (intRowOf e2) vs M ++ R))))) (hl : vs.length = M.length) :
    Own w B (A ++ (rowsOf e1 e2 v (vs ++ [rv]) (M ++ [xs]) ++ R)) := by
  have e : rowsOf e1 e2 v (vs ++ [rv]) (M ++ [xs]) ++ R = (⟨e1, 1, v, vs.length + 1, vs ++ [rv]⟩ : Row) :: (List.zipWith (intRowOf e2) vs M ++ (intRowOf e2 rv xs :: R)) := by
    unfold rowsOf valRowOf
    rw [List.zipWith_append hl, List.length_append]
    simp
  rw [e]
  refine ow_push (h.perm ?_)
  refine List.Perm.cons _ ?_
  have p := List.perm_middle (a := intRowOf e2 rv xs) (l₁ := A ++ List.zipWith (intRowOf e2) vs M) (l₂ := R)
  simpa only [List.append_assoc] using p
theorem ow_front {w : World} {B : Nat} {A T R : List Row} (h : Own w B (A ++ (T ++ R))) : Own w B (T ++ (A ++ R)) := by
  refine h.perm ?_
  rw [← List.append_assoc, ← List.append_assoc]
  exact List.perm_append_comm.append_right R
/-- a table at the front: its cells -/
theorem rw_cell {w : World} {B e1 e2 g n c : Nat} {vs : List Value} {M : List (List Int)} {R : List Row} (h : Own w B (rowsOf e1 e2 (.slice (some ⟨g, 0, none⟩) n c) vs M ++ R)) (hn : vs.length = n) {j : Nat} {u : Value} (hu : vs[j]? = some u) :
    w.cell? ⟨g, j, none⟩ = some u ∧ w.frozen? ⟨g, j, none⟩ = false := by
  subst hn
  have h1 : Own w B (⟨e1, 1, .slice (some ⟨g, 0, none⟩) vs.length c, vs.length, vs⟩ :: (List.zipWith (intRowOf e2) vs M ++ R)) := h
  have hj : j < vs.length := (List.getElem?_eq_some_iff.1 hu).1
  refine ⟨?_, h1.frozenAt j⟩
  rw [h1.cellAt (w' := w) hj, List.getD_eq_getElem?_getD, hu]; rfl
/-- a row of it -/
theorem rw_row {w : World} {B e1 e2 : Nat} {v : Value} {vs : List Value} {M : List (List Int)} {R : List Row} (h : Own w B (rowsOf e1 e2 v vs M ++ R)) {j : Nat} (hj : j < M.length) {u : Value} (hu : vs[j]? = some u) :
    Own w B (intRowOf e2 u (row M j) :: (rowsOf e1 e2 v vs M ++ R).eraseIdx (j + 1)) := by
  have hr : M[j]? = some (row M j) := by simp [row, hj]
  exact h.pick (h.rowAt hr hu)
theorem rw_form {w : World} {B e1 e2 : Nat} {v : Value} {vs : List Value} {M : List (List Int)} {R : List Row} (h : Own w B (rowsOf e1 e2 v vs M ++ R)) (hl : vs.length = M.length) {j : Nat} (hj : j < M.length) (h0 : 0 < (row M j).length) :
    ∃ g m, vs[j]? = some (.slice (some ⟨g, 0, none⟩) (row M j).length m) ∧ B ≤ g := by
  obtain ⟨u, hu⟩ : ∃ u, vs[j]? = some u := ⟨_, List.getElem?_eq_getElem (by omega)⟩
  have hpick := rw_row h hj hu
  obtain ⟨d, m, hd⟩ := hpick.form
  have hd' : u = .slice d (row M j).length m := hd
  subst hd'
  obtain ⟨g, rfl⟩ := hpick.at h0
  exact ⟨g, m, hu, hpick.lt.1⟩
theorem rw_at {w : World} {B e1 e2 g l m : Nat} {v : Value} {vs : List Value} {M : List (List Int)} {R : List Row} (h : Own w B (rowsOf e1 e2 v vs M ++ R)) {j : Nat} (hj : j < M.length) (hu : vs[j]? = some (.slice (some ⟨g, 0, none⟩) l m)) (hl : (row M j).length = l) {q : Nat} (hq : q < l) :
    w.cell? ⟨g, q, none⟩ = some (.int .i64 (nth (row M j) q)) ∧ w.frozen? ⟨g, q, none⟩ = false := by
  subst hl
  have hpick := rw_row h hj hu
  refine ⟨?_, hpick.frozenAt q⟩
  rw [hpick.cellAt (w' := w) hq]
  simp [nth, hq]
/-- a cell of a row of it is written -/
theorem rw_put {w : World} {B e1 e2 g l m : Nat} {v : Value} {vs : List Value} {M : List (List Int)} {R : List Row} (h : Own w B (rowsOf e1 e2 v vs M ++ R)) (hv : vs.length = M.length) {j : Nat} (hj : j < M.length) (hu : vs[j]? = some (.slice (some ⟨g, 0, none⟩) l m)) (hl : (row M j).length = l) (q : Nat) (x : Int) :
    Own (w.setCell ⟨g, q, none⟩ (.int .i64 x)) B (rowsOf e1 e2 v vs (M.set j ((row M j).set q x)) ++ R) := by
  subst hl
  have hpick := (rw_row h hj hu).set q (.int .i64 x)
  rw [← List.map_set] at hpick
  have e : (⟨e2, 1, .slice (some ⟨g, 0, none⟩) (row M j).length m, (row M j).length, ((row M j).set q x).map (Value.int .i64)⟩ : Row) = intRowOf e2 (.slice (some ⟨g, 0, none⟩) (row M j).length m) ((row M j).set q x) := by
    unfold intRowOf
    rw [List.length_set]
  rw [e] at hpick
  have h' := hpick.put (by unfold rowsOf; simp; omega)
  rw [rowsOf_set (by omega) hu] at h'
  exact h'

theorem ow_ints {w : World} {B e : Nat} {v : Value} {xs : List Int} {R : List Row} (h : Own w B (intRowOf e v xs :: R)) : ∃ d m, v = .slice d xs.length m := h.form
theorem ow_snoc {w : World} {B e : Nat} {v : Value} {xs : List Int} {x : Int} {n : Nat} {R : List Row} (h : Own w B (⟨e, 1, v, n + 1, xs.map (Value.int .i64) ++ [.int .i64 x]⟩ :: R)) (hn : n = xs.length) : Own w B (intRowOf e v (xs ++ [x]) :: R) := by
  subst hn
  unfold intRowOf
  rw [List.length_append, List.map_append]
  exact h
def uniRow (f : Nat → Nat → Int) (x m : Nat) : List Int := (List.range m).map (f x)
def uniTab (f : Nat → Nat → Int) (m n : Nat) : List (List Int) := (List.range n).map fun x => uniRow f x m
theorem uniRow_succ (f : Nat → Nat → Int) (x m : Nat) : uniRow f x (m + 1) = uniRow f x m ++ [f x m] := by simp [uniRow, List.range_succ]
theorem uniTab_succ (f : Nat → Nat → Int) (m n : Nat) : uniTab f m (n + 1) = uniTab f m n ++ [uniRow f n m] := by simp [uniTab, List.range_succ]
theorem uniRow_length (f : Nat → Nat → Int) (x m : Nat) : (uniRow f x m).length = m := by simp [uniRow]
theorem uniTab_length (f : Nat → Nat → Int) (m n : Nat) : (uniTab f m n).length = n := by simp [uniTab]
theorem uniTab_row {f : Nat → Nat → Int} {m n : Nat} {r : List Int} (h : r ∈ uniTab f m n) : ∃ x, x < n ∧ r = uniRow f x m := by
  obtain ⟨x, hx, rfl⟩ := List.mem_map.1 h
  exact ⟨x, List.mem_range.1 hx, rfl⟩
abbrev boxRow (e z b : Nat) (cs : List Value) : Row := ⟨e, z, .slice (some ⟨b, 0, none⟩) 1 1, 1, cs⟩

set_option maxHeartbeats 1600000 in
set_option maxRecDepth 100000 in
theorem l6Uniform_any {n : Nat} {d : Int} (hn : n ≤ 1000) (w : World) :
    Calls Try.prog 86 #[.int .i64 n, .int .i64 d] w fun e w' => ∃ d0 m0 vs, e = .returned (.agg #[.slice d0 n m0]) ∧ vs.length = n ∧
      Own w' w.heap.size (rowsOf 25 3 (.slice d0 n m0) vs (uniTab (fun x y => if x = y then 0 else d) n n)) ∧ Ext w w' := by
  obtain ⟨f, hf⟩ : ∃ f : Nat → Nat → Int, f = fun x y => if x = y then 0 else d := ⟨_, rfl⟩
  rw [← hf]
  replace hf := hid hf
  go_enter Try.func86, Try.ntmps86
  go_upto_region 2 with fail
  generalize hW : ((w.alloc (.cells #[.slice none 0 0] 29)).alloc (.cells #[] 25)).alloc (.cells #[.slice (some ⟨w.heap.size + 1, 0, none⟩) 0 0] 29) = W
  have eW : Ext w W := hW ▸ inferInstance
  have x0 : W.cell? ⟨w.heap.size, 0, none⟩ = some (.slice none 0 0) := by subst hW; go_simp
  have xf : W.frozen? ⟨w.heap.size, 0, none⟩ = false := by subst hW; go_simp
  obtain ⟨b, hb⟩ : ∃ b, b = w.heap.size + 1 + 1 := ⟨_, rfl⟩
  rw [← hb]
  have own0 : Own W (w.heap.size + 1) (boxRow 29 1 b [.slice (some ⟨w.heap.size + 1, 0, none⟩) 0 0] :: (rowsOf 25 3 (.slice (some ⟨w.heap.size + 1, 0, none⟩) 0 0) [] [] ++ [])) := by
    subst hW
    have h := (Own.nil (w.alloc (.cells #[.slice none 0 0] 29)) (w.heap.size + 1)).lit 25 1 0 #[] (by simp) (by unfold maxLen; omega) rfl
    rw [show (w.alloc (.cells #[.slice none 0 0] 29)).heap.size = w.heap.size + 1 by simp] at h
    have h2 := h.lit 29 1 1 #[.slice (some ⟨w.heap.size + 1, 0, none⟩) 0 0] (by simp) (by unfold maxLen; omega) rfl
    rw [show ((w.alloc (.cells #[.slice none 0 0] 29)).alloc (.cells #[] 25)).heap.size = b by simp; omega] at h2
    exact h2
  have hBW : w.heap.size + 1 ≤ W.heap.size := by subst hW; simp
  clear hW
  replace hb := hid hb
  go_wp2
  go_loopw [6] (fun i wr => ∃ x : Nat, x ≤ n ∧ i = .int .i64 x ∧ Below (w.heap.size + 1) W wr ∧ ∃ d0 m0 vs, vs.length = x ∧ Own wr (w.heap.size + 1) (boxRow 29 1 b [.slice d0 x m0] :: (rowsOf 25 3 (.slice d0 x m0) vs (uniTab f n x) ++ []))) (fun i _ => n - (intOf i).toNat)
  case atStart => exact ⟨0, by omega, rfl, Below.refl _ _, _, _, [], rfl, own0⟩
  case round =>
    obtain ⟨x, hx, rfl, hb0, d0, m0, vs, hvs, hown⟩ := hrel
    obtain ⟨wo, rfl⟩ : ∃ y : World, y = wr := ⟨_, rfl⟩
    have hBo : w.heap.size + 1 ≤ wo.heap.size := Nat.le_trans hBW hb0.size
    by_cases hlt : x < n
    · go_upto_region 6 with fail
      have own1 : Own (wo.alloc (.cells #[] 3)) (w.heap.size + 1) (intRowOf 3 (.slice (some ⟨wo.heap.size, 0, none⟩) 0 0) (uniRow f x 0) :: (boxRow 29 1 b [.slice d0 x m0] :: (rowsOf 25 3 (.slice d0 x m0) vs (uniTab f n x) ++ []))) := by
        have h := hown.lit 3 1 0 #[] hBo (by unfold maxLen; omega) rfl
        exact h
      have hb1 : Below (w.heap.size + 1) W (wo.alloc (.cells #[] 3)) := hb0.alloc hBo _
      generalize wo.alloc (.cells #[] 3) = w1 at *
      replace hvs := hid hvs
      go_wp2
      go_loopw [7, 8] (fun v j wr => ∃ y : Nat, y ≤ n ∧ j = .int .i64 y ∧ Below (w.heap.size + 1) W wr ∧ Own wr (w.heap.size + 1) (intRowOf 3 v (uniRow f x y) :: (boxRow 29 1 b [.slice d0 x m0] :: (rowsOf 25 3 (.slice d0 x m0) vs (uniTab f n x) ++ [])))) (fun _ j _ => n - (intOf j).toNat)
      case atStart => exact ⟨0, by omega, rfl, hb1, own1⟩
      case round =>
        obtain ⟨y, hy, rfl, hb2, hown2⟩ := hrel
        obtain ⟨vd, vm, rfl⟩ := ow_ints hown2
        obtain ⟨wq, rfl⟩ : ∃ y : World, y = wr := ⟨_, rfl⟩
        have hBq : w.heap.size + 1 ≤ wq.heap.size := Nat.le_trans hBW hb2.size
        have hly := hid (uniRow_length f x y)
        have hys := hid (uniRow_succ f x y)
        by_cases hlty : y < n
        · by_cases hxy : x = y
          · have hfv := hid (show f x y = 0 by rw [hf.out, hxy]; simp)
            have hcc : ((x : Int) == (y : Int)) = true := by rw [hxy]; simp
            replace hxy := hid hxy
            go_wp2_with (at_builtin; refine wpList_append1 rfl _ _ _ rfl elemInt rfl hown2 hBq rfl rfl (by have := hly.out; omega) (by have := hly.out; omega) ?_; intro v1 w5 ho hb5)
            go_roundw
            case rel => exact ⟨y + 1, by omega, by go_num, hb2.trans hb5, by rw [hys.out, hfv.out]; exact ow_snoc ho rfl⟩
            case measure => simp [intOf]; omega
          · have hfv := hid (show f x y = d by rw [hf.out]; simp [hxy])
            go_wp2_with (at_builtin; refine wpList_append1 rfl _ _ _ rfl elemInt rfl hown2 hBq rfl rfl (by have := hly.out; omega) (by have := hly.out; omega) ?_; intro v1 w5 ho hb5)
            go_roundw
            case rel => exact ⟨y + 1, by omega, by go_num, hb2.trans hb5, by rw [hys.out, hfv.out]; exact ow_snoc ho rfl⟩
            case measure => simp [intOf]; omega
        · have hyn : y = n := by omega
          have hts := hid (show uniTab f n (x + 1) = uniTab f n x ++ [uniRow f x y] by rw [uniTab_succ, hyn])
          have hlt' := hid (uniTab_length f n x)
          replace hyn := hid hyn
          have hout := rw_out (A := [_]) hown2
          rw [hvs.out] at hout
          have tb : wq.cell? ⟨b, 0, none⟩ = some (.slice d0 x m0) := ow_cell hown2 (.tail _ (.head _)) (j := 0) (by omega)
          go_wp2_with (at_builtin; refine wpList_append1 rfl _ _ _ rfl elemInts rfl hout hBq rfl rfl (by omega) (by omega) ?_; intro v1 w5 ho hb5; obtain ⟨vd1, vm1, hv1⟩ := ho.form; (obtain rfl : v1 = .slice vd1 (x + 1) vm1 := hv1); (have tc : w5.cell? ⟨b, 0, none⟩ = some (.slice d0 x m0) := ow_cell ho (.tail _ (.tail _ (.head _))) (j := 0) (by omega)); have tf := ow_frozen ho (.tail _ (.tail _ (.head _))) 0)
          have hoS := ow_set (A := [_, _]) ho 0 (.slice vd1 (x + 1) vm1)
          have hbB := ((ho.1 _ (.tail _ (.tail _ (.head _)))).lt b rfl).1
          rw [← hvs.out] at hoS
          have hin := rw_in (A := [_]) hoS (by rw [hvs.out, hlt'.out])
          rw [hvs.out] at hin
          go_roundw
          case rel => exact ⟨x + 1, by omega, by go_num, (hb2.trans hb5).setCell hbB _, vd1, vm1, vs ++ [.slice vd (uniRow f x y).length vm], by rw [List.length_append, hvs.out]; rfl, by rw [hts.out]; exact hin⟩
          case measure => simp [intOf]; omega
    · have hxn : x = n := by omega
      subst hxn
      have tb : wo.cell? ⟨b, 0, none⟩ = some (.slice d0 x m0) := ow_cell hown (.head _) (j := 0) (by omega)
      have xr : wo.cell? ⟨w.heap.size, 0, none⟩ = some (.slice none 0 0) := (hb0.cell (p := ⟨w.heap.size, 0, none⟩) (Nat.lt_succ_self _)).trans x0
      have xrf : wo.frozen? ⟨w.heap.size, 0, none⟩ = false := (hb0.frozen (p := ⟨w.heap.size, 0, none⟩) (Nat.lt_succ_self _)).trans xf
      have hset : (wo.setCell ⟨w.heap.size, 0, none⟩ (.slice d0 x m0)).cell? ⟨w.heap.size, 0, none⟩ = some (.slice d0 x m0) := by go_simp
      have hownR := hown.tail.setBelow (p := ⟨w.heap.size, 0, none⟩) (Nat.lt_succ_self _) (.slice d0 x m0)
      have hown3 := hownR.mono (Nat.le_succ _)
      have eF : Ext w (wo.setCell ⟨w.heap.size, 0, none⟩ (.slice d0 x m0)) := ⟨eW.below.trans ((hb0.mono (Nat.le_succ _)).setCell (Nat.le_refl _) _)⟩
      go_wp2
      refine bodyPost_ret (v := .agg #[.slice d0 x m0]) (by simp [results, Try.results86, go_sem, hset]) rfl ?_
      rw [List.append_nil] at hown3
      exact ⟨_, _, vs, rfl, hvs, hown3, eF⟩
end Go.Proofs.Ytmgcfnciejfpbaa

/- Metrics of places on a line, as draws make them. -/
namespace Go.Proofs.Ytmgcfnciejfpbaa
open Go.RowKit

theorem l1Most_any (a b : Int) (w : World) :
    Calls Try.prog 65 #[.int .i64 a, .int .i64 b] w fun e w' => e = .returned (.int .i64 (max a b)) ∧ w = w' := by
  by_cases h : a > b
  · have hr := hid (show max a b = a by omega)
    have h' : decide (b < a) = true := by simpa using h
    go_enter Try.func65, Try.ntmps65
    go_wp2
    go_ret
    exact ⟨ret_int hr.out.symm, rfl⟩
  · have hr := hid (show max a b = b by omega)
    have h' : decide (b < a) = false := by simpa using h
    go_enter Try.func65, Try.ntmps65
    go_wp2
    go_ret
    exact ⟨ret_int hr.out.symm, rfl⟩
/-- n rows of n numbers each, all small -/
def TabOk (M : List (List Int)) (n : Nat) : Prop := M.length = n ∧ ∀ j, j < n → (row M j).length = n ∧ ∀ q, q < n → -100000 ≤ cell M j q ∧ cell M j q ≤ 100000
theorem TabOk.set {M : List (List Int)} {n : Nat} (h : TabOk M n) {j : Nat} (q : Nat) {x : Int} (hj : j < n) (hx : -100000 ≤ x ∧ x ≤ 100000) : TabOk (M.set j ((row M j).set q x)) n := by
  obtain ⟨h1, h2⟩ := h
  refine ⟨by rw [List.length_set, h1], fun i hi => ?_⟩
  by_cases e : i = j
  · subst e
    have er : row (M.set i ((row M i).set q x)) i = (row M i).set q x := by
      unfold row
      rw [List.getD_eq_getElem?_getD, List.getElem?_set_self (by omega)]
      rfl
    refine ⟨by rw [er, List.length_set]; exact (h2 i hi).1, fun p hp => ?_⟩
    unfold cell
    rw [er]
    by_cases e2 : p = q
    · subst e2
      have : nth ((row M i).set p x) p = x := by
        unfold nth
        rw [List.getD_eq_getElem?_getD, List.getElem?_set_self (by rw [(h2 i hi).1]; exact hp)]
        rfl
      rw [this]; exact hx
    · have : nth ((row M i).set q x) p = nth (row M i) p := by
        unfold nth
        rw [List.getD_eq_getElem?_getD, List.getElem?_set_ne (Ne.symm e2), List.getD_eq_getElem?_getD]
      rw [this]
      exact (h2 i hi).2 p hp
  · have er : row (M.set j ((row M j).set q x)) i = row M i := by
      unfold row
      rw [List.getD_eq_getElem?_getD, List.getElem?_set_ne (Ne.symm e), List.getD_eq_getElem?_getD]
    unfold cell
    rw [er]
    exact h2 i hi
theorem TabOk.uni {n : Nat} {d : Int} (hd : -100000 ≤ d ∧ d ≤ 100000) : TabOk (uniTab (fun x y => if x = y then 0 else d) n n) n := by
  refine ⟨uniTab_length _ _ _, fun j hj => ?_⟩
  have er : row (uniTab (fun x y => if x = y then 0 else d) n n) j = uniRow (fun x y => if x = y then 0 else d) j n := by simp [row, uniTab, hj]
  refine ⟨by rw [er, uniRow_length], fun q hq => ?_⟩
  unfold cell
  rw [er]
  have : nth (uniRow (fun x y => if x = y then 0 else d) j n) q = if j = q then 0 else d := by simp [nth, uniRow, hq]
  rw [this]
  split <;> omega

set_option maxHeartbeats 3200000 in
set_option maxRecDepth 100000 in
theorem l6Line_any {v : Value} {P : List Int} {w0 w : World} [Ext w0 w] (hP : IsInts w0 v P) (hl : P.length ≤ 1000) (hb : ∀ j, j < P.length → 0 ≤ nth P j ∧ nth P j ≤ 100000) :
    Calls Try.prog 85 #[v] w fun e w' => ∃ d0 m0 vs M, e = .returned (.agg #[.slice d0 P.length m0]) ∧ vs.length = P.length ∧ TabOk M P.length ∧
      Own w' w.heap.size (rowsOf 25 3 (.slice d0 P.length m0) vs M) ∧ Ext w w' := by
  obtain ⟨aP, cP, rfl, lP⟩ := hP.form
  replace hb := hid hb
  have hPc := hid (show ∀ x, x < P.length → (∃ b o, aP = some ⟨b, o, none⟩ ∧ w0.cell? ⟨b, o + x, none⟩ = some (.int .i64 (nth P x))) from fun x hx => by
    obtain ⟨b, o, h1, h2⟩ := hP.at (w' := w0) hx
    exact ⟨b, o, h1, h2⟩)
  go_enter Try.func85, Try.ntmps85
  go_upto_region 1 with fail
  have ez : Ext w (w.alloc (.cells #[.slice none 0 0] 29)) := inferInstance
  have z0 : (w.alloc (.cells #[.slice none 0 0] 29)).cell? ⟨w.heap.size, 0, none⟩ = some (.slice none 0 0) := by go_simp
  have zf : (w.alloc (.cells #[.slice none 0 0] 29)).frozen? ⟨w.heap.size, 0, none⟩ = false := by go_simp
  have zs : (w.alloc (.cells #[.slice none 0 0] 29)).heap.size = w.heap.size + 1 := by simp
  generalize w.alloc (.cells #[.slice none 0 0] 29) = wa at *
  replace zs := hid zs
  go_wp2_with fail
  refine (l6Uniform_any (n := P.length) (d := 0) hl wa).mono ?_
  rintro e w1 ⟨d0, m0, vs, rfl, hvs, hown, he1⟩
  rw [zs.out] at hown
  have hM0 : TabOk (uniTab (fun x y => if x = y then 0 else (0 : Int)) P.length P.length) P.length := TabOk.uni (by omega)
  generalize uniTab (fun x y => if x = y then 0 else (0 : Int)) P.length P.length = M0 at *
  have hB1 : w.heap.size + 1 ≤ w1.heap.size := by have := he1.size; have := zs.out; omega
  have own0 : Own (w1.alloc (.cells #[.slice d0 P.length m0] 29)) (w.heap.size + 1) (rowsOf 25 3 (.slice d0 P.length m0) vs M0 ++ [boxRow 29 1 w1.heap.size [.slice d0 P.length m0]]) := by
    have h2 := hown.lit 29 1 1 #[.slice d0 P.length m0] hB1 (by unfold maxLen; omega) rfl
    exact h2.perm (List.perm_append_comm (l₁ := rowsOf _ _ _ _ _) (l₂ := [_]))
  have eW : Ext w (w1.alloc (.cells #[.slice d0 P.length m0] 29)) := Ext.trans ez (Ext.trans he1 inferInstance)
  have x0 : (w1.alloc (.cells #[.slice d0 P.length m0] 29)).cell? ⟨w.heap.size, 0, none⟩ = some (.slice none 0 0) := Ext.cell (a := w1) inferInstance (he1.cell z0)
  have xf : (w1.alloc (.cells #[.slice d0 P.length m0] 29)).frozen? ⟨w.heap.size, 0, none⟩ = false := Ext.frozen (a := w1) inferInstance (he1.cell z0) (he1.frozen z0 zf)
  have hBW : w.heap.size + 1 ≤ (w1.alloc (.cells #[.slice d0 P.length m0] 29)).heap.size := Nat.le_trans hB1 (Ext.size (a := w1) inferInstance)
  clear z0 zf hown
  obtain ⟨b, hbb⟩ : ∃ b, b = w1.heap.size := ⟨_, rfl⟩
  rw [← hbb] at own0
  go_upto_region 2 with fail
  generalize w1.alloc (.cells #[.slice d0 P.length m0] 29) = W at *
  rw [← hbb]
  replace hbb := hid hbb
  replace hvs := hid hvs
  replace hM0 := hid hM0
  go_wp2
  go_loopw [4] (fun i wr => ∃ x : Nat, x ≤ P.length ∧ i = .int .i64 x ∧ Below (w.heap.size + 1) W wr ∧ ∃ M, TabOk M P.length ∧ Own wr (w.heap.size + 1) (rowsOf 25 3 (.slice d0 P.length m0) vs M ++ [boxRow 29 1 b [.slice d0 P.length m0]])) (fun i _ => P.length - (intOf i).toNat)
  case atStart => exact ⟨0, by omega, rfl, Below.refl _ _, _, hM0.out, own0⟩
  case round =>
    obtain ⟨x, hx, rfl, hb0, M, hM, hown⟩ := hrel
    obtain ⟨wo, rfl⟩ : ∃ y : World, y = wr := ⟨_, rfl⟩
    by_cases hlt : x < P.length
    · replace hM := hid hM
      go_wp2
      go_loopw [5] (fun j wr => ∃ y : Nat, y ≤ P.length ∧ j = .int .i64 y ∧ Below (w.heap.size + 1) W wr ∧ ∃ M, TabOk M P.length ∧ Own wr (w.heap.size + 1) (rowsOf 25 3 (.slice d0 P.length m0) vs M ++ [boxRow 29 1 b [.slice d0 P.length m0]])) (fun j _ => P.length - (intOf j).toNat)
      case atStart => exact ⟨0, by omega, rfl, hb0, M, hM.out, hown⟩
      case round =>
        obtain ⟨y, hy, rfl, hb1, M1, hM1, hown1⟩ := hrel
        obtain ⟨wq, rfl⟩ : ∃ y : World, y = wr := ⟨_, rfl⟩
        by_cases hlty : y < P.length
        · have eq : Ext w wq := ⟨eW.below.trans (hb1.mono (Nat.le_succ _))⟩
          have e0q : Ext w0 wq := Ext.trans ‹Ext w0 w› eq
          obtain ⟨bp, op, rfl, hcx⟩ := hP.at (w' := wq) hlt
          obtain ⟨bp2, op2, hpp, hcy⟩ := hP.at (w' := wq) hlty
          cases hpp
          have hbx := hb.out x hlt
          have hby := hb.out y hlty
          obtain ⟨gr, mr, hu, hBg⟩ := rw_form hown1 (by rw [hvs.out, hM1.1]) (j := x) (by rw [hM1.1]; exact hlt) (by rw [(hM1.2 x hlt).1]; omega)
          rw [(hM1.2 x hlt).1] at hu
          have hdd : ∃ gd, d0 = some ⟨gd, 0, none⟩ := by
            have h1 : Own wq (w.heap.size + 1) (⟨25, 1, .slice d0 P.length m0, vs.length, vs⟩ :: (List.zipWith (intRowOf 3) vs M1 ++ [boxRow 29 1 b [.slice d0 P.length m0]])) := hown1
            rw [hvs.out] at h1
            exact h1.at (j := 0) (by omega)
          obtain ⟨gd, rfl⟩ := hdd
          have tb : wq.cell? ⟨b, 0, none⟩ = some (.slice (some ⟨gd, 0, none⟩) P.length m0) := ow_cell hown1 (List.mem_append_right _ (List.Mem.head _)) (j := 0) (by omega)
          have tg := (rw_cell hown1 hvs.out hu).1
          have tq := (rw_at hown1 (by rw [hM1.1]; exact hlt) hu (hM1.2 x hlt).1 hlty)
          have hnew := rw_put hown1 (by rw [hvs.out, hM1.1]) (by rw [hM1.1]; exact hlt) hu (hM1.2 x hlt).1 y (max (nth P x - nth P y) (nth P y - nth P x))
          have hMn := hid (hM1.set y (x := max (nth P x - nth P y) (nth P y - nth P x)) hlt (by omega))
          obtain ⟨px, hpx⟩ : ∃ q, q = nth P x := ⟨_, rfl⟩
          obtain ⟨py, hpy⟩ : ∃ q, q = nth P y := ⟨_, rfl⟩
          rw [← hpx] at hcx hbx
          rw [← hpy] at hcy hby
          rw [← hpx, ← hpy] at hnew hMn
          clear hpx hpy
          obtain ⟨mx, hmx⟩ : ∃ q, q = max (px - py) (py - px) := ⟨_, rfl⟩
          rw [← hmx] at hnew hMn
          have hmxi := hid hmx.symm
          clear hmx
          have hMx1 := hid hM1
          clear hM1
          go_upto_region 8 with fail
          have ed : Ext wq wq.drew := inferInstance
          have tb' := ed.cell tb
          have tg' := ed.cell tg
          have cx' := ed.cell hcx
          have cy' := ed.cell hcy
          have tq' := ed.cell tq.1
          have tqf' := ed.frozen tq.1 tq.2
          have hbd : Below (w.heap.size + 1) W wq.drew := hb1.drew
          have hnew' : Own (wq.drew.setCell ⟨gr, y, none⟩ (.int .i64 mx)) (w.heap.size + 1) (rowsOf 25 3 (.slice (some ⟨gd, 0, none⟩) P.length m0) vs (M1.set x ((row M1 x).set y mx)) ++ [boxRow 29 1 b [.slice (some ⟨gd, 0, none⟩) P.length m0]]) := hnew
          clear tb tg hcx hcy hnew ed hb1
          refine wp_region_held_drew (S := fun w' => Below (w.heap.size + 1) W w' ∧ w'.cell? ⟨b, 0, none⟩ = some (.slice (some ⟨gd, 0, none⟩) P.length m0) ∧ w'.cell? ⟨gd, x, none⟩ = some (.slice (some ⟨gr, 0, none⟩) P.length mr) ∧ w'.cell? ⟨bp, op + x, none⟩ = some (.int .i64 px) ∧ w'.cell? ⟨bp, op + y, none⟩ = some (.int .i64 py)) (by kernel_rfl) ⟨hbd, tb', tg', cx', cy'⟩ (fun hHeld0 => ?_)
          generalize wq.drew = wd at *
          have hcu := (hu)
          replace hu := hid hu
          have hbW : Below (w.heap.size + 1) W (wd.setCell ⟨gr, y, none⟩ (.int .i64 mx)) := hbd.setCell hBg _
          have hSf : (wd.setCell ⟨gr, y, none⟩ (.int .i64 mx)).cell? ⟨b, 0, none⟩ = some (.slice (some ⟨gd, 0, none⟩) P.length m0) ∧ (wd.setCell ⟨gr, y, none⟩ (.int .i64 mx)).cell? ⟨gd, x, none⟩ = some (.slice (some ⟨gr, 0, none⟩) P.length mr) ∧ (wd.setCell ⟨gr, y, none⟩ (.int .i64 mx)).cell? ⟨bp, op + x, none⟩ = some (.int .i64 px) ∧ (wd.setCell ⟨gr, y, none⟩ (.int .i64 mx)).cell? ⟨bp, op + y, none⟩ = some (.int .i64 py) := by
            have hne : bp ≠ gr := by
              obtain ⟨b1, o1, h4, h5⟩ := hPc.out x hlt
              cases h4
              have h1 := World.block_lt_of_cell? w0 _ h5
              have h2 := (‹Ext w0 w›).size
              intro e
              subst e
              simp at h1
              omega
            refine ⟨ow_cell hnew' (List.mem_append_right _ (List.Mem.head _)) (j := 0) (by omega), (rw_cell hnew' hvs.out hcu).1, ?_, ?_⟩
            · rw [World.cell?_setCell_far _ _ _ _ hne.symm]; exact cx'
            · rw [World.cell?_setCell_far _ _ _ _ hne.symm]; exact cy'
          replace hSf := hid hSf
          clear hcu
          refine wpAnyH_take (i := 0) (v := .pointer (some ⟨b, 0, none⟩)) rfl (by kernel_rfl) (by kernel_rfl) (by kernel_rfl) (fun _ _ _ h => h) (Or.inl ⟨by rfl, by intro wx hx; go_simp⟩) (by assumption) ?_
          try simp only [List.getElem_toArray, List.getElem_cons_zero, Act.put, List.setIfInBounds_toArray, List.set_cons_zero, List.set_cons_succ]
          refine wpAnyH_take (i := 1) (v := .slice (some ⟨gd, 0, none⟩) P.length m0) rfl (by kernel_rfl) (by kernel_rfl) (by kernel_rfl) (fun _ _ _ h => h) (Or.inl ⟨by rfl, by intro wx hx; obtain ⟨_, _, _, _, _⟩ := hx; go_simp⟩) (by assumption) ?_
          try simp only [List.getElem_toArray, List.getElem_cons_succ, List.getElem_cons_zero, Act.put, List.setIfInBounds_toArray, List.set_cons_zero, List.set_cons_succ]
          refine wpAnyH_take (i := 2) (v := .int .i64 x) rfl (by kernel_rfl) (by kernel_rfl) (by kernel_rfl) (fun _ _ _ h => h) (Or.inl ⟨by rfl, by intro wx hx; go_simp⟩) (by assumption) ?_
          try simp only [List.getElem_toArray, List.getElem_cons_succ, List.getElem_cons_zero, Act.put, List.setIfInBounds_toArray, List.set_cons_zero, List.set_cons_succ]
          refine wpAnyH_take (i := 3) (v := .pointer (some ⟨gd, x, none⟩)) rfl (by kernel_rfl) (by kernel_rfl) (by kernel_rfl) (fun _ _ _ h => h) (Or.inl ⟨by rfl, by intro wx hx; go_simp⟩) (by assumption) ?_
          try simp only [List.getElem_toArray, List.getElem_cons_succ, List.getElem_cons_zero, Act.put, List.setIfInBounds_toArray, List.set_cons_zero, List.set_cons_succ]
          refine wpAnyH_take (i := 4) (v := .slice (some ⟨gr, 0, none⟩) P.length mr) rfl (by kernel_rfl) (by kernel_rfl) (by kernel_rfl) (fun _ _ _ h => h) (Or.inl ⟨by rfl, by intro wx hx; obtain ⟨_, _, _, _, _⟩ := hx; go_simp⟩) (by assumption) ?_
          try simp only [List.getElem_toArray, List.getElem_cons_succ, List.getElem_cons_zero, Act.put, List.setIfInBounds_toArray, List.set_cons_zero, List.set_cons_succ]
          refine wpAnyH_take (i := 5) (v := .int .i64 y) rfl (by kernel_rfl) (by kernel_rfl) (by kernel_rfl) (fun _ _ _ h => h) (Or.inl ⟨by rfl, by intro wx hx; go_simp⟩) (by assumption) ?_
          try simp only [List.getElem_toArray, List.getElem_cons_succ, List.getElem_cons_zero, Act.put, List.setIfInBounds_toArray, List.set_cons_zero, List.set_cons_succ]
          refine wpAnyH_take (i := 6) (v := .slice (some ⟨bp, op, none⟩) P.length cP) rfl (by kernel_rfl) (by kernel_rfl) (by kernel_rfl) (fun _ _ _ h => h) (Or.inl ⟨by rfl, by intro wx hx; go_simp⟩) (by assumption) ?_
          try simp only [List.getElem_toArray, List.getElem_cons_succ, List.getElem_cons_zero, Act.put, List.setIfInBounds_toArray, List.set_cons_zero, List.set_cons_succ]
          refine wpAnyH_take (i := 7) (v := .int .i64 x) rfl (by kernel_rfl) (by kernel_rfl) (by kernel_rfl) (fun _ _ _ h => h) (Or.inl ⟨by rfl, by intro wx hx; go_simp⟩) (by assumption) ?_
          try simp only [List.getElem_toArray, List.getElem_cons_succ, List.getElem_cons_zero, Act.put, List.setIfInBounds_toArray, List.set_cons_zero, List.set_cons_succ]
          refine wpAnyH_take (i := 8) (v := .pointer (some ⟨bp, op + x, none⟩)) rfl (by kernel_rfl) (by kernel_rfl) (by kernel_rfl) (fun _ _ _ h => h) (Or.inl ⟨by rfl, by intro wx hx; go_simp⟩) (by assumption) ?_
          try simp only [List.getElem_toArray, List.getElem_cons_succ, List.getElem_cons_zero, Act.put, List.setIfInBounds_toArray, List.set_cons_zero, List.set_cons_succ]
          refine wpAnyH_take (i := 9) (v := .int .i64 px) rfl (by kernel_rfl) (by kernel_rfl) (by kernel_rfl) (fun _ _ _ h => h) (Or.inl ⟨by rfl, by intro wx hx; obtain ⟨_, _, _, _, _⟩ := hx; go_simp⟩) (by assumption) ?_
          try simp only [List.getElem_toArray, List.getElem_cons_succ, List.getElem_cons_zero, Act.put, List.setIfInBounds_toArray, List.set_cons_zero, List.set_cons_succ]
          refine wpAnyH_take (i := 10) (v := .slice (some ⟨bp, op, none⟩) P.length cP) rfl (by kernel_rfl) (by kernel_rfl) (by kernel_rfl) (fun _ _ _ h => h) (Or.inl ⟨by rfl, by intro wx hx; go_simp⟩) (by assumption) ?_
          try simp only [List.getElem_toArray, List.getElem_cons_succ, List.getElem_cons_zero, Act.put, List.setIfInBounds_toArray, List.set_cons_zero, List.set_cons_succ]
          refine wpAnyH_take (i := 11) (v := .int .i64 y) rfl (by kernel_rfl) (by kernel_rfl) (by kernel_rfl) (fun _ _ _ h => h) (Or.inl ⟨by rfl, by intro wx hx; go_simp⟩) (by assumption) ?_
          try simp only [List.getElem_toArray, List.getElem_cons_succ, List.getElem_cons_zero, Act.put, List.setIfInBounds_toArray, List.set_cons_zero, List.set_cons_succ]
          refine wpAnyH_take (i := 12) (v := .pointer (some ⟨bp, op + y, none⟩)) rfl (by kernel_rfl) (by kernel_rfl) (by kernel_rfl) (fun _ _ _ h => h) (Or.inl ⟨by rfl, by intro wx hx; go_simp⟩) (by assumption) ?_
          try simp only [List.getElem_toArray, List.getElem_cons_succ, List.getElem_cons_zero, Act.put, List.setIfInBounds_toArray, List.set_cons_zero, List.set_cons_succ]
          refine wpAnyH_take (i := 13) (v := .int .i64 py) rfl (by kernel_rfl) (by kernel_rfl) (by kernel_rfl) (fun _ _ _ h => h) (Or.inl ⟨by rfl, by intro wx hx; obtain ⟨_, _, _, _, _⟩ := hx; go_simp⟩) (by assumption) ?_
          try simp only [List.getElem_toArray, List.getElem_cons_succ, List.getElem_cons_zero, Act.put, List.setIfInBounds_toArray, List.set_cons_zero, List.set_cons_succ]
          refine wpAnyH_take (i := 14) (v := .int .i64 (px - py)) rfl (by kernel_rfl) (by kernel_rfl) (by kernel_rfl) (fun _ _ _ h => h) (Or.inl ⟨by rfl, by intro wx hx; go_simp; exact IntWalk.i64_in _ (by omega)⟩) (by assumption) ?_
          try simp only [List.getElem_toArray, List.getElem_cons_succ, List.getElem_cons_zero, Act.put, List.setIfInBounds_toArray, List.set_cons_zero, List.set_cons_succ]
          refine wpAnyH_take (i := 15) (v := .slice (some ⟨bp, op, none⟩) P.length cP) rfl (by kernel_rfl) (by kernel_rfl) (by kernel_rfl) (fun _ _ _ h => h) (Or.inl ⟨by rfl, by intro wx hx; go_simp⟩) (by assumption) ?_
          try simp only [List.getElem_toArray, List.getElem_cons_succ, List.getElem_cons_zero, Act.put, List.setIfInBounds_toArray, List.set_cons_zero, List.set_cons_succ]
          refine wpAnyH_take (i := 16) (v := .int .i64 y) rfl (by kernel_rfl) (by kernel_rfl) (by kernel_rfl) (fun _ _ _ h => h) (Or.inl ⟨by rfl, by intro wx hx; go_simp⟩) (by assumption) ?_
          try simp only [List.getElem_toArray, List.getElem_cons_succ, List.getElem_cons_zero, Act.put, List.setIfInBounds_toArray, List.set_cons_zero, List.set_cons_succ]
          refine wpAnyH_take (i := 17) (v := .pointer (some ⟨bp, op + y, none⟩)) rfl (by kernel_rfl) (by kernel_rfl) (by kernel_rfl) (fun _ _ _ h => h) (Or.inl ⟨by rfl, by intro wx hx; go_simp⟩) (by assumption) ?_
          try simp only [List.getElem_toArray, List.getElem_cons_succ, List.getElem_cons_zero, Act.put, List.setIfInBounds_toArray, List.set_cons_zero, List.set_cons_succ]
          refine wpAnyH_take (i := 18) (v := .int .i64 py) rfl (by kernel_rfl) (by kernel_rfl) (by kernel_rfl) (fun _ _ _ h => h) (Or.inl ⟨by rfl, by intro wx hx; obtain ⟨_, _, _, _, _⟩ := hx; go_simp⟩) (by assumption) ?_
          try simp only [List.getElem_toArray, List.getElem_cons_succ, List.getElem_cons_zero, Act.put, List.setIfInBounds_toArray, List.set_cons_zero, List.set_cons_succ]
          refine wpAnyH_take (i := 19) (v := .slice (some ⟨bp, op, none⟩) P.length cP) rfl (by kernel_rfl) (by kernel_rfl) (by kernel_rfl) (fun _ _ _ h => h) (Or.inl ⟨by rfl, by intro wx hx; go_simp⟩) (by assumption) ?_
          try simp only [List.getElem_toArray, List.getElem_cons_succ, List.getElem_cons_zero, Act.put, List.setIfInBounds_toArray, List.set_cons_zero, List.set_cons_succ]
          refine wpAnyH_take (i := 20) (v := .int .i64 x) rfl (by kernel_rfl) (by kernel_rfl) (by kernel_rfl) (fun _ _ _ h => h) (Or.inl ⟨by rfl, by intro wx hx; go_simp⟩) (by assumption) ?_
          try simp only [List.getElem_toArray, List.getElem_cons_succ, List.getElem_cons_zero, Act.put, List.setIfInBounds_toArray, List.set_cons_zero, List.set_cons_succ]
          refine wpAnyH_take (i := 21) (v := .pointer (some ⟨bp, op + x, none⟩)) rfl (by kernel_rfl) (by kernel_rfl) (by kernel_rfl) (fun _ _ _ h => h) (Or.inl ⟨by rfl, by intro wx hx; go_simp⟩) (by assumption) ?_
          try simp only [List.getElem_toArray, List.getElem_cons_succ, List.getElem_cons_zero, Act.put, List.setIfInBounds_toArray, List.set_cons_zero, List.set_cons_succ]
          refine wpAnyH_take (i := 22) (v := .int .i64 px) rfl (by kernel_rfl) (by kernel_rfl) (by kernel_rfl) (fun _ _ _ h => h) (Or.inl ⟨by rfl, by intro wx hx; obtain ⟨_, _, _, _, _⟩ := hx; go_simp⟩) (by assumption) ?_
          try simp only [List.getElem_toArray, List.getElem_cons_succ, List.getElem_cons_zero, Act.put, List.setIfInBounds_toArray, List.set_cons_zero, List.set_cons_succ]
          refine wpAnyH_take (i := 23) (v := .int .i64 (py - px)) rfl (by kernel_rfl) (by kernel_rfl) (by kernel_rfl) (fun _ _ _ h => h) (Or.inl ⟨by rfl, by intro wx hx; go_simp; exact IntWalk.i64_in _ (by omega)⟩) (by assumption) ?_
          try simp only [List.getElem_toArray, List.getElem_cons_succ, List.getElem_cons_zero, Act.put, List.setIfInBounds_toArray, List.set_cons_zero, List.set_cons_succ]
          refine wpAnyH_ready (rs := [24]) (by kernel_rfl) (by simp) ?_
          refine AllReadyH.cons rfl (fun K hK => ?_) AllReadyH.nil
          go_simp
          go_at_call 65
          refine (l1Most_any _ _ _).mono ?_
          rw [hmxi.out]
          rintro e w8 ⟨rfl, rfl⟩
          go_wp2_with fail
          refine hK.out _ _ hHeld0 (fun _ => ?_)
          clear hK K
          try simp only [List.getElem_toArray, List.getElem_cons_succ, List.getElem_cons_zero, Act.put, List.setIfInBounds_toArray, List.set_cons_zero, List.set_cons_succ]
          refine wpAnyH_take (i := 25) (v := .pointer (some ⟨gr, y, none⟩)) rfl (by kernel_rfl) (by kernel_rfl) (by kernel_rfl) (fun _ _ _ h => h) (Or.inl ⟨by rfl, by intro wx hx; go_simp⟩) (by assumption) ?_
          try simp only [List.getElem_toArray, List.getElem_cons_succ, List.getElem_cons_zero, Act.put, List.setIfInBounds_toArray, List.set_cons_zero, List.set_cons_succ]
          refine wpAnyH_ready (rs := [26]) (by kernel_rfl) (by simp) ?_
          refine AllReadyH.cons rfl (fun K hK => ?_) AllReadyH.nil
          go_simp
          refine hK.out _ _ ⟨hbW, hSf.out⟩ (fun _ => ?_)
          clear hK K
          try simp only [List.getElem_toArray, List.getElem_cons_succ, List.getElem_cons_zero, Act.put, List.setIfInBounds_toArray, List.set_cons_zero, List.set_cons_succ]
          refine wpAnyH_done (by kernel_rfl) ?_ _
          go_wp2_with fail
          go_roundw
          case rel => exact ⟨y + 1, by omega, by go_num, hbW, _, hMn.out, hnew'⟩
          case measure => simp [intOf]; omega
        · have hyn : y = P.length := by omega
          replace hyn := hid hyn
          go_wp2
          go_roundw
          case rel => exact ⟨x + 1, by omega, by go_num, hb1, M1, hM1, hown1⟩
          case measure => simp [intOf]; omega
    · have hxn : x = P.length := by omega
      replace hxn := hid hxn
      have tb : wo.cell? ⟨b, 0, none⟩ = some (.slice d0 P.length m0) := ow_cell hown (List.mem_append_right _ (List.Mem.head _)) (j := 0) (by omega)
      have xr : wo.cell? ⟨w.heap.size, 0, none⟩ = some (.slice none 0 0) := (hb0.cell (p := ⟨w.heap.size, 0, none⟩) (Nat.lt_succ_self _)).trans x0
      have xrf : wo.frozen? ⟨w.heap.size, 0, none⟩ = false := (hb0.frozen (p := ⟨w.heap.size, 0, none⟩) (Nat.lt_succ_self _)).trans xf
      have hset : (wo.setCell ⟨w.heap.size, 0, none⟩ (.slice d0 P.length m0)).cell? ⟨w.heap.size, 0, none⟩ = some (.slice d0 P.length m0) := by go_simp
      have hown3 := (hown.left.setBelow (p := ⟨w.heap.size, 0, none⟩) (Nat.lt_succ_self _) (.slice d0 P.length m0)).mono (Nat.le_succ _)
      have eF : Ext w (wo.setCell ⟨w.heap.size, 0, none⟩ (.slice d0 P.length m0)) := ⟨eW.below.trans ((hb0.mono (Nat.le_succ _)).setCell (Nat.le_refl _) _)⟩
      go_wp2
      refine bodyPost_ret (v := .agg #[.slice d0 P.length m0]) (by simp [results, Try.results85, go_sem, hset]) rfl ?_
      exact ⟨_, _, vs, M, rfl, hvs.out, hM, hown3, eF⟩
end Go.Proofs.Ytmgcfnciejfpbaa

/- Whether a list is a work list: the reference's test. -/
namespace Go.Proofs.Ytmgcfnciejfpbaa
open Go.RowKit

theorem inB_below {x : Int} : inB x 0 99999 = inB x 0 (100000 - 1) := rfl
set_option maxHeartbeats 3200000 in
set_option maxRecDepth 100000 in
theorem l7Work_any {v vP vw : Value} {M P : List (List Int)} {ws : List Int} {k : Nat} {w0 w : World} [Ext w0 w] (hm : IsMet w0 v M) (hM : metB M = true) (hP : IsRows w0 vP P) (hw : IsInts w0 vw ws) (hl : P.length ≤ 1000) (hk : k ≤ 3) (hPm : ∀ r ∈ P, r.length = k ∧ Pts M.length r) :
    Calls Try.prog 77 #[v, vP, vw] w fun e w' => e = .returned (.bool (workB M P ws)) ∧ Ext w w' := by
  have hm' := hm
  obtain ⟨v1, rfl, hR⟩ := hm
  obtain ⟨a1, c1, rfl, l1⟩ := hR.form
  have hdst := hid (dst_of_met hM)
  have hM' := hid hM
  clear hM
  have hw' := hw
  obtain ⟨dw, mw, rfl, lw⟩ := hw.form
  have hPf := hP
  obtain ⟨aP, cP, rfl, lP⟩ := hP.form
  replace hPm := hid hPm
  by_cases hlen : ws.length = P.length
  · have hn1 : ((ws.length : Int) != (P.length : Int)) = false := by rw [hlen]; simp
    replace hlen := hid hlen
    go_enter Try.func77, Try.ntmps77
    go_upto_region 4 with fail
    have e1 : Ext w (w.alloc (.cells #[.slice a1 M.length c1] 29)) := inferInstance
    have x0 : (w.alloc (.cells #[.slice a1 M.length c1] 29)).cell? ⟨w.heap.size, 0, none⟩ = some (.slice a1 M.length c1) := by go_simp
    generalize w.heap.size = bx at *
    generalize w.alloc (.cells #[.slice a1 M.length c1] 29) = w1 at *
    have e01 : Ext w0 w1 := Ext.trans ‹Ext w0 w› e1
    go_wp2_with fail
    go_loop [7] (fun i => ∃ p : Nat, p ≤ ws.length ∧ i = .int .i64 p ∧ Hid (∀ j, j < p → inB (nth ws j) 0 (100000 - 1) = true)) (fun i => ws.length - (intOf i).toNat)
    case atStart => exact ⟨0, by omega, rfl, fun j hj => by omega⟩
    case round =>
      obtain ⟨p, hp, rfl, hno⟩ := hrel
      by_cases hlt : p < ws.length
      · obtain ⟨bw, ow, hdw, hcw⟩ := hw'.at (w' := w1) hlt
        cases hdw
        cases hb : inB (nth ws p) 0 99999 with
        | false =>
          have hr := hid (show workB M P ws = false by simp [workB, belowB_not hlt (show inB (nth ws p) 0 (100000 - 1) = false from hb)])
          replace hb := hid hb
          go_wp2_with fail
          with_reducible refine (l1In_any _ _ _ _).mono ?_
          rw [hb.out]
          rintro e w2 ⟨rfl, rfl⟩
          go_wp2_with fail
          go_ret
          exact ⟨ret_bool hr.out.symm, e1⟩
        | true =>
          have hno2 := hid (show ∀ j, j < p + 1 → inB (nth ws j) 0 (100000 - 1) = true from fun j hj => by
            by_cases e : j = p
            · rw [e]; exact hb
            · exact hno.out j (by omega))
          replace hb := hid hb
          go_wp2_with fail
          with_reducible refine (l1In_any _ _ _ _).mono ?_
          rw [hb.out]
          rintro e w2 ⟨rfl, rfl⟩
          go_wp2_with fail
          go_round
          case rel => exact ⟨p + 1, by omega, by go_num, hno2.out⟩
          case measure => simp [intOf]; omega
      · have hbl := hid (show belowB 100000 ws = true from belowB_of fun j hj => hno.out j (by omega))
        have hbel := hid (fun k hk => belowB_at hbl.out (k := k) hk)
        go_wp2_with fail
        go_loopw [8] (fun i wr => ∃ p : Nat, p ≤ ws.length ∧ i = .int .i64 p ∧ Hid (∀ i, i < p → ∀ j, j < i → nth ws i - nth ws j ≤ mvC M (row P i) (row P j) ∧ nth ws j - nth ws i ≤ mvC M (row P i) (row P j)) ∧ Ext w1 wr) (fun i _ => ws.length - (intOf i).toNat)
        case atStart => exact ⟨0, by omega, rfl, fun i hi => by omega, Ext.refl _⟩
        case round =>
          obtain ⟨p, hp, rfl, hno, hx⟩ := hrel
          obtain ⟨wo, rfl⟩ : ∃ y : World, y = wr := ⟨_, rfl⟩
          by_cases hlt : p < ws.length
          · go_wp2_with fail
            go_loopw [9] (fun i wr => ∃ q : Nat, q ≤ p ∧ i = .int .i64 q ∧ Hid (∀ j, j < q → nth ws p - nth ws j ≤ mvC M (row P p) (row P j) ∧ nth ws j - nth ws p ≤ mvC M (row P p) (row P j)) ∧ Ext w1 wr) (fun i _ => p - (intOf i).toNat)
            case atStart => exact ⟨0, by omega, rfl, fun i hi => by omega, hx⟩
            case round =>
              obtain ⟨q, hq, rfl, hno2, hy⟩ := hrel
              obtain ⟨wq, rfl⟩ : ∃ y : World, y = wr := ⟨_, rfl⟩
              by_cases hltq : q < p
              · have hltw : q < ws.length := by omega
                have e0q : Ext w0 wq := Ext.trans e01 hy
                obtain ⟨bw, ow, hdw, hcp⟩ := hw'.at (w' := wq) hlt
                cases hdw
                obtain ⟨bw2, ow2, hdw2, hcq⟩ := hw'.at (w' := wq) hltw
                cases hdw2
                have hpP : p < P.length := by rw [← hlen.out]; exact hlt
                have hqP : q < P.length := by rw [← hlen.out]; exact hltw
                obtain ⟨bp, op, d1, m1, hdP, hc1, hi1, _⟩ := hPf.at (w' := wq) hpP
                cases hdP
                obtain ⟨bp2, op2, d2, m2, hdP2, hc2, hi2, _⟩ := hPf.at (w' := wq) hqP
                cases hdP2
                have hr1 := hid (hPm.out _ (row_mem hpP))
                have hr2 := hid (hPm.out _ (row_mem hqP))
                have hbx1 := hbel.out p hlt
                have hby1 := hbel.out q hltw
                have hnext := hid (fun (h : ¬ mvC M (row P p) (row P q) < max (nth ws p - nth ws q) (nth ws q - nth ws p)) => show ∀ j, j < q + 1 → nth ws p - nth ws j ≤ mvC M (row P p) (row P j) ∧ nth ws j - nth ws p ≤ mvC M (row P p) (row P j) from fun j hj => by
                  by_cases e : j = q
                  · rw [e]; omega
                  · exact hno2.out j (by omega))
                have hbad := hid (fun (h : mvC M (row P p) (row P q) < max (nth ws p - nth ws q) (nth ws q - nth ws p)) => show workB M P ws = false by
                  have hl : lipB M P ws = false := by
                    by_cases h1 : mvC M (row P p) (row P q) < nth ws p - nth ws q
                    · exact lipB_not hlt hltw h1
                    · refine lipB_not hltw hlt ?_
                      rw [mvC_symm hdst.out hr1.out.2 hr2.out.2 (by rw [hr1.out.1, hr2.out.1]) (by rw [hr1.out.1]; omega)]
                      omega
                  simp [workB, hl])
                have hmi := hid (mvC_in hdst.out hr1.out.2 hr2.out.2 (by rw [hr1.out.1, hr2.out.1]) (by rw [hr1.out.1]; omega))
                obtain ⟨r1, hr1d⟩ : ∃ r, r = row P p := ⟨_, rfl⟩
                obtain ⟨r2, hr2d⟩ : ∃ r, r = row P q := ⟨_, rfl⟩
                obtain ⟨x, hxd⟩ : ∃ x, x = nth ws p := ⟨_, rfl⟩
                obtain ⟨y, hyd⟩ : ∃ y, y = nth ws q := ⟨_, rfl⟩
                rw [← hr1d] at hc1 hi1 hr1 hbad hmi
                rw [← hr2d] at hc2 hi2 hr2
                rw [← hr2d, ← hxd, ← hyd] at hbad
                rw [← hr2d] at hmi
                rw [← hxd] at hcp hbx1
                rw [← hyd] at hcq hby1
                replace hr1d := hid hr1d
                replace hr2d := hid hr2d
                replace hxd := hid hxd
                replace hyd := hid hyd
                have x0q := hy.cell x0
                have hSx := hid (show ∀ u, Ext wq u → u.cell? ⟨bw, ow + p, none⟩ = some (.int .i64 x) ∧ u.cell? ⟨bw, ow + q, none⟩ = some (.int .i64 y) ∧ u.cell? ⟨bx, 0, none⟩ = some (.slice a1 M.length c1) ∧ u.cell? ⟨bp, op + p, none⟩ = some (.slice d1 r1.length m1) ∧ u.cell? ⟨bp, op + q, none⟩ = some (.slice d2 r2.length m2) from fun u e => ⟨e.cell hcp, e.cell hcq, e.cell x0q, e.cell hc1, e.cell hc2⟩)
                have hs1 : IntKind.i64.wrap (x - y) = x - y := IntWalk.i64_in _ (by omega)
                have hs2 : IntKind.i64.wrap (y - x) = y - x := IntWalk.i64_in _ (by omega)
                clear hcp hcq hc1 hc2
                go_wp2_with fail
                by_cases hg : mvC M r1 r2 < max (x - y) (y - x)
                · have hr := hid (hbad.out hg)
                  have hgd : decide (mvC M r1 r2 < max (x - y) (y - x)) = true := decide_eq_true hg
                  replace hg := hid hg
                  refine region_held_from (w0 := wq) (S := fun u => u.cell? ⟨bw, ow + p, none⟩ = some (.int .i64 x) ∧ u.cell? ⟨bw, ow + q, none⟩ = some (.int .i64 y) ∧ u.cell? ⟨bx, 0, none⟩ = some (.slice a1 M.length c1) ∧ u.cell? ⟨bp, op + p, none⟩ = some (.slice d1 r1.length m1) ∧ u.cell? ⟨bp, op + q, none⟩ = some (.slice d2 r2.length m2)) (by kernel_rfl) hSx.out (fun wd ed hHeld0 => ?_)
                  have e0d : Ext w0 wd := Ext.trans e0q ed
                  refine wpAnyH_take (i := 0) (v := .slice (some ⟨bw, ow, none⟩) ws.length mw) rfl (by kernel_rfl) (by kernel_rfl) (by kernel_rfl) (fun _ _ _ h => h) (Or.inl ⟨by rfl, by intro wx hx; go_simp⟩) (by assumption) ?_
                  try simp only [List.getElem_toArray, List.getElem_cons_zero, Act.put, List.setIfInBounds_toArray, List.set_cons_zero, List.set_cons_succ]
                  refine wpAnyH_take (i := 1) (v := .int .i64 p) rfl (by kernel_rfl) (by kernel_rfl) (by kernel_rfl) (fun _ _ _ h => h) (Or.inl ⟨by rfl, by intro wx hx; go_simp⟩) (by assumption) ?_
                  try simp only [List.getElem_toArray, List.getElem_cons_succ, List.getElem_cons_zero, Act.put, List.setIfInBounds_toArray, List.set_cons_zero, List.set_cons_succ]
                  refine wpAnyH_take (i := 2) (v := .pointer (some ⟨bw, ow + p, none⟩)) rfl (by kernel_rfl) (by kernel_rfl) (by kernel_rfl) (fun _ _ _ h => h) (Or.inl ⟨by rfl, by intro wx hx; go_simp⟩) (by assumption) ?_
                  try simp only [List.getElem_toArray, List.getElem_cons_succ, List.getElem_cons_zero, Act.put, List.setIfInBounds_toArray, List.set_cons_zero, List.set_cons_succ]
                  refine wpAnyH_take (i := 3) (v := .int .i64 x) rfl (by kernel_rfl) (by kernel_rfl) (by kernel_rfl) (fun _ _ _ h => h) (Or.inl ⟨by rfl, by intro wx hx; obtain ⟨_, _, _, _, _⟩ := hx; go_simp⟩) (by assumption) ?_
                  try simp only [List.getElem_toArray, List.getElem_cons_succ, List.getElem_cons_zero, Act.put, List.setIfInBounds_toArray, List.set_cons_zero, List.set_cons_succ]
                  refine wpAnyH_take (i := 4) (v := .slice (some ⟨bw, ow, none⟩) ws.length mw) rfl (by kernel_rfl) (by kernel_rfl) (by kernel_rfl) (fun _ _ _ h => h) (Or.inl ⟨by rfl, by intro wx hx; go_simp⟩) (by assumption) ?_
                  try simp only [List.getElem_toArray, List.getElem_cons_succ, List.getElem_cons_zero, Act.put, List.setIfInBounds_toArray, List.set_cons_zero, List.set_cons_succ]
                  refine wpAnyH_take (i := 5) (v := .int .i64 q) rfl (by kernel_rfl) (by kernel_rfl) (by kernel_rfl) (fun _ _ _ h => h) (Or.inl ⟨by rfl, by intro wx hx; go_simp⟩) (by assumption) ?_
                  try simp only [List.getElem_toArray, List.getElem_cons_succ, List.getElem_cons_zero, Act.put, List.setIfInBounds_toArray, List.set_cons_zero, List.set_cons_succ]
                  refine wpAnyH_take (i := 6) (v := .pointer (some ⟨bw, ow + q, none⟩)) rfl (by kernel_rfl) (by kernel_rfl) (by kernel_rfl) (fun _ _ _ h => h) (Or.inl ⟨by rfl, by intro wx hx; go_simp⟩) (by assumption) ?_
                  try simp only [List.getElem_toArray, List.getElem_cons_succ, List.getElem_cons_zero, Act.put, List.setIfInBounds_toArray, List.set_cons_zero, List.set_cons_succ]
                  refine wpAnyH_take (i := 7) (v := .int .i64 y) rfl (by kernel_rfl) (by kernel_rfl) (by kernel_rfl) (fun _ _ _ h => h) (Or.inl ⟨by rfl, by intro wx hx; obtain ⟨_, _, _, _, _⟩ := hx; go_simp⟩) (by assumption) ?_
                  try simp only [List.getElem_toArray, List.getElem_cons_succ, List.getElem_cons_zero, Act.put, List.setIfInBounds_toArray, List.set_cons_zero, List.set_cons_succ]
                  refine wpAnyH_take (i := 8) (v := .int .i64 (x - y)) rfl (by kernel_rfl) (by kernel_rfl) (by kernel_rfl) (fun _ _ _ h => h) (Or.inl ⟨by rfl, by intro wx hx; go_simp⟩) (by assumption) ?_
                  try simp only [List.getElem_toArray, List.getElem_cons_succ, List.getElem_cons_zero, Act.put, List.setIfInBounds_toArray, List.set_cons_zero, List.set_cons_succ]
                  refine wpAnyH_take (i := 9) (v := .slice (some ⟨bw, ow, none⟩) ws.length mw) rfl (by kernel_rfl) (by kernel_rfl) (by kernel_rfl) (fun _ _ _ h => h) (Or.inl ⟨by rfl, by intro wx hx; go_simp⟩) (by assumption) ?_
                  try simp only [List.getElem_toArray, List.getElem_cons_succ, List.getElem_cons_zero, Act.put, List.setIfInBounds_toArray, List.set_cons_zero, List.set_cons_succ]
                  refine wpAnyH_take (i := 10) (v := .int .i64 q) rfl (by kernel_rfl) (by kernel_rfl) (by kernel_rfl) (fun _ _ _ h => h) (Or.inl ⟨by rfl, by intro wx hx; go_simp⟩) (by assumption) ?_
                  try simp only [List.getElem_toArray, List.getElem_cons_succ, List.getElem_cons_zero, Act.put, List.setIfInBounds_toArray, List.set_cons_zero, List.set_cons_succ]
                  refine wpAnyH_take (i := 11) (v := .pointer (some ⟨bw, ow + q, none⟩)) rfl (by kernel_rfl) (by kernel_rfl) (by kernel_rfl) (fun _ _ _ h => h) (Or.inl ⟨by rfl, by intro wx hx; go_simp⟩) (by assumption) ?_
                  try simp only [List.getElem_toArray, List.getElem_cons_succ, List.getElem_cons_zero, Act.put, List.setIfInBounds_toArray, List.set_cons_zero, List.set_cons_succ]
                  refine wpAnyH_take (i := 12) (v := .int .i64 y) rfl (by kernel_rfl) (by kernel_rfl) (by kernel_rfl) (fun _ _ _ h => h) (Or.inl ⟨by rfl, by intro wx hx; obtain ⟨_, _, _, _, _⟩ := hx; go_simp⟩) (by assumption) ?_
                  try simp only [List.getElem_toArray, List.getElem_cons_succ, List.getElem_cons_zero, Act.put, List.setIfInBounds_toArray, List.set_cons_zero, List.set_cons_succ]
                  refine wpAnyH_take (i := 13) (v := .slice (some ⟨bw, ow, none⟩) ws.length mw) rfl (by kernel_rfl) (by kernel_rfl) (by kernel_rfl) (fun _ _ _ h => h) (Or.inl ⟨by rfl, by intro wx hx; go_simp⟩) (by assumption) ?_
                  try simp only [List.getElem_toArray, List.getElem_cons_succ, List.getElem_cons_zero, Act.put, List.setIfInBounds_toArray, List.set_cons_zero, List.set_cons_succ]
                  refine wpAnyH_take (i := 14) (v := .int .i64 p) rfl (by kernel_rfl) (by kernel_rfl) (by kernel_rfl) (fun _ _ _ h => h) (Or.inl ⟨by rfl, by intro wx hx; go_simp⟩) (by assumption) ?_
                  try simp only [List.getElem_toArray, List.getElem_cons_succ, List.getElem_cons_zero, Act.put, List.setIfInBounds_toArray, List.set_cons_zero, List.set_cons_succ]
                  refine wpAnyH_take (i := 15) (v := .pointer (some ⟨bw, ow + p, none⟩)) rfl (by kernel_rfl) (by kernel_rfl) (by kernel_rfl) (fun _ _ _ h => h) (Or.inl ⟨by rfl, by intro wx hx; go_simp⟩) (by assumption) ?_
                  try simp only [List.getElem_toArray, List.getElem_cons_succ, List.getElem_cons_zero, Act.put, List.setIfInBounds_toArray, List.set_cons_zero, List.set_cons_succ]
                  refine wpAnyH_take (i := 16) (v := .int .i64 x) rfl (by kernel_rfl) (by kernel_rfl) (by kernel_rfl) (fun _ _ _ h => h) (Or.inl ⟨by rfl, by intro wx hx; obtain ⟨_, _, _, _, _⟩ := hx; go_simp⟩) (by assumption) ?_
                  try simp only [List.getElem_toArray, List.getElem_cons_succ, List.getElem_cons_zero, Act.put, List.setIfInBounds_toArray, List.set_cons_zero, List.set_cons_succ]
                  refine wpAnyH_take (i := 17) (v := .int .i64 (y - x)) rfl (by kernel_rfl) (by kernel_rfl) (by kernel_rfl) (fun _ _ _ h => h) (Or.inl ⟨by rfl, by intro wx hx; go_simp⟩) (by assumption) ?_
                  try simp only [List.getElem_toArray, List.getElem_cons_succ, List.getElem_cons_zero, Act.put, List.setIfInBounds_toArray, List.set_cons_zero, List.set_cons_succ]
                  refine wpAnyH_take (i := 19) (v := .agg #[.slice a1 M.length c1]) rfl (by kernel_rfl) (by kernel_rfl) (by kernel_rfl) (fun _ _ _ h => h) (Or.inl ⟨by rfl, by intro wx hx; obtain ⟨_, _, _, _, _⟩ := hx; go_simp⟩) (by assumption) ?_
                  try simp only [List.getElem_toArray, List.getElem_cons_succ, List.getElem_cons_zero, Act.put, List.setIfInBounds_toArray, List.set_cons_zero, List.set_cons_succ]
                  refine wpAnyH_take (i := 20) (v := .slice (some ⟨bp, op, none⟩) P.length cP) rfl (by kernel_rfl) (by kernel_rfl) (by kernel_rfl) (fun _ _ _ h => h) (Or.inl ⟨by rfl, by intro wx hx; go_simp⟩) (by assumption) ?_
                  try simp only [List.getElem_toArray, List.getElem_cons_succ, List.getElem_cons_zero, Act.put, List.setIfInBounds_toArray, List.set_cons_zero, List.set_cons_succ]
                  refine wpAnyH_take (i := 21) (v := .int .i64 p) rfl (by kernel_rfl) (by kernel_rfl) (by kernel_rfl) (fun _ _ _ h => h) (Or.inl ⟨by rfl, by intro wx hx; go_simp⟩) (by assumption) ?_
                  try simp only [List.getElem_toArray, List.getElem_cons_succ, List.getElem_cons_zero, Act.put, List.setIfInBounds_toArray, List.set_cons_zero, List.set_cons_succ]
                  refine wpAnyH_take (i := 22) (v := .pointer (some ⟨bp, op + p, none⟩)) rfl (by kernel_rfl) (by kernel_rfl) (by kernel_rfl) (fun _ _ _ h => h) (Or.inl ⟨by rfl, by intro wx hx; go_simp⟩) (by assumption) ?_
                  try simp only [List.getElem_toArray, List.getElem_cons_succ, List.getElem_cons_zero, Act.put, List.setIfInBounds_toArray, List.set_cons_zero, List.set_cons_succ]
                  refine wpAnyH_take (i := 23) (v := .slice d1 r1.length m1) rfl (by kernel_rfl) (by kernel_rfl) (by kernel_rfl) (fun _ _ _ h => h) (Or.inl ⟨by rfl, by intro wx hx; obtain ⟨_, _, _, _, _⟩ := hx; go_simp⟩) (by assumption) ?_
                  try simp only [List.getElem_toArray, List.getElem_cons_succ, List.getElem_cons_zero, Act.put, List.setIfInBounds_toArray, List.set_cons_zero, List.set_cons_succ]
                  refine wpAnyH_take (i := 24) (v := .slice (some ⟨bp, op, none⟩) P.length cP) rfl (by kernel_rfl) (by kernel_rfl) (by kernel_rfl) (fun _ _ _ h => h) (Or.inl ⟨by rfl, by intro wx hx; go_simp⟩) (by assumption) ?_
                  try simp only [List.getElem_toArray, List.getElem_cons_succ, List.getElem_cons_zero, Act.put, List.setIfInBounds_toArray, List.set_cons_zero, List.set_cons_succ]
                  refine wpAnyH_take (i := 25) (v := .int .i64 q) rfl (by kernel_rfl) (by kernel_rfl) (by kernel_rfl) (fun _ _ _ h => h) (Or.inl ⟨by rfl, by intro wx hx; go_simp⟩) (by assumption) ?_
                  try simp only [List.getElem_toArray, List.getElem_cons_succ, List.getElem_cons_zero, Act.put, List.setIfInBounds_toArray, List.set_cons_zero, List.set_cons_succ]
                  refine wpAnyH_take (i := 26) (v := .pointer (some ⟨bp, op + q, none⟩)) rfl (by kernel_rfl) (by kernel_rfl) (by kernel_rfl) (fun _ _ _ h => h) (Or.inl ⟨by rfl, by intro wx hx; go_simp⟩) (by assumption) ?_
                  try simp only [List.getElem_toArray, List.getElem_cons_succ, List.getElem_cons_zero, Act.put, List.setIfInBounds_toArray, List.set_cons_zero, List.set_cons_succ]
                  refine wpAnyH_take (i := 27) (v := .slice d2 r2.length m2) rfl (by kernel_rfl) (by kernel_rfl) (by kernel_rfl) (fun _ _ _ h => h) (Or.inl ⟨by rfl, by intro wx hx; obtain ⟨_, _, _, _, _⟩ := hx; go_simp⟩) (by assumption) ?_
                  try simp only [List.getElem_toArray, List.getElem_cons_succ, List.getElem_cons_zero, Act.put, List.setIfInBounds_toArray, List.set_cons_zero, List.set_cons_succ]
                  refine wpAnyH_ready (rs := [18]) (by kernel_rfl) (by simp) ?_
                  refine AllReadyH.cons rfl (fun K hK => ?_) AllReadyH.nil
                  go_simp
                  go_at_call 65
                  refine (l1Most_any _ _ _).mono ?_
                  rintro e wx ⟨rfl, rfl⟩
                  go_wp2_with fail
                  refine hK.out _ _ hHeld0 (fun _ => ?_)
                  clear hK K
                  try simp only [List.getElem_toArray, List.getElem_cons_succ, List.getElem_cons_zero, Act.put, List.setIfInBounds_toArray, List.set_cons_zero, List.set_cons_succ]
                  refine wpAnyH_ready (rs := [28]) (by kernel_rfl) (by simp) ?_
                  refine AllReadyH.cons rfl (fun K hK => ?_) AllReadyH.nil
                  go_simp
                  go_at_call 55
                  refine (l6Move_any (w0 := w0) hm' hM'.out hi1 hi2 hr1.out.2 hr2.out.2 (by rw [hr1.out.1, hr2.out.1]) (by rw [hr1.out.1]; exact hk)).mono ?_
                  rintro e w6 ⟨rfl, e6⟩
                  have hS6 := hSx.out w6 (Ext.trans ed e6)
                  go_wp2_with fail
                  refine hK.out _ _ hS6 (fun _ => ?_)
                  clear hK K
                  try simp only [List.getElem_toArray, List.getElem_cons_succ, List.getElem_cons_zero, Act.put, List.setIfInBounds_toArray, List.set_cons_zero, List.set_cons_succ]
                  refine wpAnyH_take (i := 29) (v := .bool true) rfl (by kernel_rfl) (by kernel_rfl) (by kernel_rfl) (fun _ _ _ h => h) (Or.inl ⟨by rfl, by intro wx hx; go_simp⟩) (by assumption) ?_
                  try simp only [List.getElem_toArray, List.getElem_cons_succ, List.getElem_cons_zero, Act.put, List.setIfInBounds_toArray, List.set_cons_zero, List.set_cons_succ]
                  refine wpAnyH_done (by kernel_rfl) ?_ _
                  go_wp2_with fail
                  go_ret
                  exact ⟨ret_bool hr.out.symm, Ext.trans e1 (Ext.trans hy (Ext.trans ed e6))⟩
                · have hno4 := hid (hnext.out (by rw [← hr1d.out, ← hr2d.out, ← hxd.out, ← hyd.out]; omega))
                  have hgd : decide (mvC M r1 r2 < max (x - y) (y - x)) = false := decide_eq_false hg
                  replace hg := hid hg
                  refine region_held_from (w0 := wq) (S := fun u => u.cell? ⟨bw, ow + p, none⟩ = some (.int .i64 x) ∧ u.cell? ⟨bw, ow + q, none⟩ = some (.int .i64 y) ∧ u.cell? ⟨bx, 0, none⟩ = some (.slice a1 M.length c1) ∧ u.cell? ⟨bp, op + p, none⟩ = some (.slice d1 r1.length m1) ∧ u.cell? ⟨bp, op + q, none⟩ = some (.slice d2 r2.length m2)) (by kernel_rfl) hSx.out (fun wd ed hHeld0 => ?_)
                  have e0d : Ext w0 wd := Ext.trans e0q ed
                  refine wpAnyH_take (i := 0) (v := .slice (some ⟨bw, ow, none⟩) ws.length mw) rfl (by kernel_rfl) (by kernel_rfl) (by kernel_rfl) (fun _ _ _ h => h) (Or.inl ⟨by rfl, by intro wx hx; go_simp⟩) (by assumption) ?_
                  try simp only [List.getElem_toArray, List.getElem_cons_zero, Act.put, List.setIfInBounds_toArray, List.set_cons_zero, List.set_cons_succ]
                  refine wpAnyH_take (i := 1) (v := .int .i64 p) rfl (by kernel_rfl) (by kernel_rfl) (by kernel_rfl) (fun _ _ _ h => h) (Or.inl ⟨by rfl, by intro wx hx; go_simp⟩) (by assumption) ?_
                  try simp only [List.getElem_toArray, List.getElem_cons_succ, List.getElem_cons_zero, Act.put, List.setIfInBounds_toArray, List.set_cons_zero, List.set_cons_succ]
                  refine wpAnyH_take (i := 2) (v := .pointer (some ⟨bw, ow + p, none⟩)) rfl (by kernel_rfl) (by kernel_rfl) (by kernel_rfl) (fun _ _ _ h => h) (Or.inl ⟨by rfl, by intro wx hx; go_simp⟩) (by assumption) ?_
                  try simp only [List.getElem_toArray, List.getElem_cons_succ, List.getElem_cons_zero, Act.put, List.setIfInBounds_toArray, List.set_cons_zero, List.set_cons_succ]
                  refine wpAnyH_take (i := 3) (v := .int .i64 x) rfl (by kernel_rfl) (by kernel_rfl) (by kernel_rfl) (fun _ _ _ h => h) (Or.inl ⟨by rfl, by intro wx hx; obtain ⟨_, _, _, _, _⟩ := hx; go_simp⟩) (by assumption) ?_
                  try simp only [List.getElem_toArray, List.getElem_cons_succ, List.getElem_cons_zero, Act.put, List.setIfInBounds_toArray, List.set_cons_zero, List.set_cons_succ]
                  refine wpAnyH_take (i := 4) (v := .slice (some ⟨bw, ow, none⟩) ws.length mw) rfl (by kernel_rfl) (by kernel_rfl) (by kernel_rfl) (fun _ _ _ h => h) (Or.inl ⟨by rfl, by intro wx hx; go_simp⟩) (by assumption) ?_
                  try simp only [List.getElem_toArray, List.getElem_cons_succ, List.getElem_cons_zero, Act.put, List.setIfInBounds_toArray, List.set_cons_zero, List.set_cons_succ]
                  refine wpAnyH_take (i := 5) (v := .int .i64 q) rfl (by kernel_rfl) (by kernel_rfl) (by kernel_rfl) (fun _ _ _ h => h) (Or.inl ⟨by rfl, by intro wx hx; go_simp⟩) (by assumption) ?_
                  try simp only [List.getElem_toArray, List.getElem_cons_succ, List.getElem_cons_zero, Act.put, List.setIfInBounds_toArray, List.set_cons_zero, List.set_cons_succ]
                  refine wpAnyH_take (i := 6) (v := .pointer (some ⟨bw, ow + q, none⟩)) rfl (by kernel_rfl) (by kernel_rfl) (by kernel_rfl) (fun _ _ _ h => h) (Or.inl ⟨by rfl, by intro wx hx; go_simp⟩) (by assumption) ?_
                  try simp only [List.getElem_toArray, List.getElem_cons_succ, List.getElem_cons_zero, Act.put, List.setIfInBounds_toArray, List.set_cons_zero, List.set_cons_succ]
                  refine wpAnyH_take (i := 7) (v := .int .i64 y) rfl (by kernel_rfl) (by kernel_rfl) (by kernel_rfl) (fun _ _ _ h => h) (Or.inl ⟨by rfl, by intro wx hx; obtain ⟨_, _, _, _, _⟩ := hx; go_simp⟩) (by assumption) ?_
                  try simp only [List.getElem_toArray, List.getElem_cons_succ, List.getElem_cons_zero, Act.put, List.setIfInBounds_toArray, List.set_cons_zero, List.set_cons_succ]
                  refine wpAnyH_take (i := 8) (v := .int .i64 (x - y)) rfl (by kernel_rfl) (by kernel_rfl) (by kernel_rfl) (fun _ _ _ h => h) (Or.inl ⟨by rfl, by intro wx hx; go_simp⟩) (by assumption) ?_
                  try simp only [List.getElem_toArray, List.getElem_cons_succ, List.getElem_cons_zero, Act.put, List.setIfInBounds_toArray, List.set_cons_zero, List.set_cons_succ]
                  refine wpAnyH_take (i := 9) (v := .slice (some ⟨bw, ow, none⟩) ws.length mw) rfl (by kernel_rfl) (by kernel_rfl) (by kernel_rfl) (fun _ _ _ h => h) (Or.inl ⟨by rfl, by intro wx hx; go_simp⟩) (by assumption) ?_
                  try simp only [List.getElem_toArray, List.getElem_cons_succ, List.getElem_cons_zero, Act.put, List.setIfInBounds_toArray, List.set_cons_zero, List.set_cons_succ]
                  refine wpAnyH_take (i := 10) (v := .int .i64 q) rfl (by kernel_rfl) (by kernel_rfl) (by kernel_rfl) (fun _ _ _ h => h) (Or.inl ⟨by rfl, by intro wx hx; go_simp⟩) (by assumption) ?_
                  try simp only [List.getElem_toArray, List.getElem_cons_succ, List.getElem_cons_zero, Act.put, List.setIfInBounds_toArray, List.set_cons_zero, List.set_cons_succ]
                  refine wpAnyH_take (i := 11) (v := .pointer (some ⟨bw, ow + q, none⟩)) rfl (by kernel_rfl) (by kernel_rfl) (by kernel_rfl) (fun _ _ _ h => h) (Or.inl ⟨by rfl, by intro wx hx; go_simp⟩) (by assumption) ?_
                  try simp only [List.getElem_toArray, List.getElem_cons_succ, List.getElem_cons_zero, Act.put, List.setIfInBounds_toArray, List.set_cons_zero, List.set_cons_succ]
                  refine wpAnyH_take (i := 12) (v := .int .i64 y) rfl (by kernel_rfl) (by kernel_rfl) (by kernel_rfl) (fun _ _ _ h => h) (Or.inl ⟨by rfl, by intro wx hx; obtain ⟨_, _, _, _, _⟩ := hx; go_simp⟩) (by assumption) ?_
                  try simp only [List.getElem_toArray, List.getElem_cons_succ, List.getElem_cons_zero, Act.put, List.setIfInBounds_toArray, List.set_cons_zero, List.set_cons_succ]
                  refine wpAnyH_take (i := 13) (v := .slice (some ⟨bw, ow, none⟩) ws.length mw) rfl (by kernel_rfl) (by kernel_rfl) (by kernel_rfl) (fun _ _ _ h => h) (Or.inl ⟨by rfl, by intro wx hx; go_simp⟩) (by assumption) ?_
                  try simp only [List.getElem_toArray, List.getElem_cons_succ, List.getElem_cons_zero, Act.put, List.setIfInBounds_toArray, List.set_cons_zero, List.set_cons_succ]
                  refine wpAnyH_take (i := 14) (v := .int .i64 p) rfl (by kernel_rfl) (by kernel_rfl) (by kernel_rfl) (fun _ _ _ h => h) (Or.inl ⟨by rfl, by intro wx hx; go_simp⟩) (by assumption) ?_
                  try simp only [List.getElem_toArray, List.getElem_cons_succ, List.getElem_cons_zero, Act.put, List.setIfInBounds_toArray, List.set_cons_zero, List.set_cons_succ]
                  refine wpAnyH_take (i := 15) (v := .pointer (some ⟨bw, ow + p, none⟩)) rfl (by kernel_rfl) (by kernel_rfl) (by kernel_rfl) (fun _ _ _ h => h) (Or.inl ⟨by rfl, by intro wx hx; go_simp⟩) (by assumption) ?_
                  try simp only [List.getElem_toArray, List.getElem_cons_succ, List.getElem_cons_zero, Act.put, List.setIfInBounds_toArray, List.set_cons_zero, List.set_cons_succ]
                  refine wpAnyH_take (i := 16) (v := .int .i64 x) rfl (by kernel_rfl) (by kernel_rfl) (by kernel_rfl) (fun _ _ _ h => h) (Or.inl ⟨by rfl, by intro wx hx; obtain ⟨_, _, _, _, _⟩ := hx; go_simp⟩) (by assumption) ?_
                  try simp only [List.getElem_toArray, List.getElem_cons_succ, List.getElem_cons_zero, Act.put, List.setIfInBounds_toArray, List.set_cons_zero, List.set_cons_succ]
                  refine wpAnyH_take (i := 17) (v := .int .i64 (y - x)) rfl (by kernel_rfl) (by kernel_rfl) (by kernel_rfl) (fun _ _ _ h => h) (Or.inl ⟨by rfl, by intro wx hx; go_simp⟩) (by assumption) ?_
                  try simp only [List.getElem_toArray, List.getElem_cons_succ, List.getElem_cons_zero, Act.put, List.setIfInBounds_toArray, List.set_cons_zero, List.set_cons_succ]
                  refine wpAnyH_take (i := 19) (v := .agg #[.slice a1 M.length c1]) rfl (by kernel_rfl) (by kernel_rfl) (by kernel_rfl) (fun _ _ _ h => h) (Or.inl ⟨by rfl, by intro wx hx; obtain ⟨_, _, _, _, _⟩ := hx; go_simp⟩) (by assumption) ?_
                  try simp only [List.getElem_toArray, List.getElem_cons_succ, List.getElem_cons_zero, Act.put, List.setIfInBounds_toArray, List.set_cons_zero, List.set_cons_succ]
                  refine wpAnyH_take (i := 20) (v := .slice (some ⟨bp, op, none⟩) P.length cP) rfl (by kernel_rfl) (by kernel_rfl) (by kernel_rfl) (fun _ _ _ h => h) (Or.inl ⟨by rfl, by intro wx hx; go_simp⟩) (by assumption) ?_
                  try simp only [List.getElem_toArray, List.getElem_cons_succ, List.getElem_cons_zero, Act.put, List.setIfInBounds_toArray, List.set_cons_zero, List.set_cons_succ]
                  refine wpAnyH_take (i := 21) (v := .int .i64 p) rfl (by kernel_rfl) (by kernel_rfl) (by kernel_rfl) (fun _ _ _ h => h) (Or.inl ⟨by rfl, by intro wx hx; go_simp⟩) (by assumption) ?_
                  try simp only [List.getElem_toArray, List.getElem_cons_succ, List.getElem_cons_zero, Act.put, List.setIfInBounds_toArray, List.set_cons_zero, List.set_cons_succ]
                  refine wpAnyH_take (i := 22) (v := .pointer (some ⟨bp, op + p, none⟩)) rfl (by kernel_rfl) (by kernel_rfl) (by kernel_rfl) (fun _ _ _ h => h) (Or.inl ⟨by rfl, by intro wx hx; go_simp⟩) (by assumption) ?_
                  try simp only [List.getElem_toArray, List.getElem_cons_succ, List.getElem_cons_zero, Act.put, List.setIfInBounds_toArray, List.set_cons_zero, List.set_cons_succ]
                  refine wpAnyH_take (i := 23) (v := .slice d1 r1.length m1) rfl (by kernel_rfl) (by kernel_rfl) (by kernel_rfl) (fun _ _ _ h => h) (Or.inl ⟨by rfl, by intro wx hx; obtain ⟨_, _, _, _, _⟩ := hx; go_simp⟩) (by assumption) ?_
                  try simp only [List.getElem_toArray, List.getElem_cons_succ, List.getElem_cons_zero, Act.put, List.setIfInBounds_toArray, List.set_cons_zero, List.set_cons_succ]
                  refine wpAnyH_take (i := 24) (v := .slice (some ⟨bp, op, none⟩) P.length cP) rfl (by kernel_rfl) (by kernel_rfl) (by kernel_rfl) (fun _ _ _ h => h) (Or.inl ⟨by rfl, by intro wx hx; go_simp⟩) (by assumption) ?_
                  try simp only [List.getElem_toArray, List.getElem_cons_succ, List.getElem_cons_zero, Act.put, List.setIfInBounds_toArray, List.set_cons_zero, List.set_cons_succ]
                  refine wpAnyH_take (i := 25) (v := .int .i64 q) rfl (by kernel_rfl) (by kernel_rfl) (by kernel_rfl) (fun _ _ _ h => h) (Or.inl ⟨by rfl, by intro wx hx; go_simp⟩) (by assumption) ?_
                  try simp only [List.getElem_toArray, List.getElem_cons_succ, List.getElem_cons_zero, Act.put, List.setIfInBounds_toArray, List.set_cons_zero, List.set_cons_succ]
                  refine wpAnyH_take (i := 26) (v := .pointer (some ⟨bp, op + q, none⟩)) rfl (by kernel_rfl) (by kernel_rfl) (by kernel_rfl) (fun _ _ _ h => h) (Or.inl ⟨by rfl, by intro wx hx; go_simp⟩) (by assumption) ?_
                  try simp only [List.getElem_toArray, List.getElem_cons_succ, List.getElem_cons_zero, Act.put, List.setIfInBounds_toArray, List.set_cons_zero, List.set_cons_succ]
                  refine wpAnyH_take (i := 27) (v := .slice d2 r2.length m2) rfl (by kernel_rfl) (by kernel_rfl) (by kernel_rfl) (fun _ _ _ h => h) (Or.inl ⟨by rfl, by intro wx hx; obtain ⟨_, _, _, _, _⟩ := hx; go_simp⟩) (by assumption) ?_
                  try simp only [List.getElem_toArray, List.getElem_cons_succ, List.getElem_cons_zero, Act.put, List.setIfInBounds_toArray, List.set_cons_zero, List.set_cons_succ]
                  refine wpAnyH_ready (rs := [18]) (by kernel_rfl) (by simp) ?_
                  refine AllReadyH.cons rfl (fun K hK => ?_) AllReadyH.nil
                  go_simp
                  go_at_call 65
                  refine (l1Most_any _ _ _).mono ?_
                  rintro e wx ⟨rfl, rfl⟩
                  go_wp2_with fail
                  refine hK.out _ _ hHeld0 (fun _ => ?_)
                  clear hK K
                  try simp only [List.getElem_toArray, List.getElem_cons_succ, List.getElem_cons_zero, Act.put, List.setIfInBounds_toArray, List.set_cons_zero, List.set_cons_succ]
                  refine wpAnyH_ready (rs := [28]) (by kernel_rfl) (by simp) ?_
                  refine AllReadyH.cons rfl (fun K hK => ?_) AllReadyH.nil
                  go_simp
                  go_at_call 55
                  refine (l6Move_any (w0 := w0) hm' hM'.out hi1 hi2 hr1.out.2 hr2.out.2 (by rw [hr1.out.1, hr2.out.1]) (by rw [hr1.out.1]; exact hk)).mono ?_
                  rintro e w6 ⟨rfl, e6⟩
                  have hS6 := hSx.out w6 (Ext.trans ed e6)
                  go_wp2_with fail
                  refine hK.out _ _ hS6 (fun _ => ?_)
                  clear hK K
                  try simp only [List.getElem_toArray, List.getElem_cons_succ, List.getElem_cons_zero, Act.put, List.setIfInBounds_toArray, List.set_cons_zero, List.set_cons_succ]
                  refine wpAnyH_take (i := 29) (v := .bool false) rfl (by kernel_rfl) (by kernel_rfl) (by kernel_rfl) (fun _ _ _ h => h) (Or.inl ⟨by rfl, by intro wx hx; go_simp⟩) (by assumption) ?_
                  try simp only [List.getElem_toArray, List.getElem_cons_succ, List.getElem_cons_zero, Act.put, List.setIfInBounds_toArray, List.set_cons_zero, List.set_cons_succ]
                  refine wpAnyH_done (by kernel_rfl) ?_ _
                  go_wp2_with fail
                  go_roundw
                  case rel => exact ⟨q + 1, by omega, by go_num, hno4.out, Ext.trans hy (Ext.trans ed e6)⟩
                  case measure => simp [intOf]; omega
              · have hqp : q = p := by omega
                have hno3 := hid (show ∀ i, i < p + 1 → ∀ j, j < i → nth ws i - nth ws j ≤ mvC M (row P i) (row P j) ∧ nth ws j - nth ws i ≤ mvC M (row P i) (row P j) from fun i hi j hj => by
                  by_cases e : i = p
                  · subst e; exact hno2.out j (by omega)
                  · exact hno.out i (by omega) j hj)
                replace hqp := hid hqp
                go_wp2_with fail
                go_roundw
                case rel => exact ⟨p + 1, by omega, by go_num, hno3.out, hy⟩
                case measure => simp [intOf]; omega
          · have hr := hid (show workB M P ws = true by
              rw [workB, decide_eq_true hlen.out, hbl.out, lipB_of fun i hi j hj => ?_]
              · rfl
              · have hPi := hPm.out _ (row_mem (xss := P) (k := i) (by rw [← hlen.out]; exact hi))
                have hPj := hPm.out _ (row_mem (xss := P) (k := j) (by rw [← hlen.out]; exact hj))
                rcases Nat.lt_trichotomy i j with h | h | h
                · have := (hno.out j (by omega) i h).2
                  rw [mvC_symm hdst.out hPi.2 hPj.2 (by rw [hPi.1, hPj.1]) (by rw [hPi.1]; omega)] at this
                  exact this
                · rw [h]
                  have := mvC_in hdst.out hPj.2 hPj.2 rfl (by rw [hPj.1]; omega)
                  omega
                · exact (hno.out i (by omega) j h).1)
            go_wp2_with fail
            go_ret
            exact ⟨ret_bool hr.out.symm, Ext.trans e1 hx⟩
  · have hn1 : ((ws.length : Int) != (P.length : Int)) = true := by simp; omega
    have hr := hid (show workB M P ws = false by simp [workB, hlen])
    replace hlen := hid hlen
    go_enter Try.func77, Try.ntmps77
    go_wp2_with fail
    go_ret
    exact ⟨ret_bool hr.out.symm, inferInstance⟩
end Go.Proofs.Ytmgcfnciejfpbaa

/- WorkServe of the reference and of the program. -/
namespace Go.Proofs.Ytmgcfnciejfpbaa
open Go.RowKit

theorem confs_mv {M : List (List Int)} {k : Nat} (hd : Dst M M.length) (hk : k ≤ 3) : ∀ i j, i < (confs M.length k 0).length → j < (confs M.length k 0).length → 0 ≤ mvC M (row (confs M.length k 0) i) (row (confs M.length k 0) j) ∧ mvC M (row (confs M.length k 0) i) (row (confs M.length k 0) j) ≤ 1000 := fun i j hi hj => by
  obtain ⟨g1, g2, g3⟩ := row_conf hi
  obtain ⟨f1, f2, f3⟩ := row_conf hj
  have := mvC_in hd g2 f2 (by rw [g1, f1]) (by omega)
  omega
theorem confs_pm {n k : Nat} : ∀ r ∈ confs n k 0, r.length = k ∧ Pts n r := fun r hr => by
  obtain ⟨h1, h2, h3⟩ := confs_iff.1 hr
  exact ⟨h1, fun x hx => by have := h3 x hx; omega⟩
theorem confs_pos {n k : Nat} (hn : 1 ≤ n) : 1 ≤ (confs n k 0).length := by
  have : List.replicate k (0 : Int) ∈ confs n k 0 := confs_iff.2 ⟨by simp, by unfold Asc; exact List.pairwise_replicate.2 (.inr (Int.le_refl _)), fun x hx => by rw [List.eq_of_mem_replicate hx]; omega⟩
  exact List.length_pos_of_mem this
theorem cfg_conf {n k : Nat} {a : List Int} (h : cfgB n a = true) (hk : a.length = k) : a ∈ confs n k 0 := by
  obtain ⟨_, h2, h3⟩ := cfgB_iff.1 h
  exact confs_iff.2 ⟨hk, h3, fun x hx => by have := h2 x hx; omega⟩

set_option maxHeartbeats 1600000 in
set_option maxRecDepth 100000 in
theorem l7Given_any {v vw : Value} {M : List (List Int)} {ws : List Int} {k r : Int} {w0 w : World} [Ext w0 w] (hm : IsMet w0 v M) (hw : IsInts w0 vw ws) :
    Calls Try.prog 38 #[v, .int .i64 k, vw, .int .i64 r] w fun e w' => e = .returned (.bool (givB M k ws r)) ∧ Ext w w' := by
  have hm' := hm
  obtain ⟨v1, rfl, hR⟩ := hm
  obtain ⟨a1, c1, rfl, l1⟩ := hR.form
  have hw' := hw
  obtain ⟨dw, mw, rfl, lw⟩ := hw.form
  cases hq : askB M k with
  | false =>
    have hr := hid (show givB M k ws r = false by simp [givB, hq])
    replace hq := hid hq
    go_enter Try.func38, Try.ntmps38
    go_wp2_with fail
    have e1 : Ext w (w.alloc (.cells #[.slice a1 M.length c1] 29)) := inferInstance
    have x0 : (w.alloc (.cells #[.slice a1 M.length c1] 29)).cell? ⟨w.heap.size, 0, none⟩ = some (.slice a1 M.length c1) := by go_simp
    generalize w.heap.size = bx at *
    generalize w.alloc (.cells #[.slice a1 M.length c1] 29) = wq at *
    have hSx := hid (show ∀ u, Ext wq u → u.cell? ⟨bx, 0, none⟩ = some (.slice a1 M.length c1) from fun u e => e.cell x0)
    refine region_held_from (w0 := wq) (S := fun u => u.cell? ⟨bx, 0, none⟩ = some (.slice a1 M.length c1)) (by kernel_rfl) hSx.out (fun wd ed hHeld0 => ?_)
    have e0d : Ext w0 wd := Ext.trans (Ext.trans ‹Ext w0 w› e1) ed
    refine wpAnyH_take (i := 0) (v := .agg #[.slice a1 M.length c1]) rfl (by kernel_rfl) (by kernel_rfl) (by kernel_rfl) (fun _ _ _ h => h) (Or.inl ⟨by rfl, by intro wx hx; go_simp⟩) (by assumption) ?_
    try simp only [List.getElem_toArray, List.getElem_cons_zero, Act.put, List.setIfInBounds_toArray, List.set_cons_zero, List.set_cons_succ]
    refine wpAnyH_take (i := 1) (v := .int .i64 k) rfl (by kernel_rfl) (by kernel_rfl) (by kernel_rfl) (fun _ _ _ h => h) (Or.inl ⟨by rfl, by intro wx hx; go_simp⟩) (by assumption) ?_
    try simp only [List.getElem_toArray, List.getElem_cons_succ, List.getElem_cons_zero, Act.put, List.setIfInBounds_toArray, List.set_cons_zero, List.set_cons_succ]
    refine wpAnyH_ready (rs := [2]) (by kernel_rfl) (by simp) ?_
    refine AllReadyH.cons rfl (fun K hK => ?_) AllReadyH.nil
    go_simp
    go_at_call 76
    refine (l7Asked_any (w0 := w0) hm').mono ?_
    rw [hq.out]
    rintro e w2 ⟨rfl, e2⟩
    have hS2 := hSx.out w2 (Ext.trans ed e2)
    have e1d : Ext w w2 := Ext.trans e1 (Ext.trans ed e2)
    go_wp2_with fail
    refine hK.out _ _ hS2 (fun _ => ?_)
    clear hK K
    try simp only [List.getElem_toArray, List.getElem_cons_succ, List.getElem_cons_zero, Act.put, List.setIfInBounds_toArray, List.set_cons_zero, List.set_cons_succ]
    refine wpAnyH_take (i := 3) (v := .bool false) rfl (by kernel_rfl) (by kernel_rfl) (by kernel_rfl) (fun _ _ _ h => h) (Or.inl ⟨by rfl, by intro wx hx; go_simp⟩) (by assumption) ?_
    try simp only [List.getElem_toArray, List.getElem_cons_succ, List.getElem_cons_zero, Act.put, List.setIfInBounds_toArray, List.set_cons_zero, List.set_cons_succ]
    refine wpAnyH_take (i := 4) (v := undef) rfl (by kernel_rfl) (by kernel_rfl) (by kernel_rfl) (fun _ _ _ h => h) (Or.inr ⟨by kernel_rfl, rfl⟩) (by assumption) ?_
    try simp only [List.getElem_toArray, List.getElem_cons_succ, List.getElem_cons_zero, Act.put, List.setIfInBounds_toArray, List.set_cons_zero, List.set_cons_succ]
    refine wpAnyH_take (i := 5) (v := undef) rfl (by kernel_rfl) (by kernel_rfl) (by kernel_rfl) (fun _ _ _ h => h) (Or.inr ⟨by kernel_rfl, rfl⟩) (by assumption) ?_
    try simp only [List.getElem_toArray, List.getElem_cons_succ, List.getElem_cons_zero, Act.put, List.setIfInBounds_toArray, List.set_cons_zero, List.set_cons_succ]
    refine wpAnyH_take (i := 6) (v := undef) rfl (by kernel_rfl) (by kernel_rfl) (by kernel_rfl) (fun _ _ _ h => h) (Or.inr ⟨by kernel_rfl, rfl⟩) (by assumption) ?_
    try simp only [List.getElem_toArray, List.getElem_cons_succ, List.getElem_cons_zero, Act.put, List.setIfInBounds_toArray, List.set_cons_zero, List.set_cons_succ]
    refine wpAnyH_take (i := 7) (v := undef) rfl (by kernel_rfl) (by kernel_rfl) (by kernel_rfl) (fun _ _ _ h => h) (Or.inr ⟨by kernel_rfl, rfl⟩) (by assumption) ?_
    try simp only [List.getElem_toArray, List.getElem_cons_succ, List.getElem_cons_zero, Act.put, List.setIfInBounds_toArray, List.set_cons_zero, List.set_cons_succ]
    refine wpAnyH_take (i := 8) (v := undef) rfl (by kernel_rfl) (by kernel_rfl) (by kernel_rfl) (fun _ _ _ h => h) (Or.inr ⟨by kernel_rfl, rfl⟩) (by assumption) ?_
    try simp only [List.getElem_toArray, List.getElem_cons_succ, List.getElem_cons_zero, Act.put, List.setIfInBounds_toArray, List.set_cons_zero, List.set_cons_succ]
    refine wpAnyH_take (i := 9) (v := undef) rfl (by kernel_rfl) (by kernel_rfl) (by kernel_rfl) (fun _ _ _ h => h) (Or.inr ⟨by kernel_rfl, rfl⟩) (by assumption) ?_
    try simp only [List.getElem_toArray, List.getElem_cons_succ, List.getElem_cons_zero, Act.put, List.setIfInBounds_toArray, List.set_cons_zero, List.set_cons_succ]
    refine wpAnyH_take (i := 10) (v := .bool false) rfl (by kernel_rfl) (by kernel_rfl) (by kernel_rfl) (fun _ _ _ h => h) (Or.inl ⟨by rfl, by intro wx hx; go_simp⟩) (by assumption) ?_
    try simp only [List.getElem_toArray, List.getElem_cons_succ, List.getElem_cons_zero, Act.put, List.setIfInBounds_toArray, List.set_cons_zero, List.set_cons_succ]
    refine wpAnyH_take (i := 11) (v := .bool false) rfl (by kernel_rfl) (by kernel_rfl) (by kernel_rfl) (fun _ _ _ h => h) (Or.inl ⟨by rfl, by intro wx hx; go_simp⟩) (by assumption) ?_
    try simp only [List.getElem_toArray, List.getElem_cons_succ, List.getElem_cons_zero, Act.put, List.setIfInBounds_toArray, List.set_cons_zero, List.set_cons_succ]
    refine wpAnyH_take (i := 12) (v := undef) rfl (by kernel_rfl) (by kernel_rfl) (by kernel_rfl) (fun _ _ _ h => h) (Or.inr ⟨by kernel_rfl, rfl⟩) (by assumption) ?_
    try simp only [List.getElem_toArray, List.getElem_cons_succ, List.getElem_cons_zero, Act.put, List.setIfInBounds_toArray, List.set_cons_zero, List.set_cons_succ]
    refine wpAnyH_take (i := 13) (v := undef) rfl (by kernel_rfl) (by kernel_rfl) (by kernel_rfl) (fun _ _ _ h => h) (Or.inr ⟨by kernel_rfl, rfl⟩) (by assumption) ?_
    try simp only [List.getElem_toArray, List.getElem_cons_succ, List.getElem_cons_zero, Act.put, List.setIfInBounds_toArray, List.set_cons_zero, List.set_cons_succ]
    refine wpAnyH_take (i := 14) (v := undef) rfl (by kernel_rfl) (by kernel_rfl) (by kernel_rfl) (fun _ _ _ h => h) (Or.inr ⟨by kernel_rfl, rfl⟩) (by assumption) ?_
    try simp only [List.getElem_toArray, List.getElem_cons_succ, List.getElem_cons_zero, Act.put, List.setIfInBounds_toArray, List.set_cons_zero, List.set_cons_succ]
    refine wpAnyH_take (i := 15) (v := undef) rfl (by kernel_rfl) (by kernel_rfl) (by kernel_rfl) (fun _ _ _ h => h) (Or.inr ⟨by kernel_rfl, rfl⟩) (by assumption) ?_
    try simp only [List.getElem_toArray, List.getElem_cons_succ, List.getElem_cons_zero, Act.put, List.setIfInBounds_toArray, List.set_cons_zero, List.set_cons_succ]
    refine wpAnyH_take (i := 16) (v := undef) rfl (by kernel_rfl) (by kernel_rfl) (by kernel_rfl) (fun _ _ _ h => h) (Or.inr ⟨by kernel_rfl, rfl⟩) (by assumption) ?_
    try simp only [List.getElem_toArray, List.getElem_cons_succ, List.getElem_cons_zero, Act.put, List.setIfInBounds_toArray, List.set_cons_zero, List.set_cons_succ]
    refine wpAnyH_take (i := 17) (v := undef) rfl (by kernel_rfl) (by kernel_rfl) (by kernel_rfl) (fun _ _ _ h => h) (Or.inr ⟨by kernel_rfl, rfl⟩) (by assumption) ?_
    try simp only [List.getElem_toArray, List.getElem_cons_succ, List.getElem_cons_zero, Act.put, List.setIfInBounds_toArray, List.set_cons_zero, List.set_cons_succ]
    refine wpAnyH_take (i := 18) (v := undef) rfl (by kernel_rfl) (by kernel_rfl) (by kernel_rfl) (fun _ _ _ h => h) (Or.inr ⟨by kernel_rfl, rfl⟩) (by assumption) ?_
    try simp only [List.getElem_toArray, List.getElem_cons_succ, List.getElem_cons_zero, Act.put, List.setIfInBounds_toArray, List.set_cons_zero, List.set_cons_succ]
    refine wpAnyH_take (i := 19) (v := undef) rfl (by kernel_rfl) (by kernel_rfl) (by kernel_rfl) (fun _ _ _ h => h) (Or.inr ⟨by kernel_rfl, rfl⟩) (by assumption) ?_
    try simp only [List.getElem_toArray, List.getElem_cons_succ, List.getElem_cons_zero, Act.put, List.setIfInBounds_toArray, List.set_cons_zero, List.set_cons_succ]
    refine wpAnyH_take (i := 20) (v := .bool false) rfl (by kernel_rfl) (by kernel_rfl) (by kernel_rfl) (fun _ _ _ h => h) (Or.inl ⟨by rfl, by intro wx hx; go_simp⟩) (by assumption) ?_
    try simp only [List.getElem_toArray, List.getElem_cons_succ, List.getElem_cons_zero, Act.put, List.setIfInBounds_toArray, List.set_cons_zero, List.set_cons_succ]
    refine wpAnyH_take (i := 21) (v := .bool false) rfl (by kernel_rfl) (by kernel_rfl) (by kernel_rfl) (fun _ _ _ h => h) (Or.inl ⟨by rfl, by intro wx hx; go_simp⟩) (by assumption) ?_
    try simp only [List.getElem_toArray, List.getElem_cons_succ, List.getElem_cons_zero, Act.put, List.setIfInBounds_toArray, List.set_cons_zero, List.set_cons_succ]
    refine wpAnyH_done (by kernel_rfl) ?_ _
    go_wp2_with fail
    go_ret
    exact ⟨ret_bool hr.out.symm, e1d⟩
  | true =>
    have hqq := hid hq
    cases hi : inB r 0 (M.length - 1) with
    | false =>
      have hr := hid (show givB M k ws r = false by simp [givB, hi])
      replace hq := hid hq
      replace hi := hid hi
      go_enter Try.func38, Try.ntmps38
      go_wp2_with fail
      have e1 : Ext w (w.alloc (.cells #[.slice a1 M.length c1] 29)) := inferInstance
      have x0 : (w.alloc (.cells #[.slice a1 M.length c1] 29)).cell? ⟨w.heap.size, 0, none⟩ = some (.slice a1 M.length c1) := by go_simp
      generalize w.heap.size = bx at *
      generalize w.alloc (.cells #[.slice a1 M.length c1] 29) = wq at *
      have hSx := hid (show ∀ u, Ext wq u → u.cell? ⟨bx, 0, none⟩ = some (.slice a1 M.length c1) from fun u e => e.cell x0)
      refine region_held_from (w0 := wq) (S := fun u => u.cell? ⟨bx, 0, none⟩ = some (.slice a1 M.length c1)) (by kernel_rfl) hSx.out (fun wd ed hHeld0 => ?_)
      have e0d : Ext w0 wd := Ext.trans (Ext.trans ‹Ext w0 w› e1) ed
      refine wpAnyH_take (i := 0) (v := .agg #[.slice a1 M.length c1]) rfl (by kernel_rfl) (by kernel_rfl) (by kernel_rfl) (fun _ _ _ h => h) (Or.inl ⟨by rfl, by intro wx hx; go_simp⟩) (by assumption) ?_
      try simp only [List.getElem_toArray, List.getElem_cons_zero, Act.put, List.setIfInBounds_toArray, List.set_cons_zero, List.set_cons_succ]
      refine wpAnyH_take (i := 1) (v := .int .i64 k) rfl (by kernel_rfl) (by kernel_rfl) (by kernel_rfl) (fun _ _ _ h => h) (Or.inl ⟨by rfl, by intro wx hx; go_simp⟩) (by assumption) ?_
      try simp only [List.getElem_toArray, List.getElem_cons_succ, List.getElem_cons_zero, Act.put, List.setIfInBounds_toArray, List.set_cons_zero, List.set_cons_succ]
      refine wpAnyH_ready (rs := [2]) (by kernel_rfl) (by simp) ?_
      refine AllReadyH.cons rfl (fun K hK => ?_) AllReadyH.nil
      go_simp
      go_at_call 76
      refine (l7Asked_any (w0 := w0) hm').mono ?_
      rw [hq.out]
      rintro e w2 ⟨rfl, e2⟩
      have hS2 := hSx.out w2 (Ext.trans ed e2)
      have e1d : Ext w w2 := Ext.trans e1 (Ext.trans ed e2)
      go_wp2_with fail
      refine hK.out _ _ hS2 (fun _ => ?_)
      clear hK K
      try simp only [List.getElem_toArray, List.getElem_cons_succ, List.getElem_cons_zero, Act.put, List.setIfInBounds_toArray, List.set_cons_zero, List.set_cons_succ]
      refine wpAnyH_take (i := 3) (v := .bool true) rfl (by kernel_rfl) (by kernel_rfl) (by kernel_rfl) (fun _ _ _ h => h) (Or.inl ⟨by rfl, by intro wx hx; go_simp⟩) (by assumption) ?_
      try simp only [List.getElem_toArray, List.getElem_cons_succ, List.getElem_cons_zero, Act.put, List.setIfInBounds_toArray, List.set_cons_zero, List.set_cons_succ]
      refine wpAnyH_take (i := 4) (v := .int .i64 r) rfl (by kernel_rfl) (by kernel_rfl) (by kernel_rfl) (fun _ _ _ h => h) (Or.inl ⟨by rfl, by intro wx hx; go_simp⟩) (by assumption) ?_
      try simp only [List.getElem_toArray, List.getElem_cons_succ, List.getElem_cons_zero, Act.put, List.setIfInBounds_toArray, List.set_cons_zero, List.set_cons_succ]
      refine wpAnyH_take (i := 5) (v := .pointer (some ⟨bx, 0, none⟩)) rfl (by kernel_rfl) (by kernel_rfl) (by kernel_rfl) (fun _ _ _ h => h) (Or.inl ⟨by rfl, by intro wx hx; go_simp⟩) (by assumption) ?_
      try simp only [List.getElem_toArray, List.getElem_cons_succ, List.getElem_cons_zero, Act.put, List.setIfInBounds_toArray, List.set_cons_zero, List.set_cons_succ]
      refine wpAnyH_take (i := 6) (v := .slice a1 M.length c1) rfl (by kernel_rfl) (by kernel_rfl) (by kernel_rfl) (fun _ _ _ h => h) (Or.inl ⟨by rfl, by intro wx hx; go_simp⟩) (by assumption) ?_
      try simp only [List.getElem_toArray, List.getElem_cons_succ, List.getElem_cons_zero, Act.put, List.setIfInBounds_toArray, List.set_cons_zero, List.set_cons_succ]
      refine wpAnyH_take (i := 7) (v := .int .i64 M.length) rfl (by kernel_rfl) (by kernel_rfl) (by kernel_rfl) (fun _ _ _ h => h) (Or.inl ⟨by rfl, by intro wx hx; go_simp⟩) (by assumption) ?_
      try simp only [List.getElem_toArray, List.getElem_cons_succ, List.getElem_cons_zero, Act.put, List.setIfInBounds_toArray, List.set_cons_zero, List.set_cons_succ]
      refine wpAnyH_take (i := 8) (v := .int .i64 ((M.length : Int) - 1)) rfl (by kernel_rfl) (by kernel_rfl) (by kernel_rfl) (fun _ _ _ h => h) (Or.inl ⟨by rfl, by intro wx hx; go_simp; exact IntWalk.i64_in _ (by omega)⟩) (by assumption) ?_
      try simp only [List.getElem_toArray, List.getElem_cons_succ, List.getElem_cons_zero, Act.put, List.setIfInBounds_toArray, List.set_cons_zero, List.set_cons_succ]
      refine wpAnyH_ready (rs := [9]) (by kernel_rfl) (by simp) ?_
      refine AllReadyH.cons rfl (fun K hK => ?_) AllReadyH.nil
      go_simp
      go_at_call 61
      refine (l1In_any _ _ _ _).mono ?_
      rw [hi.out]
      rintro e w3 ⟨rfl, rfl⟩
      go_wp2_with fail
      refine hK.out _ _ hS2 (fun _ => ?_)
      clear hK K
      try simp only [List.getElem_toArray, List.getElem_cons_succ, List.getElem_cons_zero, Act.put, List.setIfInBounds_toArray, List.set_cons_zero, List.set_cons_succ]
      refine wpAnyH_take (i := 10) (v := .bool false) rfl (by kernel_rfl) (by kernel_rfl) (by kernel_rfl) (fun _ _ _ h => h) (Or.inl ⟨by rfl, by intro wx hx; go_simp⟩) (by assumption) ?_
      try simp only [List.getElem_toArray, List.getElem_cons_succ, List.getElem_cons_zero, Act.put, List.setIfInBounds_toArray, List.set_cons_zero, List.set_cons_succ]
      refine wpAnyH_take (i := 11) (v := .bool false) rfl (by kernel_rfl) (by kernel_rfl) (by kernel_rfl) (fun _ _ _ h => h) (Or.inl ⟨by rfl, by intro wx hx; go_simp⟩) (by assumption) ?_
      try simp only [List.getElem_toArray, List.getElem_cons_succ, List.getElem_cons_zero, Act.put, List.setIfInBounds_toArray, List.set_cons_zero, List.set_cons_succ]
      refine wpAnyH_take (i := 12) (v := undef) rfl (by kernel_rfl) (by kernel_rfl) (by kernel_rfl) (fun _ _ _ h => h) (Or.inr ⟨by kernel_rfl, rfl⟩) (by assumption) ?_
      try simp only [List.getElem_toArray, List.getElem_cons_succ, List.getElem_cons_zero, Act.put, List.setIfInBounds_toArray, List.set_cons_zero, List.set_cons_succ]
      refine wpAnyH_take (i := 13) (v := undef) rfl (by kernel_rfl) (by kernel_rfl) (by kernel_rfl) (fun _ _ _ h => h) (Or.inr ⟨by kernel_rfl, rfl⟩) (by assumption) ?_
      try simp only [List.getElem_toArray, List.getElem_cons_succ, List.getElem_cons_zero, Act.put, List.setIfInBounds_toArray, List.set_cons_zero, List.set_cons_succ]
      refine wpAnyH_take (i := 14) (v := undef) rfl (by kernel_rfl) (by kernel_rfl) (by kernel_rfl) (fun _ _ _ h => h) (Or.inr ⟨by kernel_rfl, rfl⟩) (by assumption) ?_
      try simp only [List.getElem_toArray, List.getElem_cons_succ, List.getElem_cons_zero, Act.put, List.setIfInBounds_toArray, List.set_cons_zero, List.set_cons_succ]
      refine wpAnyH_take (i := 15) (v := undef) rfl (by kernel_rfl) (by kernel_rfl) (by kernel_rfl) (fun _ _ _ h => h) (Or.inr ⟨by kernel_rfl, rfl⟩) (by assumption) ?_
      try simp only [List.getElem_toArray, List.getElem_cons_succ, List.getElem_cons_zero, Act.put, List.setIfInBounds_toArray, List.set_cons_zero, List.set_cons_succ]
      refine wpAnyH_take (i := 16) (v := undef) rfl (by kernel_rfl) (by kernel_rfl) (by kernel_rfl) (fun _ _ _ h => h) (Or.inr ⟨by kernel_rfl, rfl⟩) (by assumption) ?_
      try simp only [List.getElem_toArray, List.getElem_cons_succ, List.getElem_cons_zero, Act.put, List.setIfInBounds_toArray, List.set_cons_zero, List.set_cons_succ]
      refine wpAnyH_take (i := 17) (v := undef) rfl (by kernel_rfl) (by kernel_rfl) (by kernel_rfl) (fun _ _ _ h => h) (Or.inr ⟨by kernel_rfl, rfl⟩) (by assumption) ?_
      try simp only [List.getElem_toArray, List.getElem_cons_succ, List.getElem_cons_zero, Act.put, List.setIfInBounds_toArray, List.set_cons_zero, List.set_cons_succ]
      refine wpAnyH_take (i := 18) (v := undef) rfl (by kernel_rfl) (by kernel_rfl) (by kernel_rfl) (fun _ _ _ h => h) (Or.inr ⟨by kernel_rfl, rfl⟩) (by assumption) ?_
      try simp only [List.getElem_toArray, List.getElem_cons_succ, List.getElem_cons_zero, Act.put, List.setIfInBounds_toArray, List.set_cons_zero, List.set_cons_succ]
      refine wpAnyH_take (i := 19) (v := undef) rfl (by kernel_rfl) (by kernel_rfl) (by kernel_rfl) (fun _ _ _ h => h) (Or.inr ⟨by kernel_rfl, rfl⟩) (by assumption) ?_
      try simp only [List.getElem_toArray, List.getElem_cons_succ, List.getElem_cons_zero, Act.put, List.setIfInBounds_toArray, List.set_cons_zero, List.set_cons_succ]
      refine wpAnyH_take (i := 20) (v := .bool false) rfl (by kernel_rfl) (by kernel_rfl) (by kernel_rfl) (fun _ _ _ h => h) (Or.inl ⟨by rfl, by intro wx hx; go_simp⟩) (by assumption) ?_
      try simp only [List.getElem_toArray, List.getElem_cons_succ, List.getElem_cons_zero, Act.put, List.setIfInBounds_toArray, List.set_cons_zero, List.set_cons_succ]
      refine wpAnyH_take (i := 21) (v := .bool false) rfl (by kernel_rfl) (by kernel_rfl) (by kernel_rfl) (fun _ _ _ h => h) (Or.inl ⟨by rfl, by intro wx hx; go_simp⟩) (by assumption) ?_
      try simp only [List.getElem_toArray, List.getElem_cons_succ, List.getElem_cons_zero, Act.put, List.setIfInBounds_toArray, List.set_cons_zero, List.set_cons_succ]
      refine wpAnyH_done (by kernel_rfl) ?_ _
      go_wp2_with fail
      go_ret
      exact ⟨ret_bool hr.out.symm, e1d⟩
    | true =>
      obtain ⟨hM, hk1, hk3⟩ := askB_iff.1 hq
      obtain ⟨kn, rfl⟩ := Int.eq_ofNat_of_zero_le (show 0 ≤ k by omega)
      have hr := hid (show workB M (confs M.length kn 0) ws = givB M kn ws r by simp [givB, hi, hq])
      have hMl := met_len hM
      have hkn : kn ≤ 3 := by omega
      have h216 := confs_216 hMl.2 hkn
      have hM' := hid hM
      clear hM
      replace hq := hid hq
      replace hi := hid hi
      obtain ⟨WB, hWB⟩ : ∃ b, b = workB M (confs M.length kn 0) ws := ⟨_, rfl⟩
      rw [← hWB] at hr
      replace hWB := hid hWB.symm
      go_enter Try.func38, Try.ntmps38
      go_wp2_with fail
      have e1 : Ext w (w.alloc (.cells #[.slice a1 M.length c1] 29)) := inferInstance
      have x0 : (w.alloc (.cells #[.slice a1 M.length c1] 29)).cell? ⟨w.heap.size, 0, none⟩ = some (.slice a1 M.length c1) := by go_simp
      generalize w.heap.size = bx at *
      generalize w.alloc (.cells #[.slice a1 M.length c1] 29) = wq at *
      have hSx := hid (show ∀ u, Ext wq u → u.cell? ⟨bx, 0, none⟩ = some (.slice a1 M.length c1) from fun u e => e.cell x0)
      refine region_held_from (w0 := wq) (S := fun u => u.cell? ⟨bx, 0, none⟩ = some (.slice a1 M.length c1)) (by kernel_rfl) hSx.out (fun wd ed hHeld0 => ?_)
      have e0d : Ext w0 wd := Ext.trans (Ext.trans ‹Ext w0 w› e1) ed
      have e0q : Ext w0 wq := Ext.trans ‹Ext w0 w› e1
      refine wpAnyH_take (i := 0) (v := .agg #[.slice a1 M.length c1]) rfl (by kernel_rfl) (by kernel_rfl) (by kernel_rfl) (fun _ _ _ h => h) (Or.inl ⟨by rfl, by intro wx hx; go_simp⟩) (by assumption) ?_
      try simp only [List.getElem_toArray, List.getElem_cons_zero, Act.put, List.setIfInBounds_toArray, List.set_cons_zero, List.set_cons_succ]
      refine wpAnyH_take (i := 1) (v := .int .i64 kn) rfl (by kernel_rfl) (by kernel_rfl) (by kernel_rfl) (fun _ _ _ h => h) (Or.inl ⟨by rfl, by intro wx hx; go_simp⟩) (by assumption) ?_
      try simp only [List.getElem_toArray, List.getElem_cons_succ, List.getElem_cons_zero, Act.put, List.setIfInBounds_toArray, List.set_cons_zero, List.set_cons_succ]
      refine wpAnyH_ready (rs := [2]) (by kernel_rfl) (by simp) ?_
      refine AllReadyH.cons rfl (fun K hK => ?_) AllReadyH.nil
      go_simp
      go_at_call 76
      refine (l7Asked_any (w0 := w0) hm').mono ?_
      rw [hq.out]
      rintro e w2 ⟨rfl, e2⟩
      have hS2 := hSx.out w2 (Ext.trans ed e2)
      have e1d : Ext w w2 := Ext.trans e1 (Ext.trans ed e2)
      go_wp2_with fail
      refine hK.out _ _ hS2 (fun _ => ?_)
      clear hK K
      try simp only [List.getElem_toArray, List.getElem_cons_succ, List.getElem_cons_zero, Act.put, List.setIfInBounds_toArray, List.set_cons_zero, List.set_cons_succ]
      refine wpAnyH_take (i := 3) (v := .bool true) rfl (by kernel_rfl) (by kernel_rfl) (by kernel_rfl) (fun _ _ _ h => h) (Or.inl ⟨by rfl, by intro wx hx; go_simp⟩) (by assumption) ?_
      try simp only [List.getElem_toArray, List.getElem_cons_succ, List.getElem_cons_zero, Act.put, List.setIfInBounds_toArray, List.set_cons_zero, List.set_cons_succ]
      refine wpAnyH_take (i := 4) (v := .int .i64 r) rfl (by kernel_rfl) (by kernel_rfl) (by kernel_rfl) (fun _ _ _ h => h) (Or.inl ⟨by rfl, by intro wx hx; go_simp⟩) (by assumption) ?_
      try simp only [List.getElem_toArray, List.getElem_cons_succ, List.getElem_cons_zero, Act.put, List.setIfInBounds_toArray, List.set_cons_zero, List.set_cons_succ]
      refine wpAnyH_take (i := 5) (v := .pointer (some ⟨bx, 0, none⟩)) rfl (by kernel_rfl) (by kernel_rfl) (by kernel_rfl) (fun _ _ _ h => h) (Or.inl ⟨by rfl, by intro wx hx; go_simp⟩) (by assumption) ?_
      try simp only [List.getElem_toArray, List.getElem_cons_succ, List.getElem_cons_zero, Act.put, List.setIfInBounds_toArray, List.set_cons_zero, List.set_cons_succ]
      refine wpAnyH_take (i := 6) (v := .slice a1 M.length c1) rfl (by kernel_rfl) (by kernel_rfl) (by kernel_rfl) (fun _ _ _ h => h) (Or.inl ⟨by rfl, by intro wx hx; go_simp⟩) (by assumption) ?_
      try simp only [List.getElem_toArray, List.getElem_cons_succ, List.getElem_cons_zero, Act.put, List.setIfInBounds_toArray, List.set_cons_zero, List.set_cons_succ]
      refine wpAnyH_take (i := 7) (v := .int .i64 M.length) rfl (by kernel_rfl) (by kernel_rfl) (by kernel_rfl) (fun _ _ _ h => h) (Or.inl ⟨by rfl, by intro wx hx; go_simp⟩) (by assumption) ?_
      try simp only [List.getElem_toArray, List.getElem_cons_succ, List.getElem_cons_zero, Act.put, List.setIfInBounds_toArray, List.set_cons_zero, List.set_cons_succ]
      refine wpAnyH_take (i := 8) (v := .int .i64 ((M.length : Int) - 1)) rfl (by kernel_rfl) (by kernel_rfl) (by kernel_rfl) (fun _ _ _ h => h) (Or.inl ⟨by rfl, by intro wx hx; go_simp; exact IntWalk.i64_in _ (by omega)⟩) (by assumption) ?_
      try simp only [List.getElem_toArray, List.getElem_cons_succ, List.getElem_cons_zero, Act.put, List.setIfInBounds_toArray, List.set_cons_zero, List.set_cons_succ]
      refine wpAnyH_ready (rs := [9]) (by kernel_rfl) (by simp) ?_
      refine AllReadyH.cons rfl (fun K hK => ?_) AllReadyH.nil
      go_simp
      go_at_call 61
      refine (l1In_any _ _ _ _).mono ?_
      rw [hi.out]
      rintro e w3 ⟨rfl, rfl⟩
      go_wp2_with fail
      refine hK.out _ _ hS2 (fun _ => ?_)
      clear hK K
      try simp only [List.getElem_toArray, List.getElem_cons_succ, List.getElem_cons_zero, Act.put, List.setIfInBounds_toArray, List.set_cons_zero, List.set_cons_succ]
      refine wpAnyH_take (i := 10) (v := .bool true) rfl (by kernel_rfl) (by kernel_rfl) (by kernel_rfl) (fun _ _ _ h => h) (Or.inl ⟨by rfl, by intro wx hx; go_simp⟩) (by assumption) ?_
      try simp only [List.getElem_toArray, List.getElem_cons_succ, List.getElem_cons_zero, Act.put, List.setIfInBounds_toArray, List.set_cons_zero, List.set_cons_succ]
      refine wpAnyH_take (i := 11) (v := .bool true) rfl (by kernel_rfl) (by kernel_rfl) (by kernel_rfl) (fun _ _ _ h => h) (Or.inl ⟨by rfl, by intro wx hx; go_simp⟩) (by assumption) ?_
      try simp only [List.getElem_toArray, List.getElem_cons_succ, List.getElem_cons_zero, Act.put, List.setIfInBounds_toArray, List.set_cons_zero, List.set_cons_succ]
      refine wpAnyH_take (i := 12) (v := .agg #[.slice a1 M.length c1]) rfl (by kernel_rfl) (by kernel_rfl) (by kernel_rfl) (fun _ _ _ h => h) (Or.inl ⟨by rfl, by intro wx hx; go_simp⟩) (by assumption) ?_
      try simp only [List.getElem_toArray, List.getElem_cons_succ, List.getElem_cons_zero, Act.put, List.setIfInBounds_toArray, List.set_cons_zero, List.set_cons_succ]
      refine wpAnyH_take (i := 13) (v := .pointer (some ⟨bx, 0, none⟩)) rfl (by kernel_rfl) (by kernel_rfl) (by kernel_rfl) (fun _ _ _ h => h) (Or.inl ⟨by rfl, by intro wx hx; go_simp⟩) (by assumption) ?_
      try simp only [List.getElem_toArray, List.getElem_cons_succ, List.getElem_cons_zero, Act.put, List.setIfInBounds_toArray, List.set_cons_zero, List.set_cons_succ]
      refine wpAnyH_take (i := 14) (v := .slice a1 M.length c1) rfl (by kernel_rfl) (by kernel_rfl) (by kernel_rfl) (fun _ _ _ h => h) (Or.inl ⟨by rfl, by intro wx hx; go_simp⟩) (by assumption) ?_
      try simp only [List.getElem_toArray, List.getElem_cons_succ, List.getElem_cons_zero, Act.put, List.setIfInBounds_toArray, List.set_cons_zero, List.set_cons_succ]
      refine wpAnyH_take (i := 15) (v := .int .i64 M.length) rfl (by kernel_rfl) (by kernel_rfl) (by kernel_rfl) (fun _ _ _ h => h) (Or.inl ⟨by rfl, by intro wx hx; go_simp⟩) (by assumption) ?_
      try simp only [List.getElem_toArray, List.getElem_cons_succ, List.getElem_cons_zero, Act.put, List.setIfInBounds_toArray, List.set_cons_zero, List.set_cons_succ]
      refine wpAnyH_take (i := 16) (v := .int .i64 kn) rfl (by kernel_rfl) (by kernel_rfl) (by kernel_rfl) (fun _ _ _ h => h) (Or.inl ⟨by rfl, by intro wx hx; go_simp⟩) (by assumption) ?_
      try simp only [List.getElem_toArray, List.getElem_cons_succ, List.getElem_cons_zero, Act.put, List.setIfInBounds_toArray, List.set_cons_zero, List.set_cons_succ]
      refine wpAnyH_take (i := 18) (v := .slice dw ws.length mw) rfl (by kernel_rfl) (by kernel_rfl) (by kernel_rfl) (fun _ _ _ h => h) (Or.inl ⟨by rfl, by intro wx hx; go_simp⟩) (by assumption) ?_
      try simp only [List.getElem_toArray, List.getElem_cons_succ, List.getElem_cons_zero, Act.put, List.setIfInBounds_toArray, List.set_cons_zero, List.set_cons_succ]
      refine wpAnyH_ready (rs := [17]) (by kernel_rfl) (by simp) ?_
      refine AllReadyH.cons rfl (fun K hK => ?_) AllReadyH.nil
      go_simp
      go_at_call 39
      refine (l6Configs_any (n := M.length) hMl.2 hkn _).mono ?_
      rintro e w4 ⟨vP, rfl, hP, e4⟩
      have e4q : Ext wq w4 := Ext.trans (Ext.trans ed e2) e4
      have hS4 := hSx.out w4 e4q
      go_wp2_with fail
      refine hK.out _ _ hS4 (fun _ => ?_)
      clear hK K
      try simp only [List.getElem_toArray, List.getElem_cons_succ, List.getElem_cons_zero, Act.put, List.setIfInBounds_toArray, List.set_cons_zero, List.set_cons_succ]
      refine wpAnyH_ready (rs := [19]) (by kernel_rfl) (by simp) ?_
      refine AllReadyH.cons rfl (fun K hK => ?_) AllReadyH.nil
      go_simp
      go_at_call 77
      have e04 : Ext w0 w4 := Ext.trans e0q e4q
      refine (l7Work_any (w0 := w4) (w := w4) (k := kn) (hm'.ext (e := e04)) hM'.out hP (hw'.ext (e := e04)) (by omega) hkn confs_pm).mono ?_
      rw [hWB.out]
      rintro e w5 ⟨rfl, e5⟩
      have hS5 := hSx.out w5 (Ext.trans e4q e5)
      go_wp2_with fail
      refine hK.out _ _ hS5 (fun _ => ?_)
      clear hK K
      try simp only [List.getElem_toArray, List.getElem_cons_succ, List.getElem_cons_zero, Act.put, List.setIfInBounds_toArray, List.set_cons_zero, List.set_cons_succ]
      refine wpAnyH_take (i := 20) (v := .bool WB) rfl (by kernel_rfl) (by kernel_rfl) (by kernel_rfl) (fun _ _ _ h => h) (Or.inl ⟨by rfl, by intro wx hx; go_simp⟩) (by assumption) ?_
      try simp only [List.getElem_toArray, List.getElem_cons_succ, List.getElem_cons_zero, Act.put, List.setIfInBounds_toArray, List.set_cons_zero, List.set_cons_succ]
      refine wpAnyH_take (i := 21) (v := .bool WB) rfl (by kernel_rfl) (by kernel_rfl) (by kernel_rfl) (fun _ _ _ h => h) (Or.inl ⟨by rfl, by intro wx hx; go_simp⟩) (by assumption) ?_
      try simp only [List.getElem_toArray, List.getElem_cons_succ, List.getElem_cons_zero, Act.put, List.setIfInBounds_toArray, List.set_cons_zero, List.set_cons_succ]
      refine wpAnyH_done (by kernel_rfl) ?_ _
      go_wp2_with fail
      go_ret
      exact ⟨ret_bool hr.out, Ext.trans e1 (Ext.trans e4q e5)⟩

set_option maxHeartbeats 1600000 in
set_option maxRecDepth 100000 in
theorem worksFor_any {v vw : Value} {M : List (List Int)} {ws : List Int} {k : Int} {w0 w : World} [Ext w0 w] (hm : IsMet w0 v M) (hw : IsInts w0 vw ws) :
    Calls Try.prog 43 #[v, .int .i64 k, vw] w fun e w' => ∃ u, e = .returned (.tuple #[u, .bool (askB M k && workB M (confs M.length k.toNat 0) ws)]) ∧ ((askB M k && workB M (confs M.length k.toNat 0) ws) = true → IsWorks w' u M (confs M.length k.toNat 0)) ∧ Ext w w' := by
  have hm' := hm
  obtain ⟨v1, rfl, hR⟩ := hm
  obtain ⟨a1, c1, rfl, l1⟩ := hR.form
  have hw' := hw
  obtain ⟨dw, mw, rfl, lw⟩ := hw.form
  have x0 : (w.alloc (.cells #[.slice a1 M.length c1] 29)).cell? ⟨w.heap.size, 0, none⟩ = some (.slice a1 M.length c1) := by go_simp
  cases hq : askB M k with
  | false =>
    replace hq := hid hq
    go_enter Try.func43, Try.ntmps43
    go_wp2_with fail
    with_reducible refine (isKs_any (w0 := w0) hm').mono ?_
    rw [hq.out]
    rintro e w1 ⟨rfl, e1⟩
    go_wp2_with fail
    go_ret2
    exact ⟨_, ret_tuple2 rfl rfl, (fun h => absurd h (by simp)), Ext.trans inferInstance e1⟩
  | true =>
    obtain ⟨hM, hk1, hk3⟩ := askB_iff.1 hq
    obtain ⟨kn, rfl⟩ := Int.eq_ofNat_of_zero_le (show 0 ≤ k by omega)
    have hMl := met_len hM
    have hkn : kn ≤ 3 := by omega
    have hk1n : 1 ≤ kn := by omega
    have h216 := confs_216 hMl.2 hkn
    have hmv := hid (confs_mv (dst_of_met hM) hkn)
    have hM' := hid hM
    clear hM
    replace hq := hid hq
    rw [Int.toNat_natCast, Bool.true_and]
    go_enter Try.func43, Try.ntmps43
    go_wp2_with fail
    with_reducible refine (isKs_any (w0 := w0) hm').mono ?_
    rw [hq.out]
    rintro e w1 ⟨rfl, e1⟩
    have x1 := e1.cell x0
    have e1w : Ext w w1 := Ext.trans inferInstance e1
    have e01 : Ext w0 w1 := Ext.trans ‹Ext w0 w› e1w
    clear x0
    go_wp2_with fail
    with_reducible refine (worksOf_any (w0 := w0) hm' hM'.out hk1n hkn).mono ?_
    rintro e w2 ⟨u, rfl, hW, e2⟩
    have e02 : Ext w0 w2 := Ext.trans e01 e2
    go_wp2_with fail
    with_reducible refine (isWork_any (w0 := w2) (w := w2) hW (hw'.ext (e := e02)) (by omega) hmv.out).mono ?_
    rintro e w3 ⟨rfl, e3⟩
    go_wp2_with fail
    go_ret2
    exact ⟨u, rfl, fun _ => hW.ext, Ext.trans e1w (Ext.trans e2 e3)⟩

/-- whether there is a next work list, and it -/
def stB (M : List (List Int)) (k : Int) (ws : List Int) (r : Int) : Bool := givB M k ws r && belowB 100000 (wnxL M (confs M.length k.toNat 0) ws r)
def stL (M : List (List Int)) (k : Int) (ws : List Int) (r : Int) : List Int := if stB M k ws r then wnxL M (confs M.length k.toNat 0) ws r else []
theorem giv_parts {M : List (List Int)} {k r : Int} {ws : List Int} (h : givB M k ws r = true) : metB M = true ∧ (1 ≤ k ∧ k ≤ 3) ∧ (0 ≤ r ∧ r < (M.length : Int)) ∧ workB M (confs M.length k.toNat 0) ws = true := by
  simp only [givB, Bool.and_eq_true] at h
  obtain ⟨h1, h2, h3⟩ := h
  obtain ⟨h4, h5⟩ := askB_iff.1 h1
  have := inB_true.1 h2
  exact ⟨h4, h5, by omega, h3⟩

end Go.Proofs.Ytmgcfnciejfpbaa

