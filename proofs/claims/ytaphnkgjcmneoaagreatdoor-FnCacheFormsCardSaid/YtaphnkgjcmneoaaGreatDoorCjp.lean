/- ParseCache's values in plain words, and strings.Cut. -/
import Derived.Test.YtaphnkgjcmneoaaGreatDoorCiz
import Derived.Test.YtaphnkgjcmneoaaGreatDoorCja
import Derived.Test.YtaphnkgjcmneoaaGreatDoorRqj
import Derived.Test.YtaphnkgjcmneoaaGreatDoorPackA
namespace Go.Proofs.YtaphnkgjcmneoaaGreatDoor
open Go.RowKit

theorem spW_cons (L : List UInt8) : ∃ hw T, spW 32 L = hw :: T := by
  have : ∀ (L cur : List UInt8), ∃ hw T, spF 32 L cur = hw :: T := by
    intro L
    induction L with
    | nil => exact fun cur => ⟨_, _, rfl⟩
    | cons c L ih =>
      intro cur
      unfold spF
      split
      · exact ⟨_, _, rfl⟩
      · exact ih _
  exact this L []
theorem wdsOk_snoc {W : List (List UInt8)} {t : Nat} {y : List UInt8} (h : W[t]? = some y) : wdsOk (W.take (t + 1)) = (wdsOk (W.take t) && (rdO (Lib.cut y [58]).1).isSome) := by
  unfold wdsOk
  rw [List.take_add_one, h, List.all_append]
  simp
theorem wdsP_snoc {W : List (List UInt8)} {t : Nat} {y : List UInt8} (h : W[t]? = some y) : wdsP (W.take (t + 1)) = wdsP (W.take t) ++ [rd0 (Lib.cut y [58]).1] := by
  unfold wdsP
  rw [List.take_add_one, h, List.map_append]
  simp
theorem wdsM_snoc {W : List (List UInt8)} {t : Nat} {y : List UInt8} {p : Int} (hp : mkd p = true) (h : W[t]? = some y) : wdsM p (W.take (t + 1)) = wdsM p (W.take t) ++ [rd0 (Lib.cut y [58]).2.1] := by
  unfold wdsM
  rw [if_pos hp, if_pos hp, List.take_add_one, h, List.map_append]
  simp
theorem wdsM_no {p : Int} (hp : mkd p = false) (W : List (List UInt8)) : wdsM p W = [] := by
  unfold wdsM
  rw [hp]; rfl
theorem wdsOk_no {W : List (List UInt8)} {t : Nat} {y : List UInt8} (h : W[t]? = some y) (hn : rdO (Lib.cut y [58]).1 = none) : wdsOk W = false := by
  unfold wdsOk
  rw [Bool.eq_false_iff]
  intro ha
  have := (List.all_eq_true.1 ha) y (List.mem_of_getElem? h)
  rw [hn] at this
  cases this
theorem rd0_i64 (L : List UInt8) : I64 (rd0 L) := by
  unfold rd0
  cases h : rdO L with
  | none => show I64 0; unfold I64; omega
  | some v => exact rdO_i64 h
theorem wdsP_i64 (W : List (List UInt8)) : ∀ x ∈ wdsP W, I64 x := by
  intro x hx
  unfold wdsP at hx
  obtain ⟨w, _, rfl⟩ := List.mem_map.1 hx
  exact rd0_i64 _
theorem wdsM_i64 (p : Int) (W : List (List UInt8)) : ∀ x ∈ wdsM p W, I64 x := by
  intro x hx
  unfold wdsM at hx
  split at hx
  · obtain ⟨w, _, rfl⟩ := List.mem_map.1 hx
    exact rd0_i64 _
  · cases hx
theorem wdsP_len (W : List (List UInt8)) : (wdsP W).length = W.length := by simp [wdsP]
theorem wdsM_len (p : Int) (W : List (List UInt8)) : (wdsM p W).length ≤ W.length := by
  unfold wdsM
  split <;> simp
/-- what ParseCache hands over -/
def pcV (n : Int) (L : List UInt8) : Int × Int × List Int × List Int × Int :=
  if pcOk n L then ((hdP ((spW 32 L).headD [])).1, (hdP ((spW 32 L).headD [])).2.1, wdsP (spW 32 L).tail, wdsM (hdP ((spW 32 L).headD [])).1 (spW 32 L).tail, (hdP ((spW 32 L).headD [])).2.2) else (0, 0, [], [], 0)
def PcPost (n : Int) (L : List UInt8) (w : World) : Ending → World → Prop := fun e w' => ∃ (dP : Option Addr) (cP : Nat) (dM : Option Addr) (cM : Nat) (P M : List Int), P = (pcV n L).2.2.1 ∧ M = (pcV n L).2.2.2.1 ∧
  e = .returned (.tuple #[.agg #[.int .i64 (pcV n L).1, .int .i64 (pcV n L).2.1, .slice dP P.length cP, .slice dM M.length cM, .int .i64 (pcV n L).2.2.2.2], .bool (pcOk n L)]) ∧ IsInts w' (.slice dP P.length cP) P ∧ IsInts w' (.slice dM M.length cM) M ∧ Ext w w'
theorem pcOk_at {n : Int} {L hw : List UInt8} {T : List (List UInt8)} (h : spW 32 L = hw :: T) : pcOk n L = (wdsOk T && (caB n (hdP hw).1 (hdP hw).2.1 (wdsP T) (wdsM (hdP hw).1 T) (hdP hw).2.2 && decide (caL (hdP hw).1 (hdP hw).2.1 (wdsP T) (wdsM (hdP hw).1 T) (hdP hw).2.2 = L))) := by
  unfold pcOk
  rw [h]
  rfl
theorem pcV_no {n : Int} {L : List UInt8} (h : pcOk n L = false) : pcV n L = (0, 0, [], [], 0) := by
  unfold pcV
  rw [h]; rfl
theorem pcV_yes {n : Int} {L hw : List UInt8} {T : List (List UInt8)} (h : spW 32 L = hw :: T) (hk : pcOk n L = true) : pcV n L = ((hdP hw).1, (hdP hw).2.1, wdsP T, wdsM (hdP hw).1 T, (hdP hw).2.2) := by
  unfold pcV
  rw [hk, h]; rfl
theorem pc_fail {n : Int} {L : List UInt8} {w w' : World} (h : pcOk n L = false) (e : Ext w w') (d1 d2 : Option Addr) (c1 c2 : Nat) : PcPost n L w (.returned (.tuple #[.agg #[.int .i64 0, .int .i64 0, .slice d1 0 c1, .slice d2 0 c2, .int .i64 0], .bool false])) w' := by
  refine ⟨d1, c1, d2, c2, [], [], ?_, ?_, ?_, ints_no w' d1 c1, ints_no w' d2 c2, e⟩
  · rw [pcV_no h]
  · rw [pcV_no h]
  · rw [pcV_no h, h]; rfl
theorem cut_any {L : List UInt8} {b : UInt8} {sep : ByteArray} (hs : sep.data.toList = [b]) {w : World} (hl : L.length ≤ 100000) (hm : Most w) : Calls Tryz.prog 38 #[.string (bsOf L), .string sep] w fun e w' => e = .returned (cutV L b) ∧ Ext w w' := by
  obtain ⟨m, hm'⟩ := hm
  refine (Tryz.strings_Cut (bsOf L) sep m w (by rw [bsOf_size]; omega) hm').mono ?_
  rintro e w' ⟨rfl, k, rfl⟩
  rw [bsOf_list, hs]
  exact ⟨rfl, inferInstance⟩
end Go.Proofs.YtaphnkgjcmneoaaGreatDoor
