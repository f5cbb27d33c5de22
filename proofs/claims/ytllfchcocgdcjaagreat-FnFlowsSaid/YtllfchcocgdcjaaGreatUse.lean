/- The last earlier and the next later places with the same item: the program's. -/
import Derived.Test.YtllfchcocgdcjaaGreatMbP
import Derived.Test.YtllfchcocgdcjaaGreatGrG
import Derived.Test.YtllfchcocgdcjaaGreatGrA
namespace Go.Proofs.YtllfchcocgdcjaaGreat
open Go.RowKit

def luUs (X : List Int) (t : Nat) : List Int := (List.range t).map (luU X)
theorem luUs_len (X : List Int) (t : Nat) : (luUs X t).length = t := by simp [luUs]
theorem luUs_succ (X : List Int) (t : Nat) : luUs X (t + 1) = luUs X t ++ [luU X t] := by simp [luUs, List.range_succ]
theorem luUs_at {X : List Int} {t i : Nat} (h : i < t) : nth (luUs X t) i = luU X i := by simp [luUs, nth, h]

theorem Own.readsN {w : World} {B e n : Nat} {v : Value} {xs : List Int} {R : List Row} (h : Own w B (⟨e, 1, v, n, xs.map (Value.int .i64)⟩ :: R)) (hn : xs.length = n) (hs : n ≤ 1000000) (hi : ∀ x ∈ xs, I64 x) : IsInts w v xs := by
  subst hn
  exact Own.reads (e := e) h (by unfold Short; omega) hi
theorem luUs_i64 {X : List Int} {t : Nat} (h : t ≤ 1000) : ∀ y ∈ luUs X t, I64 y := fun y hy => by
  obtain ⟨i, hi, rfl⟩ := List.mem_map.1 hy
  have := luF_bd X (nth X i) i
  have h2 := List.mem_range.1 hi
  unfold luU I64
  omega

set_option maxHeartbeats 800000 in
set_option maxRecDepth 100000 in
theorem sRepeat0_any {v : Value} {c : Int} {w0 w : World} [Ext w0 w] (hx : IsInts w0 v [c]) :
    Calls Tryz.prog 28 #[v, .int .i64 0] w fun e w' => ∃ d m, e = .returned (.slice d 0 m) ∧ Own w' w.heap.size [⟨3, 1, .slice d 0 m, 0, ([] : List Int).map (Value.int .i64)⟩] ∧ Ext w w' := by
  obtain ⟨a, cc, rfl, _⟩ := hx.form
  obtain ⟨b, o, rfl, hc⟩ := hx.at (w' := w) (k := 0) (by simp)
  rw [Nat.add_zero] at hc
  have hl1 : ([c] : List Int).length = 1 := rfl
  rw [hl1]
  have hmk := hid (show (w.alloc (.cells #[] 3)).heap[w.heap.size]? = some (.cells #[] 3 (0, 0)) from rep_make w c 0 3)
  have hsz := hid (show (Tryz.prog.info? 3).map (·.size) = some 1 by kernel_rfl)
  clear hc
  go_enter Tryz.func28, Tryz.ntmps28
  go_wp2_with fail
  refine (mulN_any (n := 0) (by omega) _).mono ?_
  rintro e w1 ⟨rfl, rfl⟩
  go_upto_region 7 with (at_make; refine wpList_makeOwn rfl _ _ _ rfl elemInt 0 rfl rfl (by omega) (by omega) rfl ?_; intro hown)
  have eM : Ext w (w.alloc (.cells #[] 3)) := inferInstance
  have hgs : (w.alloc (.cells #[] 3)).heap.size = w.heap.size + 1 := by simp
  generalize w.alloc (.cells #[] 3) = wM at *
  clear hown
  have hbM : Below w.heap.size w wM := eM.below
  have own2 : Own wM w.heap.size [⟨3, 1, .slice (some ⟨w.heap.size, 0, none⟩) 0 0, 0, ([] : List Int).map (Value.int .i64)⟩] := by
    refine ⟨fun r hr => ?_, List.pairwise_singleton _ _⟩
    rw [List.mem_singleton.1 hr]
    exact ⟨rfl, .inr ⟨w.heap.size, 0, #[], rfl, Nat.le_refl _, hmk.out, Nat.le_refl _, by unfold maxLen; omega, rfl, rfl⟩⟩
  go_upto_region 8 with (refine wpList_copy_nothing rfl (.tmp 31) (.tmp 32) 27 27 rfl 3 Tryz.underlying27 hsz.out _ _ _ _ _ _ rfl rfl rfl ?_)
  go_loopw [8] (fun q wr => q = .int .i64 0 ∧ Ext wM wr) (fun _ _ => 0)
  case atStart => exact ⟨rfl, Ext.refl _⟩
  case round =>
    obtain ⟨rfl, hy⟩ := hrel
    have own3 := own2.ext (e := hy)
    go_wp2_with fail
    go_ret
    exact ⟨_, _, rfl, own3, Ext.trans eM hy⟩

theorem sRepeatM_any {v : Value} {c : Int} {n : Nat} {w0 w : World} [Ext w0 w] (hx : IsInts w0 v [c]) (hn : n ≤ 1000) :
    Calls Tryz.prog 28 #[v, .int .i64 n] w fun e w' => ∃ d m, e = .returned (.slice d n m) ∧ Own w' w.heap.size [⟨3, 1, .slice d n m, n, (List.replicate n c).map (Value.int .i64)⟩] ∧ Ext w w' := by
  by_cases h : n = 0
  · subst h
    exact sRepeat0_any hx
  · refine (sRepeatN_any hx (by omega) hn).mono ?_
    rintro e w' ⟨d, m, rfl, own, he⟩
    unfold intRowOf at own
    rw [List.length_replicate] at own ⊢
    exact ⟨d, m, rfl, own, he⟩

/-- the next uses as far as they are known ahead of t -/
def nxTs (X : List Int) (t : Nat) : List Int := (List.range X.length).map (nxTo X t)
def nxUs (X : List Int) : List Int := (List.range X.length).map (nxU X)
theorem nxTs_len (X : List Int) (t : Nat) : (nxTs X t).length = X.length := by simp [nxTs]
theorem nxUs_len (X : List Int) : (nxUs X).length = X.length := by simp [nxUs]
theorem nxTs_all (X : List Int) : nxTs X X.length = nxUs X := rfl
theorem nxTs_zero (X : List Int) : nxTs X 0 = List.replicate X.length (-1) := by
  apply List.ext_getElem
  · simp [nxTs]
  · intro _ _ _
    simp [nxTs, nxTo_zero]
theorem nxUs_at {X : List Int} {i : Nat} (h : i < X.length) : nth (nxUs X) i = nxU X i := by simp [nxUs, nth, h]
theorem nxTs_no {X : List Int} {t : Nat} (ht : t < X.length) (h : luU X t < 0) : nxTs X (t + 1) = nxTs X t :=
  List.map_congr_left fun _ hi => nxTo_no ht h (List.mem_range.1 hi)
theorem nxTs_yes {X : List Int} {t a : Nat} (ht : t < X.length) (h : luU X t = a) : nxTs X (t + 1) = (nxTs X t).set a t := by
  apply List.ext_getElem
  · simp [nxTs]
  · intro i h1 h2
    have hi : i < X.length := by simpa [nxTs] using h1
    have := nxTo_yes ht h hi
    simp only [nxTs, List.getElem_map, List.getElem_range, List.getElem_set, this]
    by_cases e : a = i
    · rw [if_pos e, if_pos e.symm]
    · rw [if_neg e, if_neg (fun h => e h.symm)]

end Go.Proofs.YtllfchcocgdcjaaGreat
