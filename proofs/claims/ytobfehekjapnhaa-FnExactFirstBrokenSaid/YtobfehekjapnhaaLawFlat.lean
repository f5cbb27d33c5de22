/- Lists of pairs of ints in the laws: equality with itself, the marks laid and read. -/
import Derived.Test.YtobfehekjapnhaaFlatW
import Derived.Test.YtobfehekjapnhaaMark
import Derived.Deep.Cut
namespace Go.Proofs.Ytobfehekjapnhaa
open Go.RowKit

set_option maxHeartbeats 400000 in
theorem eqA2_same (a b : Int) (w : World) :
    Calls Try.prog 39 #[.agg #[.int .i64 a, .int .i64 b], .agg #[.int .i64 a, .int .i64 b]] w fun e w' => e = .returned (.bool true) ∧ Ext w w' := by
  have h1 : (a != a) = false := by simp
  have h2 : (b != b) = false := by simp
  have eW : Ext w ((w.alloc (.cells #[.int .i64 a, .int .i64 b] 59)).alloc (.cells #[.int .i64 a, .int .i64 b] 59)) := inferInstance
  have x0 : ((w.alloc (.cells #[.int .i64 a, .int .i64 b] 59)).alloc (.cells #[.int .i64 a, .int .i64 b] 59)).cell? ⟨w.heap.size, 0, none⟩ = some (.int .i64 a) := by go_simp
  have x1 : ((w.alloc (.cells #[.int .i64 a, .int .i64 b] 59)).alloc (.cells #[.int .i64 a, .int .i64 b] 59)).cell? ⟨w.heap.size, 1, none⟩ = some (.int .i64 b) := by go_simp
  have z0 : ((w.alloc (.cells #[.int .i64 a, .int .i64 b] 59)).alloc (.cells #[.int .i64 a, .int .i64 b] 59)).cell? ⟨w.heap.size + 1, 0, none⟩ = some (.int .i64 a) := by go_simp
  have z1 : ((w.alloc (.cells #[.int .i64 a, .int .i64 b] 59)).alloc (.cells #[.int .i64 a, .int .i64 b] 59)).cell? ⟨w.heap.size + 1, 1, none⟩ = some (.int .i64 b) := by go_simp
  go_enter Try.func39, Try.ntmps39
  go_upto_region 1 with fail
  generalize (w.alloc (.cells #[.int .i64 a, .int .i64 b] 59)).alloc (.cells #[.int .i64 a, .int .i64 b] 59) = W at *
  go_wp2
  go_loopw [5] (fun i wr => ∃ k : Nat, k ≤ 2 ∧ i = .int .i64 k ∧ Ext W wr) (fun i _ => 2 - (intOf i).toNat)
  case atStart => exact ⟨0, by omega, rfl, Ext.refl _⟩
  case round =>
    obtain ⟨k, hk, rfl, hex⟩ := hrel
    have y0 := hex.cell x0
    have y1 := hex.cell x1
    have y2 := hex.cell z0
    have y3 := hex.cell z1
    have hk3 : k = 0 ∨ k = 1 ∨ k = 2 := by omega
    rcases hk3 with rfl | rfl | rfl
    · go_wp2_with (go_quiet (fail))
      go_roundw
      case rel => exact ⟨1, by omega, by go_num, Ext.trans hex inferInstance⟩
      case measure => simp [intOf]
    · go_wp2_with (go_quiet (fail))
      go_roundw
      case rel => exact ⟨2, by omega, by go_num, Ext.trans hex inferInstance⟩
      case measure => simp [intOf]
    · go_wp2
      go_ret
      exact ⟨rfl, Ext.trans eW hex⟩

set_option maxHeartbeats 400000 in
set_option maxRecDepth 100000 in
theorem eqF_same {v1 v2 : Value} {L : List (List Int)} {w0 w : World} [Ext w0 w] (hx : IsFlat w0 v1 2 L) (hy : IsFlat w0 v2 2 L) :
    Calls Try.prog 30 #[v1, v2] w fun e w' => e = .returned (.bool true) ∧ Ext w w' := by
  obtain ⟨a1, c1, rfl, l1⟩ := hx.form
  obtain ⟨a2, c2, rfl, l2⟩ := hy.form
  have hne : ((L.length : Int) != (L.length : Int)) = false := by simp
  go_enter Try.func30, Try.ntmps30
  go_wp2
  go_loopw [5] (fun i wr => ∃ k : Nat, k ≤ L.length ∧ i = .int .i64 k ∧ Ext w wr) (fun i _ => L.length - (intOf i).toNat)
  case atStart => exact ⟨0, by omega, rfl, Ext.refl _⟩
  case round =>
    obtain ⟨k, hk, rfl, hex⟩ := hrel
    have er0 : Ext w0 wr := Ext.trans ‹Ext w0 w› hex
    by_cases hlt : k < L.length
    · obtain ⟨b3, o3, rfl, hc3⟩ := hx.at (w' := wr) hlt
      obtain ⟨b4, o4, rfl, hc4⟩ := hy.at (w' := wr) hlt
      have y0 := hc3 0 (by omega)
      have y1 := hc3 1 (by omega)
      have y2 := hc4 0 (by omega)
      have y3 := hc4 1 (by omega)
      rw [Nat.add_zero] at y0 y2
      clear hc3 hc4
      generalize cell L k 0 = a at *
      generalize cell L k 1 = b at *
      go_upto_region 6 with fail
      have ed : Ext wr (wr).drew := inferInstance
      refine wp_region_held_drew (S := fun w' => Ext wr w' ∧ w'.cell? ⟨b3, o3 + k * 2, none⟩ = some (.int .i64 a) ∧ w'.cell? ⟨b3, o3 + k * 2 + 1, none⟩ = some (.int .i64 b) ∧ w'.cell? ⟨b4, o4 + k * 2, none⟩ = some (.int .i64 a) ∧ w'.cell? ⟨b4, o4 + k * 2 + 1, none⟩ = some (.int .i64 b)) (by kernel_rfl) ⟨ed, ed.cell y0, ed.cell y1, ed.cell y2, ed.cell y3⟩ (fun hHeld0 => ?_)
      refine wpAnyH_take (i := 0) (v := .slice (some ⟨b3, o3, none⟩) L.length c1) rfl (by kernel_rfl) (by kernel_rfl) (by kernel_rfl) (fun _ _ _ h => h) (Or.inl ⟨by rfl, by intro wx hx; go_simp⟩) (by assumption) ?_
      try simp only [List.getElem_toArray, List.getElem_cons_zero, Act.put, List.setIfInBounds_toArray, List.set_cons_zero, List.set_cons_succ]
      refine wpAnyH_take (i := 1) (v := .int .i64 k) rfl (by kernel_rfl) (by kernel_rfl) (by kernel_rfl) (fun _ _ _ h => h) (Or.inl ⟨by rfl, by intro wx hx; go_simp⟩) (by assumption) ?_
      try simp only [List.getElem_toArray, List.getElem_cons_succ, List.getElem_cons_zero, Act.put, List.setIfInBounds_toArray, List.set_cons_zero, List.set_cons_succ]
      refine wpAnyH_take (i := 2) (v := .pointer (some ⟨b3, o3 + k * 2, none⟩)) rfl (by kernel_rfl) (by kernel_rfl) (by kernel_rfl) (fun _ _ _ h => h) (Or.inl ⟨by rfl, by intro wx hx; go_simp⟩) (by assumption) ?_
      try simp only [List.getElem_toArray, List.getElem_cons_succ, List.getElem_cons_zero, Act.put, List.setIfInBounds_toArray, List.set_cons_zero, List.set_cons_succ]
      refine wpAnyH_take (i := 3) (v := .agg #[.int .i64 a, .int .i64 b]) rfl (by kernel_rfl) (by kernel_rfl) (by kernel_rfl) (fun _ _ _ h => h) (Or.inl ⟨by rfl, by intro wx hx; obtain ⟨_, _, _, _, _⟩ := hx; go_simp⟩) (by assumption) ?_
      try simp only [List.getElem_toArray, List.getElem_cons_succ, List.getElem_cons_zero, Act.put, List.setIfInBounds_toArray, List.set_cons_zero, List.set_cons_succ]
      refine wpAnyH_take (i := 4) (v := .slice (some ⟨b4, o4, none⟩) L.length c2) rfl (by kernel_rfl) (by kernel_rfl) (by kernel_rfl) (fun _ _ _ h => h) (Or.inl ⟨by rfl, by intro wx hx; go_simp⟩) (by assumption) ?_
      try simp only [List.getElem_toArray, List.getElem_cons_succ, List.getElem_cons_zero, Act.put, List.setIfInBounds_toArray, List.set_cons_zero, List.set_cons_succ]
      refine wpAnyH_take (i := 5) (v := .int .i64 k) rfl (by kernel_rfl) (by kernel_rfl) (by kernel_rfl) (fun _ _ _ h => h) (Or.inl ⟨by rfl, by intro wx hx; go_simp⟩) (by assumption) ?_
      try simp only [List.getElem_toArray, List.getElem_cons_succ, List.getElem_cons_zero, Act.put, List.setIfInBounds_toArray, List.set_cons_zero, List.set_cons_succ]
      refine wpAnyH_take (i := 6) (v := .pointer (some ⟨b4, o4 + k * 2, none⟩)) rfl (by kernel_rfl) (by kernel_rfl) (by kernel_rfl) (fun _ _ _ h => h) (Or.inl ⟨by rfl, by intro wx hx; go_simp⟩) (by assumption) ?_
      try simp only [List.getElem_toArray, List.getElem_cons_succ, List.getElem_cons_zero, Act.put, List.setIfInBounds_toArray, List.set_cons_zero, List.set_cons_succ]
      refine wpAnyH_take (i := 7) (v := .agg #[.int .i64 a, .int .i64 b]) rfl (by kernel_rfl) (by kernel_rfl) (by kernel_rfl) (fun _ _ _ h => h) (Or.inl ⟨by rfl, by intro wx hx; obtain ⟨_, _, _, _, _⟩ := hx; go_simp⟩) (by assumption) ?_
      try simp only [List.getElem_toArray, List.getElem_cons_succ, List.getElem_cons_zero, Act.put, List.setIfInBounds_toArray, List.set_cons_zero, List.set_cons_succ]
      refine wpAnyH_ready (rs := [8]) (by kernel_rfl) (by simp) ?_
      refine AllReadyH.cons rfl (fun K hK => ?_) AllReadyH.nil
      go_simp
      go_at_call 39
      refine (eqA2_same a b _).mono ?_
      rintro e w1 ⟨rfl, hb⟩
      go_wp2_with fail
      have er1 : Ext wr w1 := Ext.trans ed hb
      refine hK.out _ _ ⟨er1, er1.cell y0, er1.cell y1, er1.cell y2, er1.cell y3⟩ (fun hHeld1 => ?_)
      clear hK K hHeld0
      try simp only [List.getElem_toArray, List.getElem_cons_succ, List.getElem_cons_zero, Act.put, List.setIfInBounds_toArray, List.set_cons_zero, List.set_cons_succ]
      refine wpAnyH_take (i := 9) (v := .bool false) rfl (by kernel_rfl) (by kernel_rfl) (by kernel_rfl) (fun _ _ _ h => h) (Or.inl ⟨by rfl, by intro wx hx; go_simp⟩) (by assumption) ?_
      try simp only [List.getElem_toArray, List.getElem_cons_succ, List.getElem_cons_zero, Act.put, List.setIfInBounds_toArray, List.set_cons_zero, List.set_cons_succ]
      refine wpAnyH_done (by kernel_rfl) ?_ _
      go_wp2_with fail
      go_roundw
      case rel => exact ⟨k + 1, by omega, by go_num, Ext.trans hex er1⟩
      case measure => simp [intOf]; omega
    · have hkl : k = L.length := by omega
      subst hkl
      go_wp2
      go_ret
      exact ⟨rfl, hex⟩

theorem Own.readsFlat' {w w0 : World} {B e z : Nat} {v v0 : Value} {L : List (List Int)} {R : List Row} (h : Own w B (flatRowOf e z v L :: R)) (h0 : IsFlat w0 v0 z L) : IsFlat w v z L := h.readsFlat h0.all.1 h0.all.2.1 h0.all.2.2
theorem Own.atZ {w : World} {B e z n c : Nat} {a : Option Addr} {cs : List Value} {R : List Row} (h : Own w B (⟨e, z, .slice a n c, n, cs⟩ :: R)) {j : Nat} (hj : j < n) : ∃ g, a = some ⟨g, 0, none⟩ := by
  rcases h.head.2 with ⟨h1, h2⟩ | ⟨g, cap, cur, hv, _⟩
  · have : n = 0 := h2
    omega
  · have hv' : (Value.slice a n c) = .slice (some ⟨g, 0, none⟩) n cap := hv
    simp only [Value.slice.injEq] at hv'
    exact ⟨g, hv'.1⟩

set_option maxHeartbeats 800000 in
theorem markF_any {e n c : Nat} {a : Option Addr} {xs : List Int} {k : Int} {w : World} {B : Nat} {R : List Row} (hown : Own w B (⟨e, 2, .slice a n c, n, xs.map (Value.int .i64)⟩ :: R)) (hl : xs.length = n * 2) (hs : n ≤ 1000000) (hk0 : 0 ≤ k) (hk1 : k ≤ 100000000) :
    Calls Try.prog 32 #[.slice a n c, .int .i64 k] w fun y w' => y = .returned (.int .i64 (k + (n * 2 : Nat))) ∧ Own w' B (⟨e, 2, .slice a n c, n, (iota k (n * 2)).map (Value.int .i64)⟩ :: R) ∧ Below B w w' := by
  replace hl := hid hl
  go_enter Try.func32, Try.ntmps32
  go_wp2
  go_loopw [1, 5] (fun q i wr => ∃ j : Nat, j ≤ n ∧ i = .int .i64 j ∧ q = .int .i64 (k + (j * 2 : Nat)) ∧ Own wr B (⟨e, 2, .slice a n c, n, (iota k (j * 2) ++ xs.drop (j * 2)).map (Value.int .i64)⟩ :: R) ∧ Below B w wr) (fun _ i _ => n - (intOf i).toNat)
  case atStart => exact ⟨0, by omega, rfl, by simp, by simpa [iota] using hown, Below.refl _ _⟩
  case round =>
    obtain ⟨j, hj, rfl, rfl, hown, hb⟩ := hrel
    by_cases hlt : j < n
    · obtain ⟨g, rfl⟩ := hown.atZ hlt
      go_wp2
      go_loopw [1, 6] (fun q i wi => ∃ p : Nat, p ≤ 2 ∧ i = .int .i64 p ∧ q = .int .i64 (k + (j * 2 + p : Nat)) ∧ Own wi B (⟨e, 2, .slice (some ⟨g, 0, none⟩) n c, n, (iota k (j * 2 + p) ++ xs.drop (j * 2 + p)).map (Value.int .i64)⟩ :: R) ∧ Below B w wi) (fun _ i _ => 2 - (intOf i).toNat)
      case atStart => exact ⟨0, by omega, rfl, rfl, hown, hb⟩
      case round =>
        obtain ⟨p, hp, rfl, rfl, hown2, hb2⟩ := hrel
        by_cases hlp : p < 2
        · have hix : j * 2 + p < xs.length := by have := hl.out; omega
          have hin : j * 2 + p < n * 2 := by omega
          have hc := hown2.cellIn (.head _) (j := j * 2 + p) hin
          have hf := hown2.frozenIn (.head _) (j * 2 + p)
          have hgB := hown2.head.lt g rfl
          have hstep := hid (mark_step (k := k) hix)
          have hset := hid (Own.setIn (A := []) hown2 (j * 2 + p) (.int .i64 (k + (j * 2 + p : Nat))))
          have hjI : (j : Int) < (n : Int) := by omega
          clear hown2
          generalize ((iota k (j * 2 + p) ++ xs.drop (j * 2 + p)).map (Value.int .i64)).getD (j * 2 + p) undef = old at *
          go_wp2
          go_roundw
          case rel =>
            refine ⟨p + 1, by omega, by go_num, by go_num, ?_, hb2.setCell hgB.1 _⟩
            have h := hset.out
            rw [hstep.out] at h
            exact h
          case measure => simp [intOf]; omega
        · have hp2 : p = 2 := by omega
          subst hp2
          go_wp2
          go_roundw
          case rel => exact ⟨j + 1, by omega, by go_num, by rw [show (j + 1) * 2 = j * 2 + 2 by omega], by rw [show (j + 1) * 2 = j * 2 + 2 by omega]; exact hown2, hb2⟩
          case measure => simp [intOf]; omega
    · have hjn : j = n := by omega
      subst hjn
      go_wp2
      go_ret
      refine ⟨rfl, ?_, hb⟩
      rw [List.drop_of_length_le (by rw [hl.out]; exact Nat.le_refl _), List.append_nil] at hown
      exact hown

/-- The value v reads as n pairs that bear the marks from k on. -/
def IsMark (w : World) (v : Value) (n : Nat) (k : Int) : Prop :=
  ∃ a c, v = .slice a n c ∧ n ≤ 1000000 ∧ ∀ i, i < n * 2 → ∃ b, a = some ⟨b, 0, none⟩ ∧ w.cell? ⟨b, i, none⟩ = some (.int .i64 (k + i))
theorem IsMark.ext {w w' : World} {v : Value} {n : Nat} {k : Int} (h : IsMark w v n k) [e : Ext w w'] : IsMark w' v n k := by
  obtain ⟨a, c, h1, h2, h4⟩ := h
  refine ⟨a, c, h1, h2, fun j hj => ?_⟩
  obtain ⟨b, h5, h6⟩ := h4 j hj
  exact ⟨b, h5, e.cell h6⟩
theorem Own.readsMarkF {w : World} {B e n c : Nat} {a : Option Addr} {k : Int} {R : List Row} (h : Own w B (⟨e, 2, .slice a n c, n, (iota k (n * 2)).map (Value.int .i64)⟩ :: R)) (hn : n ≤ 1000000) : IsMark w (.slice a n c) n k := by
  refine ⟨a, c, rfl, hn, fun i hi => ?_⟩
  obtain ⟨g, rfl⟩ := h.atZ (j := 0) (by omega)
  refine ⟨g, rfl, ?_⟩
  rw [h.cellIn (.head _) (j := i) hi]
  have e1 : ((iota k (n * 2)).map (Value.int .i64)).getD i undef = .int .i64 (nth (iota k (n * 2)) i) := by
    have hl : i < (iota k (n * 2)).length := by rw [iota_length]; exact hi
    simp [nth, hl]
  rw [e1, nth_iota hi]

set_option maxHeartbeats 800000 in
theorem heldF_any {v : Value} {n : Nat} {k : Int} {w0 w : World} [Ext w0 w] (hx : IsMark w0 v n k) (hk0 : 0 ≤ k) (hk1 : k ≤ 100000000) :
    Calls Try.prog 33 #[v, .int .i64 k] w fun y w' => y = .returned (.int .i64 (k + (n * 2 : Nat))) ∧ Ext w w' := by
  obtain ⟨a, c, rfl, hn, hcs⟩ := hx
  replace hcs := hid hcs
  go_enter Try.func33, Try.ntmps33
  go_wp2
  go_loopw [1, 5] (fun q i wr => ∃ j : Nat, j ≤ n ∧ i = .int .i64 j ∧ q = .int .i64 (k + (j * 2 : Nat)) ∧ Ext w wr) (fun _ i _ => n - (intOf i).toNat)
  case atStart => exact ⟨0, by omega, rfl, by simp, Ext.refl _⟩
  case round =>
    obtain ⟨j, hj, rfl, rfl, hb⟩ := hrel
    by_cases hlt : j < n
    · go_wp2
      go_loopw [1, 6] (fun q i wi => ∃ p : Nat, p ≤ 2 ∧ i = .int .i64 p ∧ q = .int .i64 (k + (j * 2 + p : Nat)) ∧ Ext w wi) (fun _ i _ => 2 - (intOf i).toNat)
      case atStart => exact ⟨0, by omega, rfl, rfl, hb⟩
      case round =>
        obtain ⟨p, hp, rfl, rfl, hb2⟩ := hrel
        by_cases hlp : p < 2
        · obtain ⟨b, rfl, hc⟩ := hcs.out (j * 2 + p) (by omega)
          have hc2 := (Ext.trans ‹Ext w0 w› hb2).cell hc
          have hjI : (j : Int) < (n : Int) := by omega
          have hne : ((k + (j * 2 + p : Nat) : Int) != (k + (j * 2 + p : Nat) : Int)) = false := by simp
          clear hc
          go_wp2
          go_roundw
          case rel => exact ⟨p + 1, by omega, by go_num, by go_num, hb2⟩
          case measure => simp [intOf]; omega
        · have hp2 : p = 2 := by omega
          subst hp2
          go_wp2
          go_roundw
          case rel => exact ⟨j + 1, by omega, by go_num, by rw [show (j + 1) * 2 = j * 2 + 2 by omega], hb2⟩
          case measure => simp [intOf]; omega
    · have hjn : j = n := by omega
      subst hjn
      go_wp2
      go_ret
      exact ⟨rfl, hb⟩

end Go.Proofs.Ytobfehekjapnhaa
