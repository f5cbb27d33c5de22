/- slices.Grow of nothing and slices.Concat: lists of ints laid behind each other. -/
import Derived.Test.YtllfchcocgdcjaaGreatGrA
import Derived.Lib.AppendZerosOnto
namespace Go.Proofs.YtllfchcocgdcjaaGreat
open Go.RowKit Go.Lib

set_option maxHeartbeats 800000 in
set_option maxRecDepth 100000 in
theorem growNil_any {n : Nat} (hn : n ≤ 100000) (w : World) :
    Calls Tryz.prog 72 #[.slice none 0 0, .int .i64 n] w fun e w' => ∃ d m, e = .returned (.slice d 0 m) ∧ Own w' w.heap.size [⟨3, 1, .slice d 0 m, 0, ([] : List Int).map (Value.int .i64)⟩] ∧ Ext w w' := by
  by_cases h0 : n = 0
  · subst h0
    go_enter Tryz.func72, Tryz.ntmps72
    go_wp2
    go_ret
    exact ⟨none, 0, rfl, (Own.nil _ _).cons_nil _ _, Ext.refl _⟩
  · obtain ⟨i0, hi0, hz0, hs0, hb0⟩ := elemInt.info
    have hold : (Builtin.firstCells i0.size 0 (.slice none 0 0)).run Tryz.prog w.drew = .ok ([] : List Value).toArray w.drew := run_firstCells_none w.drew i0.size 0 0 0
    have hrz : ∀ ty, (Builtin.append_ #[27, 3] ty #[.slice none 0 0, .int .i64 n]).run Tryz.prog w =
        .ok (.slice (some ⟨w.heap.size, 0, none⟩) n (grownCap w n 0 3)) (w.drew.alloc (.cells (#[] ++ Builtin.zeroCells (Value.int .i64 0).cells n ++ Builtin.zeroCells (Value.int .i64 0).cells (grownCap w n 0 3 - n)) 3)) := fun ty => by
      have h := Lib.run_append_grow_zeros w 27 3 ty 3 i0 (.int .i64 0) .i64 .i64 (by kernel_rfl) (by kernel_rfl) hi0 hz0 none 0 0 [] hold n (by omega) (by omega) (by omega) (by omega) (by rw [hb0]; omega) (growslice_fits (by omega) (by rw [hb0]; omega))
      rw [Nat.zero_add] at h
      exact h
    have hGn : n ≤ grownCap w n 0 3 := grownCap_ge w _ _ _
    have hGm := grownCap_le_maxLen w n 0 3 (by unfold maxLen; omega)
    obtain ⟨G, hG⟩ : ∃ G, G = grownCap w n 0 3 := ⟨_, rfl⟩
    rw [← hG] at hrz hGn hGm
    have hG63 : G ≤ 9223372036854775807 := by unfold maxLen at hGm; omega
    obtain ⟨cs, hcs⟩ : ∃ cs, cs = (#[] ++ Builtin.zeroCells (Value.int .i64 0).cells n ++ Builtin.zeroCells (Value.int .i64 0).cells (G - n) : Array Value) := ⟨_, rfl⟩
    rw [← hcs] at hrz
    have hsz : cs.size = G * 1 := by
      rw [hcs]
      simp [Builtin.zeroCells, Value.cells]
      omega
    have own : Own (w.drew.alloc (.cells cs 3)) w.heap.size [⟨3, 1, .slice (some ⟨w.heap.size, 0, none⟩) 0 G, 0, ([] : List Int).map (Value.int .i64)⟩] := by
      refine ⟨fun r hr => ?_, List.pairwise_singleton _ _⟩
      rw [List.mem_singleton.1 hr]
      refine ⟨rfl, .inr ⟨w.heap.size, G, cs, rfl, Nat.le_refl _, ?_, Nat.zero_le _, hGm, hsz, by simp⟩⟩
      have h : (w.drew.alloc (.cells cs 3)).heap = w.heap.push (.cells cs 3) := rfl
      rw [h]
      simp
    have eE : Ext w (w.drew.alloc (.cells cs 3)) := inferInstance
    have h1 : ¬ ((n : Int) < 0) := by omega
    have h4 : decide ((n : Int) > 0) = true := by simp; omega
    clear hold hG hcs hsz
    replace hGm := hid hGm
    go_enter Tryz.func72, Tryz.ntmps72
    go_wp2_with (at_builtin; refine Lib.wpList_append_run _ rfl _ _ _ _ rfl _ _ rfl rfl _ _ (hrz _) ?_)
    go_ret
    exact ⟨_, _, rfl, own, eE⟩

theorem sumLen_flat : ∀ L : List (List Int), L.flatten.length = sumLen L
  | [] => rfl
  | r :: L => by rw [List.flatten_cons, List.length_append, sumLen_flat L, sumLen]
theorem flat_take {L : List (List Int)} {k : Nat} (h : k < L.length) : (L.take (k + 1)).flatten = (L.take k).flatten ++ row L k := by
  rw [take_succ_row h, List.flatten_append]
  simp

set_option maxHeartbeats 800000 in
set_option maxRecDepth 100000 in
theorem concat_any {v : Value} {L : List (List Int)} {w0 w : World} [Ext w0 w] (hL : IsRows w0 v L) (hs : sumLen L ≤ 100000) :
    Calls Tryz.prog 41 #[v] w fun e w' => ∃ d m, e = .returned (.slice d L.flatten.length m) ∧ Own w' w.heap.size [intRowOf 3 (.slice d L.flatten.length m) L.flatten] ∧ Ext w w' := by
  have hL' := hL
  obtain ⟨da, ma, rfl, la⟩ := hL.form
  have hall := hid (sumLen_flat L)
  go_enter Tryz.func41, Tryz.ntmps41
  go_wp2_with fail
  go_loopw [3, 11] (fun s i wr => ∃ k : Nat, k ≤ L.length ∧ i = .int .i64 k ∧ s = .int .i64 (sumLen (L.take k)) ∧ Ext w wr) (fun _ i _ => L.length - (intOf i).toNat)
  case atStart => exact ⟨0, by omega, rfl, by simp [sumLen], Ext.refl _⟩
  case round =>
    obtain ⟨k, hk, rfl, rfl, he⟩ := hrel
    obtain ⟨wo, rfl⟩ : ∃ y : World, y = wr := ⟨_, rfl⟩
    have e0 : Ext w0 wo := Ext.trans ‹Ext w0 w› he
    have hle := sumLen_take_le L k
    by_cases hlt : k < L.length
    · obtain ⟨b, o, d, m, hda, hc, hi, hl⟩ := hL'.at (w' := wo) hlt
      cases hda
      have hst := hid (sumLen_take hlt)
      have hrl := sumLen_row_le hlt
      obtain ⟨S, hS⟩ : ∃ s, s = sumLen (L.take k) := ⟨_, rfl⟩
      obtain ⟨r, hr⟩ : ∃ r, r = row L k := ⟨_, rfl⟩
      rw [← hS] at hle ⊢
      rw [← hr] at hc hi hl hrl
      have hst2 := hid (show sumLen (L.take (k + 1)) = S + r.length by rw [hst.out, ← hS, ← hr])
      have hneg : decide ((S : Int) + (r.length : Int) < 0) = false := decide_eq_false (by omega)
      replace hS := hid hS
      replace hr := hid hr
      clear hst
      go_wp2_with fail
      go_roundw
      case rel => exact ⟨k + 1, by omega, by go_num, by rw [hst2.out]; go_num, he⟩
      case measure => simp [intOf]; omega
    · have hkl : k = L.length := by omega
      have hsum : sumLen (L.take k) = sumLen L := by rw [hkl, List.take_length]
      rw [hsum]
      replace hsum := hid hsum
      replace hkl := hid hkl
      clear hle
      go_wp2_with fail
      with_reducible refine (growNil_any hs wo).mono ?_
      rintro e w1 ⟨d1, m1, rfl, own1, e1⟩
      obtain ⟨B, hB⟩ : ∃ b, b = w.heap.size := ⟨_, rfl⟩
      have own2 : Own w1 B [⟨3, 1, .slice d1 0 m1, 0, ((L.take 0).flatten).map (Value.int .i64)⟩] := own1.mono (by rw [hB]; exact he.size)
      have b1 : Below B w w1 := by rw [hB]; exact (Ext.trans he e1).below
      have hEx := hid (show ∀ u, Below B w u → Ext w u from fun u h => ⟨by rw [← hB]; exact h⟩)
      have hBs := hid (show ∀ u, Below B w u → B ≤ u.heap.size from fun u h => by rw [hB]; exact h.size)
      have hBo := hid (show ∀ u, Own u B [intRowOf 3 (.slice none 0 0) []] → True from fun _ _ => trivial)
      clear hBo own1
      go_wp2_with fail
      go_loopw [6, 27] (fun u i wr => ∃ k : Nat, k ≤ L.length ∧ i = .int .i64 k ∧ (∃ n : Nat, Hid (n = sumLen (L.take k)) ∧ Own wr B [⟨3, 1, u, n, ((L.take k).flatten).map (Value.int .i64)⟩]) ∧ Below B w wr) (fun _ i _ => L.length - (intOf i).toNat)
      case atStart => exact ⟨0, by omega, rfl, ⟨0, by simp [Hid, sumLen], own2⟩, b1⟩
      case round =>
        clear own2 b1
        obtain ⟨j, hj, rfl, ⟨n, hn, own⟩, hb⟩ := hrel
        obtain ⟨wq, rfl⟩ : ∃ y : World, y = wr := ⟨_, rfl⟩
        have eq : Ext w wq := hEx.out _ hb
        have e0q : Ext w0 wq := Ext.trans ‹Ext w0 w› eq
        have hle := sumLen_take_le L j
        rw [← hn.out] at hle
        obtain ⟨dO, mO, hvO⟩ := own.form
        simp only at hvO
        subst hvO
        by_cases hlt : j < L.length
        · obtain ⟨b, o, d, m, hda, hc, hi, hl⟩ := hL'.at (w' := wq) hlt
          cases hda
          have hst := sumLen_take hlt
          have hft := hid (flat_take hlt)
          have hrl := sumLen_row_le hlt
          obtain ⟨r, hr⟩ : ∃ r, r = row L j := ⟨_, rfl⟩
          rw [← hr] at hc hi hl hrl hst
          have hn2 := hid (show n + r.length = sumLen (L.take (j + 1)) by rw [hst, hn.out])
          have hft2 := hid (show (L.take (j + 1)).flatten = (L.take j).flatten ++ r by rw [hft.out, hr])
          replace hr := hid hr
          have hBq := hBs.out _ hb
          have hi2 := hi.ext (w' := wq)
          clear hst hft
          go_wp2_with (at_builtin; refine wpList_appendInts rfl _ _ _ rfl elemInt rfl own hBq rfl hi2 (by omega) ?_; intro v1 w5 ho hb1)
          go_roundw
          case rel => exact ⟨j + 1, by omega, by go_num, ⟨n + r.length, hn2, by rw [hft2.out, List.map_append]; exact ho⟩, hb.trans hb1⟩
          case measure => simp [intOf]; omega
        · have hjl : j = L.length := by omega
          have hfl : (L.take j).flatten = L.flatten := by rw [hjl, List.take_length]
          have hnn := hid (show n = L.flatten.length by rw [hn.out, hjl, List.take_length, hall.out])
          rw [hfl] at own
          replace hjl := hid hjl
          replace hfl := hid hfl
          go_wp2_with fail
          go_ret
          refine ⟨dO, mO, by rw [← hnn.out]; rfl, ?_, hEx.out _ hb⟩
          rw [← hB]
          unfold intRowOf
          rw [← hnn.out]
          exact own
end Go.Proofs.YtllfchcocgdcjaaGreat
