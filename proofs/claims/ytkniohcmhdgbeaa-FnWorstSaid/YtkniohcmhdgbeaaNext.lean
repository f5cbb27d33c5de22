/- The work function after one more request, as the reference makes it. -/
import Derived.Test.YtkniohcmhdgbeaaWorkP
import Derived.Test.YtkniohcmhdgbeaaSl
import Derived.IntWalk
namespace Go.Proofs.Ytkniohcmhdgbeaa
open Go.RowKit

def nextTo (M S : List (List Int)) (w : List Int) (r t : Nat) : List Int := (List.range t).map fun t => nextAt M S w r t
theorem nextTo_succ (M S : List (List Int)) (w : List Int) (r t : Nat) : nextTo M S w r (t + 1) = nextTo M S w r t ++ [nextAt M S w r t] := by simp [nextTo, List.range_succ]
theorem nextTo_length (M S : List (List Int)) (w : List Int) (r t : Nat) : (nextTo M S w r t).length = t := by simp [nextTo]
theorem nextTo_all (M S : List (List Int)) (w : List Int) (r : Nat) : nextTo M S w r w.length = nextL M S w r := rfl

set_option maxHeartbeats 1600000 in
set_option maxRecDepth 100000 in
theorem l8Next_any {v1 v2 v3 : Value} {M S : List (List Int)} {ws : List Int} {B : Int} {r : Nat} {w0 w : World} [Ext w0 w] (hM : IsRows w0 v1 M) (hS : IsRows w0 v2 S) (hx : IsInts w0 v3 ws) (hp : probB M S = true) (hok : wOk M ws B) (hB : B ≤ 100000) (hr : r < S.length) :
    Calls Try.prog 87 #[.agg #[v1, v2], v3, .int .i64 r] w fun e w' => ∃ d m, e = .returned (.slice d (nextL M S ws r).length m) ∧ Own w' w.heap.size [intRowOf 3 (.slice d (nextL M S ws r).length m) (nextL M S ws r)] ∧ Ext w w' := by
  obtain ⟨a1, c1, rfl, l1⟩ := hM.form
  obtain ⟨a2, c2, rfl, l2⟩ := hS.form
  obtain ⟨a3, c3, rfl, l3⟩ := hx.form
  have hrow := hid (probB_row hp hr).1
  have hsq := hid (tableB_square (probB_table hp))
  have hlen := hid hok.1
  replace hp := hid hp
  replace hok := hid hok
  go_enter Try.func87, Try.ntmps87
  go_upto_region 2 with fail
  generalize hW : (w.alloc (.cells #[.slice a1 M.length c1, .slice a2 S.length c2] 26)).alloc (.cells #[] 3) = W
  have eW : Ext w W := hW ▸ inferInstance
  have x0 : W.cell? ⟨w.heap.size, 0, none⟩ = some (.slice a1 M.length c1) := by subst hW; go_simp
  have x1 : W.cell? ⟨w.heap.size, 1, none⟩ = some (.slice a2 S.length c2) := by subst hW; go_simp
  have hB1 : w.heap.size + 1 ≤ W.heap.size := by subst hW; simp
  have own0 : Own W (w.heap.size + 1) [intRowOf 3 (.slice (some ⟨w.heap.size + 1, 0, none⟩) ([] : List Int).length 0) []] := by
    subst hW
    exact Own.litInts (by simp) (by simp) rfl (by simp) rfl
  clear hW
  go_wp2
  go_loopw [7, 8] (fun v i wr => ∃ t : Nat, t ≤ ws.length ∧ i = .int .i64 t ∧ Own wr (w.heap.size + 1) [intRowOf 3 v (nextTo M S ws r t)] ∧ Below (w.heap.size + 1) W wr) (fun _ i _ => ws.length - (intOf i).toNat)
  case atStart => exact ⟨0, by omega, rfl, own0, Below.refl _ _⟩
  case round =>
    obtain ⟨t, ht, rfl, hown, hb0⟩ := hrel
    obtain ⟨wo, rfl⟩ : ∃ x : World, x = wr := ⟨_, rfl⟩
    obtain ⟨vd, vm, rfl⟩ := hown.formInts
    have hlj : (nextTo M S ws r t).length ≤ ws.length := by rw [nextTo_length]; omega
    have hb : Ext w wo := ⟨eW.below.trans (hb0.mono (by omega))⟩
    have e1 : Ext w0 wo := Ext.trans ‹Ext w0 w› hb
    have y0 : wo.cell? ⟨w.heap.size, 0, none⟩ = some (.slice a1 M.length c1) := (hb0.cell (p := ⟨w.heap.size, 0, none⟩) (by simp)).trans x0
    have y1 : wo.cell? ⟨w.heap.size, 1, none⟩ = some (.slice a2 S.length c2) := (hb0.cell (p := ⟨w.heap.size, 1, none⟩) (by simp)).trans x1
    by_cases hlt : t < ws.length
    · have htM : t < M.length := by have := hlen.out; omega
      have hsucc := hid (nextTo_succ M S ws r t)
      have hA := hid (nextAt_A hp.out hok.out hB hr htM)
      generalize hg : nextTo M S ws r t = nx at *
      replace hg := hid hg
      obtain ⟨b7, o7, d7, m7, rfl, hc7, hr7, _⟩ := hS.at (w' := wo) hr
      rw [hrow.out] at hr7 hc7
      go_wp2
      go_loopw [9, 10] (fun q i wi => ∃ s : Nat, s ≤ ws.length ∧ i = .int .i64 s ∧ q = .int .i64 ((servedTo (row S r) s).foldl (minA (wsum M S ws r t)) (-1)) ∧ Drew wo wi) (fun _ i _ => ws.length - (intOf i).toNat)
      case atStart => exact ⟨0, by omega, rfl, rfl, Drew.refl _⟩
      case round =>
        obtain ⟨s, hs, rfl, rfl, hd⟩ := hrel
        have z0 := hd.ext.cell y0
        have z1 := hd.ext.cell y1
        have z7 := hd.ext.cell hc7
        have e2 : Ext w0 wr := Ext.trans e1 hd.ext
        have hfold := hid (foldServed (minA (wsum M S ws r t)) (-1) (row S r) s)
        by_cases hlts : s < ws.length
        · have hsM : s < M.length := by have := hlen.out; omega
          obtain ⟨b8, o8, rfl, hc8⟩ := hr7.at (w' := wr) (k := s) (by rw [hrow.out]; exact hsM)
          have hc8' : wr.cell? ⟨b8, o8 + s, none⟩ = some (.int .i64 (cell S r s)) := hc8
          clear hc8
          generalize (servedTo (row S r) s).foldl (minA (wsum M S ws r t)) (-1) = g at *
          by_cases hge : 0 ≤ cell S r s
          · have hge' : decide (cell S r s < 0) = false := by simpa using hge
            have hf2 := hid (hfold.out.trans (if_pos hge))
            clear hfold
            obtain ⟨b3, o3, rfl, hc3⟩ := hx.at (w' := wr) hlts
            obtain ⟨b5, o5, d5, m5, rfl, hc5, hr5, _⟩ := hM.at (w' := wr) hsM
            have hl5 := square_row hsq.out hsM
            rw [hl5] at hr5 hc5
            replace hl5 := hid hl5
            obtain ⟨b6, o6, rfl, hc6⟩ := hr5.at (w' := wr) (k := t) (by rw [hl5.out]; exact htM)
            have hc6' : wr.cell? ⟨b6, o6 + t, none⟩ = some (.int .i64 (cell M s t)) := hc6
            clear hc6
            have q1 := hok.out.2 s hsM
            have q2 := probB_serve hp.out hr hsM
            have q3 := probB_move hp.out hsM htM
            have hws := hid (show wsum M S ws r t (s : Int) = nth ws s + cell S r s + cell M s t by simp [wsum])
            have hmin := hid (show minA (wsum M S ws r t) g s = if g < 0 ∨ nth ws s + cell S r s + cell M s t < g then nth ws s + cell S r s + cell M s t else g by rw [minA, hws.out])
            by_cases hg0 : g < 0
            · have hg0' : decide (g < 0) = true := by simpa using hg0
              have hm2 := hid (hmin.out.trans (if_pos (.inl hg0)))
              clear hmin
              go_wp2_with (go_quiet (fail))
              go_roundw
              case rel => exact ⟨s + 1, by omega, by go_num, by rw [hf2.out, hm2.out], hd.step _⟩
              case measure => simp [intOf]; omega
            · have hg0' : decide (g < 0) = false := by simpa using hg0
              by_cases hlg : nth ws s + cell S r s + cell M s t < g
              · have hlg' : decide (nth ws s + cell S r s + cell M s t < g) = true := by simpa using hlg
                have hm2 := hid (hmin.out.trans (if_pos (.inr hlg)))
                clear hmin
                go_wp2_with (go_quiet (fail))
                go_roundw
                case rel => exact ⟨s + 1, by omega, by go_num, by rw [hf2.out, hm2.out], hd.step _⟩
                case measure => simp [intOf]; omega
              · have hlg' : decide (nth ws s + cell S r s + cell M s t < g) = false := by simpa using hlg
                have hm2 := hid (hmin.out.trans (if_neg (by omega)))
                clear hmin
                go_wp2_with (go_quiet (fail))
                go_roundw
                case rel => exact ⟨s + 1, by omega, by go_num, by rw [hf2.out, hm2.out], hd.step _⟩
                case measure => simp [intOf]; omega
          · have hge' : decide (cell S r s < 0) = true := by simp; omega
            have hf2 := hid (hfold.out.trans (if_neg hge))
            clear hfold
            go_wp2
            go_roundw
            case rel => exact ⟨s + 1, by omega, by go_num, by rw [hf2.out], hd⟩
            case measure => simp [intOf]; omega
        · have hsl : s = (row S r).length := by rw [hrow.out, ← hlen.out]; omega
          have hA2 := hid (show (servedTo (row S r) s).foldl (minA (wsum M S ws r t)) (-1) = nextAt M S ws r t by rw [hsl]; exact hA.out)
          rw [hA2.out]
          clear hsl hfold hA
          have ed : Ext wo wr := hd.ext
          replace hown := hown.ext (w' := wr)
          have hb2 : Below (w.heap.size + 1) W wr := hb0.trans (hd.ext.below.mono (by have := hb0.size; omega))
          have hB2 : w.heap.size + 1 ≤ wr.heap.size := by have := hb2.size; omega
          generalize nextAt M S ws r t = na at *
          go_wp2_with (at_builtin; refine wpList_append1 rfl _ _ _ rfl elemInt rfl hown hB2 rfl rfl (by omega) (by omega) ?_; intro v1 w1 ho hb1)
          go_roundw
          case rel => exact ⟨t + 1, by omega, by go_num, by rw [hsucc.out]; exact own_snoc ho rfl, hb2.trans hb1⟩
          case measure => simp [intOf]; omega
    · go_wp2
      go_ret
      have : t = ws.length := by omega
      subst this
      rw [nextTo_all] at hown ⊢
      exact ⟨_, _, rfl, hown.mono (by omega), hb⟩

end Go.Proofs.Ytkniohcmhdgbeaa
