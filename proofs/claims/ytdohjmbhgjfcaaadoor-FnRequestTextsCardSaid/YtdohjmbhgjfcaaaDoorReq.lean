/- A sequence of requests that a draw makes. -/
import Derived.Test.YtdohjmbhgjfcaaaDoorLine
import Derived.Test.YtdohjmbhgjfcaaaDoorSl
import Derived.Test.YtdohjmbhgjfcaaaDoorStep
namespace Go.Proofs.YtdohjmbhgjfcaaaDoor
open Go.RowKit

theorem CurAt.low {w : World} {B c : Nat} {vc : Value} {a : Int} {R : List Row} (h : CurAt w B c vc a R) : B ≤ w.heap.size := by
  obtain ⟨s, h⟩ := h
  have := ow_lt h
  omega

theorem bd_snoc {X : List Int} {l h y : Int} (hX : ∀ x ∈ X, l ≤ x ∧ x ≤ h) (hy : l ≤ y ∧ y ≤ h) : ∀ x ∈ X ++ [y], l ≤ x ∧ x ≤ h := fun x hx => by
  rcases List.mem_append.1 hx with h1 | h1
  · exact hX x h1
  · rw [List.mem_singleton.1 h1]; exact hy
theorem bd_set {X : List Int} {l h y : Int} {j : Nat} (hX : ∀ x ∈ X, l ≤ x ∧ x ≤ h) (hy : l ≤ y ∧ y ≤ h) : ∀ x ∈ X.set j y, l ≤ x ∧ x ≤ h := fun x hx => by
  rcases List.mem_or_eq_of_mem_set hx with h1 | h1
  · exact hX x h1
  · rw [h1]; exact hy
/-- the cursor behind a list that grows -/
def RqAt (w : World) (B c : Nat) (vc : Value) (a : Int) (v : Value) (X : List Int) (R : List Row) : Prop := ∃ s, Own w B (intRowOf 3 v X :: curRow c vc a s :: R)
theorem RqAt.of {w : World} {B c : Nat} {vc : Value} {a : Int} {v : Value} {X : List Int} {R : List Row} (h : CurAt w B c vc a (intRowOf 3 v X :: R)) : ∃ s, Own w B (intRowOf 3 v X :: curRow c vc a s :: R) := by
  obtain ⟨s, h⟩ := h
  exact ⟨s, h.perm (List.Perm.swap _ _ _)⟩
theorem cur_back {w : World} {B c : Nat} {vc : Value} {a s : Int} {r : Row} {R : List Row} (h : Own w B (r :: curRow c vc a s :: R)) : CurAt w B c vc a (r :: R) := ⟨s, h.perm (List.Perm.swap _ _ _)⟩
theorem emod_in {x m : Int} (_hx : 0 ≤ x) (hm : 1 ≤ m) : 0 ≤ x % m ∧ x % m ≤ m - 1 := by
  have h1 := Int.emod_nonneg x (show m ≠ 0 by omega)
  have h2 := Int.emod_lt_of_pos x (show 0 < m by omega)
  omega

set_option maxHeartbeats 3200000 in
set_option maxRecDepth 100000 in
theorem requests_any {w0 w : World} [Ext w0 w] {vc : Value} {nb : Nat} (hc : IsBytes w0 vc nb) {B c : Nat} {a : Int} {R : List Row} (own : CurAt w B c vc a R) (hwB : w0.heap.size ≤ B) (ha : 0 ≤ a) (ha2 : a ≤ 2000000) {n : Int} (hn : -10 ≤ n ∧ n ≤ 1000) :
    Calls Tryd.prog 89 #[.pointer (some ⟨c, 0, none⟩), .int .i64 n] w fun e w' => ∃ v X a', e = .returned v ∧ X.length ≤ 100 ∧ (∀ x ∈ X, -10 ≤ x ∧ x ≤ 1000) ∧ a ≤ a' ∧ a' ≤ a + 1000 ∧ CurAt w' B c vc a' (intRowOf 3 v X :: R) ∧ Below B w w' := by
  have hBw := own.low
  have hE : ∀ u, Below B w u → Ext w0 u := fun u h => ⟨(‹Ext w0 w›).below.trans (h.mono hwB)⟩
  replace hE := hid hE
  go_enter Tryd.func89, Tryd.ntmps89
  have own2 := own.lit (e := 3) (n := 0) (cs := #[]) [] own.low rfl rfl (by simp)
  have b2 : Below B w (w.alloc (.cells #[] 3)) := (Below.refl B w).alloc hBw _
  go_wp2_with fail
  refine (l1Least_any _ _ _).mono ?_
  rintro e w1 ⟨rfl, rfl⟩
  go_wp2_with fail
  refine (l1Most_any _ _ _).mono ?_
  rintro e w1 ⟨rfl, rfl⟩
  obtain ⟨m, hm⟩ : ∃ m, m = max 1 (minB id n 8) := ⟨_, rfl⟩
  have hmb : 1 ≤ m ∧ m ≤ 8 := by
    have h : minB id n 8 = if (8 : Int) < n then 8 else n := rfl
    rw [h] at hm
    split at hm <;> omega
  rw [← hm]
  replace hm := hid hm
  go_upto_region 2 with fail
  generalize w.alloc (.cells #[] 3) = w2 at *
  generalize w.heap.size = gl at *
  clear own
  have e2 : Ext w0 w2 := hE.out _ b2
  go_wp2_with fail
  refine (among_any (w0 := w0) hc (own2.lit [6, 9, 12, 4, 16, 2, 24, 1, 0] own2.low rfl rfl (by decide)) hwB (by omega) (by omega) (by decide) (by decide)).mono ?_
  rintro e w3 ⟨len, a3, rfl, hlen, h31, h32, own3, b3⟩
  have own3' := own3.drop
  have b3' : Below B w w3 := b2.trans (((Below.refl B w2).alloc own2.low _).trans b3)
  have hln : 0 ≤ len ∧ len ≤ 24 := by simp at hlen; omega
  obtain ⟨len, rfl⟩ := Int.eq_ofNat_of_zero_le hln.1
  have e3 : Ext w0 w3 := hE.out _ b3'
  clear own3 own2 b2 b3 e2 hlen
  go_wp2_with fail
  refine (pick_any (w0 := w0) hc own3' hwB (by omega) (by omega)).mono ?_
  rintro e w4 ⟨near, a4, rfl, hn0, hn1, hn2, h41, h42, own4, b4⟩
  have b4' := b3'.trans b4
  have hn3 := hn2 (by omega)
  clear own3' b3' b4 hn2 e3
  go_wp2_with fail
  go_loopw [5] (fun v wr => ∃ X ax, X.length ≤ 24 ∧ (∀ x ∈ X, 0 ≤ x ∧ x ≤ m - 1) ∧ a ≤ ax ∧ ax ≤ a + 4 + 6 * X.length ∧ Below B w wr ∧ CurAt wr B c vc ax (intRowOf 3 v X :: R)) (fun v _ => 100 - (match v with | .slice _ n _ => n | _ => 0))
  case atStart => exact ⟨[], a4, by simp, by simp, by omega, by simp; omega, b4', own4⟩
  case round =>
    clear own4 b4'
    obtain ⟨X, ax, hXl, hXb, hax1, hax2, bq, ownq⟩ := hrel
    obtain ⟨wq, rfl⟩ : ∃ y : World, y = wr := ⟨_, rfl⟩
    obtain ⟨vd, vm, rfl⟩ := ow_ints ownq.rows
    have eq : Ext w0 wq := hE.out _ bq
    by_cases hlt : X.length < len
    · have hg : decide (X.length < len) = true := decide_eq_true hlt
      by_cases h0 : near = 0 ∧ 0 < X.length
      · obtain ⟨rfl, hX0⟩ := h0
        have g1 : decide (X.length > 0) = true := decide_eq_true hX0
        have g2 : ((0 : Int) == 0) = true := rfl
        obtain ⟨s, hown⟩ := RqAt.of ownq
        obtain ⟨g, rfl⟩ := hown.at (j := 0) hX0
        obtain ⟨L1, hL1⟩ : ∃ L1, X.length = L1 + 1 := ⟨X.length - 1, by omega⟩
        have hc1 : wq.cell? ⟨g, L1, none⟩ = some (.int .i64 (nth X L1)) := by
          rw [hown.cellAt (w' := wq) (j := L1) (by omega)]; simp [nth, show L1 < X.length by omega]
        have hlb := hXb _ (nth_mem (xs := X) (k := L1) (by omega))
        obtain ⟨z, hz⟩ : ∃ z, z = nth X L1 := ⟨_, rfl⟩
        rw [← hz] at hc1 hlb
        have hcell := hid (show ∀ u av, CurAt u B c vc av (intRowOf 3 (.slice (some ⟨g, 0, none⟩) X.length vm) X :: R) → u.cell? ⟨g, L1, none⟩ = some (.int .i64 z) from fun u av h => by
          obtain ⟨s, h⟩ := RqAt.of h
          rw [h.cellAt (w' := u) (j := L1) (by omega), hz]; simp [nth, show L1 < X.length by omega])
        have hcell2 := hid (show ∀ u d n7 m7 (y : Int) (A : List Row), Own u B (intRowOf 3 (.slice d n7 m7) (X ++ [y]) :: A) → True from fun _ _ _ _ _ _ _ => trivial)
        replace hz := hid hz
        have hidx : (X.length : Int) - 1 = (L1 : Int) := by omega
        have hL1X : L1 < X.length := by omega
        have hw1 : IntKind.i64.wrap ((X.length : Int) - 1) = (L1 : Int) := by rw [IntWalk.i64_in _ (by omega)]; omega
        replace hL1 := hid hL1
        replace hidx := hid hidx
        replace hw1 := hid hw1
        clear hown
        go_upto_region 7 with fail
        refine region_held_from (w0 := wq) (S := fun _ => True) (by kernel_rfl) (fun _ _ => trivial) (fun wd ed hHeld0 => ?_)
        have ownd := ownq.ext (w' := wd)
        have hBq := ownq.low
        have bd : Below B w wd := bq.trans (ed.below.mono hBq)
        have hcd0 := ed.cell hc1
        have ed0 : Ext w0 wd := Ext.trans eq ed
        refine wpAnyH_take (i := 0) (v := .slice (some ⟨g, 0, none⟩) X.length vm) rfl (by kernel_rfl) (by kernel_rfl) (by kernel_rfl) (fun _ _ _ h => h) (Or.inl ⟨by rfl, by intro wx hx; go_simp⟩) (by assumption) ?_
        try simp only [List.getElem_toArray, List.getElem_cons_zero, Act.put, List.setIfInBounds_toArray, List.set_cons_zero, List.set_cons_succ]
        refine wpAnyH_take (i := 1) (v := .slice (some ⟨g, 0, none⟩) X.length vm) rfl (by kernel_rfl) (by kernel_rfl) (by kernel_rfl) (fun _ _ _ h => h) (Or.inl ⟨by rfl, by intro wx hx; go_simp⟩) (by assumption) ?_
        try simp only [List.getElem_toArray, List.getElem_cons_succ, List.getElem_cons_zero, Act.put, List.setIfInBounds_toArray, List.set_cons_zero, List.set_cons_succ]
        refine wpAnyH_take (i := 2) (v := .slice (some ⟨g, 0, none⟩) X.length vm) rfl (by kernel_rfl) (by kernel_rfl) (by kernel_rfl) (fun _ _ _ h => h) (Or.inl ⟨by rfl, by intro wx hx; go_simp⟩) (by assumption) ?_
        try simp only [List.getElem_toArray, List.getElem_cons_succ, List.getElem_cons_zero, Act.put, List.setIfInBounds_toArray, List.set_cons_zero, List.set_cons_succ]
        refine wpAnyH_take (i := 3) (v := .int .i64 X.length) rfl (by kernel_rfl) (by kernel_rfl) (by kernel_rfl) (fun _ _ _ h => h) (Or.inl ⟨by rfl, by intro wx hx; go_simp⟩) (by assumption) ?_
        try simp only [List.getElem_toArray, List.getElem_cons_succ, List.getElem_cons_zero, Act.put, List.setIfInBounds_toArray, List.set_cons_zero, List.set_cons_succ]
        refine wpAnyH_take (i := 4) (v := .int .i64 L1) rfl (by kernel_rfl) (by kernel_rfl) (by kernel_rfl) (fun _ _ _ h => h) (Or.inl ⟨by rfl, by intro wx hx; (go_simp; exact hw1.out)⟩) (by assumption) ?_
        try simp only [List.getElem_toArray, List.getElem_cons_succ, List.getElem_cons_zero, Act.put, List.setIfInBounds_toArray, List.set_cons_zero, List.set_cons_succ]
        refine wpAnyH_take (i := 5) (v := .pointer (some ⟨g, L1, none⟩)) rfl (by kernel_rfl) (by kernel_rfl) (by kernel_rfl) (fun _ _ _ h => h) (Or.inl ⟨by rfl, by intro wx hx; go_simp⟩) (by assumption) ?_
        try simp only [List.getElem_toArray, List.getElem_cons_succ, List.getElem_cons_zero, Act.put, List.setIfInBounds_toArray, List.set_cons_zero, List.set_cons_succ]
        refine wpAnyH_take (i := 7) (v := .pointer (some ⟨c, 0, none⟩)) rfl (by kernel_rfl) (by kernel_rfl) (by kernel_rfl) (fun _ _ _ h => h) (Or.inl ⟨by rfl, by intro wx hx; go_simp⟩) (by assumption) ?_
        try simp only [List.getElem_toArray, List.getElem_cons_succ, List.getElem_cons_zero, Act.put, List.setIfInBounds_toArray, List.set_cons_zero, List.set_cons_succ]
        refine wpAnyH_take (i := 10) (v := .int .i64 m) rfl (by kernel_rfl) (by kernel_rfl) (by kernel_rfl) (fun _ _ _ h => h) (Or.inl ⟨by rfl, by intro wx hx; go_simp⟩) (by assumption) ?_
        try simp only [List.getElem_toArray, List.getElem_cons_succ, List.getElem_cons_zero, Act.put, List.setIfInBounds_toArray, List.set_cons_zero, List.set_cons_succ]
        refine wpAnyH_ready (rs := [6, 8]) (by kernel_rfl) (by simp) ?_
        refine AllReadyH.cons rfl (fun K hK => ?_) (AllReadyH.cons rfl (fun K hK => ?_) AllReadyH.nil)
        · go_simp
          refine hK.out _ _ trivial (fun _ => ?_)
          clear hK K
          try simp only [List.getElem_toArray, List.getElem_cons_succ, List.getElem_cons_zero, Act.put, List.setIfInBounds_toArray, List.set_cons_zero, List.set_cons_succ]
          refine wpAnyH_ready (rs := [8]) (by kernel_rfl) (by simp) ?_
          refine AllReadyH.cons rfl (fun K hK => ?_) AllReadyH.nil
          go_simp
          go_at_call 62
          refine (pick_any (w0 := w0) hc ownd hwB (by omega) (by omega)).mono ?_
          rintro e w5 ⟨x, a5, rfl, hx0, hx1, hx2, h51, h52, own5, b5⟩
          go_wp2_with fail
          refine hK.out _ _ trivial (fun _ => ?_)
          clear hK K
          try simp only [List.getElem_toArray, List.getElem_cons_succ, List.getElem_cons_zero, Act.put, List.setIfInBounds_toArray, List.set_cons_zero, List.set_cons_succ]
          have hx3 := hx2 (by omega)
          have b5' := bd.trans b5
          have hmo := emod_in (x := z + x) (m := m) (by omega) hmb.1
          refine wpAnyH_take (i := 9) (v := .int .i64 (z + x)) rfl (by kernel_rfl) (by kernel_rfl) (by kernel_rfl) (fun _ _ _ h => h) (Or.inl ⟨by rfl, by intro wx hx; (go_simp; exact IntWalk.i64_in _ (by omega))⟩) (by assumption) ?_
          try simp only [List.getElem_toArray, List.getElem_cons_succ, List.getElem_cons_zero, Act.put, List.setIfInBounds_toArray, List.set_cons_zero, List.set_cons_succ]
          refine wpAnyH_take (i := 11) (v := .int .i64 ((z + x) % m)) rfl (by kernel_rfl) (by kernel_rfl) (by kernel_rfl) (fun _ _ _ h => h) (Or.inl ⟨by rfl, by intro wx hx; (go_simp; rw [if_neg (by omega), Int.tmod_eq_emod_of_nonneg (by omega)])⟩) (by assumption) ?_
          try simp only [List.getElem_toArray, List.getElem_cons_succ, List.getElem_cons_zero, Act.put, List.setIfInBounds_toArray, List.set_cons_zero, List.set_cons_succ]
          obtain ⟨y, hy⟩ : ∃ y, y = (z + x) % m := ⟨_, rfl⟩
          rw [← hy] at hmo ⊢
          replace hy := hid hy
          obtain ⟨s5, h5⟩ := RqAt.of own5
          have hB5 := own5.low
          have oL := h5.lit 3 1 1 #[.int .i64 y] hB5 (by unfold maxLen; omega) rfl
          have b6 : Below B w (w5.alloc (.cells #[.int .i64 y] 3)) := b5'.alloc hB5 _
          have hB6 : B ≤ (w5.alloc (.cells #[.int .i64 y] 3)).heap.size := by simp; omega
          refine wpAnyH_ready (rs := [12]) (by kernel_rfl) (by simp) ?_
          refine AllReadyH.cons rfl (fun K hK => ?_) AllReadyH.nil
          go_simp
          refine hK.out _ _ trivial (fun _ => ?_)
          clear hK K
          try simp only [List.getElem_toArray, List.getElem_cons_succ, List.getElem_cons_zero, Act.put, List.setIfInBounds_toArray, List.set_cons_zero, List.set_cons_succ]
          generalize w5.alloc (.cells #[.int .i64 y] 3) = w6 at *
          generalize w5.heap.size = gy at *
          have o6 := oL.perm (List.Perm.swap _ _ _)
          refine wpAnyH_ready (rs := [13]) (by kernel_rfl) (by simp) ?_
          refine AllReadyH.cons rfl (fun K hK => ?_) AllReadyH.nil
          have c6 : w6.cell? ⟨gy, 0, none⟩ = some (.int .i64 y) := by
            have h := o6.tail.head.cellAt 0 (show 0 < 1 * 1 by omega)
            simpa using h
          refine stp_one rfl (.tmp 36) (.tmp 48) 41 rfl elemInt rfl o6 hB6 (us := [.int .i64 y]) rfl rfl ?_ (by intro u hu; simp at hu; subst hu; rfl) (by omega) (by omega) ?_
          · intro jj u hj
            match jj, hj with
            | 0, hj => simp at hj; subst hj; exact c6
          intro v7 w7 ho7 hb7
          have o7 := own_grow1 ho7 rfl
          have b7 := b6.trans hb7
          obtain ⟨d7, n7, m7, hv7, hn7⟩ := own_formN o7
          subst hv7
          have own7 := cur_back (o7.sub (List.Sublist.cons_cons _ (List.sublist_cons_self _ _)))
          refine hK.out _ _ trivial (fun _ => ?_)
          clear hK K
          try simp only [List.getElem_toArray, List.getElem_cons_succ, List.getElem_cons_zero, Act.put, List.setIfInBounds_toArray, List.set_cons_zero, List.set_cons_succ]
          refine wpAnyH_take (i := 14) (v := .slice d7 n7 m7) rfl (by kernel_rfl) (by kernel_rfl) (by kernel_rfl) (fun _ _ _ h => h) (Or.inl ⟨by rfl, by intro wx hx; go_simp⟩) (by assumption) ?_
          try simp only [List.getElem_toArray, List.getElem_cons_succ, List.getElem_cons_zero, Act.put, List.setIfInBounds_toArray, List.set_cons_zero, List.set_cons_succ]
          refine wpAnyH_done (by kernel_rfl) ?_ _
          go_wp2_with fail
          go_roundw
          case rel => exact ⟨X ++ [y], a5, by simp; omega, bd_snoc hXb hmo, by omega, by simp; omega, b7, own7⟩
          case measure => have := hn7.out; simp at this ⊢; omega
        · go_simp
          go_at_call 62
          refine (pick_any (w0 := w0) hc ownd hwB (by omega) (by omega)).mono ?_
          rintro e w5 ⟨x, a5, rfl, hx0, hx1, hx2, h51, h52, own5, b5⟩
          have hcd := hcell.out _ _ own5
          go_wp2_with fail
          refine hK.out _ _ trivial (fun _ => ?_)
          clear hK K
          try simp only [List.getElem_toArray, List.getElem_cons_succ, List.getElem_cons_zero, Act.put, List.setIfInBounds_toArray, List.set_cons_zero, List.set_cons_succ]
          refine wpAnyH_ready (rs := [6]) (by kernel_rfl) (by simp) ?_
          refine AllReadyH.cons rfl (fun K hK => ?_) AllReadyH.nil
          go_simp
          refine hK.out _ _ trivial (fun _ => ?_)
          clear hK K
          try simp only [List.getElem_toArray, List.getElem_cons_succ, List.getElem_cons_zero, Act.put, List.setIfInBounds_toArray, List.set_cons_zero, List.set_cons_succ]
          have hx3 := hx2 (by omega)
          have b5' := bd.trans b5
          have hmo := emod_in (x := z + x) (m := m) (by omega) hmb.1
          refine wpAnyH_take (i := 9) (v := .int .i64 (z + x)) rfl (by kernel_rfl) (by kernel_rfl) (by kernel_rfl) (fun _ _ _ h => h) (Or.inl ⟨by rfl, by intro wx hx; (go_simp; exact IntWalk.i64_in _ (by omega))⟩) (by assumption) ?_
          try simp only [List.getElem_toArray, List.getElem_cons_succ, List.getElem_cons_zero, Act.put, List.setIfInBounds_toArray, List.set_cons_zero, List.set_cons_succ]
          refine wpAnyH_take (i := 11) (v := .int .i64 ((z + x) % m)) rfl (by kernel_rfl) (by kernel_rfl) (by kernel_rfl) (fun _ _ _ h => h) (Or.inl ⟨by rfl, by intro wx hx; (go_simp; rw [if_neg (by omega), Int.tmod_eq_emod_of_nonneg (by omega)])⟩) (by assumption) ?_
          try simp only [List.getElem_toArray, List.getElem_cons_succ, List.getElem_cons_zero, Act.put, List.setIfInBounds_toArray, List.set_cons_zero, List.set_cons_succ]
          obtain ⟨y, hy⟩ : ∃ y, y = (z + x) % m := ⟨_, rfl⟩
          rw [← hy] at hmo ⊢
          replace hy := hid hy
          obtain ⟨s5, h5⟩ := RqAt.of own5
          have hB5 := own5.low
          have oL := h5.lit 3 1 1 #[.int .i64 y] hB5 (by unfold maxLen; omega) rfl
          have b6 : Below B w (w5.alloc (.cells #[.int .i64 y] 3)) := b5'.alloc hB5 _
          have hB6 : B ≤ (w5.alloc (.cells #[.int .i64 y] 3)).heap.size := by simp; omega
          refine wpAnyH_ready (rs := [12]) (by kernel_rfl) (by simp) ?_
          refine AllReadyH.cons rfl (fun K hK => ?_) AllReadyH.nil
          go_simp
          refine hK.out _ _ trivial (fun _ => ?_)
          clear hK K
          try simp only [List.getElem_toArray, List.getElem_cons_succ, List.getElem_cons_zero, Act.put, List.setIfInBounds_toArray, List.set_cons_zero, List.set_cons_succ]
          generalize w5.alloc (.cells #[.int .i64 y] 3) = w6 at *
          generalize w5.heap.size = gy at *
          have o6 := oL.perm (List.Perm.swap _ _ _)
          refine wpAnyH_ready (rs := [13]) (by kernel_rfl) (by simp) ?_
          refine AllReadyH.cons rfl (fun K hK => ?_) AllReadyH.nil
          have c6 : w6.cell? ⟨gy, 0, none⟩ = some (.int .i64 y) := by
            have h := o6.tail.head.cellAt 0 (show 0 < 1 * 1 by omega)
            simpa using h
          refine stp_one rfl (.tmp 36) (.tmp 48) 41 rfl elemInt rfl o6 hB6 (us := [.int .i64 y]) rfl rfl ?_ (by intro u hu; simp at hu; subst hu; rfl) (by omega) (by omega) ?_
          · intro jj u hj
            match jj, hj with
            | 0, hj => simp at hj; subst hj; exact c6
          intro v7 w7 ho7 hb7
          have o7 := own_grow1 ho7 rfl
          have b7 := b6.trans hb7
          obtain ⟨d7, n7, m7, hv7, hn7⟩ := own_formN o7
          subst hv7
          have own7 := cur_back (o7.sub (List.Sublist.cons_cons _ (List.sublist_cons_self _ _)))
          refine hK.out _ _ trivial (fun _ => ?_)
          clear hK K
          try simp only [List.getElem_toArray, List.getElem_cons_succ, List.getElem_cons_zero, Act.put, List.setIfInBounds_toArray, List.set_cons_zero, List.set_cons_succ]
          refine wpAnyH_take (i := 14) (v := .slice d7 n7 m7) rfl (by kernel_rfl) (by kernel_rfl) (by kernel_rfl) (fun _ _ _ h => h) (Or.inl ⟨by rfl, by intro wx hx; go_simp⟩) (by assumption) ?_
          try simp only [List.getElem_toArray, List.getElem_cons_succ, List.getElem_cons_zero, Act.put, List.setIfInBounds_toArray, List.set_cons_zero, List.set_cons_succ]
          refine wpAnyH_done (by kernel_rfl) ?_ _
          go_wp2_with fail
          go_roundw
          case rel => exact ⟨X ++ [y], a5, by simp; omega, bd_snoc hXb hmo, by omega, by simp; omega, b7, own7⟩
          case measure => have := hn7.out; simp at this ⊢; omega
      · by_cases h1 : near = 1 ∧ 2 < X.length
        · obtain ⟨rfl, hX2⟩ := h1
          have g1 : decide (X.length > 2) = true := decide_eq_true hX2
          have g2 : ((1 : Int) == 0) = false := rfl
          have g3 : ((1 : Int) == 1) = true := rfl
          replace h0 := hid h0
          go_wp2_with fail
          refine (pick_any (w0 := w0) hc ownq hwB (by omega) (by omega)).mono ?_
          rintro e w5 ⟨x, a5, rfl, hx0, hx1, hx2, h51, h52, own5, b5⟩
          have hx3 := hx2 (by omega)
          have b5' := bq.trans b5
          have hB5 := own5.low
          obtain ⟨s5, h5⟩ := RqAt.of own5
          obtain ⟨q, hq⟩ := Int.eq_ofNat_of_zero_le (show 0 ≤ (X.length : Int) - 1 - x by omega)
          have hqX : q < X.length := by omega
          obtain ⟨g, rfl⟩ := h5.at (j := 0) (by omega)
          have hcq : w5.cell? ⟨g, q, none⟩ = some (.int .i64 (nth X q)) := by
            rw [h5.cellAt (w' := w5) hqX]; simp [nth, hqX]
          have hyb := hXb _ (nth_mem hqX)
          obtain ⟨y, hy⟩ : ∃ y, y = nth X q := ⟨_, rfl⟩
          rw [← hy] at hcq hyb
          replace hy := hid hy
          clear ownq own5 bq b5 eq hx2
          go_wp2_with (at_builtin; refine wpList_append1 rfl _ _ _ rfl elemInt rfl h5 hB5 rfl rfl (by omega) (by omega) ?_; intro v7 w7 ho7 hb7; obtain ⟨d7, m7, hv7⟩ := ho7.form; (obtain rfl : v7 = .slice d7 (X.length + 1) m7 := hv7))
          have hXy := bd_snoc hXb hyb
          have b7 := b5'.trans hb7
          have e7 : Ext w0 w7 := hE.out _ b7
          have own7 : CurAt w7 B c vc a5 (⟨3, 1, .slice d7 (X.length + 1) m7, X.length + 1, (X ++ [y]).map (Value.int .i64)⟩ :: R) := by
            rw [List.map_append]
            exact cur_back ho7
          obtain ⟨Y, hY⟩ : ∃ Y, Y = X ++ [y] := ⟨_, rfl⟩
          rw [← hY] at own7 hXy
          have hYl := hid (show Y.length = X.length + 1 by rw [hY, List.length_append]; rfl)
          replace hY := hid hY
          clear ho7 h5 b5' hb7
          refine (one_any (w0 := w0) hc own7 hwB (by omega) (by omega)).mono ?_
          rintro e w8 ⟨q8, a8, rfl, h81, h82, own8, b8⟩
          have b8' := b7.trans b8
          clear own7 b7 b8 e7
          cases q8 with
          | false =>
            go_wp2_with fail
            go_roundw
            case rel => exact ⟨Y, a8, by have := hYl.out; omega, hXy, by omega, by have := hYl.out; omega, b8', by unfold intRowOf; rw [hYl.out]; exact own8⟩
            case measure => simp; omega
          | true =>
            have e8 : Ext w0 w8 := hE.out _ b8'
            go_wp2_with fail
            refine (pick_any (w0 := w0) hc own8 hwB (by omega) (by omega)).mono ?_
            rintro e w9 ⟨x9, a9, rfl, hx90, hx91, hx92, h91, h92, own9, b9⟩
            have hx93 := hx92 (by omega)
            have b9' := b8'.trans b9
            obtain ⟨s9, h9⟩ := own9
            have h9' := h9.perm (List.Perm.swap _ _ _)
            obtain ⟨g9, rfl⟩ := h9'.at (j := 0) (by omega)
            have hlY : X.length < Y.length := by have := hYl.out; omega
            have c9 : w9.cell? ⟨g9, X.length, none⟩ = some (.int .i64 (nth Y X.length)) := by
              rw [h9'.cellAt (w' := w9) (j := X.length) (by omega)]; simp [nth, hlY]
            have f9 := h9'.frozenAt X.length
            have own10 := h9'.set X.length (.int .i64 x9)
            have b10 := b9'.setCell (p := ⟨g9, X.length, none⟩) h9'.lt.1 (.int .i64 x9)
            rw [← List.map_set] at own10
            have hidx : IntKind.i64.wrap ((X.length : Int) + 1 - 1) = (X.length : Int) := by rw [IntWalk.i64_in _ (by omega)]; omega
            replace hidx := hid hidx
            clear own8 b8' b9 e8 h9 hx92
            go_wp2_with fail
            go_roundw
            case rel => exact ⟨Y.set X.length x9, a9, by rw [List.length_set]; have := hYl.out; omega, bd_set hXy (by omega), by omega, by rw [List.length_set]; have := hYl.out; omega, b10, by unfold intRowOf; rw [List.length_set, hYl.out]; exact cur_back own10⟩
            case measure => simp; omega
        · replace h0 := hid h0
          replace h1 := hid h1
          by_cases hna : near = 0
          · subst hna
            have g1 : decide (X.length > 0) = false := decide_eq_false (fun h => h0.out ⟨rfl, h⟩)
            have g2 : ((0 : Int) == 0) = true := rfl
            have g3 : ((0 : Int) == 1) = false := rfl
            go_wp2_with fail
            refine (pick_any (w0 := w0) hc ownq hwB (by omega) (by omega)).mono ?_
            rintro e w5 ⟨x, a5, rfl, hx0, hx1, hx2, h51, h52, own5, b5⟩
            have hx3 := hx2 (by omega)
            have b5' := bq.trans b5
            have hB5 := own5.low
            obtain ⟨s5, h5⟩ := RqAt.of own5
            clear ownq own5 bq b5 eq hx2
            go_wp2_with (at_builtin; refine wpList_append1 rfl _ _ _ rfl elemInt rfl h5 hB5 rfl rfl (by omega) (by omega) ?_; intro v7 w7 ho7 hb7; obtain ⟨d7, m7, hv7⟩ := ho7.form; (obtain rfl : v7 = .slice d7 (X.length + 1) m7 := hv7))
            go_roundw
            case rel => exact ⟨X ++ [x], a5, by simp; omega, bd_snoc hXb (by omega), by omega, by simp; omega, b5'.trans hb7, cur_back (own_grow1 ho7 rfl)⟩
            case measure => simp; omega
          · by_cases hnb : near = 1
            · subst hnb
              have hle : X.length ≤ 2 := Nat.not_lt.1 (fun h => h1.out ⟨rfl, h⟩)
              have g1 : decide ((X.length : Int) > 2) = false := decide_eq_false (by omega)
              have g2 : ((1 : Int) == 0) = false := rfl
              have g3 : ((1 : Int) == 1) = true := rfl
              go_wp2_with fail
              refine (pick_any (w0 := w0) hc ownq hwB (by omega) (by omega)).mono ?_
              rintro e w5 ⟨x, a5, rfl, hx0, hx1, hx2, h51, h52, own5, b5⟩
              have hx3 := hx2 (by omega)
              have b5' := bq.trans b5
              have hB5 := own5.low
              obtain ⟨s5, h5⟩ := RqAt.of own5
              clear ownq own5 bq b5 eq hx2
              go_wp2_with (at_builtin; refine wpList_append1 rfl _ _ _ rfl elemInt rfl h5 hB5 rfl rfl (by omega) (by omega) ?_; intro v7 w7 ho7 hb7; obtain ⟨d7, m7, hv7⟩ := ho7.form; (obtain rfl : v7 = .slice d7 (X.length + 1) m7 := hv7))
              go_roundw
              case rel => exact ⟨X ++ [x], a5, by simp; omega, bd_snoc hXb (by omega), by omega, by simp; omega, b5'.trans hb7, cur_back (own_grow1 ho7 rfl)⟩
              case measure => simp; omega
            · have g2 : (near == 0) = false := by simpa using hna
              have g3 : (near == 1) = false := by simpa using hnb
              replace hna := hid hna
              replace hnb := hid hnb
              go_wp2_with fail
              refine (pick_any (w0 := w0) hc ownq hwB (by omega) (by omega)).mono ?_
              rintro e w5 ⟨x, a5, rfl, hx0, hx1, hx2, h51, h52, own5, b5⟩
              have hx3 := hx2 (by omega)
              have b5' := bq.trans b5
              have hB5 := own5.low
              obtain ⟨s5, h5⟩ := RqAt.of own5
              clear ownq own5 bq b5 eq hx2
              go_wp2_with (at_builtin; refine wpList_append1 rfl _ _ _ rfl elemInt rfl h5 hB5 rfl rfl (by omega) (by omega) ?_; intro v7 w7 ho7 hb7; obtain ⟨d7, m7, hv7⟩ := ho7.form; (obtain rfl : v7 = .slice d7 (X.length + 1) m7 := hv7))
              go_roundw
              case rel => exact ⟨X ++ [x], a5, by simp; omega, bd_snoc hXb (by omega), by omega, by simp; omega, b5'.trans hb7, cur_back (own_grow1 ho7 rfl)⟩
              case measure => simp; omega
    · have hX7 : ∀ x ∈ X, -10 ≤ x ∧ x ≤ 1000 := fun x hx => by have := hXb x hx; omega
      have g0 : decide (X.length < len) = false := decide_eq_false hlt
      go_wp2_with fail
      refine (pick_any (w0 := w0) hc ownq hwB (by omega) (by omega)).mono ?_
      rintro e w5 ⟨x, a5, rfl, hx0, hx1, hx2, h51, h52, own5, b5⟩
      have hx3 := hx2 (by omega)
      have b5' := bq.trans b5
      have hB5 := own5.low
      have e5 : Ext w0 w5 := hE.out _ b5'
      clear ownq bq b5 eq hx2
      by_cases hx0' : x = 0
      · subst hx0'
        have g1 : ((0 : Int) == 0) = true := rfl
        go_wp2_with fail
        refine (among_any (w0 := w0) hc (own5.lit [-1, n, 8] own5.low rfl rfl (by simp)) hwB (by omega) (by omega) (by simp) (by simp)).mono ?_
        rintro e w6 ⟨y, a6, rfl, hy, h61, h62, own6, b6⟩
        have hy' : -10 ≤ y ∧ y ≤ 1000 := by simp at hy; omega
        have b6' : Below B w w6 := b5'.trans (((Below.refl B w5).alloc own5.low _).trans b6)
        obtain ⟨s6, h6'⟩ := RqAt.of own6.drop
        have hB6 := own6.low
        clear own5 own6 b6
        go_wp2_with (at_builtin; refine wpList_append1 rfl _ _ _ rfl elemInt rfl h6' hB6 rfl rfl (by omega) (by omega) ?_; intro v7 w7 ho hb7)
        go_ret
        exact ⟨v7, X ++ [y], a6, rfl, by simp; omega, bd_snoc hX7 hy', by omega, by omega, cur_back (own_grow1 ho rfl), b6'.trans hb7⟩
      · have g1 : (x == 0) = false := by simpa using hx0'
        by_cases hx1' : x = 1
        · subst hx1'
          have g2 : ((1 : Int) == 1) = true := rfl
          have g3 : ((1 : Int) == 0) = false := rfl
          go_wp2_with fail
          go_loopw [5] (fun v wr => ∃ X' ax, X'.length ≤ 61 ∧ (∀ x ∈ X', -10 ≤ x ∧ x ≤ 1000) ∧ a ≤ ax ∧ ax ≤ a + 200 + 2 * X'.length ∧ Below B w wr ∧ CurAt wr B c vc ax (intRowOf 3 v X' :: R)) (fun v _ => 100 - (match v with | .slice _ n _ => n | _ => 0))
          case atStart => exact ⟨X, a5, by omega, hX7, by omega, by omega, b5', own5⟩
          case round =>
            clear own5 b5'
            obtain ⟨X', ay, hXl', hXb', hay1, hay2, b8, own8⟩ := hrel
            obtain ⟨w8, rfl⟩ : ∃ y : World, y = wr := ⟨_, rfl⟩
            obtain ⟨vd', vm', rfl⟩ := ow_ints own8.rows
            have e8 : Ext w0 w8 := hE.out _ b8
            go_wp2_with fail
            refine (pick_any (w0 := w0) hc own8 hwB (by omega) (by omega)).mono ?_
            rintro e w9 ⟨z, a9, rfl, hz0, hz1, hz2, h91, h92, own9, b9⟩
            have hz3 := hz2 (by omega)
            have b9' := b8.trans b9
            have hB9 := own9.low
            clear own8 b8 b9 e8 hz2
            by_cases hlt2 : (X'.length : Int) < 60 + z
            · have hm0 := emod_in (x := (X'.length : Int)) (m := m) (by omega) hmb.1
              obtain ⟨s9, h9⟩ := RqAt.of own9
              have gl2 : decide ((X'.length : Int) < 60 + z) = true := decide_eq_true hlt2
              go_wp2_with (at_builtin; refine wpList_append1 rfl _ _ _ rfl elemInt rfl h9 hB9 rfl rfl (by omega) (by omega) ?_; intro v7 w7 ho7 hb7; obtain ⟨d7, m7, hv7⟩ := ho7.form; (obtain rfl : v7 = .slice d7 (X'.length + 1) m7 := hv7))
              go_roundw
              case rel => exact ⟨X' ++ [(X'.length : Int) % m], a9, by simp; omega, bd_snoc hXb' (by omega), by omega, by simp; omega, b9'.trans hb7, cur_back (own_grow1 ho7 rfl)⟩
              case measure => simp; omega
            · have gl2 : decide ((X'.length : Int) < 60 + z) = false := decide_eq_false hlt2
              go_wp2_with fail
              go_ret
              exact ⟨_, X', a9, rfl, by omega, hXb', by omega, by omega, own9, b9'⟩
        · have g2 : (x == 1) = false := by simpa using hx1'
          replace hx0' := hid hx0'
          replace hx1' := hid hx1'
          go_wp2_with fail
          go_ret
          exact ⟨_, X, a5, rfl, by omega, hX7, by omega, by omega, own5, b5'⟩
end Go.Proofs.YtdohjmbhgjfcaaaDoor
