/- A cache is drawn. -/
import Derived.Test.YtaphnkgjcmneoaaGreatDoorCtd
namespace Go.Proofs.YtaphnkgjcmneoaaGreatDoor
open Go.RowKit

/-- the bounds of a drawn cache -/
def CA (p z : Int) (P M : List Int) (h : Int) : Prop := (-1 ≤ p ∧ p ≤ 8) ∧ (-1 ≤ z ∧ z ≤ 8) ∧ P.length ≤ 7 ∧ M.length ≤ 7 ∧ (∀ y ∈ P, -1 ≤ y ∧ y ≤ 9) ∧ (∀ y ∈ M, -1 ≤ y ∧ y ≤ 61) ∧ -1 ≤ h ∧ h ≤ 8
theorem CurAt.join {w w' : World} {B c : Nat} {vc : Value} {a : Int} {R S : List Row} (h : CurAt w B c vc a R) (hn : Own w' w.heap.size S) (e : Ext w w') (hB : B ≤ w.heap.size) : CurAt w' B c vc a (S ++ R) := by
  obtain ⟨s, h⟩ := h
  exact ⟨s, (Own.join h hn hB).perm List.perm_middle.symm⟩
theorem kept5 (u : World) (r : Nat) (v0 v1 v2 v3 v4 : Value) : Kept r u (((((u.setCell ⟨r, 0, none⟩ v0).setCell ⟨r, 1, none⟩ v1).setCell ⟨r, 2, none⟩ v2).setCell ⟨r, 3, none⟩ v3).setCell ⟨r, 4, none⟩ v4) := by
  have h : ∀ (u : World) (j : Nat) (v : Value), Kept r u (u.setCell ⟨r, j, none⟩ v) := fun u j v q hq => Below.heap_setCell u ⟨r, j, none⟩ v q hq
  exact ((((h u 0 v0).trans (h _ 1 v1)).trans (h _ 2 v2)).trans (h _ 3 v3)).trans (h _ 4 v4)
theorem below5 {w u : World} {B r : Nat} (h : Below B w u) (hr : B ≤ r) (v0 v1 v2 v3 v4 : Value) : Below B w (((((u.setCell ⟨r, 0, none⟩ v0).setCell ⟨r, 1, none⟩ v1).setCell ⟨r, 2, none⟩ v2).setCell ⟨r, 3, none⟩ v3).setCell ⟨r, 4, none⟩ v4) :=
  ((((h.setCell (p := ⟨r, 0, none⟩) hr v0).setCell (p := ⟨r, 1, none⟩) hr v1).setCell (p := ⟨r, 2, none⟩) hr v2).setCell (p := ⟨r, 3, none⟩) hr v3).setCell (p := ⟨r, 4, none⟩) hr v4
theorem GB.mono {G H : Nat → Prop} {v : Value} {L : List Int} (h : GB G v L) (i : ∀ b, G b → H b) : GB H v L := fun b o n m hv hl => i b (h b o n m hv hl)
theorem GB.none {G : Nat → Prop} {v : Value} : GB G v [] := fun _ _ _ _ _ h => absurd h (Nat.lt_irrefl 0)
set_option maxHeartbeats 6400000 in
set_option maxRecDepth 100000 in
theorem cache_any {w0 w : World} [Ext w0 w] {vc : Value} {nb : Nat} (hc : IsBytes w0 vc nb) {B c : Nat} {a : Int} {R : List Row} (own : CurAt w B c vc a R) (hwB : w0.heap.size ≤ B) (ha : 0 ≤ a) (ha2 : a ≤ 1000000) {n : Int} (hn : -1 ≤ n ∧ n ≤ 9) :
    Calls Tryz.prog 25 #[.pointer (some ⟨c, 0, none⟩), .int .i64 n] w fun e w' => ∃ (p z : Int) (P M : List Int) (h : Int) (dP : Option Addr) (cP : Nat) (dM : Option Addr) (cM : Nat) (a' : Int),
      e = .returned (.agg #[.int .i64 p, .int .i64 z, .slice dP P.length cP, .slice dM M.length cM, .int .i64 h]) ∧ CA p z P M h ∧ a ≤ a' ∧ a' ≤ a + 200 ∧ CurAt w' B c vc a' (intRowOf 3 (.slice dP P.length cP) P :: intRowOf 3 (.slice dM M.length cM) M :: R) ∧ Below B w w' := by
  have hBw := own.low
  have own0 := own.bxnew hBw (.int .i64 0) (.int .i64 0) (.slice none 0 0) (.slice none 0 0) (.int .i64 0)
  have b0 : Below B w (w.alloc (.cells #[.int .i64 0, .int .i64 0, .slice none 0 0, .slice none 0 0, .int .i64 0] 26)) := (Below.refl B w).alloc hBw _
  obtain ⟨r, hr⟩ : ∃ r, r = w.heap.size := ⟨_, rfl⟩
  have hrB : B ≤ r := by omega
  rw [← hr] at own0
  have hE := hid (show ∀ u, Below B w u → Ext w0 u from fun u h => ⟨(‹Ext w0 w›).below.trans (h.mono hwB)⟩)
  go_enter Tryz.func25, Tryz.ntmps25
  go_upto_region 1 with fail
  rw [← hr]
  replace hr := hid hr
  clear own
  generalize w.alloc (.cells #[.int .i64 0, .int .i64 0, .slice none 0 0, .slice none 0 0, .int .i64 0] 26) = w1 at *
  have e1 := hE.out _ b0
  go_wp2_with fail
  refine (pick_any (w0 := w0) hc own0 hwB (by omega) (by omega)).mono ?_
  rintro e w2 ⟨x1, a2, rfl, hx0, hx1, hx2, h2a, h2b, own2, b2⟩
  have hx3 := hx2 (by omega)
  have b2' := b0.trans b2
  have hB2 := own2.low
  have oL := own2.lit (e := 3) (cs := #[.int .i64 1, .int .i64 2, .int .i64 3, .int .i64 3, .int .i64 4, .int .i64 6]) [1, 2, 3, 3, 4, 6] hB2 rfl rfl (by decide)
  have bL : Below B w (w2.alloc (.cells #[.int .i64 1, .int .i64 2, .int .i64 3, .int .i64 3, .int .i64 4, .int .i64 6] 3)) := b2'.alloc hB2 _
  have eL := hE.out _ bL
  clear hx2
  go_wp2_with fail
  refine (among_any (w0 := w0) hc oL hwB (by omega) (by omega) (by simp) (by simp)).mono ?_
  rintro e w3 ⟨z, a3, rfl, hz, h3a, h3b, own3, b3⟩
  have hzb : 1 ≤ z ∧ z ≤ 6 := by
    simp at hz
    omega
  have b3' := bL.trans b3
  have hB3 : B ≤ w3.heap.size := by have := own3.low; exact this
  obtain ⟨p, hp⟩ : ∃ p, p = 1 + x1 := ⟨_, rfl⟩
  have hpb : 1 ≤ p ∧ p ≤ 7 := by omega
  go_wp2_with fail
  refine (l4New_any _ _ _).mono ?_
  rintro e w4 ⟨dP0, dM0, rfl, -, e4⟩
  rw [← hp]
  have own4 := own3.drop.ext (w' := w4)
  have hB4 : B ≤ w4.heap.size := Nat.le_trans hB3 e4.below.size
  have own5 := own4.bxnew hB4 (.int .i64 p) (.int .i64 z) (.slice (some dP0) 0 0) (.slice (some dM0) 0 0) (.int .i64 0)
  have b5 : Below B w (w4.alloc (.cells #[.int .i64 p, .int .i64 z, .slice (some dP0) 0 0, .slice (some dM0) 0 0, .int .i64 0] 26)) := (b3'.trans (e4.below.mono hB3)).alloc hB4 _
  obtain ⟨x, hx⟩ : ∃ x, x = w4.heap.size := ⟨_, rfl⟩
  have hxB : B ≤ x := by omega
  have hrx : r < x := by
    have h1 := (ow_lt own4.rows).2
    omega
  rw [← hx] at own5
  replace hp := hid hp
  go_upto_region 2 with fail
  rw [← hx]
  clear own4 own3 oL own2 own0 hB2
  generalize w4.alloc (.cells #[.int .i64 p, .int .i64 z, .slice (some dP0) 0 0, .slice (some dM0) 0 0, .int .i64 0] 26) = w5 at *
  replace hx := hid hx
  obtain ⟨m0, hm0⟩ : ∃ m0 : Int, m0 = if n < 8 then n else 8 := ⟨_, rfl⟩
  have hL := hid (fun (u : World) => l1LeastZ_any n 8 u)
  rw [← hm0] at hL
  have hm0b : -1 ≤ m0 ∧ m0 ≤ 8 := by
    rw [hm0]
    split <;> omega
  replace hm0 := hid hm0
  go_wp2_with fail
  refine (hL.out w5).mono ?_
  rintro e w6 ⟨rfl, rfl⟩
  obtain ⟨m, hm⟩ : ∃ m : Int, m = max 1 m0 := ⟨_, rfl⟩
  have hM := hid (fun (u : World) => l1Most_any 1 m0 u)
  rw [← hm] at hM
  have hmb : 1 ≤ m ∧ m ≤ 8 := by omega
  replace hm := hid hm
  go_wp2_with fail
  refine (hM.out _).mono ?_
  rintro e w6 ⟨rfl, rfl⟩
  have e5 := hE.out _ b5
  go_wp2_with fail
  refine (pick_any (w0 := w0) hc own5 hwB (by omega) (by omega)).mono ?_
  rintro e w7 ⟨k, a7, rfl, hk0, hk1, hk2, h7a, h7b, own7, b7⟩
  have hk3 := hk2 (by omega)
  have b7' := b5.trans b7
  clear hk1 hk2 hL hM own5
  obtain ⟨k, rfl⟩ := Int.eq_ofNat_of_zero_le hk0
  obtain ⟨z, rfl⟩ := Int.eq_ofNat_of_zero_le (show 0 ≤ z by omega)
  go_upto_region 4 with fail
  go_loopw [7] (fun kv wr => ∃ (k : Nat) (P M : List Int) (hh : Nat) (dP dM : Option Addr) (cP cM : Nat) (a' : Int), kv = .int .i64 k ∧ k ≤ 11 ∧ a ≤ a' ∧ a' + 2 * k ≤ a + 28 ∧
    CurAt wr B c vc a' (bxRow x (.int .i64 p) (.int .i64 z) (.slice dP P.length cP) (.slice dM M.length cM) (.int .i64 hh) :: bxRow r (.int .i64 0) (.int .i64 0) (.slice none 0 0) (.slice none 0 0) (.int .i64 0) :: R) ∧
    ST p z P M hh ∧ IsInts wr (.slice dP P.length cP) P ∧ IsInts wr (.slice dM M.length cM) M ∧ GB (fun b => b ≠ c ∧ b ≠ x ∧ b ≠ r) (.slice dP P.length cP) P ∧ GB (fun b => b ≠ c ∧ b ≠ x ∧ b ≠ r) (.slice dM M.length cM) M ∧ Below B w wr) (fun kv _ => (intOf kv).toNat)
  case atStart =>
    exact ⟨k, [], [], 0, some dP0, some dM0, 0, 0, a7, rfl, by omega, by omega, by omega, own7, ST.new hpb hzb, ints_e _ _ _, ints_e _ _ _, GB.none, GB.none, b7'⟩
  case round =>
    obtain ⟨k, P, M, hh, dP, dM, cP, cM, a', rfl, hk11, hal, hau, own, s, hP, hM, gP, gM, bw⟩ := hrel
    obtain ⟨wo, rfl⟩ : ∃ y : World, y = wr := ⟨_, rfl⟩
    clear own7 b7' b7
    have hlow := own.low
    by_cases hk : 0 < k
    · go_upto_region 6 with fail
      have ownd := own.ext (w' := wo.drew)
      have bd : Below B w wo.drew := bw.trans ((inferInstance : Ext wo wo.drew).below.mono hlow)
      have hP1 := hP.ext (w' := wo.drew)
      have hM1 := hM.ext (w' := wo.drew)
      clear own hP hM bw hlow
      have hxb := ownd.bx
      refine wp_region_E_drew (X := fun i => i == 5) (S := fun u => u.cell? ⟨x, 0, none⟩ = some (.int .i64 p) ∧ u.cell? ⟨x, 1, none⟩ = some (.int .i64 z) ∧ u.cell? ⟨x, 2, none⟩ = some (.slice dP P.length cP) ∧ u.cell? ⟨x, 3, none⟩ = some (.slice dM M.length cM) ∧ u.cell? ⟨x, 4, none⟩ = some (.int .i64 hh)) (by kernel_rfl) ⟨hxb.c0, hxb.c1, hxb.c2, hxb.c3, hxb.c4⟩ (fun hHeld0 => ?_)
      generalize wo.drew = w8 at *
      have e8 := hE.out _ bd
      have hlc := hid (show c < w8.heap.size ∧ x < w8.heap.size ∧ r < w8.heap.size from ⟨by obtain ⟨s', h'⟩ := ownd; exact (ow_lt h').2, (ow_lt ownd.rows).2, (ow_lt ownd.rows.tail).2⟩)
      clear hxb
      refine wpAnyE_take (i := 0) (v := .agg #[.int .i64 p, .int .i64 z, .slice dP P.length cP, .slice dM M.length cM, .int .i64 hh]) rfl (by kernel_rfl) (by kernel_rfl) (by kernel_rfl) (fun _ _ _ h => h) (Or.inl ⟨by rfl, by intro wx hx; obtain ⟨_, _, _, _, _⟩ := hx; go_simp⟩) (by assumption) ?_
      try simp only [List.getElem_toArray, List.getElem_cons_zero, Act.put, List.setIfInBounds_toArray, List.set_cons_zero, List.set_cons_succ]
      refine wpAnyE_take (i := 1) (v := .pointer (some ⟨c, 0, none⟩)) rfl (by kernel_rfl) (by kernel_rfl) (by kernel_rfl) (fun _ _ _ h => h) (Or.inl ⟨by rfl, by intro wx hx; go_simp⟩) (by assumption) ?_
      try simp only [List.getElem_toArray, List.getElem_cons_succ, List.getElem_cons_zero, Act.put, List.setIfInBounds_toArray, List.set_cons_zero, List.set_cons_succ]
      refine wpAnyE_take (i := 2) (v := .int .i64 m) rfl (by kernel_rfl) (by kernel_rfl) (by kernel_rfl) (fun _ _ _ h => h) (Or.inl ⟨by rfl, by intro wx hx; go_simp⟩) (by assumption) ?_
      try simp only [List.getElem_toArray, List.getElem_cons_succ, List.getElem_cons_zero, Act.put, List.setIfInBounds_toArray, List.set_cons_zero, List.set_cons_succ]
      refine wpAnyE_ready (rs := [3]) (by kernel_rfl) (by simp) ?_
      refine AllReadyE.cons rfl (fun K hK => ?_) AllReadyE.nil
      go_simp
      refine (pick_keep (w0 := w0) hc ownd hwB (by omega) (by omega)).mono ?_
      rintro e w9 ⟨y, a9, rfl, hy0, hy1, hy2, h9a, h9b, own9, b9, kp9⟩
      have hx9 := own9.bx
      refine hK.out _ _ (.inr ⟨hx9.c0, hx9.c1, hx9.c2, hx9.c3, hx9.c4⟩) (fun _ => ?_)
      clear hK K
      try simp only [List.getElem_toArray, List.getElem_cons_succ, List.getElem_cons_zero, Act.put, List.setIfInBounds_toArray, List.set_cons_zero, List.set_cons_succ]
      have hP9 := hP1.kept kp9 (gP.mono fun b h => h.1)
      have hM9 := hM1.kept kp9 (gM.mono fun b h => h.1)
      have hs9 : w8.heap.size ≤ w9.heap.size := b9.size
      have hy3 := hy2 (by omega)
      have hSt := hid (@l4Step_any p z hh P M y dP dM cP cM w9 w9 (Ext.refl _) hP9 hM9 (fun b => b ≠ c ∧ b ≠ x ∧ b ≠ r) gP gM s ⟨by omega, by omega⟩)
      unfold SPost cvl at hSt
      clear hP1 hM1 hP9 hM9 hx9 ownd hy1 hy2
      refine wpAnyE_ready (rs := [4]) (by kernel_rfl) (by simp) ?_
      refine AllReadyE.cons rfl (fun K hK => ?_) AllReadyE.nil
      go_simp
      refine hSt.out.mono ?_
      rintro e w10 ⟨P', M', h', dP', nP', cP', dM', nM', cM', rfl, s', rP, rM, e10⟩
      have hnP := rP.1.len
      have hnM := rM.1.len
      subst hnP hnM
      obtain ⟨h', rfl⟩ := Int.eq_ofNat_of_zero_le s'.h1
      have own10 := own9.ext (w' := w10)
      have hlow9 : B ≤ w9.heap.size := own9.low
      have bd10 : Below B w w10 := (bd.trans b9).trans (e10.below.mono hlow9)
      have hx10 := own10.bx
      have gP' : GB (fun b => b ≠ c ∧ b ≠ x ∧ b ≠ r) (.slice dP' P'.length cP') P' := rP.2.mono fun b h => by
        rcases h with h | h
        · exact h.1
        · have := hlc.out
          omega
      have gM' : GB (fun b => b ≠ c ∧ b ≠ x ∧ b ≠ r) (.slice dM' M'.length cM') M' := rM.2.mono fun b h => by
        rcases h with h | h
        · exact h.1
        · have := hlc.out
          omega
      refine hK.out _ _ (.inr ⟨hx10.c0, hx10.c1, hx10.c2, hx10.c3, hx10.c4⟩) (fun _ => ?_)
      clear hK K
      try simp only [List.getElem_toArray, List.getElem_cons_succ, List.getElem_cons_zero, Act.put, List.setIfInBounds_toArray, List.set_cons_zero, List.set_cons_succ]
      have own11 := own10.bx5 (v0 := .int .i64 p) (v1 := .int .i64 z) (v2 := .slice dP' P'.length cP') (v3 := .slice dM' M'.length cM') (v4 := .int .i64 h')
      have kp11 := kept5 w10 x (.int .i64 p) (.int .i64 z) (.slice dP' P'.length cP') (.slice dM' M'.length cM') (.int .i64 h')
      have bd11 := below5 bd10 hxB (.int .i64 p) (.int .i64 z) (.slice dP' P'.length cP') (.slice dM' M'.length cM') (.int .i64 h')
      have hP11 := rP.1.kept kp11 (gP'.mono fun b h => h.2.1)
      have hM11 := rM.1.kept kp11 (gM'.mono fun b h => h.2.1)
      clear rP rM own9 own10 hSt kp9 kp11
      obtain ⟨b0, b1, b2, b3, b4, k0, k1, k2, k3, k4⟩ := hx10
      refine wpAnyE_ready (rs := [5]) (by kernel_rfl) (by simp) ?_
      refine AllReadyE.cons rfl (fun K hK => ?_) AllReadyE.nil
      go_simp
      refine hK.out _ _ (.inl rfl) (fun _ => ?_)
      clear hK K
      try simp only [List.getElem_toArray, List.getElem_cons_succ, List.getElem_cons_zero, Act.put, List.setIfInBounds_toArray, List.set_cons_zero, List.set_cons_succ]
      refine wpAnyE_done (by kernel_rfl) ?_ _
      clear b0 b1 b2 b3 b4 k0 k1 k2 k3 k4
      generalize ((((w10.setCell ⟨x, 0, none⟩ (.int .i64 p)).setCell ⟨x, 1, none⟩ (.int .i64 z)).setCell ⟨x, 2, none⟩ (.slice dP' P'.length cP')).setCell ⟨x, 3, none⟩ (.slice dM' M'.length cM')).setCell ⟨x, 4, none⟩ (.int .i64 h') = w11 at *
      go_wp2_with fail
      go_roundw
      case rel => exact ⟨k - 1, P', M', h', dP', dM', cP', cM', a9, by go_num, by omega, by omega, by omega, own11, s', hP11, hM11, gP', gM', bd11⟩
      case measure => simp [intOf]; omega
    · obtain rfl : k = 0 := by omega
      have hCo := hid (@l4Copy_any p z hh P M dP dM cP cM wo wo (Ext.refl _) hP hM)
      have hx0 := own.bx
      obtain ⟨b0, b1, b2, b3, b4, k0, k1, k2, k3, k4⟩ := hx0
      go_wp2_with fail
      refine hCo.out.mono ?_
      rintro e w8 ⟨d1, m1, d2, m2, rfl, own8, e8⟩
      clear b0 b1 b2 b3 b4 k0 k1 k2 k3 k4
      have own9 := (own.join own8 e8 hlow).perm (List.perm_append_comm_assoc [bxRow x (.int .i64 p) (.int .i64 z) (.slice dP P.length cP) (.slice dM M.length cM) (.int .i64 hh), bxRow r (.int .i64 0) (.int .i64 0) (.slice none 0 0) (.slice none 0 0) (.int .i64 0)] [intRowOf 3 (.slice d1 P.length m1) P, intRowOf 3 (.slice d2 M.length m2) M] R)
      have own10 := CurAt.bx5 (v0 := .int .i64 p) (v1 := .int .i64 z) (v2 := .slice d1 P.length m1) (v3 := .slice d2 M.length m2) (v4 := .int .i64 hh) own9
      have b10 := below5 (bw.trans (e8.below.mono hlow)) hxB (.int .i64 p) (.int .i64 z) (.slice d1 P.length m1) (.slice d2 M.length m2) (.int .i64 hh)
      have hx9 := CurAt.bx own9
      obtain ⟨b0, b1, b2, b3, b4, k0, k1, k2, k3, k4⟩ := hx9
      go_upto_region 8 with fail
      clear b0 b1 b2 b3 b4 k0 k1 k2 k3 k4 own9 own8 hCo hP hM gP gM own bw e8
      generalize ((((w8.setCell ⟨x, 0, none⟩ (.int .i64 p)).setCell ⟨x, 1, none⟩ (.int .i64 z)).setCell ⟨x, 2, none⟩ (.slice d1 P.length m1)).setCell ⟨x, 3, none⟩ (.slice d2 M.length m2)).setCell ⟨x, 4, none⟩ (.int .i64 hh) = w10 at *
      simp only [List.cons_append, List.nil_append] at own10
      have e10 := hE.out _ b10
      have hh1 := s.h1
      have hh2 := s.h2
      have hPl := s.iP.1
      have hMl := s.iM.1
      have hPb : ∀ y ∈ P, -1 ≤ y ∧ y ≤ 9 := fun y hy => by have := s.pg y hy; omega
      have hMb : ∀ y ∈ M, -1 ≤ y ∧ y ≤ 61 := fun y hy => by have := s.mv y hy; omega
      clear s
      go_cut [38] from 31 to 38 (fun bv wx => ∃ (b : Bool) (ab : Int), bv = .bool b ∧ (b = true → 0 < M.length) ∧ a ≤ ab ∧ ab ≤ a + 40 ∧ CurAt wx B c vc ab (bxRow x (.int .i64 p) (.int .i64 z) (.slice d1 P.length m1) (.slice d2 M.length m2) (.int .i64 hh) :: bxRow r (.int .i64 0) (.int .i64 0) (.slice none 0 0) (.slice none 0 0) (.int .i64 0) :: intRowOf 3 (.slice d1 P.length m1) P :: intRowOf 3 (.slice d2 M.length m2) M :: R) ∧ Below B w wx)
      case first =>
        go_wp2_with fail
        refine (one_any (w0 := w0) hc own10 hwB (by omega) (by omega)).mono ?_
        rintro e w11 ⟨b, aq, rfl, h11a, h11b, ownq, b11⟩
        have bq := b10.trans b11
        cases b with
        | false =>
          go_wp2_with fail
          go_meet
          exact ⟨false, aq, rfl, (by intro h; cases h), by omega, by omega, ownq, bq⟩
        | true =>
          have hbx := ownq.bx
          obtain ⟨b0, b1, b2, b3, b4, -, -, -, -, -⟩ := hbx
          by_cases hM0 : 0 < M.length
          · have hM0' : (0 : Int) < (M.length : Int) := by omega
            go_wp2_with fail
            go_meet
            exact ⟨true, aq, rfl, fun _ => hM0, by omega, by omega, ownq, bq⟩
          · have hM0' : ¬ (0 : Int) < (M.length : Int) := by omega
            go_wp2_with fail
            go_meet
            exact ⟨false, aq, rfl, (by intro h; cases h), by omega, by omega, ownq, bq⟩
      case rest =>
        obtain ⟨b, ab, rfl, hbM, hab, hab2, ownb, bb⟩ := hcut
        obtain ⟨wb, rfl⟩ : ∃ u : World, u = wc := ⟨_, rfl⟩
        have eb := hE.out _ bb
        clear own10 b10 e10
        go_upto_if 38 with fail
        go_cut [] (fun wx => ∃ (M2 : List Int) (ay : Int), M2.length = M.length ∧ (∀ y ∈ M2, -1 ≤ y ∧ y ≤ 61) ∧ a ≤ ay ∧ ay ≤ a + 60 ∧ CurAt wx B c vc ay (bxRow x (.int .i64 p) (.int .i64 z) (.slice d1 P.length m1) (.slice d2 M.length m2) (.int .i64 hh) :: bxRow r (.int .i64 0) (.int .i64 0) (.slice none 0 0) (.slice none 0 0) (.int .i64 0) :: intRowOf 3 (.slice d1 P.length m1) P :: intRowOf 3 (.slice d2 M.length m2) M2 :: R) ∧ Below B w wx)
        case first =>
          cases b with
          | false =>
            go_wp2_with fail
            go_meet
            exact ⟨M, ab, rfl, hMb, hab, by omega, ownb, bb⟩
          | true =>
            have hM0 := hbM rfl
            go_upto_region 9 with fail
            obtain ⟨g2, rfl⟩ := own_ptr (ow_pull (A := [bxRow x (.int .i64 p) (.int .i64 z) (.slice d1 P.length m1) (.slice d2 M.length m2) (.int .i64 hh), bxRow r (.int .i64 0) (.int .i64 0) (.slice none 0 0) (.slice none 0 0) (.int .i64 0), intRowOf 3 (.slice d1 P.length m1) P]) ownb.rows) rfl hM0
            have hlowb := ownb.low
            have ownd := ownb.ext (w' := wb.drew)
            have bd : Below B w wb.drew := bb.trans ((inferInstance : Ext wb wb.drew).below.mono hlowb)
            have hx0 := ownd.bx
            refine wp_region_held_drew (S := fun u => u.cell? ⟨x, 3, none⟩ = some (.slice (some ⟨g2, 0, none⟩) M.length m2)) (by kernel_rfl) hx0.c3 (fun hHeld0 => ?_)
            generalize wb.drew = wd at *
            have hlowd := ownd.low
            have ed := hE.out _ bd
            clear hx0 ownb bb eb hlowb
            refine wpAnyH_take (i := 0) (v := .pointer (some ⟨x, 3, none⟩)) rfl (by kernel_rfl) (by kernel_rfl) (by kernel_rfl) (fun _ _ _ h => h) (Or.inl ⟨by rfl, by intro wx hx; go_simp⟩) (by assumption) ?_
            try simp only [List.getElem_toArray, List.getElem_cons_zero, Act.put, List.setIfInBounds_toArray, List.set_cons_zero, List.set_cons_succ]
            refine wpAnyH_take (i := 1) (v := .slice (some ⟨g2, 0, none⟩) M.length m2) rfl (by kernel_rfl) (by kernel_rfl) (by kernel_rfl) (fun _ _ _ h => h) (Or.inl ⟨by rfl, by intro wx hx; go_simp⟩) (by assumption) ?_
            try simp only [List.getElem_toArray, List.getElem_cons_succ, List.getElem_cons_zero, Act.put, List.setIfInBounds_toArray, List.set_cons_zero, List.set_cons_succ]
            refine wpAnyH_take (i := 2) (v := .pointer (some ⟨c, 0, none⟩)) rfl (by kernel_rfl) (by kernel_rfl) (by kernel_rfl) (fun _ _ _ h => h) (Or.inl ⟨by rfl, by intro wx hx; go_simp⟩) (by assumption) ?_
            try simp only [List.getElem_toArray, List.getElem_cons_succ, List.getElem_cons_zero, Act.put, List.setIfInBounds_toArray, List.set_cons_zero, List.set_cons_succ]
            refine wpAnyH_take (i := 3) (v := .pointer (some ⟨x, 3, none⟩)) rfl (by kernel_rfl) (by kernel_rfl) (by kernel_rfl) (fun _ _ _ h => h) (Or.inl ⟨by rfl, by intro wx hx; go_simp⟩) (by assumption) ?_
            try simp only [List.getElem_toArray, List.getElem_cons_succ, List.getElem_cons_zero, Act.put, List.setIfInBounds_toArray, List.set_cons_zero, List.set_cons_succ]
            refine wpAnyH_take (i := 4) (v := .slice (some ⟨g2, 0, none⟩) M.length m2) rfl (by kernel_rfl) (by kernel_rfl) (by kernel_rfl) (fun _ _ _ h => h) (Or.inl ⟨by rfl, by intro wx hx; go_simp⟩) (by assumption) ?_
            try simp only [List.getElem_toArray, List.getElem_cons_succ, List.getElem_cons_zero, Act.put, List.setIfInBounds_toArray, List.set_cons_zero, List.set_cons_succ]
            refine wpAnyH_take (i := 5) (v := .int .i64 M.length) rfl (by kernel_rfl) (by kernel_rfl) (by kernel_rfl) (fun _ _ _ h => h) (Or.inl ⟨by rfl, by intro wx hx; go_simp⟩) (by assumption) ?_
            try simp only [List.getElem_toArray, List.getElem_cons_succ, List.getElem_cons_zero, Act.put, List.setIfInBounds_toArray, List.set_cons_zero, List.set_cons_succ]
            refine wpAnyH_take (i := 7) (v := .pointer (some ⟨c, 0, none⟩)) rfl (by kernel_rfl) (by kernel_rfl) (by kernel_rfl) (fun _ _ _ h => h) (Or.inl ⟨by rfl, by intro wx hx; go_simp⟩) (by assumption) ?_
            try simp only [List.getElem_toArray, List.getElem_cons_succ, List.getElem_cons_zero, Act.put, List.setIfInBounds_toArray, List.set_cons_zero, List.set_cons_succ]
            refine wpAnyH_ready (rs := [6, 8]) (by kernel_rfl) (by simp) ?_
            refine AllReadyH.cons rfl (fun K hK => ?_) (AllReadyH.cons rfl (fun K hK => ?_) AllReadyH.nil)
            · go_simp
              refine (pick_any (w0 := w0) hc ownd hwB (by omega) (by omega)).mono ?_
              rintro e we ⟨y, ae, rfl, hy0, hy1, hy2, hea, heb, owne, be⟩
              have hy3 := hy2 (by omega)
              obtain ⟨j, rfl⟩ := Int.eq_ofNat_of_zero_le hy0
              have be' := bd.trans be
              have hj : j < M.length := by omega
              clear hy2
              refine hK.out _ _ (CurAt.bx owne).c3 (fun _ => ?_)
              clear hK K
              try simp only [List.getElem_toArray, List.getElem_cons_succ, List.getElem_cons_zero, Act.put, List.setIfInBounds_toArray, List.set_cons_zero, List.set_cons_succ]
              have hlowe := owne.low
              refine wpAnyH_ready (rs := [8]) (by kernel_rfl) (by simp) ?_
              refine AllReadyH.cons rfl (fun K hK => ?_) AllReadyH.nil
              go_simp
              have oL := owne.lit (e := 3) (cs := #[.int .i64 0, .int .i64 1, .int .i64 1, .int .i64 2, .int .i64 59, .int .i64 60, .int .i64 61, .int .i64 (-1)]) [0, 1, 1, 2, 59, 60, 61, -1] hlowe rfl rfl (by simp)
              have bL : Below B w (we.alloc (.cells #[.int .i64 0, .int .i64 1, .int .i64 1, .int .i64 2, .int .i64 59, .int .i64 60, .int .i64 61, .int .i64 (-1)] 3)) := be'.alloc hlowe _
              refine hK.out _ _ (CurAt.bx (oL.perm (List.Perm.swap _ _ _))).c3 (fun _ => ?_)
              clear hK K
              try simp only [List.getElem_toArray, List.getElem_cons_succ, List.getElem_cons_zero, Act.put, List.setIfInBounds_toArray, List.set_cons_zero, List.set_cons_succ]
              generalize we.alloc (.cells #[.int .i64 0, .int .i64 1, .int .i64 1, .int .i64 2, .int .i64 59, .int .i64 60, .int .i64 61, .int .i64 (-1)] 3) = wl at *
              generalize we.heap.size = gl at *
              have eL := hE.out _ bL
              refine wpAnyH_ready (rs := [9]) (by kernel_rfl) (by simp) ?_
              refine AllReadyH.cons rfl (fun K hK => ?_) AllReadyH.nil
              go_simp
              refine (among_any (w0 := w0) hc oL hwB (by omega) (by omega) (by simp) (by simp)).mono ?_
              rintro e wa ⟨q, aa, rfl, hq, haa, hab', owna, ba⟩
              have hqb : -1 ≤ q ∧ q ≤ 61 := by
                simp at hq
                omega
              have own1 := owna.drop
              have ba' := bL.trans ba
              have hc1 := (CurAt.bx own1).c3
              refine hK.out _ _ hc1 (fun _ => ?_)
              clear hK K
              try simp only [List.getElem_toArray, List.getElem_cons_succ, List.getElem_cons_zero, Act.put, List.setIfInBounds_toArray, List.set_cons_zero, List.set_cons_succ]
              refine wpAnyH_take (i := 10) (v := .pointer (some ⟨g2, j, none⟩)) rfl (by kernel_rfl) (by kernel_rfl) (by kernel_rfl) (fun _ _ _ h => h) (Or.inl ⟨by rfl, by intro wx hx; go_simp⟩) (by assumption) ?_
              try simp only [List.getElem_toArray, List.getElem_cons_succ, List.getElem_cons_zero, Act.put, List.setIfInBounds_toArray, List.set_cons_zero, List.set_cons_succ]
              clear oL eL owna hq hc1
              obtain ⟨s0, hs0⟩ := own1
              have oM := ow_pull (A := [curRow c vc aa s0, bxRow x (.int .i64 p) (.int .i64 z) (.slice d1 P.length m1) (.slice (some ⟨g2, 0, none⟩) M.length m2) (.int .i64 hh), bxRow r (.int .i64 0) (.int .i64 0) (.slice none 0 0) (.slice none 0 0) (.int .i64 0), intRowOf 3 (.slice d1 P.length m1) P]) hs0
              obtain ⟨c6, f6⟩ := own_nth oM rfl hj
              have oM2 := own_put (k := j) (x := q) oM rfl
              have own2 : CurAt (wa.setCell ⟨g2, j, none⟩ (.int .i64 q)) B c vc aa (bxRow x (.int .i64 p) (.int .i64 z) (.slice d1 P.length m1) (.slice (some ⟨g2, 0, none⟩) M.length m2) (.int .i64 hh) :: bxRow r (.int .i64 0) (.int .i64 0) (.slice none 0 0) (.slice none 0 0) (.int .i64 0) :: intRowOf 3 (.slice d1 P.length m1) P :: intRowOf 3 (.slice (some ⟨g2, 0, none⟩) M.length m2) (M.set j q) :: R) := ⟨s0, ow_push (A := [curRow c vc aa s0, bxRow x (.int .i64 p) (.int .i64 z) (.slice d1 P.length m1) (.slice (some ⟨g2, 0, none⟩) M.length m2) (.int .i64 hh), bxRow r (.int .i64 0) (.int .i64 0) (.slice none 0 0) (.slice none 0 0) (.int .i64 0), intRowOf 3 (.slice d1 P.length m1) P]) oM2⟩
              have b2 : Below B w (wa.setCell ⟨g2, j, none⟩ (.int .i64 q)) := ba'.setCell (p := ⟨g2, j, none⟩) (own_low oM rfl).1 _
              have hx2 := (CurAt.bx own2).c3
              clear oM oM2 hs0 bL ba
              refine wpAnyH_ready (rs := [11]) (by kernel_rfl) (by simp) ?_
              refine AllReadyH.cons rfl (fun K hK => ?_) AllReadyH.nil
              go_simp
              refine hK.out _ _ hx2 (fun _ => ?_)
              clear hK K
              try simp only [List.getElem_toArray, List.getElem_cons_succ, List.getElem_cons_zero, Act.put, List.setIfInBounds_toArray, List.set_cons_zero, List.set_cons_succ]
              refine wpAnyH_done (by kernel_rfl) ?_ _
              clear c6 f6 hx2
              generalize wa.setCell ⟨g2, j, none⟩ (.int .i64 q) = wf at *
              go_wp2_with fail
              go_meet
              exact ⟨M.set j q, aa, List.length_set, (by
                intro y hy
                rcases List.mem_or_eq_of_mem_set hy with hy | rfl
                · exact hMb y hy
                · exact hqb), by omega, by omega, own2, b2⟩
            · go_simp
              have oK := ownd.lit (e := 3) (cs := #[.int .i64 0, .int .i64 1, .int .i64 1, .int .i64 2, .int .i64 59, .int .i64 60, .int .i64 61, .int .i64 (-1)]) [0, 1, 1, 2, 59, 60, 61, -1] hlowd rfl rfl (by simp)
              have bK : Below B w (wd.alloc (.cells #[.int .i64 0, .int .i64 1, .int .i64 1, .int .i64 2, .int .i64 59, .int .i64 60, .int .i64 61, .int .i64 (-1)] 3)) := bd.alloc hlowd _
              refine hK.out _ _ (CurAt.bx (oK.perm (List.Perm.swap _ _ _))).c3 (fun _ => ?_)
              clear hK K
              try simp only [List.getElem_toArray, List.getElem_cons_succ, List.getElem_cons_zero, Act.put, List.setIfInBounds_toArray, List.set_cons_zero, List.set_cons_succ]
              generalize wd.alloc (.cells #[.int .i64 0, .int .i64 1, .int .i64 1, .int .i64 2, .int .i64 59, .int .i64 60, .int .i64 61, .int .i64 (-1)] 3) = wk at *
              generalize wd.heap.size = gl at *
              have eK := hE.out _ bK
              refine wpAnyH_ready (rs := [6]) (by kernel_rfl) (by simp) ?_
              refine AllReadyH.cons rfl (fun K hK => ?_) AllReadyH.nil
              go_simp
              refine (pick_any (w0 := w0) hc oK hwB (by omega) (by omega)).mono ?_
              rintro e we ⟨y, ae, rfl, hy0, hy1, hy2, hea, heb, oL, be⟩
              have hy3 := hy2 (by omega)
              obtain ⟨j, rfl⟩ := Int.eq_ofNat_of_zero_le hy0
              have bL := bK.trans be
              have hj : j < M.length := by omega
              clear hy2 oK
              refine hK.out _ _ (CurAt.bx (oL.perm (List.Perm.swap _ _ _))).c3 (fun _ => ?_)
              clear hK K
              try simp only [List.getElem_toArray, List.getElem_cons_succ, List.getElem_cons_zero, Act.put, List.setIfInBounds_toArray, List.set_cons_zero, List.set_cons_succ]
              have eL := hE.out _ bL
              refine wpAnyH_ready (rs := [9]) (by kernel_rfl) (by simp) ?_
              refine AllReadyH.cons rfl (fun K hK => ?_) AllReadyH.nil
              go_simp
              refine (among_any (w0 := w0) hc oL hwB (by omega) (by omega) (by simp) (by simp)).mono ?_
              rintro e wa ⟨q, aa, rfl, hq, haa, hab', owna, ba⟩
              have hqb : -1 ≤ q ∧ q ≤ 61 := by
                simp at hq
                omega
              have own1 := owna.drop
              have ba' := bL.trans ba
              have hc1 := (CurAt.bx own1).c3
              refine hK.out _ _ hc1 (fun _ => ?_)
              clear hK K
              try simp only [List.getElem_toArray, List.getElem_cons_succ, List.getElem_cons_zero, Act.put, List.setIfInBounds_toArray, List.set_cons_zero, List.set_cons_succ]
              refine wpAnyH_take (i := 10) (v := .pointer (some ⟨g2, j, none⟩)) rfl (by kernel_rfl) (by kernel_rfl) (by kernel_rfl) (fun _ _ _ h => h) (Or.inl ⟨by rfl, by intro wx hx; go_simp⟩) (by assumption) ?_
              try simp only [List.getElem_toArray, List.getElem_cons_succ, List.getElem_cons_zero, Act.put, List.setIfInBounds_toArray, List.set_cons_zero, List.set_cons_succ]
              clear oL eL owna hq hc1
              obtain ⟨s0, hs0⟩ := own1
              have oM := ow_pull (A := [curRow c vc aa s0, bxRow x (.int .i64 p) (.int .i64 z) (.slice d1 P.length m1) (.slice (some ⟨g2, 0, none⟩) M.length m2) (.int .i64 hh), bxRow r (.int .i64 0) (.int .i64 0) (.slice none 0 0) (.slice none 0 0) (.int .i64 0), intRowOf 3 (.slice d1 P.length m1) P]) hs0
              obtain ⟨c6, f6⟩ := own_nth oM rfl hj
              have oM2 := own_put (k := j) (x := q) oM rfl
              have own2 : CurAt (wa.setCell ⟨g2, j, none⟩ (.int .i64 q)) B c vc aa (bxRow x (.int .i64 p) (.int .i64 z) (.slice d1 P.length m1) (.slice (some ⟨g2, 0, none⟩) M.length m2) (.int .i64 hh) :: bxRow r (.int .i64 0) (.int .i64 0) (.slice none 0 0) (.slice none 0 0) (.int .i64 0) :: intRowOf 3 (.slice d1 P.length m1) P :: intRowOf 3 (.slice (some ⟨g2, 0, none⟩) M.length m2) (M.set j q) :: R) := ⟨s0, ow_push (A := [curRow c vc aa s0, bxRow x (.int .i64 p) (.int .i64 z) (.slice d1 P.length m1) (.slice (some ⟨g2, 0, none⟩) M.length m2) (.int .i64 hh), bxRow r (.int .i64 0) (.int .i64 0) (.slice none 0 0) (.slice none 0 0) (.int .i64 0), intRowOf 3 (.slice d1 P.length m1) P]) oM2⟩
              have b2 : Below B w (wa.setCell ⟨g2, j, none⟩ (.int .i64 q)) := ba'.setCell (p := ⟨g2, j, none⟩) (own_low oM rfl).1 _
              have hx2 := (CurAt.bx own2).c3
              clear oM oM2 hs0 bL ba
              refine wpAnyH_ready (rs := [11]) (by kernel_rfl) (by simp) ?_
              refine AllReadyH.cons rfl (fun K hK => ?_) AllReadyH.nil
              go_simp
              refine hK.out _ _ hx2 (fun _ => ?_)
              clear hK K
              try simp only [List.getElem_toArray, List.getElem_cons_succ, List.getElem_cons_zero, Act.put, List.setIfInBounds_toArray, List.set_cons_zero, List.set_cons_succ]
              refine wpAnyH_done (by kernel_rfl) ?_ _
              clear c6 f6 hx2
              generalize wa.setCell ⟨g2, j, none⟩ (.int .i64 q) = wf at *
              go_wp2_with fail
              go_meet
              exact ⟨M.set j q, aa, List.length_set, (by
                intro y hy
                rcases List.mem_or_eq_of_mem_set hy with hy | rfl
                · exact hMb y hy
                · exact hqb), by omega, by omega, own2, b2⟩
        case rest =>
          obtain ⟨M2, aq, hMM, hM2b, haq, haq2, ownq, bq⟩ := hcut
          obtain ⟨wq, rfl⟩ : ∃ u : World, u = wc := ⟨_, rfl⟩
          have eq := hE.out _ bq
          have hM2l : M2.length ≤ 6 := by omega
          replace hMM := hid hMM
          replace hMb := hid hMb
          clear ownb bb eb
          go_wp2_with fail
          refine (pick_any (w0 := w0) hc ownq hwB (by omega) (by omega)).mono ?_
          rintro e wt ⟨t, at', rfl, ht0, ht1, ht2, hta, htb, ownt, bt⟩
          have bt' := bq.trans bt
          have et := hE.out _ bt'
          have hlowt := ownt.low
          clear ownq bq eq bt
          by_cases ht : t = 0
          · subst ht
            have hbt := ownt.bx
            obtain ⟨b0, b1, b2, b3, b4, -, -, -, -, -⟩ := hbt
            have oL := ownt.lit (e := 3) (cs := #[.int .i64 1, .int .i64 (-1), .int .i64 6, .int .i64 z]) [1, -1, 6, (z : Int)] hlowt rfl rfl (by simp)
            have bL : Below B w (wt.alloc (.cells #[.int .i64 1, .int .i64 (-1), .int .i64 6, .int .i64 z] 3)) := bt'.alloc hlowt _
            have eL : Ext w0 (wt.alloc (.cells #[.int .i64 1, .int .i64 (-1), .int .i64 6, .int .i64 z] 3)) := hE.out _ bL
            go_wp2_with fail
            refine (among_any (w0 := w0) hc oL hwB (by omega) (by omega) (by simp) (by simp)).mono ?_
            rintro e wa ⟨y, aa, rfl, hy, haa, hab', owna, ba⟩
            have hyb : -1 ≤ y ∧ y ≤ 8 := by
              simp at hy
              omega
            clear b0 b1 b2 b3 b4 oL eL ownt hy
            have own1 := owna.drop
            have hb1 := own1.bx
            have ownF : CurAt (wa.setCell ⟨x, 4, none⟩ (.int .i64 y)) B c vc aa (bxRow x (.int .i64 p) (.int .i64 z) (.slice d1 P.length m1) (.slice d2 M.length m2) (.int .i64 y) :: bxRow r (.int .i64 0) (.int .i64 0) (.slice none 0 0) (.slice none 0 0) (.int .i64 0) :: intRowOf 3 (.slice d1 P.length m1) P :: intRowOf 3 (.slice d2 M.length m2) M2 :: R) := own1.bxput 4 (.int .i64 y)
            have bF : Below B w (wa.setCell ⟨x, 4, none⟩ (.int .i64 y)) := (bL.trans ba).setCell (p := ⟨x, 4, none⟩) hxB (.int .i64 y)
            obtain ⟨b0, b1, b2, b3, b4, k0, k1, k2, k3, k4⟩ := hb1
            clear owna own1 bL ba
            go_upto_region 21 with fail
            clear b0 b1 b2 b3 b4 k0 k1 k2 k3 k4
            generalize wa.setCell ⟨x, 4, none⟩ (.int .i64 y) = wf at *
            have hF := ownF.bx
            have ownG := ownF.perm (List.Perm.swap _ _ _)
            have hG := CurAt.bx ownG
            have ownH := CurAt.bx5 (v0 := .int .i64 p) (v1 := .int .i64 z) (v2 := .slice d1 P.length m1) (v3 := .slice d2 M.length m2) (v4 := .int .i64 y) ownG
            have hZ := CurAt.bx ownH
            have bZ := below5 bF hrB (.int .i64 p) (.int .i64 z) (.slice d1 P.length m1) (.slice d2 M.length m2) (.int .i64 y)
            obtain ⟨b0, b1, b2, b3, b4, -, -, -, -, -⟩ := hF
            obtain ⟨r0, r1, r2, r3, r4, f0, f1, f2, f3, f4⟩ := hG
            go_wp2_with fail
            refine bodyPost_ret (res_bx1 rfl rfl hZ) rfl ?_
            have ownI := ownH.drop.drop
            exact ⟨p, z, P, M2, y, d1, m1, d2, m2, aa, by rw [hMM.out], ⟨by omega, by omega, by omega, by omega, hPb, hM2b, by omega, by omega⟩, by omega, by omega, by rw [hMM.out]; exact ownI, bZ⟩
          by_cases ht : t = 1
          · subst ht
            go_upto_region 14 with fail
            have ownd := ownt.ext (w' := wt.drew)
            have bd : Below B w wt.drew := bt'.trans ((inferInstance : Ext wt wt.drew).below.mono hlowt)
            have hx0 := ownd.bx
            clear ownt bt' et hlowt
            refine wp_region_E_drew (X := fun i => i == 9) (S := fun u => u.cell? ⟨x, 2, none⟩ = some (.slice d1 P.length m1)) (by kernel_rfl) hx0.c2 (fun hHeld0 => ?_)
            generalize wt.drew = wd at *
            have hlowd := ownd.low
            clear hx0
            refine wpAnyE_take (i := 0) (v := .pointer (some ⟨x, 2, none⟩)) rfl (by kernel_rfl) (by kernel_rfl) (by kernel_rfl) (fun _ _ _ h => h) (Or.inl ⟨by rfl, by intro wx hx; go_simp⟩) (by assumption) ?_
            try simp only [List.getElem_toArray, List.getElem_cons_zero, Act.put, List.setIfInBounds_toArray, List.set_cons_zero, List.set_cons_succ]
            refine wpAnyE_take (i := 1) (v := .slice d1 P.length m1) rfl (by kernel_rfl) (by kernel_rfl) (by kernel_rfl) (fun _ _ _ h => h) (Or.inl ⟨by rfl, by intro wx hx; go_simp⟩) (by assumption) ?_
            try simp only [List.getElem_toArray, List.getElem_cons_succ, List.getElem_cons_zero, Act.put, List.setIfInBounds_toArray, List.set_cons_zero, List.set_cons_succ]
            refine wpAnyE_take (i := 2) (v := .pointer (some ⟨c, 0, none⟩)) rfl (by kernel_rfl) (by kernel_rfl) (by kernel_rfl) (fun _ _ _ h => h) (Or.inl ⟨by rfl, by intro wx hx; go_simp⟩) (by assumption) ?_
            try simp only [List.getElem_toArray, List.getElem_cons_succ, List.getElem_cons_zero, Act.put, List.setIfInBounds_toArray, List.set_cons_zero, List.set_cons_succ]
            refine wpAnyE_take (i := 3) (v := .int .i64 n) rfl (by kernel_rfl) (by kernel_rfl) (by kernel_rfl) (fun _ _ _ h => h) (Or.inl ⟨by rfl, by intro wx hx; go_simp⟩) (by assumption) ?_
            try simp only [List.getElem_toArray, List.getElem_cons_succ, List.getElem_cons_zero, Act.put, List.setIfInBounds_toArray, List.set_cons_zero, List.set_cons_succ]
            refine wpAnyE_ready (rs := [4]) (by kernel_rfl) (by simp) ?_
            refine AllReadyE.cons rfl (fun K hK => ?_) AllReadyE.nil
            go_simp
            have oL := ownd.lit (e := 3) (cs := #[.int .i64 0, .int .i64 1, .int .i64 n, .int .i64 (-1)]) [0, 1, n, -1] hlowd rfl rfl (by simp)
            have bL : Below B w (wd.alloc (.cells #[.int .i64 0, .int .i64 1, .int .i64 n, .int .i64 (-1)] 3)) := bd.alloc hlowd _
            have eL : Ext w0 (wd.alloc (.cells #[.int .i64 0, .int .i64 1, .int .i64 n, .int .i64 (-1)] 3)) := hE.out _ bL
            refine hK.out _ _ (.inr (CurAt.bx (oL.perm (List.Perm.swap _ _ _))).c2) (fun _ => ?_)
            clear hK K
            try simp only [List.getElem_toArray, List.getElem_cons_succ, List.getElem_cons_zero, Act.put, List.setIfInBounds_toArray, List.set_cons_zero, List.set_cons_succ]
            generalize wd.alloc (.cells #[.int .i64 0, .int .i64 1, .int .i64 n, .int .i64 (-1)] 3) = wl at *
            generalize wd.heap.size = gl at *
            refine wpAnyE_ready (rs := [5]) (by kernel_rfl) (by simp) ?_
            refine AllReadyE.cons rfl (fun K hK => ?_) AllReadyE.nil
            go_simp
            refine (among_any (w0 := w0) hc oL hwB (by omega) (by omega) (by simp) (by simp)).mono ?_
            rintro e wa ⟨y, aa, rfl, hy, haa, hab', owna, ba⟩
            have hyb : -1 ≤ y ∧ y ≤ 9 := by
              simp at hy
              omega
            have own1 := owna.drop
            have hlowa := own1.low
            have ba' := bL.trans ba
            refine hK.out _ _ (.inr (CurAt.bx own1).c2) (fun _ => ?_)
            clear hK K
            try simp only [List.getElem_toArray, List.getElem_cons_succ, List.getElem_cons_zero, Act.put, List.setIfInBounds_toArray, List.set_cons_zero, List.set_cons_succ]
            clear oL eL ownd owna hy
            refine wpAnyE_ready (rs := [6]) (by kernel_rfl) (by simp) ?_
            refine AllReadyE.cons rfl (fun K hK => ?_) AllReadyE.nil
            go_simp
            have oY := own1.lit (e := 3) (cs := #[.int .i64 y]) [y] hlowa rfl rfl (by simp)
            have bY : Below B w (wa.alloc (.cells #[.int .i64 y] 3)) := ba'.alloc hlowa _
            refine hK.out _ _ (.inr (CurAt.bx (oY.perm (List.Perm.swap _ _ _))).c2) (fun _ => ?_)
            clear hK K
            try simp only [List.getElem_toArray, List.getElem_cons_succ, List.getElem_cons_zero, Act.put, List.setIfInBounds_toArray, List.set_cons_zero, List.set_cons_succ]
            generalize wa.alloc (.cells #[.int .i64 y] 3) = wy at *
            generalize wa.heap.size = gy at *
            have hlowy := oY.low
            obtain ⟨s0, hs0⟩ := oY
            have oP : Own wy B (⟨3, 1, .slice d1 P.length m1, P.length, P.map (Value.int .i64)⟩ :: ([curRow c vc aa s0, intRowOf 3 (.slice (some ⟨gy, 0, none⟩) 1 1) [y], bxRow x (.int .i64 p) (.int .i64 z) (.slice d1 P.length m1) (.slice d2 M.length m2) (.int .i64 hh), bxRow r (.int .i64 0) (.int .i64 0) (.slice none 0 0) (.slice none 0 0) (.int .i64 0)] ++ intRowOf 3 (.slice d2 M.length m2) M2 :: R)) :=
              ow_pull (A := [curRow c vc aa s0, intRowOf 3 (.slice (some ⟨gy, 0, none⟩) 1 1) [y], bxRow x (.int .i64 p) (.int .i64 z) (.slice d1 P.length m1) (.slice d2 M.length m2) (.int .i64 hh), bxRow r (.int .i64 0) (.int .i64 0) (.slice none 0 0) (.slice none 0 0) (.int .i64 0)]) hs0
            have c6 : wy.cell? ⟨gy, 0, none⟩ = some (.int .i64 y) := (own_nth (k := 0) (hs0.perm (List.Perm.swap _ _ _)) rfl (by simp)).1
            refine wpAnyE_ready (rs := [7]) (by kernel_rfl) (by simp) ?_
            refine AllReadyE.cons rfl (fun K hK => ?_) AllReadyE.nil
            refine stp_one rfl (.tmp 63) (.tmp 68) 24 rfl elemInt rfl oP hlowy (us := [.int .i64 y]) rfl rfl ?_ (by intro u hu; simp at hu; subst hu; rfl) (by omega) (by omega) ?_
            · intro jj u hj
              match jj, hj with
              | 0, hj => simp at hj; subst hj; exact c6
            intro v7 w7 ho7 hb7
            have o7 := own_grow1 ho7 rfl
            obtain ⟨d7, n7, m7, hv7, hn7⟩ := own_formN o7
            subst hv7
            have b7 := bY.trans hb7
            have own8 : CurAt w7 B c vc aa (intRowOf 3 (.slice (some ⟨gy, 0, none⟩) 1 1) [y] :: bxRow x (.int .i64 p) (.int .i64 z) (.slice d1 P.length m1) (.slice d2 M.length m2) (.int .i64 hh) :: bxRow r (.int .i64 0) (.int .i64 0) (.slice none 0 0) (.slice none 0 0) (.int .i64 0) :: intRowOf 3 (.slice d7 n7 m7) (P ++ [y]) :: intRowOf 3 (.slice d2 M.length m2) M2 :: R) := ⟨s0, ow_push (A := [curRow c vc aa s0, intRowOf 3 (.slice (some ⟨gy, 0, none⟩) 1 1) [y], bxRow x (.int .i64 p) (.int .i64 z) (.slice d1 P.length m1) (.slice d2 M.length m2) (.int .i64 hh), bxRow r (.int .i64 0) (.int .i64 0) (.slice none 0 0) (.slice none 0 0) (.int .i64 0)]) o7⟩
            have own9 := own8.drop
            have hb9 := own9.bx
            have hcx := hb9.c2
            refine hK.out _ _ (.inr hcx) (fun _ => ?_)
            clear hK K
            try simp only [List.getElem_toArray, List.getElem_cons_succ, List.getElem_cons_zero, Act.put, List.setIfInBounds_toArray, List.set_cons_zero, List.set_cons_succ]
            refine wpAnyE_take (i := 8) (v := .pointer (some ⟨x, 2, none⟩)) rfl (by kernel_rfl) (by kernel_rfl) (by kernel_rfl) (fun _ _ _ h => h) (Or.inl ⟨by rfl, by intro wx hx; go_simp⟩) (by assumption) ?_
            try simp only [List.getElem_toArray, List.getElem_cons_succ, List.getElem_cons_zero, Act.put, List.setIfInBounds_toArray, List.set_cons_zero, List.set_cons_succ]
            have ownF : CurAt (w7.setCell ⟨x, 2, none⟩ (.slice d7 n7 m7)) B c vc aa (bxRow x (.int .i64 p) (.int .i64 z) (.slice d7 n7 m7) (.slice d2 M.length m2) (.int .i64 hh) :: bxRow r (.int .i64 0) (.int .i64 0) (.slice none 0 0) (.slice none 0 0) (.int .i64 0) :: intRowOf 3 (.slice d7 n7 m7) (P ++ [y]) :: intRowOf 3 (.slice d2 M.length m2) M2 :: R) := own9.bxput 2 (.slice d7 n7 m7)
            have bF : Below B w (w7.setCell ⟨x, 2, none⟩ (.slice d7 n7 m7)) := b7.setCell (p := ⟨x, 2, none⟩) hxB _
            obtain ⟨b0, b1, b2, b3, b4, k0, k1, k2, k3, k4⟩ := hb9
            clear own8 own9 o7 ho7 hb7 oP c6 hs0 bY bL ba ba' own1 hcx
            refine wpAnyE_ready (rs := [9]) (by kernel_rfl) (by simp) ?_
            refine AllReadyE.cons rfl (fun K hK => ?_) AllReadyE.nil
            go_simp
            refine hK.out _ _ (.inl rfl) (fun _ => ?_)
            clear hK K
            try simp only [List.getElem_toArray, List.getElem_cons_succ, List.getElem_cons_zero, Act.put, List.setIfInBounds_toArray, List.set_cons_zero, List.set_cons_succ]
            refine wpAnyE_done (by kernel_rfl) ?_ _
            clear b0 b1 b2 b3 b4 k0 k1 k2 k3 k4
            generalize w7.setCell ⟨x, 2, none⟩ (.slice d7 n7 m7) = wf at *
            go_upto_region 21 with fail
            have hF := ownF.bx
            have ownG := ownF.perm (List.Perm.swap _ _ _)
            have hG := CurAt.bx ownG
            have ownH := CurAt.bx5 (v0 := .int .i64 p) (v1 := .int .i64 z) (v2 := .slice d7 n7 m7) (v3 := .slice d2 M.length m2) (v4 := .int .i64 hh) ownG
            have hZ := CurAt.bx ownH
            have bZ := below5 bF hrB (.int .i64 p) (.int .i64 z) (.slice d7 n7 m7) (.slice d2 M.length m2) (.int .i64 hh)
            obtain ⟨b0, b1, b2, b3, b4, -, -, -, -, -⟩ := hF
            obtain ⟨r0, r1, r2, r3, r4, f0, f1, f2, f3, f4⟩ := hG
            go_wp2_with fail
            refine bodyPost_ret (res_bx1 rfl rfl hZ) rfl ?_
            have ownI := ownH.drop.drop
            exact ⟨p, z, P ++ [y], M2, hh, d7, m7, d2, m2, aa, by rw [hMM.out, ← hn7.out], ⟨by omega, by omega, by rw [List.length_append]; show P.length + 1 ≤ 7; omega, by omega, by
              intro q hq
              rcases List.mem_append.1 hq with hq | hq
              · exact hPb q hq
              · rw [List.mem_singleton.1 hq]; exact hyb, hM2b, by omega, by omega⟩, by omega, by omega, by rw [hMM.out, ← hn7.out]; exact ownI, bZ⟩
          by_cases ht : t = 2
          · subst ht
            have hbt := ownt.bx
            obtain ⟨s0, hs0⟩ := ownt
            have oM : Own wt B (⟨3, 1, .slice d2 M.length m2, M.length, M2.map (Value.int .i64)⟩ :: ([curRow c vc at' s0, bxRow x (.int .i64 p) (.int .i64 z) (.slice d1 P.length m1) (.slice d2 M.length m2) (.int .i64 hh), bxRow r (.int .i64 0) (.int .i64 0) (.slice none 0 0) (.slice none 0 0) (.int .i64 0), intRowOf 3 (.slice d1 P.length m1) P] ++ R)) := by
              have h : Own wt B (⟨3, 1, .slice d2 M.length m2, M2.length, M2.map (Value.int .i64)⟩ :: ([curRow c vc at' s0, bxRow x (.int .i64 p) (.int .i64 z) (.slice d1 P.length m1) (.slice d2 M.length m2) (.int .i64 hh), bxRow r (.int .i64 0) (.int .i64 0) (.slice none 0 0) (.slice none 0 0) (.int .i64 0), intRowOf 3 (.slice d1 P.length m1) P] ++ R)) := ow_pull (A := [curRow c vc at' s0, bxRow x (.int .i64 p) (.int .i64 z) (.slice d1 P.length m1) (.slice d2 M.length m2) (.int .i64 hh), bxRow r (.int .i64 0) (.int .i64 0) (.slice none 0 0) (.slice none 0 0) (.int .i64 0), intRowOf 3 (.slice d1 P.length m1) P]) hs0
              rw [hMM.out] at h
              exact h
            obtain ⟨b0, b1, b2, b3, b4, -, -, -, -, -⟩ := hbt
            go_upto_region 21 with (at_builtin; refine wpList_append1 rfl _ _ _ rfl elemInt rfl oM hlowt rfl rfl (by omega) (by omega) ?_; intro v7 w7 ho7 hb7; obtain ⟨d7, m7, hv7⟩ := ho7.form; (obtain rfl : v7 = .slice d7 (M.length + 1) m7 := hv7); have own9 : CurAt w7 B c vc at' (bxRow x (.int .i64 p) (.int .i64 z) (.slice d1 P.length m1) (.slice d2 M.length m2) (.int .i64 hh) :: bxRow r (.int .i64 0) (.int .i64 0) (.slice none 0 0) (.slice none 0 0) (.int .i64 0) :: intRowOf 3 (.slice d1 P.length m1) P :: intRowOf 3 (.slice d7 (M.length + 1) m7) (M2 ++ [1]) :: R) := ⟨s0, ow_push (A := [curRow c vc at' s0, bxRow x (.int .i64 p) (.int .i64 z) (.slice d1 P.length m1) (.slice d2 M.length m2) (.int .i64 hh), bxRow r (.int .i64 0) (.int .i64 0) (.slice none 0 0) (.slice none 0 0) (.int .i64 0), intRowOf 3 (.slice d1 P.length m1) P]) (own_grow1 ho7 hMM.out.symm)⟩; have hb9 := own9.bx; obtain ⟨b0, b1, b2, b3, b4, k0, k1, k2, k3, k4⟩ := hb9)
            have ownF : CurAt (w7.setCell ⟨x, 3, none⟩ (.slice d7 (M.length + 1) m7)) B c vc at' (bxRow x (.int .i64 p) (.int .i64 z) (.slice d1 P.length m1) (.slice d7 (M.length + 1) m7) (.int .i64 hh) :: bxRow r (.int .i64 0) (.int .i64 0) (.slice none 0 0) (.slice none 0 0) (.int .i64 0) :: intRowOf 3 (.slice d1 P.length m1) P :: intRowOf 3 (.slice d7 (M.length + 1) m7) (M2 ++ [1]) :: R) := own9.bxput 3 (.slice d7 (M.length + 1) m7)
            have bF : Below B w (w7.setCell ⟨x, 3, none⟩ (.slice d7 (M.length + 1) m7)) := (bt'.trans hb7).setCell (p := ⟨x, 3, none⟩) hxB _
            clear b0 b1 b2 b3 b4 k0 k1 k2 k3 k4 own9 ho7 hb7 oM hs0
            generalize w7.setCell ⟨x, 3, none⟩ (.slice d7 (M.length + 1) m7) = wf at *
            have hl1 := hid (show (M2 ++ [1]).length = M.length + 1 by rw [List.length_append, hMM.out]; rfl)
            have hF := ownF.bx
            have ownG := ownF.perm (List.Perm.swap _ _ _)
            have hG := CurAt.bx ownG
            have ownH := CurAt.bx5 (v0 := .int .i64 p) (v1 := .int .i64 z) (v2 := .slice d1 P.length m1) (v3 := .slice d7 (M.length + 1) m7) (v4 := .int .i64 hh) ownG
            have hZ := CurAt.bx ownH
            have bZ := below5 bF hrB (.int .i64 p) (.int .i64 z) (.slice d1 P.length m1) (.slice d7 (M.length + 1) m7) (.int .i64 hh)
            obtain ⟨b0, b1, b2, b3, b4, -, -, -, -, -⟩ := hF
            obtain ⟨r0, r1, r2, r3, r4, f0, f1, f2, f3, f4⟩ := hG
            go_wp2_with fail
            refine bodyPost_ret (res_bx1 rfl rfl hZ) rfl ?_
            have ownI := ownH.drop.drop
            exact ⟨p, z, P, M2 ++ [1], hh, d1, m1, d7, m7, at', by rw [hl1.out], ⟨by omega, by omega, by omega, by rw [hl1.out]; omega, hPb, by
              intro q hq
              rcases List.mem_append.1 hq with hq | hq
              · exact hM2b q hq
              · rw [List.mem_singleton.1 hq]; omega, by omega, by omega⟩, by omega, by omega, by rw [hl1.out]; exact ownI, bZ⟩
          by_cases ht : t = 3
          · subst ht
            have hbt := ownt.bx
            obtain ⟨b0, b1, b2, b3, b4, -, -, -, -, -⟩ := hbt
            go_wp2_with fail
            refine (policy_any (w0 := w0) hc ownt hwB (by omega) (by omega)).mono ?_
            rintro e wa ⟨y, aa, rfl, hyb, haa, hab', own1, ba⟩
            clear b0 b1 b2 b3 b4 ownt
            have hb1 := own1.bx
            have ownF : CurAt (wa.setCell ⟨x, 0, none⟩ (.int .i64 y)) B c vc aa (bxRow x (.int .i64 y) (.int .i64 z) (.slice d1 P.length m1) (.slice d2 M.length m2) (.int .i64 hh) :: bxRow r (.int .i64 0) (.int .i64 0) (.slice none 0 0) (.slice none 0 0) (.int .i64 0) :: intRowOf 3 (.slice d1 P.length m1) P :: intRowOf 3 (.slice d2 M.length m2) M2 :: R) := own1.bxput 0 (.int .i64 y)
            have bF : Below B w (wa.setCell ⟨x, 0, none⟩ (.int .i64 y)) := (bt'.trans ba).setCell (p := ⟨x, 0, none⟩) hxB (.int .i64 y)
            obtain ⟨b0, b1, b2, b3, b4, k0, k1, k2, k3, k4⟩ := hb1
            clear own1 ba
            go_upto_region 21 with fail
            clear b0 b1 b2 b3 b4 k0 k1 k2 k3 k4
            generalize wa.setCell ⟨x, 0, none⟩ (.int .i64 y) = wf at *
            have hF := ownF.bx
            have ownG := ownF.perm (List.Perm.swap _ _ _)
            have hG := CurAt.bx ownG
            have ownH := CurAt.bx5 (v0 := .int .i64 y) (v1 := .int .i64 z) (v2 := .slice d1 P.length m1) (v3 := .slice d2 M.length m2) (v4 := .int .i64 hh) ownG
            have hZ := CurAt.bx ownH
            have bZ := below5 bF hrB (.int .i64 y) (.int .i64 z) (.slice d1 P.length m1) (.slice d2 M.length m2) (.int .i64 hh)
            obtain ⟨b0, b1, b2, b3, b4, -, -, -, -, -⟩ := hF
            obtain ⟨r0, r1, r2, r3, r4, f0, f1, f2, f3, f4⟩ := hG
            go_wp2_with fail
            refine bodyPost_ret (res_bx1 rfl rfl hZ) rfl ?_
            have ownI := ownH.drop.drop
            exact ⟨y, z, P, M2, hh, d1, m1, d2, m2, aa, by rw [hMM.out], ⟨by omega, by omega, by omega, by omega, hPb, hM2b, by omega, by omega⟩, by omega, by omega, by rw [hMM.out]; exact ownI, bZ⟩
          by_cases ht : t = 4
          · subst ht
            have hbt := ownt.bx
            obtain ⟨b0, b1, b2, b3, b4, -, -, -, -, -⟩ := hbt
            go_wp2_with fail
            refine (size4_any (w0 := w0) hc ownt hwB (by omega) (by omega)).mono ?_
            rintro e wa ⟨y, aa, rfl, hyb, haa, hab', own1, ba⟩
            clear b0 b1 b2 b3 b4 ownt
            have hb1 := own1.bx
            have ownF : CurAt (wa.setCell ⟨x, 1, none⟩ (.int .i64 y)) B c vc aa (bxRow x (.int .i64 p) (.int .i64 y) (.slice d1 P.length m1) (.slice d2 M.length m2) (.int .i64 hh) :: bxRow r (.int .i64 0) (.int .i64 0) (.slice none 0 0) (.slice none 0 0) (.int .i64 0) :: intRowOf 3 (.slice d1 P.length m1) P :: intRowOf 3 (.slice d2 M.length m2) M2 :: R) := own1.bxput 1 (.int .i64 y)
            have bF : Below B w (wa.setCell ⟨x, 1, none⟩ (.int .i64 y)) := (bt'.trans ba).setCell (p := ⟨x, 1, none⟩) hxB (.int .i64 y)
            obtain ⟨b0, b1, b2, b3, b4, k0, k1, k2, k3, k4⟩ := hb1
            clear own1 ba
            go_upto_region 21 with fail
            clear b0 b1 b2 b3 b4 k0 k1 k2 k3 k4
            generalize wa.setCell ⟨x, 1, none⟩ (.int .i64 y) = wf at *
            have hF := ownF.bx
            have ownG := ownF.perm (List.Perm.swap _ _ _)
            have hG := CurAt.bx ownG
            have ownH := CurAt.bx5 (v0 := .int .i64 p) (v1 := .int .i64 y) (v2 := .slice d1 P.length m1) (v3 := .slice d2 M.length m2) (v4 := .int .i64 hh) ownG
            have hZ := CurAt.bx ownH
            have bZ := below5 bF hrB (.int .i64 p) (.int .i64 y) (.slice d1 P.length m1) (.slice d2 M.length m2) (.int .i64 hh)
            obtain ⟨b0, b1, b2, b3, b4, -, -, -, -, -⟩ := hF
            obtain ⟨r0, r1, r2, r3, r4, f0, f1, f2, f3, f4⟩ := hG
            go_wp2_with fail
            refine bodyPost_ret (res_bx1 rfl rfl hZ) rfl ?_
            have ownI := ownH.drop.drop
            exact ⟨p, y, P, M2, hh, d1, m1, d2, m2, aa, by rw [hMM.out], ⟨by omega, by omega, by omega, by omega, hPb, hM2b, by omega, by omega⟩, by omega, by omega, by rw [hMM.out]; exact ownI, bZ⟩
          have hn0 : (t == 0) = false := beq_eq_false_iff_ne.2 (by omega)
          have hn1 : (t == 1) = false := beq_eq_false_iff_ne.2 (by omega)
          have hn2 : (t == 2) = false := beq_eq_false_iff_ne.2 (by omega)
          have hn3 : (t == 3) = false := beq_eq_false_iff_ne.2 (by omega)
          have hn4 : (t == 4) = false := beq_eq_false_iff_ne.2 (by omega)
          go_upto_region 21 with fail
          have ownF := ownt
          have bF := bt'
          have hF := ownF.bx
          have ownG := ownF.perm (List.Perm.swap _ _ _)
          have hG := CurAt.bx ownG
          have ownH := CurAt.bx5 (v0 := .int .i64 p) (v1 := .int .i64 z) (v2 := .slice d1 P.length m1) (v3 := .slice d2 M.length m2) (v4 := .int .i64 hh) ownG
          have hZ := CurAt.bx ownH
          have bZ := below5 bF hrB (.int .i64 p) (.int .i64 z) (.slice d1 P.length m1) (.slice d2 M.length m2) (.int .i64 hh)
          obtain ⟨b0, b1, b2, b3, b4, -, -, -, -, -⟩ := hF
          obtain ⟨r0, r1, r2, r3, r4, f0, f1, f2, f3, f4⟩ := hG
          go_wp2_with fail
          refine bodyPost_ret (res_bx1 rfl rfl hZ) rfl ?_
          have ownI := ownH.drop.drop
          exact ⟨p, z, P, M2, hh, d1, m1, d2, m2, at', by rw [hMM.out], ⟨by omega, by omega, by omega, by omega, hPb, hM2b, by omega, by omega⟩, by omega, by omega, by rw [hMM.out]; exact ownI, bZ⟩
end Go.Proofs.YtaphnkgjcmneoaaGreatDoor
