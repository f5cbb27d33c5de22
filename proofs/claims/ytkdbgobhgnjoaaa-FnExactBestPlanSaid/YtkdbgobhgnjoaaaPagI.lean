/- BestPlan, as the program finds it. -/
import Derived.Test.YtkdbgobhgnjoaaaPagM
import Derived.Carry
namespace Go.Proofs.Ytkdbgobhgnjoaaa
open Go.RowKit Go.Maps

set_option maxRecDepth 100000 in
theorem bit_and0 : ∀ S, S < 256 → ∀ p, p < 8 → (bits BinOp.and IntKind.i64 (((S : Nat) : Int) / 2 ^ p) 1 == 0) = !S.testBit p := by decide
theorem Memo.below {w w' : World} {Bm B K : Nat} {X : List Int} (h : Memo w Bm K X) (hB : Bm < B) (hb : Below B w w') : Memo w' Bm K X := by
  obtain ⟨D, ⟨es, clock, h1, h2⟩, h3⟩ := h
  exact ⟨D, ⟨es, clock, (hb.block Bm hB).trans h1, h2⟩, h3⟩
theorem _root_.Go.World.grownBy.belowThen {a b c : World} {r : Option Nat} {B : Nat} (h : a.grownBy b r) (hB : B ≤ a.heap.size) (hk : Below B b c) (he : a.heap.size ≤ B := by omega) : a.grownBy c r :=
  ⟨hk.os.trans h.os, hk.tape.trans h.tape, hk.output.trans h.output, Nat.le_trans h.size hk.size, fun k hlt hne => (hk.block k (by omega)).trans (h.block k hlt hne)⟩
theorem Own.grown {w w' : World} {B Bm : Nat} {R : List Row} (h : Own w B R) (hg : w.grownBy w' (some Bm)) (hB : Bm < B) : Own w' B R :=
  h.same fun k hk hk2 => hg.block k hk2 (by intro e; have := Option.some.inj e; omega)
theorem known_nil (K : Nat) (X : List Int) : Known K X (.map []) := by
  intro l h
  simp [has] at h

set_option maxHeartbeats 6400000 in
set_option maxRecDepth 100000 in
theorem implBP_any {vX : Value} {k n : Int} {X : List Int} {w0 w : World} [Ext w0 w] (_hk : I64 k) (_hn : I64 n) (hX : IsInts w0 vX X) :
    Calls Try.prog 9 #[.int .i64 k, .int .i64 n, vX] w fun e w' => ∃ d0 m0, e = .returned (.tuple #[.slice d0 (bpR k n X).length m0, .bool (pagB k n X)]) ∧ Own w' w.heap.size [intRowOf 3 (.slice d0 (bpR k n X).length m0) (bpR k n X)] ∧ Ext w w' := by
  have hX0 := hX
  obtain ⟨aX, cX, rfl, lX⟩ := hX.form
  cases hB0 : pagB k n X with
  | false =>
    have hr := hid (bpR_false hB0)
    replace hB0 := hid hB0
    go_enter Try.func9, Try.ntmps9
    go_wp2_with fail
    refine (isPaging_any (w0 := w0) hX0).mono ?_; rw [hB0.out]; rintro e w1 ⟨rfl, hb1⟩
    go_wp2_with fail
    go_ret2
    rw [hr.out]
    exact ⟨_, _, rfl, (Own.nil w1 w.heap.size).cons_nil _ _, hb1⟩
  | true =>
    have hin := pagB_in hB0
    have hr := hid (bpR_true hB0)
    replace hB0 := hid hB0
    obtain ⟨⟨hk1, hk6⟩, ⟨hn1, hn8⟩, hl60, hP⟩ := hin
    obtain ⟨K, rfl⟩ := Int.eq_ofNat_of_zero_le (show 0 ≤ k by omega)
    have hK0 : 0 < K := by omega
    have hP8 : pagesB 8 X := fun j hj => by have := hP j hj; omega
    rw [Int.toNat_natCast] at hr
    replace hP8 := hid hP8
    clear hP
    have hmm := @run_makeMap Try.prog
    go_enter Try.func9, Try.ntmps9
    go_wp2_with fail
    refine (isPaging_any (w0 := w0) hX0).mono ?_; rw [hB0.out]; rintro e w1 ⟨rfl, hb1⟩
    have e01 : Ext w0 w1 := Ext.trans ‹Ext w0 w› hb1
    have hX1 : IsInts w1 (.slice aX X.length cX) X := hX0.ext
    go_upto_region 4 with fail
    have pg0 : Pager ((w1.alloc (.map #[] 0)).alloc (.cells #[.int .i64 K, .slice aX X.length cX, .map (some w1.heap.size)] 52)) (w1.heap.size + 1) w1.heap.size K (.slice aX X.length cX) X :=
      ⟨by go_simp, by go_simp, by go_simp, hX1.ext, ⟨.map [], ((World.ownsMap_made w1 Try.prog 74 (plainElem Try.prog 3)).mono (Nat.zero_le _)).alloc _, known_nil K X⟩⟩
    have eP : Ext w1 ((w1.alloc (.map #[] 0)).alloc (.cells #[.int .i64 K, .slice aX X.length cX, .map (some w1.heap.size)] 52)) := inferInstance
    have hBs : ((w1.alloc (.map #[] 0)).alloc (.cells #[.int .i64 K, .slice aX X.length cX, .map (some w1.heap.size)] 52)).heap.size = w1.heap.size + 2 := by simp
    generalize (w1.alloc (.map #[] 0)).alloc (.cells #[.int .i64 K, .slice aX X.length cX, .map (some w1.heap.size)] 52) = W0 at *
    obtain ⟨Bm, hBm⟩ : ∃ B, B = w1.heap.size := ⟨_, rfl⟩
    rw [← hBm] at pg0 hBs ⊢
    obtain ⟨Bo, hBo0⟩ : ∃ B, B = W0.heap.size := ⟨_, rfl⟩
    have hBmo : Bm < Bo := by omega
    have hBmw : w.heap.size ≤ Bm := by rw [hBm]; exact hb1.size
    have hBo : Bo ≤ W0.heap.size := by omega
    have hBo2 : W0.heap.size ≤ Bo := by omega
    have hBmi := hid hBm
    have eP' := hid (show ∀ k, k < Bm → W0.heap[k]? = w1.heap[k]? from fun k hk => eP.below.block k (by omega))
    clear hBm hBo0 hBs
    replace hBo2 := hid hBo2
    go_upto_region 5 with fail
    have own0 : Own (W0.alloc (.cells #[] 3)) Bo [intRowOf 3 (.slice (some ⟨W0.heap.size, 0, none⟩) 0 0) (planL K X 0)] := by
      rw [show planL K X 0 = [] from rfl]
      exact Own.litInts (xs := []) hBo rfl rfl (Nat.zero_le _) rfl
    have hgW : W0.grownBy (W0.alloc (.cells #[] 3)) (some Bm) := ext_grown _
    have hmW : Memo (W0.alloc (.cells #[] 3)) Bm K X := pg0.memo.ext
    generalize W0.alloc (.cells #[] 3) = W at *
    go_wp2
    go_loopw [9, 10, 27] (fun v s i wr => ∃ i' : Nat, i' ≤ X.length ∧ i = .int .i64 i' ∧ s = .int .i64 (setL K X i') ∧ Own wr Bo [intRowOf 3 v (planL K X i')] ∧ W0.grownBy wr (some Bm) ∧ Memo wr Bm K X) (fun _ _ i _ => X.length - (intOf i).toNat)
    case atStart => exact ⟨0, by omega, rfl, rfl, own0, hgW, hmW⟩
    case round =>
      obtain ⟨i, hi, rfl, rfl, hownp, hg, hm⟩ := hrel
      obtain ⟨vd, vm, rfl⟩ := hownp.formInts
      obtain ⟨wq, rfl⟩ : ∃ x : World, x = wr := ⟨_, rfl⟩
      have hpq := pg0.grown hg hm
      by_cases hlt : i < X.length
      · obtain ⟨b3, o3, rfl, hc3⟩ := hpq.ints.at (w' := wq) hlt
        have hpk := hid (hP8.out i hlt)
        obtain ⟨p, hp⟩ := Int.eq_ofNat_of_zero_le hpk.out.1
        have hp8 : p < 8 := by have := hpk.out.2; omega
        rw [hp] at hc3
        have hpe := hid (show (nth X i).toNat = p by rw [hp]; rfl)
        have hsin := setL_in (n := 8) (k := K) (by omega) hK0 hP8.out (i := i) (by omega)
        obtain ⟨S, hS⟩ : ∃ S, S = setL K X i := ⟨_, rfl⟩
        rw [← hS] at hsin ⊢
        have hSe := hid hS.symm
        clear hS
        obtain ⟨hS256, hSK⟩ := hsin
        have hS256 : S < 256 := hS256
        have hb := hid (bit_and0 S hS256 p hp8)
        cases hbp : S.testBit p with
        | true =>
          have hb' : (bits BinOp.and IntKind.i64 (((S : Nat) : Int) / 2 ^ p) 1 == 0) = false := by rw [hb.out, hbp]; rfl
          have hpls := hid (show planL K X (i + 1) = planL K X i ++ [-1] by rw [planL, hSe.out, hpe.out, (pick_hit (n := 8) hbp).2])
          have hsl := hid (show setL K X (i + 1) = S by rw [setL, hSe.out, hpe.out, (pick_hit (n := 8) hbp).2, aft_hit (n := 8) (by omega) hS256 hp8 hbp])
          replace hbp := hid hbp
          have hlp := hid (planL_length K X i)
          have hB9 : Bo ≤ wq.heap.size := Nat.le_trans hBo (World.grownBy.size hg)
          go_wp2_with (at_builtin; refine wpList_append1 rfl _ _ _ rfl elemInt rfl hownp hB9 rfl rfl (by have := hlp.out; omega) (by have := hlp.out; omega) ?_; intro v1 w10 ho hbe)
          go_roundw
          case rel => exact ⟨i + 1, by omega, by go_num, by rw [hsl.out], by rw [hpls.out]; exact own_snoc ho rfl, hg.belowThen hBo hbe hBo2.out, hm.below hBmo hbe⟩
          case measure => simp [intOf]; omega
        | false =>
          have hb' : (bits BinOp.and IntKind.i64 (((S : Nat) : Int) / 2 ^ p) 1 == 0) = true := by rw [hb.out, hbp]; rfl
          have hdx : X.length - (X.length - (i + 1) + 1) = i := by omega
          obtain ⟨_, j0, hj0, hpick, hfind, _⟩ := pick_miss (n := 8) (d := X.length - (i + 1)) (by omega) hK0 hP8.out (by omega) hS256 hSK (by rw [hdx, hpe.out]; exact hbp)
          rw [hdx, hpe.out] at hpick hfind
          clear hdx
          replace hbp := hid hbp
          have hd1 : (i + 1) + (X.length - (i + 1)) = X.length := by omega
          have hd0 : i + (X.length - (i + 1) + 1) = X.length := by omega
          go_wp2_with fail
          refine (choices_any (k := K) (P := Bm + 1) (w := wq) hpq.k hS256).mono ?_
          rintro e w2 ⟨gc, mc, rfl, hcho, he2⟩
          obtain ⟨C, hC⟩ : ∃ C, C = choF K 8 S := ⟨_, rfl⟩
          have hcl := choF_length (K := K) (S := S)
          rw [← hC] at hcho hcl hj0 hpick hfind ⊢
          have hCid := hid hC
          clear hC
          replace hpick := hid hpick
          replace hfind := hid hfind
          have hp2 := hpq.ext (w' := w2)
          have hown2 := hownp.ext (w' := w2)
          have hg2 : W0.grownBy w2 (some Bm) := World.grownBy.trans hg (ext_grown _)
          go_wp2
          go_loopw [13, 41] (fun _ q wr => ∃ j : Nat, j ≤ j0 ∧ q = .int .i64 j ∧ w2.grownBy wr (some Bm) ∧ Memo wr Bm K X) (fun _ q _ => j0 - (intOf q).toNat)
          case atStart => exact ⟨0, by omega, rfl, World.grownBy.refl _ _, hp2.memo⟩
          case round =>
            obtain ⟨j, hj, rfl, hg3, hm3⟩ := hrel
            obtain ⟨w3, rfl⟩ : ∃ x : World, x = wr := ⟨_, rfl⟩
            have hp3 := hp2.grown hg3 hm3
            have hjC : j < C.length := by omega
            obtain ⟨g, rfl⟩ := hcho.at (j := j) hjC
            have vC : w3.cell? ⟨g, j, none⟩ = some (.int .i64 (nth C j)) := by
              refine hp2.memo.cell hg3 ?_
              rw [hcho.cellAt (w' := w2) (j := j) hjC]
              simp [nth, hjC]
            have hmem : nth C j ∈ choF K 8 S := by rw [← hCid.out]; exact nth_mem hjC
            have hxp : nth C j = -1 ∨ ∃ q : Nat, nth C j = q ∧ q < 8 ∧ S.testBit q = true := by
              rcases mem_choF hmem with ⟨h, _⟩ | h
              · exact .inl h
              · exact .inr h
            have haS : aftS S (nth C j) p < 256 := aft_lt (n := 8) hS256 hp8
            have haz := aft_sz (n := 8) (by omega) hS256 hp8 hSK hmem
            have hiff := hid (hfind.out j hj)
            have hlb := lst_in hK0 hP8.out (d := X.length - (i + 1)) (by omega) haS haz
            have hl0 := lst_in hK0 hP8.out (d := X.length - (i + 1) + 1) (by omega) hS256 hSK
            obtain ⟨xj, hxj⟩ : ∃ x, x = nth C j := ⟨_, rfl⟩
            rw [← hxj] at vC hxp haS haz hiff hlb
            obtain ⟨S', hS'⟩ : ∃ x, x = aftS S xj p := ⟨_, rfl⟩
            rw [← hS'] at haS haz hiff hlb
            have hSid := hid hS'
            obtain ⟨L1, hL1⟩ : ∃ x, x = lstT K X (X.length - (i + 1)) S' := ⟨_, rfl⟩
            rw [← hL1] at hiff hlb
            have hL1d := hid hL1.symm
            obtain ⟨L0, hL0⟩ : ∃ x, x = lstT K X (X.length - (i + 1) + 1) S := ⟨_, rfl⟩
            rw [← hL0] at hiff hl0
            have hL0d := hid hL0.symm
            have hxji := hid hxj
            clear hmem hxj hS' hL1 hL0
            go_wp2_with fail
            refine (after_any hS256 hp8 hxp w3).mono ?_
            rw [← hSid.out]
            rintro e w4 ⟨rfl, he4⟩
            have hp4 := hp3.ext (w' := w4)
            have hg4 : w2.grownBy w4 (some Bm) := World.grownBy.trans hg3 (ext_grown _)
            go_wp2_with fail
            refine (least_any hK0 hP8.out hl60 (X.length - (i + 1)) (i := i + 1) hd1 haS haz hp4).mono ?_
            rw [hL1d.out]
            rintro e w5 ⟨rfl, hm5, hgs5⟩
            have hp5 := hp4.grown hgs5 hm5
            have hg5 := World.grownBy.trans hg4 hgs5
            go_wp2_with fail
            refine (least_any hK0 hP8.out hl60 (X.length - (i + 1) + 1) (i := i) hd0 hS256 hSK hp5).mono ?_
            rw [hL0d.out]
            rintro e w6 ⟨rfl, hm6, hgs6⟩
            have hg6 := World.grownBy.trans hg5 hgs6
            clear hp4 hp5 hg4 hg5 hgs5 hgs6 hm5 he4
            by_cases hjj : j = j0
            · have heq : 1 + L1 = L0 := hiff.out.2 hjj
              have hxe := hid (show pickP K X (X.length - (i + 1)) (setL K X i) (nth X i).toNat = xj by rw [hSe.out, hpe.out, hxji.out, hjj]; exact hpick.out)
              replace hjj := hid hjj
              replace heq := hid heq
              have heqd : (1 + L1 == L0) = true := by rw [heq.out]; simp
              go_wp2_with fail
              refine (after_any hS256 hp8 hxp w6).mono ?_
              rw [← hSid.out]
              rintro e w7 ⟨rfl, he7⟩
              have hg7 : w2.grownBy w7 (some Bm) := World.grownBy.trans hg6 (ext_grown _)
              have hm7 := hm6.ext (w' := w7)
              have hown7 := hown2.grown hg7 hBmo
              have hgr7 := World.grownBy.trans hg2 hg7
              have hpls := hid (show planL K X (i + 1) = planL K X i ++ [xj] by rw [planL, hxe.out])
              have hsl := hid (show setL K X (i + 1) = S' by rw [setL, hSid.out, hxe.out, hSe.out, hpe.out])
              have hlp := hid (planL_length K X i)
              have hB9 : Bo ≤ w7.heap.size := Nat.le_trans hBo (World.grownBy.size hgr7)
              go_wp2_with (at_builtin; refine wpList_append1 rfl _ _ _ rfl elemInt rfl hown7 hB9 rfl rfl (by have := hlp.out; omega) (by have := hlp.out; omega) ?_; intro v1 w10 ho hbe)
              go_roundw
              case rel => exact ⟨i + 1, by omega, by go_num, by rw [hsl.out], by rw [hpls.out]; exact own_snoc ho rfl, hgr7.belowThen hBo hbe hBo2.out, hm7.below hBmo hbe⟩
              case measure => simp [intOf]; omega
            · have hne : 1 + L1 ≠ L0 := fun h => hjj (hiff.out.1 h)
              go_wp2_with fail
              go_roundw
              case rel => exact ⟨j + 1, by omega, by go_num, hg6, hm6⟩
              case measure => simp [intOf]; omega
      · have hiX : i = X.length := by omega
        have hfin := hid (show bpR K n X = planL K X i by rw [hr.out, hiX])
        replace hiX := hid hiX
        go_wp2
        go_ret2
        rw [hfin.out]
        refine ⟨_, _, rfl, hownp.mono (by omega), ⟨hb1.below.trans ⟨hg.os.trans eP.below.os, hg.tape.trans eP.below.tape, hg.output.trans eP.below.output, Nat.le_trans eP.size hg.size, fun k hk => ?_⟩⟩⟩
        have h1 := eP'.out k (by omega)
        exact (hg.block k (by omega) (by intro e; have := Option.some.inj e; omega)).trans h1
end Go.Proofs.Ytkdbgobhgnjoaaa
