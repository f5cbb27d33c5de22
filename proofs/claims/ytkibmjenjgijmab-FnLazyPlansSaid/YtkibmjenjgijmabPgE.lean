/- A plan that a draw makes. -/
import Derived.Test.YtkibmjenjgijmabPgD
import Derived.Deep.CutRange
namespace Go.Proofs.Ytkibmjenjgijmab
open Go.RowKit

set_option maxHeartbeats 3200000 in
set_option maxRecDepth 100000 in
theorem plan_any {w0 w : World} [Ext w0 w] {vc : Value} {nb : Nat} (hc : IsBytes w0 vc nb) {B c : Nat} {a : Int} {R : List Row} {vX : Value} {X : List Int} (own : CurAt w B c vc a (intRowOf 3 vX X :: R)) (hwB : w0.heap.size ≤ B) (ha : 0 ≤ a) (ha2 : a ≤ 1000000) {k n : Int} (hk : -10 ≤ k ∧ k ≤ 10) (hn : -5 ≤ n ∧ n ≤ 100) (hXl : X.length ≤ 100) (hXb : ∀ x ∈ X, -10 ≤ x ∧ x ≤ 1000) :
    Calls Try.prog 63 #[.pointer (some ⟨c, 0, none⟩), .int .i64 k, .int .i64 n, vX] w fun e w' => ∃ v P a', e = .returned v ∧ P.length ≤ 100 ∧ (∀ x ∈ P, -10 ≤ x ∧ x ≤ 1000) ∧ a ≤ a' ∧ a' ≤ a + 1000 ∧ CurAt w' B c vc a' (intRowOf 3 v P :: intRowOf 3 vX X :: R) ∧ Below B w w' := by
  have hBw := own.size
  have hE : ∀ u, Below B w u → Ext w0 u := fun u h => ⟨(‹Ext w0 w›).below.trans (h.mono hwB)⟩
  replace hE := hid hE
  obtain ⟨dx, mx, hvX⟩ := own.rows.form
  have hvX' : vX = .slice dx X.length mx := hvX
  subst hvX'
  clear hvX
  have hXi := hid (show ∀ y ∈ X, I64 y from fun y hy => by have := hXb y hy; unfold I64; omega)
  go_enter Try.func63, Try.ntmps63
  go_upto_region 2 with fail
  have own1 := own.lit (e := 3) (n := 0) (cs := #[]) [] own.size rfl rfl (by simp)
  have own2 := own1.lit (e := 3) (n := 0) (cs := #[]) [] own1.size rfl rfl (by simp)
  have b2 : Below B w ((w.alloc (.cells #[] 3)).alloc (.cells #[] 3)) := ((Below.refl B w).alloc hBw _).alloc own1.size _
  have hsz : (w.alloc (.cells #[] 3)).heap.size = w.heap.size + 1 := by simp
  rw [hsz] at own2
  generalize (w.alloc (.cells #[] 3)).alloc (.cells #[] 3) = w2 at *
  clear own own1 hsz
  go_wp2_with fail
  go_loopw [9, 10, 11] (fun pv nv iv wr => ∃ i : Nat, i ≤ X.length ∧ i ≤ 61 ∧ iv = .int .i64 i ∧ ∃ P N ax, Hid (P.length = i) ∧ N.length ≤ i ∧ (∀ x ∈ P, -10 ≤ x ∧ x ≤ 1000) ∧ (∀ x ∈ N, -10 ≤ x ∧ x ≤ 1000) ∧ a ≤ ax ∧ ax ≤ a + 10 * i ∧ CurAt wr B c vc ax (intRowOf 3 nv N :: intRowOf 3 pv P :: intRowOf 3 (.slice dx X.length mx) X :: R) ∧ Below B w wr) (fun _ _ iv _ => X.length - (intOf iv).toNat)
  case atStart => exact ⟨0, by omega, by omega, rfl, [], [], a, hid rfl, by simp, by simp, by simp, by omega, by omega, own2, b2⟩
  case round =>
    clear own2 b2
    obtain ⟨i, hi, hi61, rfl, P, N, ax, hPl, hNl, hPb, hNb, hax1, hax2, own, bq⟩ := hrel
    obtain ⟨wq, rfl⟩ : ∃ y : World, y = wr := ⟨_, rfl⟩
    obtain ⟨dn, mn, rfl⟩ := ow_ints own.rows
    obtain ⟨vPd, vPm, rfl⟩ := ow_ints own.rows.tail
    have eq : Ext w0 wq := hE.out _ bq
    by_cases hlt : i < X.length
    · have gl : decide (i < X.length) = true := decide_eq_true hlt
      by_cases h60 : i ≤ 60
      · have g60 : decide ((i : Int) ≤ 60) = true := decide_eq_true (by omega)
        have hxX : IsInts wq (.slice dx X.length mx) X := (own.rows.tail.tail).reads (e := 3) (by unfold Short; omega) hXi.out
        obtain ⟨bx, ox, hdx, hcx⟩ := hxX.at (w' := wq) hlt
        cases hdx
        have hrb := hXb _ (nth_mem hlt)
        obtain ⟨r, hr⟩ : ∃ r, r = nth X i := ⟨_, rfl⟩
        rw [← hr] at hcx hrb
        have hri : I64 r := by unfold I64; omega
        replace hr := hid hr
        have hnN : IsInts wq (.slice dn N.length mn) N := (own.rows).reads (e := 3) (by unfold Short; omega) (fun y hy => by have := hNb y hy; unfold I64; omega)
        obtain ⟨bh, hbh⟩ : ∃ b, b = hasB N r := ⟨_, rfl⟩
        replace hbh := hid hbh
        clear hxX
        go_wp2_with fail
        with_reducible refine (l1Has_any (w0 := wq) (w := wq) hnN).mono ?_
        rw [← hbh.out]
        rintro e w3 ⟨rfl, rfl⟩
        clear hnN hcx
        go_upto_if 31 with fail
        go_cut [10, 12] (fun nv ov wx => ∃ (N' : List Int) (ay o : Int), ov = .int .i64 o ∧ (-10 ≤ o ∧ o ≤ 1000) ∧ N'.length ≤ i + 1 ∧ (∀ y ∈ N', -10 ≤ y ∧ y ≤ 1000) ∧ a ≤ ay ∧ ay ≤ a + 10 * i + 4 ∧ CurAt wx B c vc ay (intRowOf 3 nv N' :: intRowOf 3 (.slice vPd P.length vPm) P :: intRowOf 3 (.slice (some ⟨bx, ox, none⟩) X.length mx) X :: R) ∧ Below B w wx)
        case first =>
          cases bh with
          | true =>
            go_wp2_with fail
            go_meet
            exact ⟨N, ax, -1, rfl, by omega, by omega, hNb, by omega, by omega, own, bq⟩
          | false =>
            by_cases hN0 : N.length = 0
            · have g1 : decide (N.length > 0) = false := decide_eq_false (by omega)
              replace hN0 := hid hN0
              have hxX : IsInts wq (.slice (some ⟨bx, ox, none⟩) X.length mx) X := (own.rows.tail.tail).reads (e := 3) (by unfold Short; omega) hXi.out
              obtain ⟨bx2, ox2, hdx2, hcx2⟩ := hxX.at (w' := wq) hlt
              cases hdx2
              rw [← hr.out] at hcx2
              have hnN : IsInts wq (.slice dn N.length mn) N := (own.rows).reads (e := 3) (by unfold Short; omega) (fun y hy => by have := hNb y hy; unfold I64; omega)
              go_wp2_with fail
              with_reducible refine (l1PutO_any (w0 := wq) (w := wq) hnN hri (by omega)).mono ?_
              rintro e w8 ⟨d8, m8, rfl, hr8, hp8, e8⟩
              have b8 : Below B w w8 := bq.trans (e8.below.mono own.size)
              have hpl := putL_len (x := r) (l := N)
              have hpb : ∀ y ∈ putL N r, -10 ≤ y ∧ y ≤ 1000 := fun y hy => by
                rcases mem_putL.1 hy with h | h
                · rw [h]; exact hrb
                · exact hNb y h
              have own8 : CurAt w8 B c vc ax (intRowOf 3 (.slice d8 (putL N r).length m8) (putL N r) :: intRowOf 3 (.slice vPd P.length vPm) P :: intRowOf 3 (.slice (some ⟨bx, ox, none⟩) X.length mx) X :: R) := by
                rcases hp8 with ⟨h1, h2⟩ | h
                · have h3 := own.ext (w' := w8)
                  rw [h2] at h1 ⊢
                  rw [h1]
                  exact h3
                · exact (CurAt.join own h own.size).sub (List.Sublist.cons_cons _ (List.sublist_cons_self _ _))
              clear hxX hnN hcx2 hp8 hr8 own bq
              go_wp2_with fail
              go_meet
              exact ⟨putL N r, ax, (-1), rfl, by omega, by omega, hpb, by omega, by omega, own8, b8⟩
            · have g1 : decide (N.length > 0) = true := decide_eq_true (by omega)
              by_cases hNk : (N.length : Int) ≥ k
              · have g2 : decide ((N.length : Int) ≥ k) = true := decide_eq_true hNk
                go_wp2_with fail
                refine (pick_any (w0 := w0) hc own hwB (by omega) (by omega)).mono ?_
                rintro e w5 ⟨x, a5, rfl, hx0, hx1, hx2, h51, h52, own5, b5⟩
                have hx3 := hx2 (by omega)
                have b5' := bq.trans b5
                obtain ⟨x, rfl⟩ := Int.eq_ofNat_of_zero_le hx0
                have hxN : x < N.length := by omega
                have hnN5 : IsInts w5 (.slice dn N.length mn) N := (own5.rows).reads (e := 3) (by unfold Short; omega) (fun y hy => by have := hNb y hy; unfold I64; omega)
                obtain ⟨bn, on, hdn, hcn⟩ := hnN5.at (w' := w5) hxN
                cases hdn
                have hob := hNb _ (nth_mem hxN)
                obtain ⟨o, ho⟩ : ∃ o, o = nth N x := ⟨_, rfl⟩
                rw [← ho] at hcn hob
                replace ho := hid ho
                clear own bq b5 hx1 hx2
                go_wp2_with fail
                with_reducible refine (l5Out_any (w0 := w5) (w := w5) hnN5 (by omega)).mono ?_
                rintro e w6 ⟨d6, m6, rfl, ownO, e6⟩
                have b6 : Below B w w6 := b5'.trans (e6.below.mono own5.size)
                have own6 : CurAt w6 B c vc a5 (intRowOf 3 (.slice d6 (outL N o).length m6) (outL N o) :: intRowOf 3 (.slice vPd P.length vPm) P :: intRowOf 3 (.slice (some ⟨bx, ox, none⟩) X.length mx) X :: R) := (CurAt.join own5 ownO own5.size).sub (List.Sublist.cons_cons _ (List.sublist_cons_self _ _))
                have hol := outL_len N o
                have hobb : ∀ y ∈ outL N o, -10 ≤ y ∧ y ≤ 1000 := fun y hy => hNb y (mem_outL.1 hy).1
                clear ownO own5 b5' hnN5
                have hxX : IsInts w6 (.slice (some ⟨bx, ox, none⟩) X.length mx) X := (own6.rows.tail.tail).reads (e := 3) (by unfold Short; omega) hXi.out
                obtain ⟨bx2, ox2, hdx2, hcx2⟩ := hxX.at (w' := w6) hlt
                cases hdx2
                rw [← hr.out] at hcx2
                have hnN : IsInts w6 (.slice d6 (outL N o).length m6) (outL N o) := (own6.rows).reads (e := 3) (by unfold Short; omega) (fun y hy => by have := hobb y hy; unfold I64; omega)
                go_wp2_with fail
                with_reducible refine (l1PutO_any (w0 := w6) (w := w6) hnN hri (by omega)).mono ?_
                rintro e w8 ⟨d8, m8, rfl, hr8, hp8, e8⟩
                have b8 : Below B w w8 := b6.trans (e8.below.mono own6.size)
                have hpl := putL_len (x := r) (l := (outL N o))
                have hpb : ∀ y ∈ putL (outL N o) r, -10 ≤ y ∧ y ≤ 1000 := fun y hy => by
                  rcases mem_putL.1 hy with h | h
                  · rw [h]; exact hrb
                  · exact hobb y h
                have own8 : CurAt w8 B c vc a5 (intRowOf 3 (.slice d8 (putL (outL N o) r).length m8) (putL (outL N o) r) :: intRowOf 3 (.slice vPd P.length vPm) P :: intRowOf 3 (.slice (some ⟨bx, ox, none⟩) X.length mx) X :: R) := by
                  rcases hp8 with ⟨h1, h2⟩ | h
                  · have h3 := own6.ext (w' := w8)
                    rw [h2] at h1 ⊢
                    rw [h1]
                    exact h3
                  · exact (CurAt.join own6 h own6.size).sub (List.Sublist.cons_cons _ (List.sublist_cons_self _ _))
                clear hxX hnN hcx2 hp8 hr8 own6 b6
                go_wp2_with fail
                go_meet
                exact ⟨putL (outL N o) r, a5, o, rfl, by omega, by omega, hpb, by omega, by omega, own8, b8⟩
              · have g2 : decide ((N.length : Int) ≥ k) = false := decide_eq_false hNk
                go_wp2_with fail
                refine (one_any (w0 := w0) hc own hwB (by omega) (by omega)).mono ?_
                rintro e w4 ⟨q4, a4, rfl, h41, h42, own4, b4⟩
                have b4' := bq.trans b4
                have e4 : Ext w0 w4 := hE.out _ b4'
                clear own bq b4 eq
                cases q4 with
                | true =>
                  go_wp2_with fail
                  refine (pick_any (w0 := w0) hc own4 hwB (by omega) (by omega)).mono ?_
                  rintro e w5 ⟨x, a5, rfl, hx0, hx1, hx2, h51, h52, own5, b5⟩
                  have hx3 := hx2 (by omega)
                  have b5' := b4'.trans b5
                  obtain ⟨x, rfl⟩ := Int.eq_ofNat_of_zero_le hx0
                  have hxN : x < N.length := by omega
                  have hnN5 : IsInts w5 (.slice dn N.length mn) N := (own5.rows).reads (e := 3) (by unfold Short; omega) (fun y hy => by have := hNb y hy; unfold I64; omega)
                  obtain ⟨bn, on, hdn, hcn⟩ := hnN5.at (w' := w5) hxN
                  cases hdn
                  have hob := hNb _ (nth_mem hxN)
                  obtain ⟨o, ho⟩ : ∃ o, o = nth N x := ⟨_, rfl⟩
                  rw [← ho] at hcn hob
                  replace ho := hid ho
                  clear own4 b4' b5 hx1 hx2
                  go_wp2_with fail
                  with_reducible refine (l5Out_any (w0 := w5) (w := w5) hnN5 (by omega)).mono ?_
                  rintro e w6 ⟨d6, m6, rfl, ownO, e6⟩
                  have b6 : Below B w w6 := b5'.trans (e6.below.mono own5.size)
                  have own6 : CurAt w6 B c vc a5 (intRowOf 3 (.slice d6 (outL N o).length m6) (outL N o) :: intRowOf 3 (.slice vPd P.length vPm) P :: intRowOf 3 (.slice (some ⟨bx, ox, none⟩) X.length mx) X :: R) := (CurAt.join own5 ownO own5.size).sub (List.Sublist.cons_cons _ (List.sublist_cons_self _ _))
                  have hol := outL_len N o
                  have hobb : ∀ y ∈ outL N o, -10 ≤ y ∧ y ≤ 1000 := fun y hy => hNb y (mem_outL.1 hy).1
                  clear ownO own5 b5' hnN5
                  have hxX : IsInts w6 (.slice (some ⟨bx, ox, none⟩) X.length mx) X := (own6.rows.tail.tail).reads (e := 3) (by unfold Short; omega) hXi.out
                  obtain ⟨bx2, ox2, hdx2, hcx2⟩ := hxX.at (w' := w6) hlt
                  cases hdx2
                  rw [← hr.out] at hcx2
                  have hnN : IsInts w6 (.slice d6 (outL N o).length m6) (outL N o) := (own6.rows).reads (e := 3) (by unfold Short; omega) (fun y hy => by have := hobb y hy; unfold I64; omega)
                  go_wp2_with fail
                  with_reducible refine (l1PutO_any (w0 := w6) (w := w6) hnN hri (by omega)).mono ?_
                  rintro e w8 ⟨d8, m8, rfl, hr8, hp8, e8⟩
                  have b8 : Below B w w8 := b6.trans (e8.below.mono own6.size)
                  have hpl := putL_len (x := r) (l := (outL N o))
                  have hpb : ∀ y ∈ putL (outL N o) r, -10 ≤ y ∧ y ≤ 1000 := fun y hy => by
                    rcases mem_putL.1 hy with h | h
                    · rw [h]; exact hrb
                    · exact hobb y h
                  have own8 : CurAt w8 B c vc a5 (intRowOf 3 (.slice d8 (putL (outL N o) r).length m8) (putL (outL N o) r) :: intRowOf 3 (.slice vPd P.length vPm) P :: intRowOf 3 (.slice (some ⟨bx, ox, none⟩) X.length mx) X :: R) := by
                    rcases hp8 with ⟨h1, h2⟩ | h
                    · have h3 := own6.ext (w' := w8)
                      rw [h2] at h1 ⊢
                      rw [h1]
                      exact h3
                    · exact (CurAt.join own6 h own6.size).sub (List.Sublist.cons_cons _ (List.sublist_cons_self _ _))
                  clear hxX hnN hcx2 hp8 hr8 own6 b6
                  go_wp2_with fail
                  go_meet
                  exact ⟨putL (outL N o) r, a5, o, rfl, by omega, by omega, hpb, by omega, by omega, own8, b8⟩
                | false =>
                  have hxX : IsInts w4 (.slice (some ⟨bx, ox, none⟩) X.length mx) X := (own4.rows.tail.tail).reads (e := 3) (by unfold Short; omega) hXi.out
                  obtain ⟨bx2, ox2, hdx2, hcx2⟩ := hxX.at (w' := w4) hlt
                  cases hdx2
                  rw [← hr.out] at hcx2
                  have hnN : IsInts w4 (.slice dn N.length mn) N := (own4.rows).reads (e := 3) (by unfold Short; omega) (fun y hy => by have := hNb y hy; unfold I64; omega)
                  go_wp2_with fail
                  with_reducible refine (l1PutO_any (w0 := w4) (w := w4) hnN hri (by omega)).mono ?_
                  rintro e w8 ⟨d8, m8, rfl, hr8, hp8, e8⟩
                  have b8 : Below B w w8 := b4'.trans (e8.below.mono own4.size)
                  have hpl := putL_len (x := r) (l := N)
                  have hpb : ∀ y ∈ putL N r, -10 ≤ y ∧ y ≤ 1000 := fun y hy => by
                    rcases mem_putL.1 hy with h | h
                    · rw [h]; exact hrb
                    · exact hNb y h
                  have own8 : CurAt w8 B c vc a4 (intRowOf 3 (.slice d8 (putL N r).length m8) (putL N r) :: intRowOf 3 (.slice vPd P.length vPm) P :: intRowOf 3 (.slice (some ⟨bx, ox, none⟩) X.length mx) X :: R) := by
                    rcases hp8 with ⟨h1, h2⟩ | h
                    · have h3 := own4.ext (w' := w8)
                      rw [h2] at h1 ⊢
                      rw [h1]
                      exact h3
                    · exact (CurAt.join own4 h own4.size).sub (List.Sublist.cons_cons _ (List.sublist_cons_self _ _))
                  clear hxX hnN hcx2 hp8 hr8 own4 b4'
                  go_wp2_with fail
                  go_meet
                  exact ⟨putL N r, a4, (-1), rfl, by omega, by omega, hpb, by omega, by omega, own8, b8⟩
        case rest =>
          obtain ⟨N', ay, o, rfl, hob, hN'l, hN'b, hay1, hay2, ownc, bc⟩ := hcut
          obtain ⟨wd, rfl⟩ : ∃ y : World, y = wc := ⟨_, rfl⟩
          have ed : Ext w0 wd := hE.out _ bc
          obtain ⟨dn', mn', rfl⟩ := ow_ints ownc.rows
          clear own bq eq hNl hNb
          go_wp2_with fail
          refine (one_any (w0 := w0) hc ownc hwB (by omega) (by omega)).mono ?_
          rintro e w4 ⟨q4, a4, rfl, h41, h42, own4, b4⟩
          have b4' := bc.trans b4
          have e4 : Ext w0 w4 := hE.out _ b4'
          clear ownc bc b4 ed
          cases q4 with
          | true =>
            have hw1 : IntKind.i64.wrap (n - 1) = n - 1 := IntWalk.i64_in _ (by omega)
            replace hw1 := hid hw1
            go_wp2_with fail
            refine (among_any (w0 := w0) hc (own4.lit [-1, 0, n - 1, n, -2] own4.size rfl rfl (by simp)) hwB (by omega) (by omega) (by simp) (by simp)).mono ?_
            rintro e w6 ⟨y, a6, rfl, hy, h61, h62, own6, b6⟩
            have hy' : -10 ≤ y ∧ y ≤ 1000 := by simp at hy; omega
            have b6' : Below B w w6 := b4'.trans (((Below.refl B w4).alloc own4.size _).trans b6)
            have own6' := own6.drop
            clear own4 own6 b6 b4' hy
            obtain ⟨s6, h6⟩ := own6'
            have hB6 := CurAt.size ⟨s6, h6⟩
            have h6' := ow_pull (A := [curRow c vc a6 s6, intRowOf 3 (.slice dn' N'.length mn') N']) h6
            have hPl2 : P.length ≤ i := by have := hPl.out; omega
            clear h6
            go_wp2_with (at_builtin; refine wpList_append1 rfl _ _ _ rfl elemInt rfl h6' hB6 rfl rfl (by omega) (by omega) ?_; intro v7 w7 ho hb7)
            go_roundw
            case rel => exact ⟨i + 1, by omega, by omega, by go_num, P ++ [y], N', a6, hid (by rw [List.length_append, hPl.out]; rfl), by omega, bd_snoc hPb hy', hN'b, by omega, by omega, ⟨s6, ow_push (A := [curRow c vc a6 s6, intRowOf 3 (.slice dn' N'.length mn') N']) (own_grow1 ho rfl)⟩, b6'.trans hb7⟩
            case measure => simp [intOf]; omega
          | false =>
            obtain ⟨s6, h6⟩ := own4
            have hB6 := CurAt.size ⟨s6, h6⟩
            have h6' := ow_pull (A := [curRow c vc a4 s6, intRowOf 3 (.slice dn' N'.length mn') N']) h6
            have hPl2 : P.length ≤ i := by have := hPl.out; omega
            clear h6
            go_wp2_with (at_builtin; refine wpList_append1 rfl _ _ _ rfl elemInt rfl h6' hB6 rfl rfl (by omega) (by omega) ?_; intro v7 w7 ho hb7)
            go_roundw
            case rel => exact ⟨i + 1, by omega, by omega, by go_num, P ++ [o], N', a4, hid (by rw [List.length_append, hPl.out]; rfl), by omega, bd_snoc hPb hob, hN'b, by omega, by omega, ⟨s6, ow_push (A := [curRow c vc a4 s6, intRowOf 3 (.slice dn' N'.length mn') N']) (own_grow1 ho rfl)⟩, b4'.trans hb7⟩
            case measure => simp [intOf]; omega
      · have g60 : decide ((i : Int) ≤ 60) = false := decide_eq_false (by omega)
        go_wp2_with fail
        refine (one_any (w0 := w0) hc own hwB (by omega) (by omega)).mono ?_
        rintro e w4 ⟨q4, a4, rfl, h41, h42, own4, b4⟩
        have b4' := bq.trans b4
        have own4' := own4.drop
        have hPl2 : P.length ≤ i := by have := hPl.out; omega
        clear own bq b4 eq own4
        cases q4 with
        | true =>
          obtain ⟨s6, h6⟩ := own4'
          have hB6 := CurAt.size ⟨s6, h6⟩
          have h6' := h6.perm (List.Perm.swap _ _ _)
          clear h6
          go_wp2_with (at_builtin; refine wpList_append1 rfl _ _ _ rfl elemInt rfl h6' hB6 rfl rfl (by omega) (by omega) ?_; intro v7 w7 ho hb7)
          go_ret
          exact ⟨v7, P ++ [-1], a4, rfl, by simp; omega, bd_snoc hPb (by omega), by omega, by omega, cur_back (own_grow1 ho rfl), b4'.trans hb7⟩
        | false =>
          go_wp2_with fail
          go_ret
          exact ⟨_, P, a4, rfl, by omega, hPb, by omega, by omega, own4', b4'⟩
    · have gl : decide (i < X.length) = false := decide_eq_false hlt
      go_wp2_with fail
      refine (one_any (w0 := w0) hc own hwB (by omega) (by omega)).mono ?_
      rintro e w4 ⟨q4, a4, rfl, h41, h42, own4, b4⟩
      have b4' := bq.trans b4
      have own4' := own4.drop
      have hPl2 : P.length ≤ i := by have := hPl.out; omega
      clear own bq b4 eq own4
      cases q4 with
      | true =>
        obtain ⟨s6, h6⟩ := own4'
        have hB6 := CurAt.size ⟨s6, h6⟩
        have h6' := h6.perm (List.Perm.swap _ _ _)
        clear h6
        go_wp2_with (at_builtin; refine wpList_append1 rfl _ _ _ rfl elemInt rfl h6' hB6 rfl rfl (by omega) (by omega) ?_; intro v7 w7 ho hb7)
        go_ret
        exact ⟨v7, P ++ [-1], a4, rfl, by simp; omega, bd_snoc hPb (by omega), by omega, by omega, cur_back (own_grow1 ho rfl), b4'.trans hb7⟩
      | false =>
        go_wp2_with fail
        go_ret
        exact ⟨_, P, a4, rfl, by omega, hPb, by omega, by omega, own4', b4'⟩
end Go.Proofs.Ytkibmjenjgijmab
