/- SupportOf, the program's. -/
import Derived.Test.YtkibmjenjgijmaaSpP
import Derived.Test.YtkibmjenjgijmaaWsv
import Derived.Test.YtkibmjenjgijmaaGrJ
namespace Go.Proofs.Ytkibmjenjgijmaa
open Go.RowKit

/-- whether none of the first configurations reaches the value at i -/
def supAt (M P : List (List Int)) (ws : List Int) (i j : Nat) : Bool := decide (∀ t, t < j → i = t ∨ nth ws i < nth ws t + mvC M (row P t) (row P i))
theorem sup_ok {M P : List (List Int)} {ws : List Int} {i : Nat} : supAt M P ws i P.length = supOk M P ws i := rfl
theorem sup_zero {M P : List (List Int)} {ws : List Int} {i : Nat} : supAt M P ws i 0 = true := decide_eq_true (by omega)
theorem sup_step {M P : List (List Int)} {ws : List Int} {i j : Nat} : supAt M P ws i (j + 1) = (supAt M P ws i j && (decide (i = j) || decide (nth ws i < nth ws j + mvC M (row P j) (row P i)))) := by
  rw [Bool.eq_iff_iff]
  simp only [supAt, Bool.and_eq_true, Bool.or_eq_true, decide_eq_true_eq]
  constructor
  · exact fun h => ⟨fun t ht => h t (by omega), h j (by omega)⟩
  · rintro ⟨h1, h2⟩ t ht
    by_cases e : t = j
    · rw [e]; exact h2
    · exact h1 t (by omega)
theorem sup_i64 {M : List (List Int)} {k : Nat} {ws : List Int} (hM : metB M = true) (hk : k ≤ 3) : ∀ m, m ≤ (confs M.length k 0).length → ShortRows ((supTo M (confs M.length k 0) ws m).map (row (confs M.length k 0))).length ∧ (∀ r ∈ (supTo M (confs M.length k 0) ws m).map (row (confs M.length k 0)), Short r.length) ∧ ∀ r ∈ (supTo M (confs M.length k 0) ws m).map (row (confs M.length k 0)), ∀ x ∈ r, I64 x := by
  intro m hm
  have hMl := met_len hM
  have h216 := confs_216 hMl.2 hk
  have hl := sup_len (M := M) (P := confs M.length k 0) (ws := ws) m
  have hr : ∀ r ∈ (supTo M (confs M.length k 0) ws m).map (row (confs M.length k 0)), r.length = k ∧ Pts M.length r := fun r hr => by
    obtain ⟨q, hq, rfl⟩ := List.mem_map.1 hr
    obtain ⟨g1, g2, _⟩ := row_conf (show q < (confs M.length k 0).length by have := (sup_mem.1 hq).1; omega)
    exact ⟨g1, g2⟩
  refine ⟨by unfold ShortRows; rw [List.length_map]; omega, fun r h => ?_, fun r h x hx => ?_⟩
  · have := (hr r h).1
    unfold Short
    omega
  · have := (hr r h).2 x hx
    unfold I64
    omega

set_option maxHeartbeats 3200000 in
set_option maxRecDepth 100000 in
theorem implSup_any {v vw : Value} {M : List (List Int)} {ws : List Int} {k : Int} {w0 w : World} [Ext w0 w] (hm : IsMet w0 v M) (hw : IsInts w0 vw ws) :
    Calls Try.prog 9 #[v, .int .i64 k, vw] w fun e w' => ∃ u, e = .returned (.tuple #[u, .bool (iwB M k ws)]) ∧ IsRows w' u (supR M k ws) ∧ Ext w w' := by
  have hm' := hm
  obtain ⟨v1, rfl, hR⟩ := hm
  obtain ⟨a1, c1, rfl, l1⟩ := hR.form
  have hw' := hw
  obtain ⟨dw, mw, rfl, lw⟩ := hw.form
  cases hq : iwB M k ws with
  | false =>
    have hr := hid (show supR M k ws = [] by rw [supR, hq]; rfl)
    have hq' := hid (show (askB M k && workB M (confs M.length k.toNat 0) ws) = false from hq)
    clear hq
    go_enter Try.func9, Try.ntmps9
    go_wp2_with fail
    with_reducible refine (worksFor_any (w0 := w0) hm' hw').mono ?_
    rw [hq'.out]
    rintro e w1 ⟨u, rfl, _, e1⟩
    go_wp2_with fail
    go_ret2
    exact ⟨_, ret_tuple2 rfl rfl, by rw [hr.out]; exact ⟨none, 0, rfl, by unfold ShortRows; simp, fun j hj => by simp at hj⟩, Ext.trans inferInstance e1⟩
  | true =>
    have hq' : (askB M k && workB M (confs M.length k.toNat 0) ws) = true := hq
    have hqa := hq'
    simp only [Bool.and_eq_true] at hqa
    obtain ⟨hM, hk1, hk3⟩ := askB_iff.1 hqa.1
    obtain ⟨kn, rfl⟩ := Int.eq_ofNat_of_zero_le (show 0 ≤ k by omega)
    rw [Int.toNat_natCast] at hqa
    have hMl := met_len hM
    have hkn : kn ≤ 3 := by omega
    have h216 := confs_216 hMl.2 hkn
    have hcp := confs_pos (k := kn) hMl.1
    have hg := work_good (M := M) (P := confs M.length kn 0) (ws := ws) hqa.2
    have hlw := hid hg.1.1
    have hb1 := hid (show ∀ j, j < (confs M.length kn 0).length → 0 ≤ nth ws j ∧ nth ws j ≤ 1000000 from fun j hj => by have := hg.2 j hj; omega)
    have hmv := hid (confs_mv (dst_of_met hM) hkn)
    have hsr := hid (show supR M kn ws = (supTo M (confs M.length kn 0) ws (confs M.length kn 0).length).map (row (confs M.length kn 0)) by rw [supR, if_pos hq, Int.toNat_natCast])
    have hsi := hid (sup_i64 (ws := ws) hM hkn _ (Nat.le_refl _))
    replace hq' := hid hq'
    replace hq := hid hq
    clear hqa hg hM
    go_enter Try.func9, Try.ntmps9
    go_wp2_with fail
    with_reducible refine (worksFor_any (w0 := w0) hm' hw').mono ?_
    rw [hq'.out]
    rintro e w2 ⟨u, rfl, hW, e2⟩
    replace hW := hW rfl
    rw [Int.toNat_natCast] at hW
    have e2w : Ext w w2 := Ext.trans inferInstance e2
    have e02 : Ext w0 w2 := Ext.trans ‹Ext w0 w› e2w
    obtain ⟨b, mv, pv, cv, rfl, h0, h1, h2, hMm, hP, hCs⟩ := hW
    clear h0 hMm
    obtain ⟨P, hPd⟩ : ∃ p, p = confs M.length kn 0 := ⟨_, rfl⟩
    rw [← hPd] at h216 hcp hlw hb1 hmv hsr hsi hP hCs
    replace hPd := hid hPd
    obtain ⟨aP, cP, rfl, lP⟩ := hP.form
    obtain ⟨aCs, cCs, rfl, lCs⟩ := hCs.form
    have hcl := hid (show (cosL M P).length = P.length by simp [cosL])
    have hw2 := hw'.ext (e := e02)
    have hT0 : Tab (w2.alloc (.cells #[] 27)) w2.heap.size (.slice (some ⟨w2.heap.size, 0, none⟩) 0 0) ((supTo M P ws 0).map (row P)) [] := Tab.start (Own.nil w2 _) (Nat.le_refl _)
    have hbl : Below w2.heap.size w2 (w2.alloc (.cells #[] 27)) := (Below.refl _ w2).alloc (Nat.le_refl _) _
    have h1W : (w2.alloc (.cells #[] 27)).cell? ⟨b, 1, none⟩ = some (.slice aP P.length cP) := (show Ext w2 (w2.alloc (.cells #[] 27)) from inferInstance).cell h1
    obtain ⟨B2, hB2⟩ : ∃ z, z = w2.heap.size := ⟨_, rfl⟩
    rw [← hB2] at hT0 hbl
    have hEx := hid (show ∀ u, Below B2 w2 u → Ext w2 u from fun u h => ⟨by rw [← hB2]; exact h⟩)
    have hBl := hid (show ∀ u, Ext w2 u → B2 ≤ u.heap.size from fun u e => by rw [hB2]; exact e.size)
    go_upto_region 5 with fail
    rw [← hB2]
    replace hB2 := hid hB2
    generalize w2.alloc (.cells #[] 27) = wa at *
    go_wp2_with fail
    go_loopw [10, 30] (fun ov iv wr => ∃ i : Nat, i ≤ P.length ∧ iv = .int .i64 i ∧ Tab wr B2 ov ((supTo M P ws i).map (row P)) [] ∧ Below B2 w2 wr) (fun _ iv _ => P.length - (intOf iv).toNat)
    case atStart => exact ⟨0, by omega, rfl, hT0, hbl⟩
    case round =>
      clear hT0 hbl h1W
      obtain ⟨i, hi, rfl, tab, hb⟩ := hrel
      obtain ⟨wq, rfl⟩ : ∃ y : World, y = wr := ⟨_, rfl⟩
      have eq : Ext w2 wq := hEx.out _ hb
      have hBq := hBl.out _ eq
      obtain ⟨dO, nO, mO, hvO, hnO⟩ := tab.formN
      subst hvO
      by_cases hlt : i < P.length
      · obtain ⟨b5, o5, d5, m5, hd5, hc5, hr5, _⟩ := hP.at (w' := wq) hlt
        subst hd5
        have hiw : i < ws.length := by rw [hlw.out]; exact hlt
        obtain ⟨bw, ow, hdw, hcw⟩ := hw2.at (w' := wq) hiw
        subst hdw
        obtain ⟨b7, o7, _, _, hd7, _, _, _⟩ := hCs.at (w' := wq) (k := i) (by rw [hcl.out]; exact hlt)
        subst hd7
        have y1 := eq.cell h1
        have y2 := eq.cell h2
        rw [hcl.out] at y2
        have hv1 := hb1.out i hlt
        go_wp2_with fail
        go_loopw [13, 40] (fun ov jv wr => ∃ j : Nat, j ≤ P.length ∧ jv = .int .i64 j ∧ ov = .bool (supAt M P ws i j) ∧ Drew wq wr) (fun _ jv _ => P.length - (intOf jv).toNat)
        case atStart => exact ⟨0, by omega, rfl, by rw [sup_zero], Drew.refl _⟩
        case round =>
          obtain ⟨j, hj, rfl, rfl, hdw⟩ := hrel
          obtain ⟨wt, rfl⟩ : ∃ y : World, y = wr := ⟨_, rfl⟩
          have eqt : Ext wq wt := hdw.ext
          have e2t : Ext w2 wt := Ext.trans eq eqt
          by_cases hlj : j < P.length
          · have z1 := eqt.cell y1
            have z2 := eqt.cell y2
            have z5 := eqt.cell hc5
            have zw := eqt.cell hcw
            have hjw : j < ws.length := by rw [hlw.out]; exact hlj
            obtain ⟨bw', ow', hdw', hcj⟩ := hw2.at (w' := wt) hjw
            cases hdw'
            obtain ⟨b7', o7', d7, m7, hd7, hc7, hr7, _⟩ := hCs.at (w' := wt) (k := j) (by rw [hcl.out]; exact hlj)
            cases hd7
            obtain ⟨hrl, hrn⟩ := cosL_at (M := M) hlj hlt
            rw [hrl] at hr7 hc7
            replace hrl := hid hrl
            obtain ⟨b8, o8, hd8, hc8⟩ := hr7.at (w' := wt) (k := i) (by rw [hrl.out]; exact hlt)
            subst hd8
            rw [hrn] at hc8
            clear hrn
            have q1 := hb1.out j hlj
            have q2 := hmv.out j i hlj hlt
            have hst := hid (sup_step (M := M) (P := P) (ws := ws) (i := i) (j := j))
            obtain ⟨o2, ho2⟩ : ∃ z, z = supAt M P ws i (j + 1) := ⟨_, rfl⟩
            rw [← ho2] at hst
            replace ho2 := hid ho2
            generalize mvC M (row P j) (row P i) = mv1 at *
            obtain ⟨yi, hyi⟩ : ∃ z, z = nth ws i := ⟨_, rfl⟩
            obtain ⟨yj, hyj⟩ : ∃ z, z = nth ws j := ⟨_, rfl⟩
            rw [← hyi] at zw hst hv1
            rw [← hyj] at hcj hst q1
            replace hyi := hid hyi
            replace hyj := hid hyj
            cases hown : supAt M P ws i j with
            | false =>
              have hres := hid (show o2 = false by rw [hst.out, hown]; rfl)
              replace hown := hid hown
              clear hst
              go_wp2_with (go_quiet (fail))
              go_roundw
              case rel => exact ⟨j + 1, by omega, by go_num, by rw [← ho2.out, hres.out], hdw.step _⟩
              case measure => simp [intOf]; omega
            | true =>
              rw [hown, Bool.true_and] at hst
              replace hown := hid hown
              by_cases hij : i = j
              · have hres := hid (show o2 = true by rw [hst.out, decide_eq_true hij]; rfl)
                have hee : ((i : Int) == (j : Int)) = true := by simp [hij]
                replace hij := hid hij
                clear hst
                go_wp2_with (go_quiet (fail))
                go_roundw
                case rel => exact ⟨j + 1, by omega, by go_num, by rw [← ho2.out, hres.out], hdw.step _⟩
                case measure => simp [intOf]; omega
              · have hee : ((i : Int) == (j : Int)) = false := by simp; omega
                have hst2 := hid (show o2 = decide (yi < yj + mv1) by rw [hst.out, decide_eq_false hij, Bool.false_or])
                replace hij := hid hij
                clear hst
                by_cases hless : yi < yj + mv1
                · have hres := hid (show o2 = true by rw [hst2.out]; exact decide_eq_true hless)
                  have hdec : decide (yi < yj + mv1) = true := decide_eq_true hless
                  go_wp2_with (go_quiet (fail))
                  go_roundw
                  case rel => exact ⟨j + 1, by omega, by go_num, by rw [← ho2.out, hres.out], hdw.step _⟩
                  case measure => simp [intOf]; omega
                · have hres := hid (show o2 = false by rw [hst2.out]; exact decide_eq_false hless)
                  have hdec : decide (yi < yj + mv1) = false := decide_eq_false hless
                  go_wp2_with (go_quiet (fail))
                  go_roundw
                  case rel => exact ⟨j + 1, by omega, by go_num, by rw [← ho2.out, hres.out], hdw.step _⟩
                  case measure => simp [intOf]; omega
          · have hje : j = P.length := by omega
            subst hje
            rw [sup_ok]
            have tabt := tab.ext (w' := wt)
            have hBt : B2 ≤ wt.heap.size := Nat.le_trans hBq eqt.size
            have hbt : Below B2 w2 wt := hb.trans (eqt.below.mono hBq)
            have hr6 := hr5.ext (w' := wt) (e := e2t)
            clear tab hb
            cases hs : supOk M P ws i with
            | false =>
              have hsx := hid (show supTo M P ws (i + 1) = supTo M P ws i by rw [supTo, hs]; rfl)
              replace hs := hid hs
              go_wp2_with fail
              go_roundw
              case rel => exact ⟨i + 1, by omega, by go_num, by rw [hsx.out]; exact tabt, hbt⟩
              case measure => simp [intOf]; omega
            | true =>
              have hsx := hid (show (supTo M P ws (i + 1)).map (row P) = (supTo M P ws i).map (row P) ++ [row P i] by rw [supTo, hs]; simp)
              replace hs := hid hs
              have hTl2 : ((supTo M P ws i).map (row P)).length ≤ 1000000 := by have := sup_len (M := M) (P := P) (ws := ws) i; rw [List.length_map]; omega
              obtain ⟨T, hT⟩ : ∃ z, z = (supTo M P ws i).map (row P) := ⟨_, rfl⟩
              rw [← hT] at tabt hsx hTl2 hnO
              replace hT := hid hT
              replace hTl2 := hid hTl2
              go_wp2_with fail
              with_reducible refine (cloneInts_any (w0 := wt) (w := wt) hr6).mono ?_
              rintro e w7 ⟨d7', m7', rfl, own7, e7⟩
              have tabX := tabt.join own7 e7 hBt
              have hB7 : B2 ≤ w7.heap.size := Nat.le_trans hBt e7.size
              have hb7 : Below B2 w2 w7 := hbt.trans (e7.below.mono hBt)
              clear tabt own7 hbt
              go_wp2_with (at_builtin; refine wpList_push rfl (.tmp 73) (.tmp 76) rfl rfl tabX hB7 rfl hTl2.out ?_; intro v9 w9 tab9 b9)
              go_roundw
              case rel => exact ⟨i + 1, by omega, by go_num, by rw [hsx.out]; exact tab9, hb7.trans b9⟩
              case measure => simp [intOf]; omega
      · have hie : i = P.length := by omega
        subst hie
        have hT := tab.reads hsi.out.1 hsi.out.2.1 hsi.out.2.2
        rw [← hsr.out] at hT
        go_wp2_with fail
        go_ret2
        exact ⟨_, ret_tuple2 rfl rfl, hT, Ext.trans e2w eq⟩
end Go.Proofs.Ytkibmjenjgijmaa
