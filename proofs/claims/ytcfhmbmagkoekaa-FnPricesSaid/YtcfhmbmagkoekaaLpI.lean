/- The least prices: LeastPrices of the program. -/
import Derived.Test.YtcfhmbmagkoekaaLpP
import Derived.Test.YtcfhmbmagkoekaaAsg
namespace Go.Proofs.Ytcfhmbmagkoekaa
open Go.RowKit

/-- what LeastPrices hands over -/
def LpOk (M : List (List Int)) (a X L : List Int) : Prop :=
  if srvB M a X then L.length = X.length ∧ ∃ f, Mtc (Al a.length) X.length (a.length + X.length) f ∧ Low (Al a.length) (flC M a X) X.length (a.length + X.length) f (nth L) else L = []
def LpPost (M : List (List Int)) (a X : List Int) (w : World) (e : Ending) (w' : World) : Prop :=
  ∃ u L, e = .returned (.tuple #[u, .bool (srvB M a X)]) ∧ IsInts w' u L ∧ (∀ x ∈ L, 0 ≤ x ∧ x ≤ 1073741824) ∧ LpOk M a X L ∧ Ext w w'
theorem LpOk.no {M : List (List Int)} {a X : List Int} (h : srvB M a X = false) : LpOk M a X [] := by unfold LpOk; rw [h]; rfl
theorem Low.congr {A : Nat → Nat → Prop} {c : Nat → Nat → Int} {n m : Nat} {f : Nat → Nat} {p p' : Nat → Int} (h : Low A c n m f p) (he : ∀ i, i < n → p' i = p i) : Low A c n m f p' := by
  obtain ⟨⟨q, hc⟩, hl⟩ := h
  refine ⟨⟨q, ⟨hc.1.1, fun i l hi hm ha => by rw [he i hi]; exact hc.1.2 i l hi hm ha⟩, fun i hi => by rw [he i hi]; exact hc.2.1 i hi, hc.2.2⟩, fun p2 q2 h2 i hi => by rw [he i hi]; exact hl p2 q2 h2 i hi⟩
set_option maxHeartbeats 800000 in
set_option maxRecDepth 100000 in
theorem assigned0_any {d : Option Addr} {cp m : Nat} {c : Nat → Nat → Int} (w : World) : Calls Try.prog 63 #[.slice d 0 cp] w (AsPost c 0 m w) := by
  go_enter Try.func63, Try.ntmps63
  go_wp2_with fail
  refine bodyPost_ret (v := .tuple #[.slice none 0 0, .int .i64 0]) (by simp [results, Try.results63, go_sem]) rfl ?_
  refine ⟨_, fun _ => 0, fun _ => 0, fun _ => 0, rfl, ⟨none, 0, rfl, ⟨Nat.zero_le _, Nat.zero_le _⟩, by simp, fun j hj => by simp at hj⟩, ⟨fun i hi => by omega, fun i j hi => by omega⟩, ⟨⟨fun _ _ => Int.le_refl _, fun i l hi => by omega⟩, fun i hi => by omega, fun _ _ _ => rfl⟩, fun r hr => by omega, Ext.refl _⟩
/-- a row of one's own by a function, its slice of any form -/
abbrev dR (d : Option Addr) (n c : Nat) (o : Nat → Int) : Row := ⟨3, 1, .slice d n c, n, (List.range n).map fun j => .int .i64 (o j)⟩
set_option maxHeartbeats 3200000 in
set_option maxRecDepth 100000 in
theorem implLp_any {v va vX : Value} {M : List (List Int)} {a X : List Int} {w0 w : World} [Ext w0 w] (hm : IsMet w0 v M) (ha : IsInts w0 va a) (hXi : IsInts w0 vX X) :
    Calls Try.prog 26 #[v, va, vX] w (LpPost M a X w) := by
  have hm' := hm
  obtain ⟨v1, rfl, hR⟩ := hm
  obtain ⟨a1, c1, rfl, l1⟩ := hR.form
  have ha' := ha
  obtain ⟨da, ma, rfl, la⟩ := ha.form
  have hX' := hXi
  obtain ⟨dx, mx, rfl, lx⟩ := hXi.form
  go_enter Try.func26, Try.ntmps26
  go_upto_region 1 with fail
  have e1 : Ext w (w.alloc (.cells #[.slice a1 M.length c1] 29)) := inferInstance
  have x0 : (w.alloc (.cells #[.slice a1 M.length c1] 29)).cell? ⟨w.heap.size, 0, none⟩ = some (.slice a1 M.length c1) := by go_simp
  obtain ⟨bx, hbx⟩ : ∃ q, q = w.heap.size := ⟨_, rfl⟩
  rw [← hbx] at x0 ⊢
  generalize w.alloc (.cells #[.slice a1 M.length c1] 29) = w1 at *
  replace hbx := hid hbx
  have e01 : Ext w0 w1 := Ext.trans ‹Ext w0 w› e1
  cases hs : srvB M a X with
  | false =>
    have hno := hid (LpOk.no hs)
    replace hs := hid hs
    go_wp2_with fail
    with_reducible refine (isServed_any (w0 := w0) hm' ha' hX').mono ?_
    rw [hs.out]
    rintro e w2 ⟨rfl, e2⟩
    go_wp2_with fail
    go_ret2
    refine ⟨.slice none 0 0, [], by rw [hs.out]; rfl, ⟨none, 0, rfl, ⟨Nat.zero_le _, Nat.zero_le _⟩, by simp, fun j hj => by simp at hj⟩, by simp, hno.out, Ext.trans e1 e2⟩
  | true =>
    obtain ⟨hM, hal, hab, hXb, hXl⟩ := srv_pts hs
    have hs2 := hid hs
    have hcb := hid (fun (i l : Nat) (hi : i < X.length) (hl : l < a.length + X.length) => flC_bd hM hab hXb (i := i) (k := l) hi hl)
    clear hs
    replace hM := hid hM
    replace hab := hid hab
    replace hXb := hid hXb
    go_wp2_with fail
    with_reducible refine (isServed_any (w0 := w0) hm' ha' hX').mono ?_
    rw [hs2.out]
    rintro e w2 ⟨rfl, e2⟩
    have x2 := e2.cell x0
    have e12 : Ext w w2 := Ext.trans e1 e2
    have e02 : Ext w0 w2 := Ext.trans ‹Ext w0 w› e12
    go_wp2_with fail
    with_reducible refine (flowOf_any (w0 := w0) (w := w2) hm' ha' hX' hM.out hab.out hXb.out hal hXl).mono ?_
    rintro e w3 ⟨bp, cv, B, rfl, tab, hB, e3⟩
    have e13 : Ext w w3 := Ext.trans e12 e3
    have y1 : w3.cell? ⟨bp, 1, none⟩ = some cv := (tab.boxAt (j := 1) (by omega)).1
    have hF : IsRows w3 cv (flL M a X) := tab.reads (by unfold ShortRows; rw [flL_len]; omega) (fun r hr => by
      obtain ⟨i, hi, rfl⟩ := List.mem_map.1 hr
      unfold Short; rw [flRow_len]; omega) (flL_i64 hM.out hab.out hXb.out)
    obtain ⟨dF, nF, mF, rfl, hnF⟩ := tab.formN
    have hnX : nF = X.length := by rw [hnF.out, flL_len]
    subst hnX
    have hfl := hid (flL_len M a X)
    clear tab hnF x2 x0
    have hAs : Calls Try.prog 63 #[.slice dF X.length mF] w3 (AsPost (flC M a X) X.length (a.length + X.length) w3) := by
      by_cases h0 : X.length = 0
      · rw [h0]; exact assigned0_any w3
      · have hA := assigned_any (w0 := w3) (w := w3) (C := flL M a X) (n := X.length) (m := a.length + X.length) hF hfl.out (fun r hr => by rw [flL_at hr, flRow_len]) (by omega) (by omega) (by omega) (fun r l hr hl => by
          rw [flL_at hr, flRow_at hl]
          have := hcb.out r l hr hl
          omega)
        refine hA.mono ?_
        rintro e w' ⟨x, f, p, q, he, h1, h2, h3, h4, h5⟩
        have hcc : ∀ r l, r < X.length → l < a.length + X.length → nth (row (flL M a X) r) l = flC M a X r l := fun r l hr hl => by rw [flL_at hr, flRow_at hl]
        refine ⟨x, f, p, q, ?_, h1, h2, ⟨⟨h3.1.1, fun i l hi hl ha => by rw [← hcc i l hi hl]; exact h3.1.2 i l hi hl ha⟩, fun i hi => by rw [← hcc i (f i) hi (h2.1 i hi).1]; exact h3.2.1 i hi, h3.2.2⟩, h4, h5⟩
        rw [he]
        have : mcost (fun r l => nth (row (flL M a X) r) l) f X.length = mcost (flC M a X) f X.length := sgTo_congr fun i hi => hcc i (f i) hi (h2.1 i hi).1
        rw [this]
    replace hAs := hid hAs
    go_wp2_with fail
    with_reducible refine hAs.out.mono ?_
    rintro e w4 ⟨xb, f, p, q, rfl, hbf, hf, hc, hpb, e4⟩
    obtain ⟨db, nb, mb, rfl, hnb⟩ : ∃ d n m, xb = .slice d n m ∧ Hid (n = X.length) := by
      obtain ⟨d, m, rfl, _⟩ := hbf.form
      exact ⟨d, _, m, rfl, hid (by simp)⟩
    have hnb2 := hnb.out
    subst hnb2
    obtain ⟨hfA, hcA⟩ := al_of hs2.out hf hc
    have e14 : Ext w w4 := Ext.trans e13 e4
    have y4 := e4.cell y1
    have hF4 := hF.ext (e := e4)
    have hfm := hid (fun (i : Nat) (hi : i < X.length) => (hf.1 i hi).1)
    replace hf := hid hf
    replace hc := hid hc
    replace hpb := hid hpb
    replace hfA := hid hfA
    replace hcA := hid hcA
    have hbr := hid (show ∀ u, Ext w4 u → ∀ i, i < X.length → ∃ bb ob, db = some ⟨bb, ob, none⟩ ∧ u.cell? ⟨bb, ob + i, none⟩ = some (.int .i64 (f i : Nat)) from fun u eu i hi => by
      obtain ⟨bb, ob, hd, hcx⟩ := hbf.at (w' := u) (k := i) (by simpa using hi)
      refine ⟨bb, ob, hd, ?_⟩
      rw [hcx]
      simp [nth, hi])
    have hcr := hid (show ∀ u, Ext w4 u → ∀ r l, r < X.length → l < a.length + X.length → ∃ bf of b o mm, dF = some ⟨bf, of, none⟩ ∧ u.cell? ⟨bf, of + r, none⟩ = some (.slice (some ⟨b, o, none⟩) (a.length + X.length) mm) ∧ u.cell? ⟨b, o + l, none⟩ = some (.int .i64 (flC M a X r l)) from fun u eu r l hr hl => by
      obtain ⟨bf, of, df, mf, hdf, hcf, hif, hlf⟩ := hF4.at (w' := u) (k := r) (by rw [hfl.out]; exact hr)
      rw [flL_at hr, flRow_len] at hcf hif
      obtain ⟨bg, og, hdg, hcg⟩ := hif.at (w' := u) (k := l) (by rw [flRow_len]; exact hl)
      cases hdg
      rw [flRow_at hl] at hcg
      exact ⟨bf, of, bg, og, mf, hdf, hcf, hcg⟩)
    clear hF hF4 hbf
    have own0 : Own (w4.alloc (.cells #[] 3)) w4.heap.size [dR (some ⟨w4.heap.size, 0, none⟩) 0 0 (fun r => flC M a X r (f r))] := (Own.nil w4 w4.heap.size).lit 3 1 0 #[] (Nat.le_refl _) (by unfold maxLen; omega) rfl
    have b0 : Below w4.heap.size w4 (w4.alloc (.cells #[] 3)) := (Below.refl _ w4).alloc (Nat.le_refl _) _
    have hcp := hid (show ∀ i, i < X.length → 0 ≤ flC M a X i (f i) ∧ flC M a X i (f i) ≤ 99 from fun i hi => srv_cost hs2.out hi (hfA.out.1 i hi).2)
    go_upto_region 7 with fail
    obtain ⟨B, hB0⟩ : ∃ b, b = w4.heap.size := ⟨_, rfl⟩
    have hEx := hid (show ∀ u, Below B w4 u → Ext w4 u from fun u h => ⟨by rw [← hB0]; exact h⟩)
    have hBs := hid (show ∀ u, Below B w4 u → B ≤ u.heap.size from fun u h => by rw [hB0]; exact h.size)
    rw [← hB0] at own0 b0 ⊢
    replace hB0 := hid hB0
    generalize w4.alloc (.cells #[] 3) = w5 at *
    go_loopw [11, 40] (fun uv q wr => ∃ i : Nat, i ≤ X.length ∧ q = .int .i64 i ∧ (∃ d mm, uv = .slice d i mm ∧ Own wr B [dR d i mm (fun r => flC M a X r (f r))]) ∧ Below B w4 wr) (fun _ q _ => X.length - (intOf q).toNat)
    case atStart => exact ⟨0, by omega, rfl, ⟨_, _, rfl, own0⟩, b0⟩
    case round =>
      clear own0 b0
      obtain ⟨i, hi, rfl, ⟨dO, mO, rfl, own⟩, hb⟩ := hrel
      obtain ⟨wo, rfl⟩ : ∃ y : World, y = wr := ⟨_, rfl⟩
      have hBo := hBs.out _ hb
      have eo := hEx.out _ hb
      by_cases hlt : i < X.length
      · obtain ⟨bb, ob, hd, hcx⟩ := hbr.out wo eo i hlt
        subst hd
        have hfi := hfm.out i hlt
        obtain ⟨bf, of, b, o, mm, hd2, hcy, hcz⟩ := hcr.out wo eo i (f i) hlt hfi
        subst hd2
        have y5 := eo.cell y4
        have hcv := hcp.out i hlt
        obtain ⟨y, hy⟩ : ∃ y, y = flC M a X i (f i) := ⟨_, rfl⟩
        rw [← hy] at hcz hcv
        have hap := hid (show (List.range i).map (fun j => Value.int .i64 (flC M a X j (f j))) ++ [.int .i64 y] = (List.range (i + 1)).map (fun j => Value.int .i64 (flC M a X j (f j))) by rw [List.range_succ, List.map_append, hy]; rfl)
        replace hy := hid hy
        have own' : Own wo B [⟨3, 1, .slice dO i mO, i, (List.range i).map (fun j => Value.int .i64 (flC M a X j (f j)))⟩] := own
        generalize hq : f i = fi at *
        replace hq := hid hq
        clear own
        go_wp2_with (at_builtin; refine wpList_append1 rfl _ _ _ rfl elemInt rfl own' hBo rfl rfl (by omega) (by omega) ?_; intro v6 w6 ho6 hb6; rw [hap.out] at ho6; obtain ⟨d6, m6, hf6⟩ := ho6.form; simp only at hf6; subst hf6)
        go_roundw
        case rel => exact ⟨i + 1, by omega, by go_num, ⟨d6, m6, rfl, ho6⟩, hb.trans hb6⟩
        case measure => simp [intOf]; omega
      · have hil : i = X.length := by omega
        subst hil
        obtain ⟨c, hcE⟩ : ∃ c, c = flC M a X := ⟨_, rfl⟩
        rw [← hcE] at own hcr hcp hcA hc
        have hcfar := hid (show ∀ i l, i < X.length → l < a.length + X.length → (alB a.length i l = true → 0 ≤ c i l ∧ c i l ≤ 99) ∧ (alB a.length i l = false → c i l = 1073741824) from fun i l hi hl => ⟨fun h => by rw [hcE]; exact srv_cost hs2.out hi h, fun h => by
          rw [hcE]; unfold flC
          rw [if_neg]
          intro e
          rw [alB_iff.2 e] at h
          cases h⟩)
        have hLow := hid (fun (o : Nat → Int) (h : Low (Al a.length) c X.length (a.length + X.length) f o) => show Low (Al a.length) (flC M a X) X.length (a.length + X.length) f o by rw [← hcE]; exact h)
        replace hcE := hid hcE
        have hcert : ∀ i, i < X.length → c i (f i) ≤ p i := fun i hi => cert_ge hcA.out hfA.out hi
        have hS0 : (∀ i, i < X.length → c i (f i) ≤ (fun r => c r (f r)) i) ∧ (∀ p' q', Cert (Al a.length) c X.length (a.length + X.length) f p' q' → ∀ i, i < X.length → (fun r => c r (f r)) i ≤ p' i) := ⟨fun _ _ => Int.le_refl _, fun p' q' h i hi => cert_ge h hfA.out hi⟩
        replace hS0 := hid hS0
        replace hcert := hid hcert
        have hbX := hb
        clear hb hlt
        go_upto_region 12 with fail
        go_loopg [14] ((sgTo p X.length - sgTo (fun r => c r (f r)) X.length).toNat + 1) (fun gk cv wr => ∃ (o : Nat → Int) (ch : Bool), cv = .bool ch ∧ Hid ((∀ i, i < X.length → c i (f i) ≤ o i) ∧ (∀ p' q', Cert (Al a.length) c X.length (a.length + X.length) f p' q' → ∀ i, i < X.length → o i ≤ p' i)) ∧ Hid (ch = false → ∃ o0, Sc a.length c X.length (a.length + X.length) f o0 o false X.length 0) ∧ gk = (sgTo p X.length - sgTo o X.length).toNat + (if ch then 1 else 0) ∧ Own wr B [dR dO X.length mO o] ∧ Below B w4 wr)
        case atStart => exact ⟨_, true, rfl, hS0, hid (fun h => by cases h), rfl, own, hbX⟩
        case round =>
          clear own hbX hS0
          obtain ⟨o, ch, rfl, hI, hfx, hgk, own, hb⟩ := hrel
          obtain ⟨wa, rfl⟩ : ∃ y : World, y = wr := ⟨_, rfl⟩
          cases ch with
          | false =>
            obtain ⟨o0, hSc⟩ := hfx.out rfl
            have hlw := hid (hLow.out o (hSc.fin hfA.out hcA.out))
            have hob := hid (show ∀ i, i < X.length → 0 ≤ o i ∧ o i ≤ 1073741824 from fun i hi => by
              have h1 := hI.out.1 i hi
              have h2 := hI.out.2 p q hcA.out i hi
              have h3 := hpb.out i hi
              have h4 := hcp.out i hi
              omega)
            have hres : IsInts wa (.slice dO X.length mO) ((List.range X.length).map o) := by
              have h1 : dR dO X.length mO o = intRowOf 3 (.slice dO ((List.range X.length).map o).length mO) ((List.range X.length).map o) := by
                unfold intRowOf
                simp only [List.length_map, List.length_range, List.map_map]
                rfl
              rw [h1] at own
              have := own.reads (by rw [List.length_map, List.length_range]; unfold Short; omega) (fun x hx => by
                obtain ⟨r, hr, rfl⟩ := List.mem_map.1 hx
                have := hob.out r (List.mem_range.1 hr)
                unfold I64
                omega)
              rw [List.length_map, List.length_range] at this
              exact this
            have eF := hEx.out _ hb
            clear hSc hgk
            go_wp2_with fail
            refine bodyPost_ret (v := .tuple #[.slice dO X.length mO, .bool true]) (by simp [results, Try.results26, go_sem]) rfl ?_
            refine ⟨_, (List.range X.length).map o, by rw [hs2.out], hres, fun x hx => ?_, ?_, Ext.trans e14 eF⟩
            · obtain ⟨r, hr, rfl⟩ := List.mem_map.1 hx
              exact hob.out r (List.mem_range.1 hr)
            · unfold LpOk
              rw [hs2.out]
              refine ⟨by simp, f, hfA.out, hlw.out.congr fun i hi => ?_⟩
              simp [nth, hi]
          | true =>
            have hSc := hid (Sc.begin (k := a.length) (m := a.length + X.length) hI.out.1 hI.out.2)
            replace hgk := hid hgk
            clear hI hfx
            go_upto_region 15 with fail
            go_loopw [14, 62] (fun cv q wr => ∃ (i : Nat) (o2 : Nat → Int) (ch2 : Bool), i ≤ X.length ∧ q = .int .i64 i ∧ cv = .bool ch2 ∧ Hid (Sc a.length c X.length (a.length + X.length) f o o2 ch2 i 0) ∧ Own wr B [dR dO X.length mO o2] ∧ Below B w4 wr) (fun _ q _ => X.length - (intOf q).toNat)
            case atStart => exact ⟨0, o, false, by omega, rfl, rfl, hSc, own, hb⟩
            case round =>
              clear own hb hSc
              obtain ⟨i, o2, ch2, hi, rfl, rfl, hSc, own, hb⟩ := hrel
              obtain ⟨wb, rfl⟩ : ∃ y : World, y = wr := ⟨_, rfl⟩
              have eb := hEx.out _ hb
              by_cases hlt : i < X.length
              · obtain ⟨bb, ob, hd, hcx⟩ := hbr.out wb eb i hlt
                subst hd
                have hfi := hfm.out i hlt
                have y5 := eb.cell y4
                go_upto_region 18 with fail
                go_loopw [14, 72] (fun cv q wr => ∃ (j : Nat) (o3 : Nat → Int) (ch3 : Bool), j ≤ X.length ∧ q = .int .i64 j ∧ cv = .bool ch3 ∧ Hid (Sc a.length c X.length (a.length + X.length) f o o3 ch3 i j) ∧ Own wr B [dR dO X.length mO o3] ∧ Below B w4 wr) (fun _ q _ => X.length - (intOf q).toNat)
                case atStart => exact ⟨0, o2, ch2, by omega, rfl, rfl, hSc, own, hb⟩
                case round =>
                  clear own hb hSc hcx y5
                  obtain ⟨j, o3, ch3, hj, rfl, rfl, hSc, own, hb⟩ := hrel
                  obtain ⟨wc, rfl⟩ : ∃ y : World, y = wr := ⟨_, rfl⟩
                  have ec := hEx.out _ hb
                  by_cases hltj : j < X.length
                  · obtain ⟨bf, of, b, ov, mm, hd2, hcy, hcz⟩ := hcr.out wc ec j (f i) hltj hfi
                    subst hd2
                    obtain ⟨hfr1, hfr2⟩ := hcfar.out j (f i) hltj hfi
                    cases hal2 : alB a.length j (f i) with
                    | false =>
                      have hfar := hfr2 hal2
                      rw [hfar] at hcz
                      have hS2 := hid (hSc.out.same (fun h => by rw [hal2] at h; cases h))
                      replace hal2 := hid hal2
                      replace hfar := hid hfar
                      clear hfr1 hfr2
                      go_wp2_with fail
                      go_roundw
                      case rel => exact ⟨j + 1, o3, ch3, by omega, by go_num, rfl, hS2, own, hb⟩
                      case measure => simp [intOf]; omega
                    | true =>
                      have hcv := hfr1 hal2
                      obtain ⟨g, rfl⟩ := own.at (j := i) hlt
                      obtain ⟨bf', of', b', ov', mm', hd3, hcy', hcz'⟩ := hcr.out wc ec i (f i) hlt hfi
                      cases hd3
                      have hcv' := hcp.out i hlt
                      have y5 := ec.cell y4
                      obtain ⟨z1, _⟩ := own.aAt (k := 0) (c := mO) rfl (j := j) hltj
                      obtain ⟨z2, g2⟩ := own.aAt (k := 0) (c := mO) rfl (j := i) hlt
                      have h1 := hSc.out.low j hltj
                      have h2 := hSc.out.up p q hcA.out j hltj
                      have h3 := hpb.out j hltj
                      have h4 := hcp.out j hltj
                      have hoj : 0 ≤ o3 j ∧ o3 j ≤ 1073741824 := by omega
                      clear h1 h2 h3 h4 hfr1 hfr2
                      have hne : (c j (f i) == 1073741824) = false := by simp; omega
                      have hrise := hid (fun h => hSc.out.rise hfA.out hlt hltj hal2 h)
                      have hsame := hid (fun h => hSc.out.same (fun _ => h))
                      have own7 := hid (fun x => own.iSet (k := 0) (c := mO) rfl i x)
                      have b7 := hid (fun x => hb.setCell (p := ⟨g, i, none⟩) (own.aLt (k := 0) (c := mO) rfl).1 (.int .i64 x))
                      replace hal2 := hid hal2
                      generalize hq1 : c j (f i) = cj at hcz hcv hne hrise hsame
                      generalize hq2 : c i (f i) = ci at hcz' hcv' hrise hsame
                      generalize hq3 : o3 j = oj at z1 hoj hrise hsame
                      have s1 : IntKind.i64.wrap (oj - cj) = oj - cj := IntWalk.i64_in _ (by omega)
                      have s2 : IntKind.i64.wrap (oj - cj + ci) = oj - cj + ci := IntWalk.i64_in _ (by omega)
                      replace hq1 := hid hq1
                      replace hq2 := hid hq2
                      replace hq3 := hid hq3
                      generalize hq4 : f i = fi at *
                      generalize hq5 : o3 i = oi at z2 hrise hsame
                      replace hq4 := hid hq4
                      replace hq5 := hid hq5
                      go_upto_region 22 with (go_quiet (fail))
                      clear s1 s2 hcz hcz' hcy hcy' z1 hne
                      generalize hwq : World.drewN wc _ = w6
                      have eq6 : Ext wc w6 := by rw [← hwq]; infer_instance
                      have own6 := own.ext (w' := w6)
                      have b6 : Below B w4 w6 := hb.trans (eq6.below.mono (hBs.out _ hb))
                      have z2 := eq6.cell z2
                      replace g2 := (own6.aAt (k := 0) (c := mO) rfl (j := i) hlt).2
                      replace hwq := hid hwq
                      clear own hb eq6 own7 b7
                      obtain ⟨x, hx⟩ : ∃ x, x = oj - cj + ci := ⟨_, rfl⟩
                      rw [← hx] at hrise hsame ⊢
                      replace hx := hid hx
                      by_cases hgt : oi < x
                      · have hS2 := hid (hrise.out hgt)
                        have own7 := own6.iSet (k := 0) (c := mO) rfl i x
                        have b7 := b6.setCell (p := ⟨g, i, none⟩) (own6.aLt (k := 0) (c := mO) rfl).1 (.int .i64 x)
                        clear own6 b6 hrise hsame
                        go_wp2_with fail
                        go_roundw
                        case rel => exact ⟨j + 1, _, true, by omega, by go_num, rfl, hS2, own7, b7⟩
                        case measure => simp [intOf]; omega
                      · have hS2 := hid (hsame.out (by omega))
                        clear hrise hsame
                        go_wp2_with fail
                        go_roundw
                        case rel => exact ⟨j + 1, o3, ch3, by omega, by go_num, rfl, hS2, own6, b6⟩
                        case measure => simp [intOf]; omega
                  · have hjl : j = X.length := by omega
                    subst hjl
                    have hS2 := hid hSc.out.row
                    go_wp2_with fail
                    go_roundw
                    case rel => exact ⟨i + 1, o3, ch3, by omega, by go_num, rfl, hS2, own, hb⟩
                    case measure => simp [intOf]; omega
              · have hil2 : i = X.length := by omega
                subst hil2
                have hsm := hSc.out.le
                have hsl := hSc.out.lt
                have hsp := sg_le (f := o2) (g := p) (n := X.length) fun i hi => hSc.out.up p q hcA.out i hi
                have hgn := hid (show (sgTo p X.length - sgTo o2 X.length).toNat + (if ch2 then 1 else 0) < gk by
                  rw [hgk.out]
                  cases ch2 with
                  | true =>
                    have := hsl rfl
                    simp
                    omega
                  | false => simp; omega)
                have hI2 := hid (show (∀ i, i < X.length → c i (f i) ≤ o2 i) ∧ (∀ p' q', Cert (Al a.length) c X.length (a.length + X.length) f p' q' → ∀ i, i < X.length → o2 i ≤ p' i) from ⟨hSc.out.low, hSc.out.up⟩)
                have hfx2 := hid (show ch2 = false → ∃ o0, Sc a.length c X.length (a.length + X.length) f o0 o2 false X.length 0 from fun h => ⟨o, by rw [← h]; exact hSc.out⟩)
                clear hsm hsl hsp
                go_wp2_with fail
                go_roundg ((sgTo p X.length - sgTo o2 X.length).toNat + (if ch2 then 1 else 0))
                case rel => exact ⟨o2, ch2, rfl, hI2, hfx2, rfl, own, hb⟩
                case measure => exact hgn.out
end Go.Proofs.Ytcfhmbmagkoekaa
