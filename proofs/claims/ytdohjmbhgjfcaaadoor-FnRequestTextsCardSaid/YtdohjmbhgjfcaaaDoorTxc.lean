/- The text of a problem: the reference's and the program's. -/
import Derived.Test.YtdohjmbhgjfcaaaDoorTxb
import Derived.Test.YtdohjmbhgjfcaaaDoorCount
import Derived.Test.YtdohjmbhgjfcaaaDoorLawC
namespace Go.Proofs.YtdohjmbhgjfcaaaDoor
open Go.RowKit

def ptR (M S : List (List Int)) : List UInt8 := if probB M S then ptL M S else []
theorem sx_len {c : Int} (h : -1000000000000000 ≤ c ∧ c ≤ 1000000000000000) : (sx c).length ≤ 21 := by
  unfold sx
  split
  · simp
  · exact itoa_len h
theorem sxL_len {X : List Int} {k : Nat} (hl : X.length ≤ k) (hb : ∀ x ∈ X, -1000000000000000 ≤ x ∧ x ≤ 1000000000000000) : (sxL X).length ≤ k * 22 := by
  have h := join_len (sep := [32]) (c := 21) (r := X.map sx) fun y hy => by
    obtain ⟨x, hx, rfl⟩ := List.mem_map.1 hy
    exact sx_len (hb x hx)
  rw [List.length_map] at h
  exact Nat.le_trans h (Nat.mul_le_mul_right 22 hl)
/-- what a valid problem's numbers are like -/
theorem prob_nums {M S : List (List Int)} (h : probB M S = true) : M.length ≤ 4 ∧ S.length ≤ 4 ∧ (∀ t, t < M.length → (row M t).length = M.length) ∧ (∀ r ∈ M, r.length ≤ 4 ∧ ∀ x ∈ r, 0 ≤ x ∧ x ≤ 99) ∧ ∀ r ∈ S, r.length ≤ 4 ∧ ∀ x ∈ r, -1 ≤ x ∧ x ≤ 20 := by
  obtain ⟨h1, h2, h3, h4⟩ := probB_len h
  have hsq : ∀ t, t < M.length → (row M t).length = M.length := fun t ht => square_row (by have := probB_table h; simp only [tableB, Bool.and_eq_true] at this; exact this.1.2) ht
  refine ⟨h2, h4, hsq, fun r hr => ?_, fun r hr => ?_⟩
  · obtain ⟨t, ht, e⟩ := List.getElem_of_mem hr
    have e2 : row M t = r := by simp [row, ht, e]
    have h5 := hsq t ht
    rw [e2] at h5
    refine ⟨by omega, fun x hx => ?_⟩
    obtain ⟨y, hy, rfl⟩ := mem_iff_nth.1 hx
    have h6 := probB_move h (x := t) (y := y) ht (by omega)
    unfold cell at h6
    rw [e2] at h6
    exact h6
  · obtain ⟨t, ht, e⟩ := List.getElem_of_mem hr
    have e2 : row S t = r := by simp [row, ht, e]
    have h5 := probB_row h ht
    rw [e2] at h5
    exact ⟨by omega, h5.2.1⟩

set_option maxHeartbeats 1600000 in
set_option maxRecDepth 100000 in
theorem specPt_any {v : Value} {M S : List (List Int)} {w0 w : World} [Ext w0 w] (hp : IsProb w0 v M S) :
    Calls Tryd.prog 20 #[v] w fun e w' => e = .returned (.tuple #[.string (bsOf (ptR M S)), .bool (probB M S)]) ∧ Ext w w' := by
  have hp' := hp
  obtain ⟨v1, v2, rfl, hM, hS⟩ := hp
  obtain ⟨a1, c1, rfl, l1⟩ := hM.form
  obtain ⟨a2, c2, rfl, l2⟩ := hS.form
  have eb : Ext w (w.alloc (.cells #[.slice a1 M.length c1, .slice a2 S.length c2] 37)) := inferInstance
  have x0 : (w.alloc (.cells #[.slice a1 M.length c1, .slice a2 S.length c2] 37)).cell? ⟨w.heap.size, 0, none⟩ = some (.slice a1 M.length c1) := by go_simp
  have x1 : (w.alloc (.cells #[.slice a1 M.length c1, .slice a2 S.length c2] 37)).cell? ⟨w.heap.size, 1, none⟩ = some (.slice a2 S.length c2) := by go_simp
  go_enter Tryd.func20, Tryd.ntmps20
  go_upto_region 1 with fail
  obtain ⟨bx, hbx⟩ : ∃ q, q = w.heap.size := ⟨_, rfl⟩
  rw [← hbx] at x0 x1 ⊢
  replace hbx := hid hbx
  generalize w.alloc (.cells #[.slice a1 M.length c1, .slice a2 S.length c2] 37) = wb at *
  have e0b : Ext w0 wb := Ext.trans ‹Ext w0 w› eb
  go_wp2_with fail
  with_reducible refine (l8Good_any (w0 := w0) (w := wb) hp').mono ?_
  rintro e w1 ⟨rfl, e1⟩
  cases hok : probB M S with
  | false =>
    have hv := hid (show ptR M S = [] by rw [ptR, hok]; rfl)
    replace hok := hid hok
    go_wp2_with fail
    refine bodyPost_ret (v := .tuple #[.string { data := #[] }, .bool false]) (by simp [results, Tryd.results20, go_sem]) rfl ?_
    exact ⟨by rw [hv.out, hok.out]; rfl, Ext.trans eb e1⟩
  | true =>
    have hv := hid (show ptR M S = ptL M S by rw [ptR, hok]; rfl)
    obtain ⟨hMl, hSl, hsq, hMr, hSr⟩ := prob_nums hok
    have hmt := hid (fun (u : World) (_ : Ext w0 u) => l6Text_any (w0 := w0) (w := u) hM (by omega) hsq (fun r hr x hx => by have := (hMr r hr).2 x hx; omega))
    have hHl : (mtL M ++ [32, 124, 32]).length ≤ 1000 := by
      have h := join_len (sep := [59, 32]) (c := 88) (r := M.map spL) fun y hy => by
        obtain ⟨x, hx, rfl⟩ := List.mem_map.1 hy
        have h := hMr x hx
        exact sp_len h.1 (fun z hz => by have := h.2 z hz; omega)
      rw [List.length_map] at h
      have h2 : M.length * (88 + [59, 32].length) ≤ 4 * 90 := Nat.mul_le_mul hMl (by simp)
      rw [List.length_append]
      unfold mtL
      simp only [List.length_cons, List.length_nil]
      omega
    have hsx : ∀ r ∈ S, (sxL r).length ≤ 88 := fun r hr => sxL_len (k := 4) (hSr r hr).1 (fun z hz => by have := (hSr r hr).2 z hz; omega)
    have hml : (mtL M).length ≤ 1000 := by rw [List.length_append] at hHl; omega
    replace hok := hid hok
    replace hsq := hid hsq
    replace hMr := hid hMr
    replace hSr := hid hSr
    replace hsx := hid hsx
    have x0 := e1.cell x0
    have x1 := e1.cell x1
    have e01 : Ext w0 w1 := Ext.trans e0b e1
    go_wp2_with fail
    with_reducible refine (hmt.out w1 e01).mono ?_
    rintro e w2 ⟨rfl, e2⟩
    obtain ⟨T0, hT0⟩ : ∃ s, s = bsOf (mtL M) := ⟨_, rfl⟩
    have ht0 : T0.size ≤ 1000 := by rw [hT0, bsOf_size]; exact hml
    rw [← hT0]
    obtain ⟨H, hH⟩ : ∃ H, H = mtL M ++ [32, 124, 32] := ⟨_, rfl⟩
    have hT1 : T0 ++ { data := #[32, 124, 32] } = bsOf H := by rw [hT0, show ({ data := #[32, 124, 32] } : ByteArray) = bsOf [32, 124, 32] from rfl, bsOf_append, hH]
    rw [← hH] at hHl
    replace hT0 := hid hT0
    replace hH := hid hH
    replace hT1 := hid hT1
    have hszT : ¬ 9223372036854775807 < T0.size + 3 := by omega
    have x0 := e2.cell x0
    have x1 := e2.cell x1
    have e02 : Ext w0 w2 := Ext.trans e01 e2
    go_upto_region 4 with fail
    rw [hT1.out]
    clear hszT hT1 ht0
    go_wp2_with fail
    go_loopw [4, 5] (fun s i wr => ∃ t : Nat, t ≤ S.length ∧ i = .int .i64 t ∧ s = .string (bsOf (H ++ Lib.join ((S.take t).map sxL) [59, 32])) ∧ Ext w2 wr) (fun _ i _ => S.length - (intOf i).toNat)
    case atStart => exact ⟨0, by omega, rfl, by simp [Lib.join_nil], Ext.refl _⟩
    case round =>
      obtain ⟨t, htl, rfl, rfl, he⟩ := hrel
      obtain ⟨wo, rfl⟩ : ∃ y : World, y = wr := ⟨_, rfl⟩
      have xo0 := he.cell x0
      have xo := he.cell x1
      have e0 : Ext w0 wo := Ext.trans e02 he
      by_cases hlt : t < S.length
      · obtain ⟨bq, oq, dr, mr, hdx, hcx, hrr, hrl⟩ := hS.at (w' := wo) hlt
        cases hdx
        have hmem : row S t ∈ S := row_mem hlt
        obtain ⟨hR4, hr2⟩ := hSr.out _ hmem
        have hr2 : ∀ x ∈ row S t, -1000000000000000 ≤ x ∧ x ≤ 1000000000000000 := fun x hx => by have := hr2 x hx; omega
        have hPs := hid (join_row (f := sxL) hlt [59, 32])
        obtain ⟨R, hR⟩ : ∃ x, x = row S t := ⟨_, rfl⟩
        rw [← hR] at hcx hr2 hrr hrl hPs hR4
        replace hR := hid hR
        replace hr2 := hid hr2
        have hR100 : R.length ≤ 100 := by omega
        have hrr' := hid hrr
        clear hrr
        obtain ⟨S0, hS0⟩ : ∃ s, s = bsOf (H ++ Lib.join ((S.take t).map sxL) [59, 32]) := ⟨_, rfl⟩
        have hjb : (Lib.join ((S.take t).map sxL) [59, 32]).length ≤ 360 := join_bd (xs := S) (f := sxL) (t := t) (c := 88) (k := 4) (sep := [59, 32]) hsx.out hSl
        have hs0 : S0.size ≤ 2000 := by rw [hS0, bsOf_size, List.length_append]; omega
        obtain ⟨P, hP⟩ : ∃ P, P = H ++ pre ((S.take t).map sxL) [59, 32] := ⟨_, rfl⟩
        have hPH := hid hP
        rw [← hS0]
        by_cases ht0 : 0 < t
        · have hpp := pre_pos (f := sxL) (sep := [59, 32]) ht0 (show t ≤ S.length by omega)
          have hS1' : S0 ++ { data := #[59, 32] } = bsOf P := by
            rw [hS0, show ({ data := #[59, 32] } : ByteArray) = bsOf [59, 32] from rfl, bsOf_append, hP, hpp, List.append_assoc]
          have hPl : P.length ≤ 220202 := by rw [hP, hpp, List.length_append, List.length_append]; simp only [List.length_cons, List.length_nil]; omega
          replace hS0 := hid hS0
          replace hP := hid hP
          replace hS1' := hid hS1'
          clear hpp hjb
          have hsz0 : ¬ 9223372036854775807 < S0.size + 2 := by omega
          go_upto_region 9 with fail
          obtain ⟨S1, hS1⟩ : ∃ s, s = S0 ++ { data := #[59, 32] } := ⟨_, rfl⟩
          have hS1' := hS1'.out
          rw [← hS1] at hS1' ⊢
          replace hS1 := hid hS1'
          replace hS1' := hid hS1'
          clear hsz0
          go_wp2_with fail
          go_loopw [4, 6] (fun s y wr => ∃ j : Nat, j ≤ R.length ∧ y = .int .i64 j ∧ s = .string (bsOf (P ++ Lib.join ((R.take j).map sx) [32])) ∧ Ext wo wr) (fun _ y _ => R.length - (intOf y).toNat)
          case atStart => exact ⟨0, by omega, rfl, by rw [hS1.out]; simp [Lib.join_nil], Ext.refl _⟩
          case round =>
            obtain ⟨j, hj, rfl, rfl, hej⟩ := hrel
            obtain ⟨wq, rfl⟩ : ∃ y : World, y = wr := ⟨_, rfl⟩
            have xq := hej.cell xo
            have hcq := hej.cell hcx
            have e0q : Ext w0 wq := Ext.trans e0 hej
            by_cases hlj : j < R.length
            · skip
              obtain ⟨br, or, hdr, hcr⟩ := hrr'.out.at (w' := wq) hlj
              cases hdr
              have hxb := hr2.out _ (nth_mem hlj)
              have hst := hid (join_num (f := sx) hlj [32])
              obtain ⟨x, hx⟩ : ∃ x, x = nth R j := ⟨_, rfl⟩
              rw [← hx] at hcr hst hxb
              replace hx := hid hx
              obtain ⟨S2, hS2⟩ : ∃ s, s = bsOf (P ++ Lib.join ((R.take j).map sx) [32]) := ⟨_, rfl⟩
              have hs2 : S2.size ≤ 1000000 := by
                have h := join_bd (xs := R) (f := sx) (t := j) (c := 21) (k := 100) (sep := [32]) (fun y hy => sx_len (hr2.out y hy)) (by omega)
                have h' : (Lib.join ((R.take j).map sx) [32]).length ≤ 2200 := h
                rw [hS2, bsOf_size, List.length_append]
                omega
              rw [← hS2]
              by_cases hj0 : 0 < j
              · have hpp := pre_pos (f := sx) (sep := [32]) hj0 (show j ≤ R.length by omega)
                have hS3' : S2 ++ { data := #[32] } = bsOf (P ++ pre ((R.take j).map sx) [32]) := by
                  rw [hS2, show ({ data := #[32] } : ByteArray) = bsOf [32] from rfl, bsOf_append, hpp, List.append_assoc]
                replace hS2 := hid hS2
                replace hS3' := hid hS3'
                clear hpp
                have hsz0 : ¬ 9223372036854775807 < S2.size + 1 := by omega
                go_upto_region 14 with fail
                obtain ⟨S3, hS3⟩ : ∃ s, s = S2 ++ { data := #[32] } := ⟨_, rfl⟩
                have hs3 : S3.size ≤ 1000001 := by rw [hS3, ByteArray.size_append]; show S2.size + 1 ≤ _; omega
                have hS3' := hS3'.out
                rw [← hS3] at hS3' ⊢
                replace hS3 := hid hS3'
                replace hS3' := hid hS3'
                clear hsz0
                by_cases hneg : x < 0
                · have hsx : sx x = [120] := by rw [sx, if_pos hneg]
                  have hsum : S3 ++ { data := #[120] } = bsOf (P ++ Lib.join ((R.take (j + 1)).map sx) [32]) := by
                    rw [hS3.out, show ({ data := #[120] } : ByteArray) = bsOf [120] from rfl, bsOf_append, List.append_assoc, hst.out, hsx]
                  have hgx : decide (x < 0) = true := decide_eq_true hneg
                  replace hsx := hid hsx
                  replace hsum := hid hsum
                  have hsz : ¬ 9223372036854775807 < S3.size + 1 := by omega
                  go_wp2_with fail
                  go_roundw
                  case rel => exact ⟨j + 1, by omega, by go_num, by rw [hsum.out], hej⟩
                  case measure => simp [intOf]; omega
                · have hsx : sx x = Lib.itoa x := by rw [sx, if_neg hneg]
                  have hgx : decide (x < 0) = false := decide_eq_false hneg
                  have hxb2 : -1000000000000000 ≤ x ∧ x ≤ 1000000000000000 := hxb
                  go_wp2_with fail
                  with_reducible refine (l1Num_any x hxb2 wq).mono ?_
                  rintro e w5 ⟨rfl, e5⟩
                  obtain ⟨S4, hS4⟩ : ∃ s, s = bsOf (Lib.itoa x) := ⟨_, rfl⟩
                  have hs4 : S4.size ≤ 21 := by rw [hS4, bsOf_size]; exact itoa_len hxb2
                  rw [← hS4]
                  have hsum : S3 ++ S4 = bsOf (P ++ Lib.join ((R.take (j + 1)).map sx) [32]) := by
                    rw [hS3.out, hS4, bsOf_append, List.append_assoc, hst.out, hsx]
                  replace hS4 := hid hS4
                  replace hsum := hid hsum
                  replace hsx := hid hsx
                  have hsz : ¬ 9223372036854775807 < S3.size + S4.size := by omega
                  go_wp2_with fail
                  go_roundw
                  case rel => exact ⟨j + 1, by omega, by go_num, by rw [hsum.out], Ext.trans hej e5⟩
                  case measure => simp [intOf]; omega
              · obtain ⟨hp1, hp2⟩ := pre_zero (xs := R) (f := sx) (sep := [32]) hj0
                have hS3' : S2 = bsOf (P ++ pre ((R.take j).map sx) [32]) := by rw [hS2, hp1, hp2]
                replace hS2 := hid hS2
                replace hS3' := hid hS3'
                clear hp1 hp2
                go_upto_region 14 with fail
                obtain ⟨S3, hS3⟩ : ∃ s, s = S2 := ⟨_, rfl⟩
                have hs3 : S3.size ≤ 1000001 := by rw [hS3]; omega
                have hS3' := hS3'.out
                rw [← hS3] at hS3' ⊢
                replace hS3 := hid hS3'
                replace hS3' := hid hS3'
                by_cases hneg : x < 0
                · have hsx : sx x = [120] := by rw [sx, if_pos hneg]
                  have hsum : S3 ++ { data := #[120] } = bsOf (P ++ Lib.join ((R.take (j + 1)).map sx) [32]) := by
                    rw [hS3.out, show ({ data := #[120] } : ByteArray) = bsOf [120] from rfl, bsOf_append, List.append_assoc, hst.out, hsx]
                  have hgx : decide (x < 0) = true := decide_eq_true hneg
                  replace hsx := hid hsx
                  replace hsum := hid hsum
                  have hsz : ¬ 9223372036854775807 < S3.size + 1 := by omega
                  go_wp2_with fail
                  go_roundw
                  case rel => exact ⟨j + 1, by omega, by go_num, by rw [hsum.out], hej⟩
                  case measure => simp [intOf]; omega
                · have hsx : sx x = Lib.itoa x := by rw [sx, if_neg hneg]
                  have hgx : decide (x < 0) = false := decide_eq_false hneg
                  have hxb2 : -1000000000000000 ≤ x ∧ x ≤ 1000000000000000 := hxb
                  go_wp2_with fail
                  with_reducible refine (l1Num_any x hxb2 wq).mono ?_
                  rintro e w5 ⟨rfl, e5⟩
                  obtain ⟨S4, hS4⟩ : ∃ s, s = bsOf (Lib.itoa x) := ⟨_, rfl⟩
                  have hs4 : S4.size ≤ 21 := by rw [hS4, bsOf_size]; exact itoa_len hxb2
                  rw [← hS4]
                  have hsum : S3 ++ S4 = bsOf (P ++ Lib.join ((R.take (j + 1)).map sx) [32]) := by
                    rw [hS3.out, hS4, bsOf_append, List.append_assoc, hst.out, hsx]
                  replace hS4 := hid hS4
                  replace hsum := hid hsum
                  replace hsx := hid hsx
                  have hsz : ¬ 9223372036854775807 < S3.size + S4.size := by omega
                  go_wp2_with fail
                  go_roundw
                  case rel => exact ⟨j + 1, by omega, by go_num, by rw [hsum.out], Ext.trans hej e5⟩
                  case measure => simp [intOf]; omega
            · have hjl : j = R.length := by omega
              have hend : bsOf (P ++ Lib.join ((R.take j).map sx) [32]) = bsOf (H ++ Lib.join ((S.take (t + 1)).map sxL) [59, 32]) := by
                rw [hjl, List.take_length, hPs.out, hPH.out, List.append_assoc]
                rfl
              replace hjl := hid hjl
              replace hend := hid hend
              go_wp2_with fail
              go_roundw
              case rel => exact ⟨t + 1, by omega, by go_num, by rw [hend.out], Ext.trans he hej⟩
              case measure => simp [intOf]; omega
        · obtain ⟨hp1, hp2⟩ := pre_zero (xs := S) (f := sxL) (sep := [59, 32]) ht0
          have hS1' : S0 = bsOf P := by rw [hS0, hP, hp1, hp2]
          have hPl : P.length ≤ 220202 := by rw [hP, hp1, List.append_nil]; omega
          replace hS0 := hid hS0
          replace hP := hid hP
          replace hS1' := hid hS1'
          clear hp1 hp2 hjb
          go_upto_region 9 with fail
          obtain ⟨S1, hS1⟩ : ∃ s, s = S0 := ⟨_, rfl⟩
          have hS1' := hS1'.out
          rw [← hS1] at hS1' ⊢
          replace hS1 := hid hS1'
          replace hS1' := hid hS1'
          go_wp2_with fail
          go_loopw [4, 6] (fun s y wr => ∃ j : Nat, j ≤ R.length ∧ y = .int .i64 j ∧ s = .string (bsOf (P ++ Lib.join ((R.take j).map sx) [32])) ∧ Ext wo wr) (fun _ y _ => R.length - (intOf y).toNat)
          case atStart => exact ⟨0, by omega, rfl, by rw [hS1.out]; simp [Lib.join_nil], Ext.refl _⟩
          case round =>
            obtain ⟨j, hj, rfl, rfl, hej⟩ := hrel
            obtain ⟨wq, rfl⟩ : ∃ y : World, y = wr := ⟨_, rfl⟩
            have xq := hej.cell xo
            have hcq := hej.cell hcx
            have e0q : Ext w0 wq := Ext.trans e0 hej
            by_cases hlj : j < R.length
            · skip
              obtain ⟨br, or, hdr, hcr⟩ := hrr'.out.at (w' := wq) hlj
              cases hdr
              have hxb := hr2.out _ (nth_mem hlj)
              have hst := hid (join_num (f := sx) hlj [32])
              obtain ⟨x, hx⟩ : ∃ x, x = nth R j := ⟨_, rfl⟩
              rw [← hx] at hcr hst hxb
              replace hx := hid hx
              obtain ⟨S2, hS2⟩ : ∃ s, s = bsOf (P ++ Lib.join ((R.take j).map sx) [32]) := ⟨_, rfl⟩
              have hs2 : S2.size ≤ 1000000 := by
                have h := join_bd (xs := R) (f := sx) (t := j) (c := 21) (k := 100) (sep := [32]) (fun y hy => sx_len (hr2.out y hy)) (by omega)
                have h' : (Lib.join ((R.take j).map sx) [32]).length ≤ 2200 := h
                rw [hS2, bsOf_size, List.length_append]
                omega
              rw [← hS2]
              by_cases hj0 : 0 < j
              · have hpp := pre_pos (f := sx) (sep := [32]) hj0 (show j ≤ R.length by omega)
                have hS3' : S2 ++ { data := #[32] } = bsOf (P ++ pre ((R.take j).map sx) [32]) := by
                  rw [hS2, show ({ data := #[32] } : ByteArray) = bsOf [32] from rfl, bsOf_append, hpp, List.append_assoc]
                replace hS2 := hid hS2
                replace hS3' := hid hS3'
                clear hpp
                have hsz0 : ¬ 9223372036854775807 < S2.size + 1 := by omega
                go_upto_region 14 with fail
                obtain ⟨S3, hS3⟩ : ∃ s, s = S2 ++ { data := #[32] } := ⟨_, rfl⟩
                have hs3 : S3.size ≤ 1000001 := by rw [hS3, ByteArray.size_append]; show S2.size + 1 ≤ _; omega
                have hS3' := hS3'.out
                rw [← hS3] at hS3' ⊢
                replace hS3 := hid hS3'
                replace hS3' := hid hS3'
                clear hsz0
                by_cases hneg : x < 0
                · have hsx : sx x = [120] := by rw [sx, if_pos hneg]
                  have hsum : S3 ++ { data := #[120] } = bsOf (P ++ Lib.join ((R.take (j + 1)).map sx) [32]) := by
                    rw [hS3.out, show ({ data := #[120] } : ByteArray) = bsOf [120] from rfl, bsOf_append, List.append_assoc, hst.out, hsx]
                  have hgx : decide (x < 0) = true := decide_eq_true hneg
                  replace hsx := hid hsx
                  replace hsum := hid hsum
                  have hsz : ¬ 9223372036854775807 < S3.size + 1 := by omega
                  go_wp2_with fail
                  go_roundw
                  case rel => exact ⟨j + 1, by omega, by go_num, by rw [hsum.out], hej⟩
                  case measure => simp [intOf]; omega
                · have hsx : sx x = Lib.itoa x := by rw [sx, if_neg hneg]
                  have hgx : decide (x < 0) = false := decide_eq_false hneg
                  have hxb2 : -1000000000000000 ≤ x ∧ x ≤ 1000000000000000 := hxb
                  go_wp2_with fail
                  with_reducible refine (l1Num_any x hxb2 wq).mono ?_
                  rintro e w5 ⟨rfl, e5⟩
                  obtain ⟨S4, hS4⟩ : ∃ s, s = bsOf (Lib.itoa x) := ⟨_, rfl⟩
                  have hs4 : S4.size ≤ 21 := by rw [hS4, bsOf_size]; exact itoa_len hxb2
                  rw [← hS4]
                  have hsum : S3 ++ S4 = bsOf (P ++ Lib.join ((R.take (j + 1)).map sx) [32]) := by
                    rw [hS3.out, hS4, bsOf_append, List.append_assoc, hst.out, hsx]
                  replace hS4 := hid hS4
                  replace hsum := hid hsum
                  replace hsx := hid hsx
                  have hsz : ¬ 9223372036854775807 < S3.size + S4.size := by omega
                  go_wp2_with fail
                  go_roundw
                  case rel => exact ⟨j + 1, by omega, by go_num, by rw [hsum.out], Ext.trans hej e5⟩
                  case measure => simp [intOf]; omega
              · obtain ⟨hp1, hp2⟩ := pre_zero (xs := R) (f := sx) (sep := [32]) hj0
                have hS3' : S2 = bsOf (P ++ pre ((R.take j).map sx) [32]) := by rw [hS2, hp1, hp2]
                replace hS2 := hid hS2
                replace hS3' := hid hS3'
                clear hp1 hp2
                go_upto_region 14 with fail
                obtain ⟨S3, hS3⟩ : ∃ s, s = S2 := ⟨_, rfl⟩
                have hs3 : S3.size ≤ 1000001 := by rw [hS3]; omega
                have hS3' := hS3'.out
                rw [← hS3] at hS3' ⊢
                replace hS3 := hid hS3'
                replace hS3' := hid hS3'
                by_cases hneg : x < 0
                · have hsx : sx x = [120] := by rw [sx, if_pos hneg]
                  have hsum : S3 ++ { data := #[120] } = bsOf (P ++ Lib.join ((R.take (j + 1)).map sx) [32]) := by
                    rw [hS3.out, show ({ data := #[120] } : ByteArray) = bsOf [120] from rfl, bsOf_append, List.append_assoc, hst.out, hsx]
                  have hgx : decide (x < 0) = true := decide_eq_true hneg
                  replace hsx := hid hsx
                  replace hsum := hid hsum
                  have hsz : ¬ 9223372036854775807 < S3.size + 1 := by omega
                  go_wp2_with fail
                  go_roundw
                  case rel => exact ⟨j + 1, by omega, by go_num, by rw [hsum.out], hej⟩
                  case measure => simp [intOf]; omega
                · have hsx : sx x = Lib.itoa x := by rw [sx, if_neg hneg]
                  have hgx : decide (x < 0) = false := decide_eq_false hneg
                  have hxb2 : -1000000000000000 ≤ x ∧ x ≤ 1000000000000000 := hxb
                  go_wp2_with fail
                  with_reducible refine (l1Num_any x hxb2 wq).mono ?_
                  rintro e w5 ⟨rfl, e5⟩
                  obtain ⟨S4, hS4⟩ : ∃ s, s = bsOf (Lib.itoa x) := ⟨_, rfl⟩
                  have hs4 : S4.size ≤ 21 := by rw [hS4, bsOf_size]; exact itoa_len hxb2
                  rw [← hS4]
                  have hsum : S3 ++ S4 = bsOf (P ++ Lib.join ((R.take (j + 1)).map sx) [32]) := by
                    rw [hS3.out, hS4, bsOf_append, List.append_assoc, hst.out, hsx]
                  replace hS4 := hid hS4
                  replace hsum := hid hsum
                  replace hsx := hid hsx
                  have hsz : ¬ 9223372036854775807 < S3.size + S4.size := by omega
                  go_wp2_with fail
                  go_roundw
                  case rel => exact ⟨j + 1, by omega, by go_num, by rw [hsum.out], Ext.trans hej e5⟩
                  case measure => simp [intOf]; omega
            · have hjl : j = R.length := by omega
              have hend : bsOf (P ++ Lib.join ((R.take j).map sx) [32]) = bsOf (H ++ Lib.join ((S.take (t + 1)).map sxL) [59, 32]) := by
                rw [hjl, List.take_length, hPs.out, hPH.out, List.append_assoc]
                rfl
              replace hjl := hid hjl
              replace hend := hid hend
              go_wp2_with fail
              go_roundw
              case rel => exact ⟨t + 1, by omega, by go_num, by rw [hend.out], Ext.trans he hej⟩
              case measure => simp [intOf]; omega
      · have htX : t = S.length := by omega
        have hend : bsOf (H ++ Lib.join ((S.take t).map sxL) [59, 32]) = bsOf (ptR M S) := by rw [htX, List.take_length, hv.out, hH.out]; rfl
        replace htX := hid htX
        rw [hend]
        obtain ⟨S9, hS9⟩ : ∃ s, s = bsOf (ptR M S) := ⟨_, rfl⟩
        rw [← hS9]
        replace hS9 := hid hS9
        replace hend := hid hend
        go_wp2_with fail
        refine bodyPost_ret (v := .tuple #[.string S9, .bool true]) (by simp [results, Tryd.results20, go_sem]) rfl ?_
        exact ⟨by rw [hS9.out, hok.out], Ext.trans eb (Ext.trans e1 (Ext.trans e2 he))⟩

/-- the library's note on the length of a search -/
def Most (w : World) : Prop := ∃ m, w.cell? ⟨0, 0, none⟩ = some (.int .i64 m)
theorem Most.ext {w w' : World} (h : Most w) [e : Ext w w'] : Most w' := by
  obtain ⟨m, h⟩ := h
  exact ⟨m, e.cell h⟩
set_option maxHeartbeats 800000 in
theorem replace_any {X : List Int} {w : World} (hm : Most w) (hl : X.length ≤ 1000) (hb : ∀ x ∈ X, -1 ≤ x ∧ x ≤ 1000000000000000) :
    Calls Tryd.prog 82 #[.string (bsOf (spL X)), .string { data := #[45, 49] }, .string { data := #[120] }] w fun e w' => e = .returned (.string (bsOf (sxL X))) ∧ Ext w w' := by
  obtain ⟨m, hm⟩ := hm
  have hs : (spL X).length ≤ 1000 * 22 := sp_len hl (fun x hx => by have := hb x hx; omega)
  have hsz : (bsOf (spL X)).size ≤ 22000 := by rw [bsOf_size]; omega
  have hc : Lib.countB (bsOf (spL X)) { data := #[45, 49] } ≤ (bsOf (spL X)).size := Lib.countB_le _ (by decide) _ _ (Nat.le_refl _)
  have h := Tryd.strings_ReplaceAll (bsOf (spL X)) { data := #[45, 49] } { data := #[120] } m w (by omega) hm (by decide) (by
    have h1 : ({ data := #[120] } : ByteArray).size = 1 := rfl
    rw [h1]
    omega)
  refine h.mono ?_
  rintro e w' ⟨rfl, hb'⟩
  refine ⟨?_, ⟨hb'⟩⟩
  rw [bsOf_list]
  rw [show ({ data := #[45, 49] } : ByteArray).data.toList = [45, 49] from rfl, show ({ data := #[120] } : ByteArray).data.toList = [120] from rfl, rep2_row fun c hc => (hb c hc).1]
  rfl
end Go.Proofs.YtdohjmbhgjfcaaaDoor
