/- The text of a metric: the reference's. -/
import Derived.Test.YtdohjmbhgjfcaaaDoorTxa
namespace Go.Proofs.YtdohjmbhgjfcaaaDoor
open Go.RowKit

/-- what stands ahead of the next part -/
def pre (xs : List (List UInt8)) (sep : List UInt8) : List UInt8 := if xs = [] then [] else Lib.join xs sep ++ sep
theorem join_pre (xs : List (List UInt8)) (y sep : List UInt8) : Lib.join (xs ++ [y]) sep = pre xs sep ++ y := by
  rw [join_snoc, pre]
  split <;> simp
theorem pre_pos {α : Type} {xs : List α} {f : α → List UInt8} {t : Nat} {sep : List UInt8} (h : 0 < t) (hl : t ≤ xs.length) : pre ((xs.take t).map f) sep = Lib.join ((xs.take t).map f) sep ++ sep := by
  rw [pre, if_neg]
  intro e
  have := congrArg List.length e
  rw [List.length_map, List.length_take, List.length_nil] at this
  omega
theorem pre_zero {α : Type} {xs : List α} {f : α → List UInt8} {t : Nat} {sep : List UInt8} (h : ¬ 0 < t) : pre ((xs.take t).map f) sep = [] ∧ Lib.join ((xs.take t).map f) sep = [] := by
  have : t = 0 := by omega
  subst this
  exact ⟨by simp [pre], by simp [Lib.join_nil]⟩
theorem join_num {X : List Int} {f : Int → List UInt8} {j : Nat} (hj : j < X.length) (sep : List UInt8) : Lib.join ((X.take (j + 1)).map f) sep = pre ((X.take j).map f) sep ++ f (nth X j) := by
  rw [take_succ_nth hj, List.map_append]
  exact join_pre _ _ _
theorem join_row {M : List (List Int)} {f : List Int → List UInt8} {t : Nat} (ht : t < M.length) (sep : List UInt8) : Lib.join ((M.take (t + 1)).map f) sep = pre ((M.take t).map f) sep ++ f (row M t) := by
  rw [take_succ_row ht, List.map_append]
  exact join_pre _ _ _
theorem join_bd {α : Type} {xs : List α} {f : α → List UInt8} {t c k : Nat} {sep : List UInt8} (h : ∀ x ∈ xs, (f x).length ≤ c) (hk : xs.length ≤ k) : (Lib.join ((xs.take t).map f) sep).length ≤ k * (c + sep.length) := by
  have h1 := join_len (sep := sep) (c := c) (r := (xs.take t).map f) fun y hy => by
    obtain ⟨x, hx, rfl⟩ := List.mem_map.1 hy
    exact h x (List.mem_of_mem_take hx)
  rw [List.length_map, List.length_take] at h1
  exact Nat.le_trans h1 (Nat.mul_le_mul_right _ (by omega))

set_option maxHeartbeats 1600000 in
set_option maxRecDepth 100000 in
theorem l6Text_any {v : Value} {M : List (List Int)} {w0 w : World} [Ext w0 w] (hM : IsRows w0 v M) (hl : M.length ≤ 100) (hsq : ∀ t, t < M.length → (row M t).length = M.length) (hr : ∀ r ∈ M, ∀ x ∈ r, -1000000000000000 ≤ x ∧ x ≤ 1000000000000000) :
    Calls Tryd.prog 79 #[.agg #[v]] w fun e w' => e = .returned (.string (bsOf (mtL M))) ∧ Ext w w' := by
  have hM' := hM
  obtain ⟨dx, mx, rfl, lx⟩ := hM.form
  have eb : Ext w (w.alloc (.cells #[.slice dx M.length mx] 92)) := inferInstance
  have x0 : (w.alloc (.cells #[.slice dx M.length mx] 92)).cell? ⟨w.heap.size, 0, none⟩ = some (.slice dx M.length mx) := by go_simp
  have hspl : ∀ r ∈ M, (spL r).length ≤ 2200 := fun r hm => by
    obtain ⟨t, ht, e⟩ := List.getElem_of_mem hm
    have h1 := hsq t ht
    have h2 : row M t = r := by simp [row, ht, e]
    rw [h2] at h1
    exact sp_len (k := 100) (by omega) (hr r hm)
  replace hsq := hid hsq
  replace hr := hid hr
  replace hspl := hid hspl
  go_enter Tryd.func79, Tryd.ntmps79
  go_upto_region 1 with fail
  obtain ⟨bx, hbx⟩ : ∃ q, q = w.heap.size := ⟨_, rfl⟩
  rw [← hbx] at x0 ⊢
  replace hbx := hid hbx
  generalize w.alloc (.cells #[.slice dx M.length mx] 92) = wb at *
  go_wp2_with fail
  go_loopw [3, 4] (fun s i wr => ∃ t : Nat, t ≤ M.length ∧ i = .int .i64 t ∧ s = .string (bsOf (Lib.join ((M.take t).map spL) [59, 32])) ∧ Ext wb wr) (fun _ i _ => M.length - (intOf i).toNat)
  case atStart => exact ⟨0, by omega, rfl, rfl, Ext.refl _⟩
  case round =>
    obtain ⟨t, htl, rfl, rfl, he⟩ := hrel
    obtain ⟨wo, rfl⟩ : ∃ y : World, y = wr := ⟨_, rfl⟩
    have xo := he.cell x0
    have e0 : Ext w0 wo := Ext.trans ‹Ext w0 w› (Ext.trans eb he)
    by_cases hlt : t < M.length
    · obtain ⟨bq, oq, dr, mr, hdx, hcx, hrr, hrl⟩ := hM'.at (w' := wo) hlt
      cases hdx
      have hmem : row M t ∈ M := by
        have : row M t = M[t] := by simp [row, hlt]
        rw [this]
        exact List.getElem_mem hlt
      have hr2 := hr.out _ hmem
      have hRl := hsq.out t hlt
      have hPs := hid (join_row (f := spL) hlt [59, 32])
      obtain ⟨R, hR⟩ : ∃ x, x = row M t := ⟨_, rfl⟩
      rw [← hR] at hcx hr2 hrr hrl hRl hPs
      replace hR := hid hR
      replace hr2 := hid hr2
      replace hRl := hid hRl
      have hR100 : R.length ≤ 100 := by have := hRl.out; omega
      have hrr' := hid hrr
      clear hrr
      obtain ⟨S0, hS0⟩ : ∃ s, s = bsOf (Lib.join ((M.take t).map spL) [59, 32]) := ⟨_, rfl⟩
      have hjb : (Lib.join ((M.take t).map spL) [59, 32]).length ≤ 220200 := join_bd (xs := M) (f := spL) (t := t) (c := 2200) (k := 100) (sep := [59, 32]) hspl.out hl
      have hs0 : S0.size ≤ 220200 := by rw [hS0, bsOf_size]; exact hjb
      obtain ⟨P, hP⟩ : ∃ P, P = pre ((M.take t).map spL) [59, 32] := ⟨_, rfl⟩
      rw [← hP] at hPs
      rw [← hS0]
      by_cases ht0 : 0 < t
      · have hpp := pre_pos (f := spL) (sep := [59, 32]) ht0 (show t ≤ M.length by omega)
        have hS1' : S0 ++ { data := #[59, 32] } = bsOf P := by
          rw [hS0, show ({ data := #[59, 32] } : ByteArray) = bsOf [59, 32] from rfl, bsOf_append, hP, hpp]
        have hPl : P.length ≤ 220202 := by rw [hP, hpp, List.length_append]; simp only [List.length_cons, List.length_nil]; omega
        replace hS0 := hid hS0
        replace hP := hid hP
        replace hS1' := hid hS1'
        clear hpp hjb
        have hsz0 : ¬ 9223372036854775807 < S0.size + 2 := by omega
        go_upto_region 7 with fail
        obtain ⟨S1, hS1⟩ : ∃ s, s = S0 ++ { data := #[59, 32] } := ⟨_, rfl⟩
        have hS1' := hS1'.out
        rw [← hS1] at hS1' ⊢
        replace hS1 := hid hS1'
        replace hS1' := hid hS1'
        clear hsz0
        go_wp2_with fail
        go_loopw [3, 5] (fun s y wr => ∃ j : Nat, j ≤ R.length ∧ y = .int .i64 j ∧ s = .string (bsOf (P ++ Lib.join ((R.take j).map Lib.itoa) [32])) ∧ Ext wo wr) (fun _ y _ => R.length - (intOf y).toNat)
        case atStart => exact ⟨0, by omega, rfl, by rw [hS1.out]; simp [Lib.join_nil], Ext.refl _⟩
        case round =>
          obtain ⟨j, hj, rfl, rfl, hej⟩ := hrel
          obtain ⟨wq, rfl⟩ : ∃ y : World, y = wr := ⟨_, rfl⟩
          have xq := hej.cell xo
          have hcq := hej.cell hcx
          have e0q : Ext w0 wq := Ext.trans e0 hej
          by_cases hlj : j < R.length
          · have hlj2 : j < M.length := by have := hRl.out; omega
            obtain ⟨br, or, hdr, hcr⟩ := hrr'.out.at (w' := wq) hlj
            cases hdr
            have hxb := hr2.out _ (nth_mem hlj)
            have hst := hid (join_num (f := Lib.itoa) hlj [32])
            obtain ⟨x, hx⟩ : ∃ x, x = nth R j := ⟨_, rfl⟩
            rw [← hx] at hcr hst hxb
            replace hx := hid hx
            obtain ⟨S2, hS2⟩ : ∃ s, s = bsOf (P ++ Lib.join ((R.take j).map Lib.itoa) [32]) := ⟨_, rfl⟩
            have hs2 : S2.size ≤ 230000 := by
              have h := join_bd (xs := R) (f := Lib.itoa) (t := j) (c := 21) (k := 100) (sep := [32]) (fun y hy => itoa_len (hr2.out y hy)) (by omega)
              have h' : (Lib.join ((R.take j).map Lib.itoa) [32]).length ≤ 2200 := h
              rw [hS2, bsOf_size, List.length_append]
              omega
            rw [← hS2]
            by_cases hj0 : 0 < j
            · have hpp := pre_pos (f := Lib.itoa) (sep := [32]) hj0 (show j ≤ R.length by omega)
              have hS3' : S2 ++ { data := #[32] } = bsOf (P ++ pre ((R.take j).map Lib.itoa) [32]) := by
                rw [hS2, show ({ data := #[32] } : ByteArray) = bsOf [32] from rfl, bsOf_append, hpp, List.append_assoc]
              replace hS2 := hid hS2
              replace hS3' := hid hS3'
              clear hpp
              have hsz0 : ¬ 9223372036854775807 < S2.size + 1 := by omega
              go_upto_region 12 with fail
              obtain ⟨S3, hS3⟩ : ∃ s, s = S2 ++ { data := #[32] } := ⟨_, rfl⟩
              have hs3 : S3.size ≤ 230001 := by rw [hS3, ByteArray.size_append]; show S2.size + 1 ≤ _; omega
              have hS3' := hS3'.out
              rw [← hS3] at hS3' ⊢
              replace hS3 := hid hS3'
              replace hS3' := hid hS3'
              clear hsz0
              go_wp2_with fail
              with_reducible refine (l1Num_any x hxb wq).mono ?_
              rintro e w5 ⟨rfl, e5⟩
              obtain ⟨S4, hS4⟩ : ∃ s, s = bsOf (Lib.itoa x) := ⟨_, rfl⟩
              have hs4 : S4.size ≤ 21 := by rw [hS4, bsOf_size]; exact itoa_len hxb
              rw [← hS4]
              have hsum : S3 ++ S4 = bsOf (P ++ Lib.join ((R.take (j + 1)).map Lib.itoa) [32]) := by
                rw [hS3.out, hS4, bsOf_append, List.append_assoc, hst.out]
              replace hS4 := hid hS4
              replace hsum := hid hsum
              have hsz : ¬ 9223372036854775807 < S3.size + S4.size := by omega
              go_wp2_with fail
              go_roundw
              case rel => exact ⟨j + 1, by omega, by go_num, by rw [hsum.out], Ext.trans hej e5⟩
              case measure => simp [intOf]; omega
            · obtain ⟨hp1, hp2⟩ := pre_zero (xs := R) (f := Lib.itoa) (sep := [32]) hj0
              have hS3' : S2 = bsOf (P ++ pre ((R.take j).map Lib.itoa) [32]) := by rw [hS2, hp1, hp2]
              replace hS2 := hid hS2
              replace hS3' := hid hS3'
              clear hp1 hp2
              go_upto_region 12 with fail
              obtain ⟨S3, hS3⟩ : ∃ s, s = S2 := ⟨_, rfl⟩
              have hs3 : S3.size ≤ 230001 := by rw [hS3]; omega
              have hS3' := hS3'.out
              rw [← hS3] at hS3' ⊢
              replace hS3 := hid hS3'
              replace hS3' := hid hS3'
              go_wp2_with fail
              with_reducible refine (l1Num_any x hxb wq).mono ?_
              rintro e w5 ⟨rfl, e5⟩
              obtain ⟨S4, hS4⟩ : ∃ s, s = bsOf (Lib.itoa x) := ⟨_, rfl⟩
              have hs4 : S4.size ≤ 21 := by rw [hS4, bsOf_size]; exact itoa_len hxb
              rw [← hS4]
              have hsum : S3 ++ S4 = bsOf (P ++ Lib.join ((R.take (j + 1)).map Lib.itoa) [32]) := by
                rw [hS3.out, hS4, bsOf_append, List.append_assoc, hst.out]
              replace hS4 := hid hS4
              replace hsum := hid hsum
              have hsz : ¬ 9223372036854775807 < S3.size + S4.size := by omega
              go_wp2_with fail
              go_roundw
              case rel => exact ⟨j + 1, by omega, by go_num, by rw [hsum.out], Ext.trans hej e5⟩
              case measure => simp [intOf]; omega
          · have hjl : j = R.length := by omega
            have hend : bsOf (P ++ Lib.join ((R.take j).map Lib.itoa) [32]) = bsOf (Lib.join ((M.take (t + 1)).map spL) [59, 32]) := by
              rw [hjl, List.take_length, hPs.out]
              rfl
            have hnl : ¬ j < M.length := by have := hRl.out; omega
            replace hjl := hid hjl
            replace hend := hid hend
            go_wp2_with fail
            go_roundw
            case rel => exact ⟨t + 1, by omega, by go_num, by rw [hend.out], Ext.trans he hej⟩
            case measure => simp [intOf]; omega
      · obtain ⟨hp1, hp2⟩ := pre_zero (xs := M) (f := spL) (sep := [59, 32]) ht0
        have hS1' : S0 = bsOf P := by rw [hS0, hP, hp1, hp2]
        have hPl : P.length ≤ 220202 := by rw [hP, hp1]; simp
        replace hS0 := hid hS0
        replace hP := hid hP
        replace hS1' := hid hS1'
        clear hp1 hp2 hjb
        go_upto_region 7 with fail
        obtain ⟨S1, hS1⟩ : ∃ s, s = S0 := ⟨_, rfl⟩
        have hS1' := hS1'.out
        rw [← hS1] at hS1' ⊢
        replace hS1 := hid hS1'
        replace hS1' := hid hS1'
        go_wp2_with fail
        go_loopw [3, 5] (fun s y wr => ∃ j : Nat, j ≤ R.length ∧ y = .int .i64 j ∧ s = .string (bsOf (P ++ Lib.join ((R.take j).map Lib.itoa) [32])) ∧ Ext wo wr) (fun _ y _ => R.length - (intOf y).toNat)
        case atStart => exact ⟨0, by omega, rfl, by rw [hS1.out]; simp [Lib.join_nil], Ext.refl _⟩
        case round =>
          obtain ⟨j, hj, rfl, rfl, hej⟩ := hrel
          obtain ⟨wq, rfl⟩ : ∃ y : World, y = wr := ⟨_, rfl⟩
          have xq := hej.cell xo
          have hcq := hej.cell hcx
          have e0q : Ext w0 wq := Ext.trans e0 hej
          by_cases hlj : j < R.length
          · have hlj2 : j < M.length := by have := hRl.out; omega
            obtain ⟨br, or, hdr, hcr⟩ := hrr'.out.at (w' := wq) hlj
            cases hdr
            have hxb := hr2.out _ (nth_mem hlj)
            have hst := hid (join_num (f := Lib.itoa) hlj [32])
            obtain ⟨x, hx⟩ : ∃ x, x = nth R j := ⟨_, rfl⟩
            rw [← hx] at hcr hst hxb
            replace hx := hid hx
            obtain ⟨S2, hS2⟩ : ∃ s, s = bsOf (P ++ Lib.join ((R.take j).map Lib.itoa) [32]) := ⟨_, rfl⟩
            have hs2 : S2.size ≤ 230000 := by
              have h := join_bd (xs := R) (f := Lib.itoa) (t := j) (c := 21) (k := 100) (sep := [32]) (fun y hy => itoa_len (hr2.out y hy)) (by omega)
              have h' : (Lib.join ((R.take j).map Lib.itoa) [32]).length ≤ 2200 := h
              rw [hS2, bsOf_size, List.length_append]
              omega
            rw [← hS2]
            by_cases hj0 : 0 < j
            · have hpp := pre_pos (f := Lib.itoa) (sep := [32]) hj0 (show j ≤ R.length by omega)
              have hS3' : S2 ++ { data := #[32] } = bsOf (P ++ pre ((R.take j).map Lib.itoa) [32]) := by
                rw [hS2, show ({ data := #[32] } : ByteArray) = bsOf [32] from rfl, bsOf_append, hpp, List.append_assoc]
              replace hS2 := hid hS2
              replace hS3' := hid hS3'
              clear hpp
              have hsz0 : ¬ 9223372036854775807 < S2.size + 1 := by omega
              go_upto_region 12 with fail
              obtain ⟨S3, hS3⟩ : ∃ s, s = S2 ++ { data := #[32] } := ⟨_, rfl⟩
              have hs3 : S3.size ≤ 230001 := by rw [hS3, ByteArray.size_append]; show S2.size + 1 ≤ _; omega
              have hS3' := hS3'.out
              rw [← hS3] at hS3' ⊢
              replace hS3 := hid hS3'
              replace hS3' := hid hS3'
              clear hsz0
              go_wp2_with fail
              with_reducible refine (l1Num_any x hxb wq).mono ?_
              rintro e w5 ⟨rfl, e5⟩
              obtain ⟨S4, hS4⟩ : ∃ s, s = bsOf (Lib.itoa x) := ⟨_, rfl⟩
              have hs4 : S4.size ≤ 21 := by rw [hS4, bsOf_size]; exact itoa_len hxb
              rw [← hS4]
              have hsum : S3 ++ S4 = bsOf (P ++ Lib.join ((R.take (j + 1)).map Lib.itoa) [32]) := by
                rw [hS3.out, hS4, bsOf_append, List.append_assoc, hst.out]
              replace hS4 := hid hS4
              replace hsum := hid hsum
              have hsz : ¬ 9223372036854775807 < S3.size + S4.size := by omega
              go_wp2_with fail
              go_roundw
              case rel => exact ⟨j + 1, by omega, by go_num, by rw [hsum.out], Ext.trans hej e5⟩
              case measure => simp [intOf]; omega
            · obtain ⟨hp1, hp2⟩ := pre_zero (xs := R) (f := Lib.itoa) (sep := [32]) hj0
              have hS3' : S2 = bsOf (P ++ pre ((R.take j).map Lib.itoa) [32]) := by rw [hS2, hp1, hp2]
              replace hS2 := hid hS2
              replace hS3' := hid hS3'
              clear hp1 hp2
              go_upto_region 12 with fail
              obtain ⟨S3, hS3⟩ : ∃ s, s = S2 := ⟨_, rfl⟩
              have hs3 : S3.size ≤ 230001 := by rw [hS3]; omega
              have hS3' := hS3'.out
              rw [← hS3] at hS3' ⊢
              replace hS3 := hid hS3'
              replace hS3' := hid hS3'
              go_wp2_with fail
              with_reducible refine (l1Num_any x hxb wq).mono ?_
              rintro e w5 ⟨rfl, e5⟩
              obtain ⟨S4, hS4⟩ : ∃ s, s = bsOf (Lib.itoa x) := ⟨_, rfl⟩
              have hs4 : S4.size ≤ 21 := by rw [hS4, bsOf_size]; exact itoa_len hxb
              rw [← hS4]
              have hsum : S3 ++ S4 = bsOf (P ++ Lib.join ((R.take (j + 1)).map Lib.itoa) [32]) := by
                rw [hS3.out, hS4, bsOf_append, List.append_assoc, hst.out]
              replace hS4 := hid hS4
              replace hsum := hid hsum
              have hsz : ¬ 9223372036854775807 < S3.size + S4.size := by omega
              go_wp2_with fail
              go_roundw
              case rel => exact ⟨j + 1, by omega, by go_num, by rw [hsum.out], Ext.trans hej e5⟩
              case measure => simp [intOf]; omega
          · have hjl : j = R.length := by omega
            have hend : bsOf (P ++ Lib.join ((R.take j).map Lib.itoa) [32]) = bsOf (Lib.join ((M.take (t + 1)).map spL) [59, 32]) := by
              rw [hjl, List.take_length, hPs.out]
              rfl
            have hnl : ¬ j < M.length := by have := hRl.out; omega
            replace hjl := hid hjl
            replace hend := hid hend
            go_wp2_with fail
            go_roundw
            case rel => exact ⟨t + 1, by omega, by go_num, by rw [hend.out], Ext.trans he hej⟩
            case measure => simp [intOf]; omega
    · have htX : t = M.length := by omega
      have hend : bsOf (Lib.join ((M.take t).map spL) [59, 32]) = bsOf (mtL M) := by rw [htX, List.take_length]; rfl
      replace htX := hid htX
      rw [hend]
      obtain ⟨S9, hS9⟩ : ∃ s, s = bsOf (mtL M) := ⟨_, rfl⟩
      rw [← hS9]
      replace hS9 := hid hS9
      go_wp2_with fail
      refine bodyPost_ret (v := .string S9) (by simp [results, Tryd.results79, go_sem]) rfl ?_
      exact ⟨by rw [hS9.out], Ext.trans eb he⟩
end Go.Proofs.YtdohjmbhgjfcaaaDoor
