/- Numbers with spaces between them, and the text of a metric and of a problem: the program's. -/
import Derived.Test.YtdohjmbhgjfcaaaDoorTxp
namespace Go.Proofs.YtdohjmbhgjfcaaaDoor
open Go.RowKit

theorem Tryd.infoStr : (Tryd.prog.info? 9).map (fun i => (i.zero, i.size, i.bytes)) = some (some (.string ⟨#[]⟩), 1, 16) := by kernel_rfl
theorem elemStr : Elem Tryd.prog 80 9 (.string ⟨#[]⟩) 1 16 := ⟨Tryd.underlying80, info_parts Tryd.infoStr, rfl, by decide⟩
def strV (S : List (List UInt8)) : List Value := S.map fun L => .string (bsOf L)
theorem strV_len (S : List (List UInt8)) : (strV S).length = S.length := by simp [strV]
theorem strV_at {S : List (List UInt8)} {j : Nat} (h : j < S.length) : (strV S).getD j undef = .string (bsOf S[j]) := by simp [strV, h]

set_option maxHeartbeats 800000 in
theorem joinS_any {w : World} {B n : Nat} {v : Value} {S : List (List UInt8)} {R : List Row} (own : Own w B (⟨9, 1, v, n, strV S⟩ :: R)) (hn : n = S.length) (sep : List UInt8) {c : Nat} (hc : ∀ x ∈ S, x.length ≤ c) (hc2 : c ≤ 1000000) (hs : S.length ≤ 1000) (hsep : sep.length ≤ 100) :
    Calls Tryd.prog 86 #[v, .string (bsOf sep)] w fun e w' => e = .returned (.string (bsOf (Lib.join S sep))) ∧ Ext w w' := by
  subst hn
  have hlen := join_len (sep := sep) hc
  have hlen2 : (Lib.join S sep).length ≤ 140737488355328 := by
    have : S.length * (c + sep.length) ≤ 1000 * 1000100 := Nat.mul_le_mul hs (by omega)
    omega
  rcases own.head.2 with ⟨h1, h2⟩ | ⟨g, cap, cur, hv, hb, hg, hcp, hm, hz, ht⟩
  · have hS : S = [] := List.eq_nil_of_length_eq_zero h2
    subst hS
    have h1' : v = .slice none 0 0 := h1
    subst h1'
    refine (Tryd.strings_Join_none none 0 (bsOf sep) w).mono ?_
    rintro e w' ⟨rfl, rfl⟩
    exact ⟨rfl, Ext.refl _⟩
  · have hv' : v = .slice (some ⟨g, 0, none⟩) S.length cap := hv
    subst hv'
    have hcp' : S.length ≤ cap := hcp
    have hx : (S.map bsOf).map (fun s => s.data.toList) = S := by
      rw [List.map_map]
      conv => rhs; rw [← List.map_id S]
      exact List.map_congr_left fun L _ => bsOf_list L
    have hl : (S.map bsOf).length = S.length := List.length_map _
    have h := Tryd.strings_Join g 0 cap (S.map bsOf) (bsOf sep) w (fun j x hj => by
      rw [List.getElem?_map] at hj
      obtain ⟨L, hL, rfl⟩ := Option.map_eq_some_iff.1 hj
      obtain ⟨hlt, hLe⟩ := List.getElem?_eq_some_iff.1 hL
      rw [Nat.zero_add, own.cellAt (w' := w) hlt, strV_at hlt, hLe]) own.lt.2 (by omega) (by omega) (by rw [hx, bsOf_list]; exact hlen2)
    rw [hx, bsOf_list, hl] at h
    refine h.mono ?_
    rintro e w' ⟨rfl, hb'⟩
    exact ⟨rfl, ⟨hb'⟩⟩

set_option maxHeartbeats 800000 in
set_option maxRecDepth 100000 in
theorem spaced_any {v : Value} {X : List Int} {w0 w : World} [Ext w0 w] (hX : IsInts w0 v X) (ht : Tens w0) (hl : X.length ≤ 1000) (hb : ∀ x ∈ X, -1000000000000000 ≤ x ∧ x ≤ 1000000000000000) :
    Calls Tryd.prog 83 #[v] w fun e w' => e = .returned (.string (bsOf (spL X))) ∧ Ext w w' := by
  have hX' := hX
  obtain ⟨dx, mx, rfl, lx⟩ := hX.form
  have own1 : Own (w.alloc (.cells #[] 9)) w.heap.size [⟨9, 1, .slice (some ⟨w.heap.size, 0, none⟩) 0 0, 0, strV ((X.take 0).map Lib.itoa)⟩] := (Own.nil w w.heap.size).lit 9 1 0 #[] (Nat.le_refl _) (by unfold maxLen; omega) rfl
  have b1 : Below w.heap.size w (w.alloc (.cells #[] 9)) := (Below.refl _ w).alloc (Nat.le_refl _) _
  replace hb := hid hb
  replace ht := hid ht
  go_enter Tryd.func83, Tryd.ntmps83
  go_upto_region 2 with fail
  obtain ⟨B, hB0⟩ : ∃ b, b = w.heap.size := ⟨_, rfl⟩
  have hEx := hid (show ∀ u, Below B w u → Ext w u from fun u h => ⟨by rw [← hB0]; exact h⟩)
  have hBs := hid (show ∀ u, Below B w u → B ≤ u.heap.size from fun u h => by rw [hB0]; exact h.size)
  rw [← hB0] at own1 b1 ⊢
  replace hB0 := hid hB0
  generalize w.alloc (.cells #[] 9) = w1 at *
  go_wp2_with fail
  go_loopw [3, 9] (fun u i wr => ∃ t : Nat, t ≤ X.length ∧ i = .int .i64 t ∧ Own wr B [⟨9, 1, u, t, strV ((X.take t).map Lib.itoa)⟩] ∧ Below B w wr) (fun _ i _ => X.length - (intOf i).toNat)
  case atStart => exact ⟨0, by omega, rfl, own1, b1⟩
  case round =>
    clear own1 b1
    obtain ⟨t, htl, rfl, own, hbw⟩ := hrel
    obtain ⟨wo, rfl⟩ : ∃ y : World, y = wr := ⟨_, rfl⟩
    obtain ⟨dO, mO, hvO⟩ := own.form
    simp only at hvO
    subst hvO
    have hBo : B ≤ wo.heap.size := hBs.out _ hbw
    have eo : Ext w wo := hEx.out _ hbw
    have e0 : Ext w0 wo := Ext.trans ‹Ext w0 w› eo
    by_cases hlt : t < X.length
    · obtain ⟨bx, ox, hdx, hcx⟩ := hX'.at (w' := wo) hlt
      cases hdx
      have hxb := hb.out _ (nth_mem hlt)
      have hs : strV ((X.take (t + 1)).map Lib.itoa) = strV ((X.take t).map Lib.itoa) ++ [.string (bsOf (Lib.itoa (nth X t)))] := by
        rw [take_succ_nth hlt, List.map_append, strV, List.map_append]
        rfl
      obtain ⟨x, hx⟩ : ∃ x, x = nth X t := ⟨_, rfl⟩
      rw [← hx] at hcx hs hxb
      replace hx := hid hx
      replace hs := hid hs
      have htw := ht.out.ext (w' := wo)
      replace htw := hid htw
      go_wp2_with fail
      with_reducible refine (dec_any x hxb htw.out).mono ?_
      rintro e w5 ⟨rfl, e5⟩
      have own5 := own.ext (w' := w5)
      have b5 : Below B w w5 := hbw.trans (e5.below.mono hBo)
      have hB5 := hBs.out _ b5
      obtain ⟨sx', hsx⟩ : ∃ s, s = bsOf (Lib.itoa x) := ⟨_, rfl⟩
      rw [← hsx] at hs ⊢
      replace hsx := hid hsx
      clear own
      go_wp2_with (at_builtin; refine wpList_append1 rfl _ _ _ rfl elemStr rfl own5 hB5 rfl rfl (by omega) (by omega) ?_; intro v6 w6 ho6 hb6)
      go_roundw
      case rel => exact ⟨t + 1, by omega, by go_num, by rw [hs.out]; exact ho6, b5.trans hb6⟩
      case measure => simp [intOf]; omega
    · have htX : t = X.length := by omega
      rw [htX, List.take_length] at own
      have hJ := joinS_any own (by simp) [32] (c := 21) (fun y hy => by
        obtain ⟨x, hx, rfl⟩ := List.mem_map.1 hy
        exact itoa_len (hb.out x hx)) (by omega) (by simp; omega) (by simp)
      have hJ2 : Calls Tryd.prog 86 #[.slice dO t mO, .string { data := #[32] }] wo fun e w' => e = .returned (.string (bsOf (spL X))) ∧ Ext wo w' := by
        rw [htX]
        exact hJ
      replace hJ2 := hid hJ2
      replace htX := hid htX
      clear hJ own
      go_wp2_with fail
      with_reducible refine hJ2.out.mono ?_
      rintro e w5 ⟨rfl, e5⟩
      go_wp2_with fail
      go_ret
      exact ⟨rfl, Ext.trans eo e5⟩

theorem sp_len {X : List Int} {k : Nat} (hl : X.length ≤ k) (hb : ∀ x ∈ X, -1000000000000000 ≤ x ∧ x ≤ 1000000000000000) : (spL X).length ≤ k * 22 := by
  have h := join_len (sep := [32]) (c := 21) (r := X.map Lib.itoa) fun y hy => by
    obtain ⟨x, hx, rfl⟩ := List.mem_map.1 hy
    exact itoa_len (hb x hx)
  rw [List.length_map] at h
  have : X.length * (21 + 1) ≤ k * 22 := Nat.mul_le_mul_right 22 hl
  exact Nat.le_trans h this

set_option maxHeartbeats 800000 in
set_option maxRecDepth 100000 in
theorem metricText_any {v : Value} {M : List (List Int)} {w0 w : World} [Ext w0 w] (hM : IsRows w0 v M) (ht : Tens w0) (hl : M.length ≤ 100) (hr : ∀ r ∈ M, r.length ≤ 100 ∧ ∀ x ∈ r, -1000000000000000 ≤ x ∧ x ≤ 1000000000000000) :
    Calls Tryd.prog 84 #[.agg #[v]] w fun e w' => e = .returned (.string (bsOf (mtL M))) ∧ Ext w w' := by
  have hM' := hM
  obtain ⟨dx, mx, rfl, lx⟩ := hM.form
  have eb : Ext w (w.alloc (.cells #[.slice dx M.length mx] 92)) := inferInstance
  have x0 : (w.alloc (.cells #[.slice dx M.length mx] 92)).cell? ⟨w.heap.size, 0, none⟩ = some (.slice dx M.length mx) := by go_simp
  replace hr := hid hr
  replace ht := hid ht
  go_enter Tryd.func84, Tryd.ntmps84
  go_upto_region 1 with fail
  obtain ⟨bx, hbx⟩ : ∃ q, q = w.heap.size := ⟨_, rfl⟩
  rw [← hbx] at x0 ⊢
  replace hbx := hid hbx
  generalize w.alloc (.cells #[.slice dx M.length mx] 92) = wb at *
  have own1 : Own (wb.alloc (.cells #[] 9)) wb.heap.size [⟨9, 1, .slice (some ⟨wb.heap.size, 0, none⟩) 0 0, 0, strV ((M.take 0).map spL)⟩] := (Own.nil wb wb.heap.size).lit 9 1 0 #[] (Nat.le_refl _) (by unfold maxLen; omega) rfl
  have b1 : Below wb.heap.size wb (wb.alloc (.cells #[] 9)) := (Below.refl _ wb).alloc (Nat.le_refl _) _
  have x1 : (wb.alloc (.cells #[] 9)).cell? ⟨bx, 0, none⟩ = some (.slice dx M.length mx) := (inferInstance : Ext wb (wb.alloc (.cells #[] 9))).cell x0
  go_upto_region 2 with fail
  obtain ⟨B, hB0⟩ : ∃ b, b = wb.heap.size := ⟨_, rfl⟩
  have hEx := hid (show ∀ u, Below B wb u → Ext wb u from fun u h => ⟨by rw [← hB0]; exact h⟩)
  have hBs := hid (show ∀ u, Below B wb u → B ≤ u.heap.size from fun u h => by rw [hB0]; exact h.size)
  rw [← hB0] at own1 b1 ⊢
  replace hB0 := hid hB0
  generalize wb.alloc (.cells #[] 9) = w1 at *
  go_wp2_with fail
  go_loopw [3, 10] (fun u i wr => ∃ t : Nat, t ≤ M.length ∧ i = .int .i64 t ∧ Own wr B [⟨9, 1, u, t, strV ((M.take t).map spL)⟩] ∧ Below B wb wr) (fun _ i _ => M.length - (intOf i).toNat)
  case atStart => exact ⟨0, by omega, rfl, own1, b1⟩
  case round =>
    clear own1 b1 x0 x1
    obtain ⟨t, htl, rfl, own, hbw⟩ := hrel
    obtain ⟨wo, rfl⟩ : ∃ y : World, y = wr := ⟨_, rfl⟩
    obtain ⟨dO, mO, hvO⟩ := own.form
    simp only at hvO
    subst hvO
    have hBo : B ≤ wo.heap.size := hBs.out _ hbw
    have eo : Ext w wo := Ext.trans eb (hEx.out _ hbw)
    have e0 : Ext w0 wo := Ext.trans ‹Ext w0 w› eo
    by_cases hlt : t < M.length
    · obtain ⟨bq, oq, dr, mr, hdx, hcx, hrr, hrl⟩ := hM'.at (w' := wo) hlt
      cases hdx
      have hmem : row M t ∈ M := by
        have : row M t = M[t] := by simp [row, hlt]
        rw [this]
        exact List.getElem_mem hlt
      obtain ⟨hr1, hr2⟩ := hr.out _ hmem
      have hs : strV ((M.take (t + 1)).map spL) = strV ((M.take t).map spL) ++ [.string (bsOf (spL (row M t)))] := by
        rw [take_succ_row hlt, List.map_append, strV, List.map_append]
        rfl
      obtain ⟨X, hX⟩ : ∃ x, x = row M t := ⟨_, rfl⟩
      rw [← hX] at hcx hs hr1 hr2 hrr hrl
      replace hX := hid hX
      replace hs := hid hs
      replace hr2 := hid hr2
      have htw := hid (ht.out.ext (w' := wo))
      have hrr' := hid (hrr.ext (w' := wo))
      go_wp2_with fail
      with_reducible refine (spaced_any (w0 := wo) (w := wo) hrr'.out htw.out (by omega) hr2.out).mono ?_
      rintro e w5 ⟨rfl, e5⟩
      have own5 := own.ext (w' := w5)
      have b5 : Below B wb w5 := hbw.trans (e5.below.mono hBo)
      have hB5 := hBs.out _ b5
      obtain ⟨sx', hsx⟩ : ∃ s, s = bsOf (spL X) := ⟨_, rfl⟩
      rw [← hsx] at hs ⊢
      replace hsx := hid hsx
      clear own
      go_wp2_with (at_builtin; refine wpList_append1 rfl _ _ _ rfl elemStr rfl own5 hB5 rfl rfl (by omega) (by omega) ?_; intro v6 w6 ho6 hb6)
      go_roundw
      case rel => exact ⟨t + 1, by omega, by go_num, by rw [hs.out]; exact ho6, b5.trans hb6⟩
      case measure => simp [intOf]; omega
    · have htX : t = M.length := by omega
      rw [htX, List.take_length] at own
      have hJ := joinS_any own (by simp) [59, 32] (c := 2200) (fun y hy => by
        obtain ⟨x, hx, rfl⟩ := List.mem_map.1 hy
        have h := hr.out x hx
        exact sp_len h.1 h.2) (by omega) (by simp; omega) (by simp)
      have hJ2 : Calls Tryd.prog 86 #[.slice dO t mO, .string { data := #[59, 32] }] wo fun e w' => e = .returned (.string (bsOf (mtL M))) ∧ Ext wo w' := by
        rw [htX]
        exact hJ
      replace hJ2 := hid hJ2
      replace htX := hid htX
      clear hJ own
      go_wp2_with fail
      with_reducible refine hJ2.out.mono ?_
      rintro e w5 ⟨rfl, e5⟩
      go_wp2_with fail
      go_ret
      exact ⟨rfl, Ext.trans eo e5⟩
end Go.Proofs.YtdohjmbhgjfcaaaDoor
