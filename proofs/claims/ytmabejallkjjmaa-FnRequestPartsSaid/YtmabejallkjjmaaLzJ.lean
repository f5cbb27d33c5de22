/- Plans by a choice; the lazy plan of the program. -/
import Derived.Test.YtmabejallkjjmaaLzI
namespace Go.Proofs.Ytmabejallkjjmaa
open Go.RowKit

/-- the next pages: o leaves if the cache is full -/
def pbN (k : Int) (N : List Int) (r o : Int) : List Int := if r ∈ N then N else if (N.length : Int) = k then putL (outL N o) r else putL N r
def pbC (k : Int) (ch : Nat → List Int → Int) (X : List Int) : Nat → List Int
  | 0 => []
  | t + 1 => pbN k (pbC k ch X t) (nth X t) (ch t (pbC k ch X t))
def pbP (k : Int) (ch : Nat → List Int → Int) (X : List Int) (t : Nat) : Int := if nth X t ∉ pbC k ch X t ∧ ((pbC k ch X t).length : Int) = k then ch t (pbC k ch X t) else -1
def pbL (k : Int) (ch : Nat → List Int → Int) (X : List Int) (t : Nat) : List Int := (List.range t).map (pbP k ch X)
theorem pbL_len (k : Int) (ch : Nat → List Int → Int) (X : List Int) (t : Nat) : (pbL k ch X t).length = t := by simp [pbL]
theorem pbL_succ (k : Int) (ch : Nat → List Int → Int) (X : List Int) (t : Nat) : pbL k ch X (t + 1) = pbL k ch X t ++ [pbP k ch X t] := by simp [pbL, List.range_succ]
theorem pbL_at {k : Int} {ch : Nat → List Int → Int} {X : List Int} {t i : Nat} (h : i < t) : nth (pbL k ch X t) i = pbP k ch X i := by simp [pbL, nth, h]
theorem pbC_sasc (k : Int) (ch : Nat → List Int → Int) (X : List Int) : ∀ t, SAsc (pbC k ch X t)
  | 0 => by simp [pbC, SAsc]
  | t + 1 => by
    have ih := pbC_sasc k ch X t
    unfold pbC pbN
    by_cases h : nth X t ∈ pbC k ch X t
    · rw [if_pos h]; exact ih
    · rw [if_neg h]
      by_cases h2 : ((pbC k ch X t).length : Int) = k
      · rw [if_pos h2]; exact putL_sasc (outL_sasc ih)
      · rw [if_neg h2]; exact putL_sasc ih
theorem pbC_mem {k : Int} {ch : Nat → List Int → Int} {X : List Int} : ∀ {t : Nat} {y : Int}, y ∈ pbC k ch X t → ∃ s, s < t ∧ nth X s = y
  | 0, y, h => by simp [pbC] at h
  | t + 1, y, h => by
    have key : y ∈ pbC k ch X t ∨ y = nth X t := by
      unfold pbC pbN at h
      by_cases h1 : nth X t ∈ pbC k ch X t
      · rw [if_pos h1] at h; exact .inl h
      · rw [if_neg h1] at h
        by_cases h2 : ((pbC k ch X t).length : Int) = k
        · rw [if_pos h2] at h
          rcases mem_putL.1 h with h | h
          · exact .inr h
          · exact .inl (mem_outL.1 h).1
        · rw [if_neg h2] at h
          rcases mem_putL.1 h with h | h
          · exact .inr h
          · exact .inl h
    rcases key with h | h
    · obtain ⟨s, h1, h2⟩ := pbC_mem h
      exact ⟨s, by omega, h2⟩
    · exact ⟨t, by omega, h.symm⟩
theorem pbC_len (k : Int) (ch : Nat → List Int → Int) (X : List Int) : ∀ t, (pbC k ch X t).length ≤ t
  | 0 => by simp [pbC]
  | t + 1 => by
    have ih := pbC_len k ch X t
    unfold pbC pbN
    have h1 := outL_len (pbC k ch X t) (ch t (pbC k ch X t))
    have h2 := putL_len (x := nth X t) (l := outL (pbC k ch X t) (ch t (pbC k ch X t)))
    have h3 := putL_len (x := nth X t) (l := pbC k ch X t)
    split
    · omega
    · split <;> omega

set_option maxHeartbeats 400000 in
theorem planBy1_any {a n : Int} {B : Nat} {w : World} (hn : w.cell? ⟨B, 0, none⟩ = some (.int .i64 n)) :
    Calls Try.prog 174 #[.int .i64 a, .pointer (some ⟨B, 0, none⟩)] w fun e w' => e = .returned (.bool (a == n)) ∧ w = w' := by
  go_enter Try.func174, Try.ntmps174
  go_wp2_with fail
  go_ret
  exact ⟨rfl, rfl⟩
theorem planBy1_call (xa : Array Value) (W : World) : (callFunc 174 xa).run Try.prog W = .ok (.enter 174 xa) W := by kernel_rfl
theorem own3_rot {a b c : Row} : [c, a, b].Perm [a, b, c] := (List.perm_append_comm (l₁ := [c]) (l₂ := [a, b]))

set_option maxHeartbeats 1600000 in
set_option maxRecDepth 100000 in
theorem planBy_any {vX : Value} {k : Int} {X : List Int} {w0 w : World} [Ext w0 w] (hX : IsInts w0 vX X) (hl : X.length ≤ 60) (_hk : I64 k) (id : Nat) (caps : Array Value) (ch : Nat → List Int → Int)
    (hcall : ∀ xa W, (callFunc id xa).run Try.prog W = .ok (.enter id xa) W)
    (hch : ∀ (W : World), Ext w W → ∀ t : Nat, t < X.length → nth X t ∉ pbC k ch X t → ((pbC k ch X t).length : Int) = k → ∀ u, IsInts W u (pbC k ch X t) → Calls Try.prog id (#[.int .i64 t, u] ++ caps) W fun e w' => e = .returned (.int .i64 (ch t (pbC k ch X t))) ∧ Ext W w')
    (hci : ∀ t, t < X.length → I64 (pbP k ch X t)) :
    Calls Try.prog 152 #[.int .i64 k, vX, .func (.func id) #[] caps] w fun e w' => ∃ d m, e = .returned (.slice d X.length m) ∧ IsInts w' (.slice d X.length m) (pbL k ch X X.length) ∧ Ext w w' := by
  have hX' := hX
  obtain ⟨dx, mx, rfl, lx⟩ := hX.form
  have hi64 := hid (show ∀ t, t ≤ X.length → ∀ y ∈ pbC k ch X t, I64 y from fun t ht y hy => by
    obtain ⟨s, hs, rfl⟩ := pbC_mem hy
    exact hX'.i64 (by omega))
  replace hch := hid hch
  replace hci := hid hci
  obtain ⟨B, hB0⟩ : ∃ b, b = w.heap.size := ⟨_, rfl⟩
  have hEx := hid (show ∀ u, Below B w u → Ext w u from fun u h => ⟨by rw [← hB0]; exact h⟩)
  have hBs := hid (show ∀ u, Below B w u → B ≤ u.heap.size from fun u h => by rw [hB0]; exact h.size)
  go_enter Try.func152, Try.ntmps152
  go_upto_region 3 with fail
  have own0 : Own (w.alloc (.cells #[] 3)) B [⟨3, 1, .slice (some ⟨w.heap.size, 0, none⟩) 0 0, 0, []⟩] := Own.litInts (xs := []) (by omega) rfl rfl (by simp) rfl
  have hs1 : (w.alloc (.cells #[] 3)).heap.size = w.heap.size + 1 := by simp
  have hl1 : B ≤ (w.alloc (.cells #[] 3)).heap.size := by rw [hs1]; omega
  have own1 : Own ((w.alloc (.cells #[] 3)).alloc (.cells #[] 3)) B [intRowOf 3 (.slice (some ⟨w.heap.size, 0, none⟩) 0 0) [], ⟨3, 1, .slice (some ⟨w.heap.size + 1, 0, none⟩) 0 0, 0, (pbL k ch X 0).map (Value.int .i64)⟩] := by
    have h := own0.lit 3 1 0 #[] hl1 (by unfold maxLen; omega) rfl
    rw [hs1] at h
    exact h.perm (List.Perm.swap _ _ _)
  have b1 : Below B w ((w.alloc (.cells #[] 3)).alloc (.cells #[] 3)) := ((Below.refl B w).alloc (by omega) _).alloc hl1 _
  clear own0 hs1 hl1
  replace hB0 := hid hB0
  generalize (w.alloc (.cells #[] 3)).alloc (.cells #[] 3) = w1 at *
  go_wp2_with fail
  go_loopw [7, 8, 9, 10, 11, 16] (fun cv ov _ _ _ iv wr => ∃ t : Nat, t ≤ X.length ∧ iv = .int .i64 t ∧ ∃ C, Hid (CSet C (pbC k ch X t)) ∧ C.length ≤ 60 ∧ Own wr B [intRowOf 3 cv C, ⟨3, 1, ov, t, (pbL k ch X t).map (Value.int .i64)⟩] ∧ Below B w wr) (fun _ _ _ _ _ iv _ => X.length - (intOf iv).toNat)
  case atStart => exact ⟨0, by omega, rfl, [], hid CSet.nil, by simp, own1, b1⟩
  case round =>
    clear own1 b1
    obtain ⟨t, ht, rfl, C, hcs, hC60, own, hb⟩ := hrel
    obtain ⟨wo, rfl⟩ : ∃ y : World, y = wr := ⟨_, rfl⟩
    have eo : Ext w wo := hEx.out _ hb
    have e0 : Ext w0 wo := Ext.trans ‹Ext w0 w› eo
    have hBo := hBs.out _ hb
    obtain ⟨dn, mn, hvn⟩ := own.form
    simp only at hvn
    subst hvn
    obtain ⟨dp, mp, hvp⟩ := own.tail.form
    simp only at hvp
    subst hvp
    by_cases hlt : t < X.length
    · obtain ⟨bx, ox, hdx, hcx⟩ := hX'.at (w' := wo) hlt
      cases hdx
      have hri := hX'.i64 hlt
      have hCi := hid (show ∀ y ∈ C, I64 y from fun y hy => hi64.out t (by omega) y ((hcs.out.2.2 y).1 hy))
      have hC0 : pbC k ch X (t + 1) = pbN k (pbC k ch X t) (nth X t) (ch t (pbC k ch X t)) := rfl
      have hL0 := pbL_succ k ch X t
      have hP0 : pbP k ch X t = if nth X t ∉ pbC k ch X t ∧ ((pbC k ch X t).length : Int) = k then ch t (pbC k ch X t) else -1 := rfl
      have hNl := pbC_len k ch X t
      have hcT := hch.out
      have hchT := hid (fun (W : World) (e : Ext w W) => hcT W e t hlt)
      clear hcT
      obtain ⟨o, ho⟩ : ∃ o, o = ch t (pbC k ch X t) := ⟨_, rfl⟩
      rw [← ho] at hC0 hP0 hchT
      obtain ⟨r, hr⟩ : ∃ r, r = nth X t := ⟨_, rfl⟩
      obtain ⟨N, hN⟩ : ∃ N, N = pbC k ch X t := ⟨_, rfl⟩
      obtain ⟨L, hL⟩ : ∃ L, L = pbL k ch X t := ⟨_, rfl⟩
      rw [← hr] at hcx hri hC0 hP0 hchT
      rw [← hN] at hcs hC0 hP0 hchT hNl
      rw [← hL] at own hL0
      replace hr := hid hr
      replace hN := hid hN
      replace hL := hid hL
      replace ho := hid ho
      replace hC0 := hid hC0
      replace hL0 := hid hL0
      replace hP0 := hid hP0
      have hCN : C.length ≤ N.length ∧ N.length ≤ C.length := by have := hcs.out.len; omega
      have hdif := hid hcs.out.dif
      -- the box of the page that leaves
      have hsz : (wo.alloc (.cells #[.int .i64 (-1)] 3)).heap.size = wo.heap.size + 1 := by simp
      have ownB : Own (wo.alloc (.cells #[.int .i64 (-1)] 3)) B [⟨3, 1, .slice (some ⟨wo.heap.size, 0, none⟩) 1 1, 1, [.int .i64 (-1)]⟩, intRowOf 3 (.slice dn C.length mn) C, ⟨3, 1, .slice dp t mp, t, L.map (Value.int .i64)⟩] := own.lit 3 1 1 #[.int .i64 (-1)] hBo (by unfold maxLen; omega) rfl
      have bB : Below B w (wo.alloc (.cells #[.int .i64 (-1)] 3)) := hb.alloc hBo _
      go_upto_region 7 with fail
      clear own hsz
      obtain ⟨xb, hxb⟩ : ∃ xb, xb = wo.heap.size := ⟨_, rfl⟩
      rw [← hxb] at ownB ⊢
      have hcx2 : (wo.alloc (.cells #[.int .i64 (-1)] 3)).cell? ⟨bx, ox + t, none⟩ = some (.int .i64 r) := Ext.cell inferInstance hcx
      replace hxb := hid hxb
      clear hcx
      generalize wo.alloc (.cells #[.int .i64 (-1)] 3) = wb at *
      have hBb := hBs.out _ bB
      have hiC : IsInts wb (.slice dn C.length mn) C := (ownB.tail).reads (e := 3) (by unfold Short; omega) hCi.out
      obtain ⟨bh, hbh⟩ : ∃ b, b = hasB C r := ⟨_, rfl⟩
      have hbN := hid (show bh = hasB N r by rw [hbh, hcs.out.has])
      replace hbh := hid hbh
      clear hb eo e0 hBo hcx2
      go_wp2_with fail
      with_reducible refine (sContains_any (w0 := wb) (w := wb) hiC).mono ?_
      rw [← hbh.out]
      rintro e w3 ⟨rfl, rfl⟩
      cases bh with
      | true =>
        have hm := hasB_true.1 hbN.out.symm
        have hC2 := hid (show pbC k ch X (t + 1) = N by rw [hC0.out, pbN, if_pos hm])
        have hL2 := hid (show pbL k ch X (t + 1) = L ++ [-1] by rw [hL0.out, hP0.out, if_neg (fun h => h.1 hm)])
        have hcs2 := hcs
        clear hm
        have hcL : World.cell? wb ⟨xb, 0, none⟩ = some (.int .i64 (-1)) := Own.cellAt ownB (w' := wb) (show 0 < 1 by omega)
        have hOU := Own.perm ownB own3_rot
        have hBU := hBs.out _ bB
        clear hiC
        go_wp2_with (at_builtin; refine wpList_append1 rfl _ _ _ rfl elemInt rfl hOU hBU rfl rfl (by omega) (by omega) ?_; intro v8 w8 own8 b8)
        go_roundw
        case rel => exact ⟨t + 1, by omega, by go_num, _, by rw [hC2.out]; exact hcs2, by omega, by rw [hL2.out, List.map_append]; exact (own8.sub (R := _) (S := [_, _]) (List.Sublist.cons_cons _ (List.Sublist.cons _ (List.Sublist.refl _)))).perm (List.Perm.swap _ _ _), Below.trans bB b8⟩
        case measure => simp [intOf]; omega
      | false =>
        have hmN := hid (hasB_false.1 hbN.out.symm)
        have hmC := hid (hasB_false.1 hbh.out.symm)
        by_cases hfull : (N.length : Int) = k
        · have g1 : ((C.length : Int) == k) = true := by simp; omega
          have hC2 := hid (show pbC k ch X (t + 1) = putL (outL N o) r by rw [hC0.out, pbN, if_neg hmN.out, if_pos hfull])
          have hL2 := hid (show pbL k ch X (t + 1) = L ++ [o] by rw [hL0.out, hP0.out, if_pos ⟨hmN.out, hfull⟩])
          go_wp2_with fail
          with_reducible refine (risingO_any (w0 := wb) (w := wb) hiC).mono ?_
          rw [hdif.out]
          rintro e w4 ⟨d4, m4, rfl, own4, e4⟩
          have b4 : Below B w w4 := bB.trans (e4.below.mono hBb)
          have hiN : IsInts w4 (.slice d4 N.length m4) N := own4.reads (e := 3) (by unfold Short; omega) (fun y hy => hCi.out y ((hcs.out.2.2 y).2 hy))
          have ownB4 := ownB.ext (w' := w4)
          have hch4 := hchT.out w4 (hEx.out _ b4) hmN.out hfull _ hiN
          clear own4 hiC ownB
          replace hfull := hid hfull
          go_wp2_with fail
          refine hch4.mono ?_
          rintro e w5 ⟨rfl, e5⟩
          have hB4 := hBs.out _ b4
          have b5 : Below B w w5 := b4.trans (e5.below.mono hB4)
          have hB5 := hBs.out _ b5
          have ownB5 := ownB4.ext (w' := w5)
          have own6 := ownB5.set 0 (.int .i64 o)
          have hcB : w5.cell? ⟨xb, 0, none⟩ = some (.int .i64 (-1)) := ownB5.cellAt (w' := w5) (show 0 < 1 by omega)
          have hfB : w5.frozen? ⟨xb, 0, none⟩ = false := ownB5.frozenAt 0
          have b6 : Below B w (w5.setCell ⟨xb, 0, none⟩ (.int .i64 o)) := b5.setCell ownB5.lt.1 _
          clear hch4 hiN ownB4
          go_upto_region 10 with fail
          clear hcB hfB ownB5
          generalize w5.setCell ⟨xb, 0, none⟩ (.int .i64 o) = w6 at *
          have hB6 := hBs.out _ b6
          have own6' : Own w6 B [intRowOf 3 (.slice dn C.length mn) C, ⟨3, 1, .slice (some ⟨xb, 0, none⟩) 1 1, 1, [.int .i64 o]⟩, ⟨3, 1, .slice dp t mp, t, L.map (Value.int .i64)⟩] := Own.perm own6 (List.Perm.swap _ _ _)
          have hdel : ∀ (W : World), Below B w6 W → Own W B [⟨3, 1, .slice (some ⟨xb, 0, none⟩) 1 1, 1, [.int .i64 o]⟩, ⟨3, 1, .slice dp t mp, t, L.map (Value.int .i64)⟩] → ∀ q, q < C.length → Calls Try.prog 174 (#[.int .i64 (nth C q)] ++ #[.pointer (some ⟨xb, 0, none⟩)]) W fun e w' => e = .returned (.bool ((fun x => x == o) (nth C q))) ∧ W = w' := fun W _ hW q _ => by
            have hx : W.cell? ⟨xb, 0, none⟩ = some (.int .i64 o) := hW.cellAt (w' := W) (show 0 < 1 by omega)
            exact planBy1_any hx
          have hDF := deleteFunc_any own6' hB6 (by omega) hCi.out _ _ (fun x => x == o) planBy1_call hdel
          clear own6 hdel
          go_wp2_with fail
          refine hDF.mono ?_
          rintro e w7 ⟨u7, rfl, own7, b7⟩
          have hcsF := hid (hcs.out.filt o)
          have hFl := List.length_filter_le (fun x => !(x == o)) C
          obtain ⟨E, hE⟩ : ∃ E, E = C.filter (fun x => !(x == o)) := ⟨_, rfl⟩
          have hrE := hid (show r ∉ E from fun h => hmC.out (by rw [hE] at h; exact (List.mem_filter.1 h).1))
          rw [← hE] at own7 hcsF hFl
          clear hE
          have bb6 : Below B w w7 := b6.trans b7
          have own7b : Own w7 B [⟨3, 1, .slice (some ⟨xb, 0, none⟩) 1 1, 1, [.int .i64 o]⟩, intRowOf 3 u7 E, ⟨3, 1, .slice dp t mp, t, L.map (Value.int .i64)⟩] := own7.perm (List.Perm.swap _ _ _)
          clear own7 own6'
          have hCO := Own.perm own7b (List.Perm.swap _ _ _)
          have hBG := hBs.out _ bb6
          have hcs2 := hid (CSet.put hcsF.out hrE.out)
          have hll : (E ++ [r]).length = (E).length + 1 := by simp
          go_upto_region 12 with (at_builtin; refine wpList_append1 rfl _ _ _ rfl elemInt rfl hCO hBG rfl rfl (by omega) (by omega) ?_; intro v7 w7 own7 b7)
          have own7' : Own w7 B [⟨3, 1, .slice (some ⟨xb, 0, none⟩) 1 1, 1, [.int .i64 o]⟩, intRowOf 3 v7 (E ++ [r]), ⟨3, 1, .slice dp t mp, t, L.map (Value.int .i64)⟩] := by
            unfold intRowOf
            rw [hll, List.map_append]
            exact own7.perm (List.Perm.swap _ _ _)
          have bb7 : Below B w w7 := Below.trans bb6 b7
          clear own7
          have hcL : World.cell? w7 ⟨xb, 0, none⟩ = some (.int .i64 o) := Own.cellAt own7' (w' := w7) (show 0 < 1 by omega)
          have hOU := Own.perm own7' own3_rot
          have hBU := hBs.out _ bb7
          clear hCO
          go_wp2_with (at_builtin; refine wpList_append1 rfl _ _ _ rfl elemInt rfl hOU hBU rfl rfl (by omega) (by omega) ?_; intro v8 w8 own8 b8)
          go_roundw
          case rel => exact ⟨t + 1, by omega, by go_num, _, by rw [hC2.out]; exact hcs2, by omega, by rw [hL2.out, List.map_append]; exact (own8.sub (R := _) (S := [_, _]) (List.Sublist.cons_cons _ (List.Sublist.cons _ (List.Sublist.refl _)))).perm (List.Perm.swap _ _ _), Below.trans bb7 b8⟩
          case measure => simp [intOf]; omega
        · have g1 : ((C.length : Int) == k) = false := by simp; omega
          have hC2 := hid (show pbC k ch X (t + 1) = putL N r by rw [hC0.out, pbN, if_neg hmN.out, if_neg hfull])
          have hL2 := hid (show pbL k ch X (t + 1) = L ++ [-1] by rw [hL0.out, hP0.out, if_neg (fun h => hfull h.2)])
          replace hfull := hid hfull
          clear hiC
          have hCO := Own.perm ownB (List.Perm.swap _ _ _)
          have hBG := hBs.out _ bB
          have hcs2 := hid (CSet.put hcs.out hmC.out)
          have hll : (C ++ [r]).length = (C).length + 1 := by simp
          go_upto_region 12 with (at_builtin; refine wpList_append1 rfl _ _ _ rfl elemInt rfl hCO hBG rfl rfl (by omega) (by omega) ?_; intro v7 w7 own7 b7)
          have own7' : Own w7 B [⟨3, 1, .slice (some ⟨xb, 0, none⟩) 1 1, 1, [.int .i64 (-1)]⟩, intRowOf 3 v7 (C ++ [r]), ⟨3, 1, .slice dp t mp, t, L.map (Value.int .i64)⟩] := by
            unfold intRowOf
            rw [hll, List.map_append]
            exact own7.perm (List.Perm.swap _ _ _)
          have bb7 : Below B w w7 := Below.trans bB b7
          clear own7
          have hcL : World.cell? w7 ⟨xb, 0, none⟩ = some (.int .i64 (-1)) := Own.cellAt own7' (w' := w7) (show 0 < 1 by omega)
          have hOU := Own.perm own7' own3_rot
          have hBU := hBs.out _ bb7
          clear hCO
          go_wp2_with (at_builtin; refine wpList_append1 rfl _ _ _ rfl elemInt rfl hOU hBU rfl rfl (by omega) (by omega) ?_; intro v8 w8 own8 b8)
          go_roundw
          case rel => exact ⟨t + 1, by omega, by go_num, _, by rw [hC2.out]; exact hcs2, by omega, by rw [hL2.out, List.map_append]; exact (own8.sub (R := _) (S := [_, _]) (List.Sublist.cons_cons _ (List.Sublist.cons _ (List.Sublist.refl _)))).perm (List.Perm.swap _ _ _), Below.trans bb7 b8⟩
          case measure => simp [intOf]; omega
    · have htl : t = X.length := by omega
      rw [htl] at own
      have hlL := hid (pbL_len k ch X X.length)
      have hrd : IsInts wo (.slice dp X.length mp) (pbL k ch X X.length) := own.tail.readsN (e := 3) hlL.out (by omega) (fun y hy => by
        obtain ⟨s, hs, rfl⟩ := List.mem_map.1 hy
        exact hci.out s (List.mem_range.1 hs))
      have htl' := hid htl
      clear htl own
      go_wp2_with fail
      go_ret
      exact ⟨dp, mp, by rw [htl'.out]; rfl, hrd, eo⟩
end Go.Proofs.Ytmabejallkjjmaa
