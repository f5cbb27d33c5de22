/- What the program finds by its own recursion, with a memory of what it has found: walked. -/
import Derived.Test.YtkdbgobhgnjoaaaPagG
import Derived.Test.YtkdbgobhgnjoaaaMapK
namespace Go.Proofs.Ytkdbgobhgnjoaaa
open Go.RowKit Go.Maps

/-- what is known is right -/
def Known (K : Nat) (X : List Int) (D : DataW Unit) : Prop :=
  ∀ l, has D l = true → ∃ i S : Nat, i < 61 ∧ S < 256 ∧ l = kl i S ∧ i ≤ X.length ∧ D.atKey l (.lit (.int .i64 0)) = .lit (.int .i64 (lstT K X (X.length - i) S))
def Memo (w : World) (Bm K : Nat) (X : List Int) : Prop := ∃ D : DataW Unit, w.ownsMap Try.prog 74 (plainElem Try.prog 3) Bm 15616 D ∧ Known K X D
theorem i64_nat {a : Nat} (h : a ≤ 1000000) : I64 (a : Int) := by unfold I64; omega
theorem Known.put {K : Nat} {X : List Int} {D : DataW Unit} (h : Known K X D) {i S : Nat} (hi : i < 61) (hS : S < 256) (hX : i ≤ X.length) {L : Int} (hL : lstT K X (X.length - i) S = L) : IsMap D → Known K X (D.put (kl i S) (.lit (.int .i64 L))) := by
  intro hD l hl
  by_cases e : l = kl i S
  · subst e
    exact ⟨i, S, hi, hS, rfl, hX, by rw [atKey_put_same hD (kl_key (i64_nat (by omega)) (i64_nat (by omega))), hL]⟩
  · rw [has_put_other e] at hl
    obtain ⟨i', S', h1, h2, h3, h4, h5⟩ := h l hl
    exact ⟨i', S', h1, h2, h3, h4, by rw [atKey_put_other e, h5]⟩
theorem Known.at {K : Nat} {X : List Int} {D : DataW Unit} (h : Known K X D) {i S : Nat} (hi : i < 61) (hS : S < 256) (hl : has D (kl i S) = true) : D.atKey (kl i S) (.lit (.int .i64 0)) = .lit (.int .i64 (lstT K X (X.length - i) S)) := by
  obtain ⟨i', S', h1, h2, h3, h4, h5⟩ := h _ hl
  have := kl_inj (i64_nat (a := i) (by omega)) (i64_nat (a := S) (by omega)) (i64_nat (a := i') (by omega)) (i64_nat (a := S') (by omega)) h3
  have e1 : i' = i := by omega
  have e2 : S' = S := by omega
  rw [h5, e1, e2]
theorem memo_of {w : World} {Bm n K : Nat} {X : List Int} {D : DataW Unit} {l : Lit} {d : DataW Unit} (h : w.ownsMap Try.prog 74 (plainElem Try.prog 3) Bm n (D.put l d)) (hk : IsMap D → Known K X (D.put l d)) : Memo w Bm K X := by
  have ht := h.tidy key2_law
  have hD : IsMap D := by
    obtain ⟨es, he⟩ := ht.isMap
    cases D <;> first | exact ⟨_, rfl⟩ | (simp [DataW.put] at he)
  have hkn := hk hD
  have hs : size (D.put l d) ≤ 61 * 256 := by
    refine size_pairs ht (fun l' hl => ?_) fun es he e hm => ?_
    · obtain ⟨i, S, h1, h2, h3, _⟩ := hkn l' hl
      exact ⟨i, S, h1, h2, h3⟩
    · obtain ⟨es', clock, _, F, _, hd⟩ := h
      rw [he] at hd
      cases hd
      have h1 := (fit_keys F)
      have h2 : e ∈ es'.toList.map (WideElems.rg Try.prog 74 (plainElem Try.prog 3)) := (WideShapes.sorted_perm _).mem_iff.1 hm
      obtain ⟨v, hv⟩ := h1 e h2
      exact key2_law.key hv
  exact ⟨_, (ownsMap_size h).mono hs, hkn⟩
theorem Memo.notcell {w : World} {Bm K : Nat} {X : List Int} (h : Memo w Bm K X) {p : Addr} {v : Value} (hc : w.cell? p = some v) : some p.block ≠ some Bm := by
  obtain ⟨D, ⟨es, clock, hb, _⟩, _⟩ := h
  intro e
  have e' : p.block = Bm := Option.some.inj e
  unfold World.cell? at hc
  rw [e', hb] at hc
  simp at hc
theorem ext_grown {w w' : World} [e : Ext w w'] (r : Option Nat) : w.grownBy w' r := ⟨e.below.os, e.below.tape, e.below.output, e.below.size, fun k hk _ => e.below.block k hk⟩
theorem Memo.ext {w w' : World} {Bm K : Nat} {X : List Int} (h : Memo w Bm K X) [e : Ext w w'] : Memo w' Bm K X := by
  obtain ⟨D, h1, h2⟩ := h
  exact ⟨D, h1.kept (ext_grown none) (by simp), h2⟩
/-- what stays while the memory of what is known grows -/
theorem Memo.cell {w w' : World} {Bm K : Nat} {X : List Int} (h : Memo w Bm K X) (hg : w.grownBy w' (some Bm)) {p : Addr} {v : Value} (hc : w.cell? p = some v) : w'.cell? p = some v := hg.cell hc (h.notcell hc)
theorem Memo.ints {w w' : World} {Bm K : Nat} {X Y : List Int} {v : Value} (h : Memo w Bm K X) (hg : w.grownBy w' (some Bm)) (hY : IsInts w v Y) : IsInts w' v Y := by
  obtain ⟨a, c, h1, h2, h3, h4⟩ := hY
  refine ⟨a, c, h1, h2, h3, fun j hj => ?_⟩
  obtain ⟨b, o, h5, h6⟩ := h4 j hj
  exact ⟨b, o, h5, h.cell hg h6⟩
/-- the program's finder lies in block P -/
structure Pager (w : World) (P Bm K : Nat) (v : Value) (X : List Int) : Prop where
  k : w.cell? ⟨P, 0, none⟩ = some (.int .i64 K)
  reqs : w.cell? ⟨P, 1, none⟩ = some v
  known : w.cell? ⟨P, 2, none⟩ = some (.map (some Bm))
  ints : IsInts w v X
  memo : Memo w Bm K X
theorem Pager.grown {w w' : World} {P Bm K : Nat} {v : Value} {X : List Int} (h : Pager w P Bm K v X) (hg : w.grownBy w' (some Bm)) (hm : Memo w' Bm K X) : Pager w' P Bm K v X :=
  ⟨h.memo.cell hg h.k, h.memo.cell hg h.reqs, h.memo.cell hg h.known, h.memo.ints hg h.ints, hm⟩
theorem Pager.ext {w w' : World} {P Bm K : Nat} {v : Value} {X : List Int} (h : Pager w P Bm K v X) [e : Ext w w'] : Pager w' P Bm K v X := h.grown (ext_grown _) h.memo.ext
theorem zeroInt (w : World) : (zeroValue 3).run Try.prog w = .ok (.int .i64 0) w := by kernel_rfl
/-- the least so far -/
def minJ (K : Nat) (X : List Int) (d S p j : Nat) : Int := (((choF K 8 S).take j).map fun x => 1 + lstT K X d (aftS S x p)).foldl min ((X.length : Int) + 1)
theorem minJ_succ {K : Nat} {X : List Int} {d S p j : Nat} (h : j < (choF K 8 S).length) : minJ K X d S p (j + 1) = if 1 + lstT K X d (aftS S (nth (choF K 8 S) j) p) < minJ K X d S p j then 1 + lstT K X d (aftS S (nth (choF K 8 S) j) p) else minJ K X d S p j := by
  unfold minJ
  rw [take_succ_nth h, List.map_append, List.foldl_append]
  simp only [List.map_cons, List.map_nil, List.foldl_cons, List.foldl_nil]
  split <;> omega
theorem minJ_end {K : Nat} {X : List Int} {d S p : Nat} (hp : (nth X (X.length - (d + 1))).toNat = p) (hb : S.testBit p = false) : minJ K X d S p (choF K 8 S).length = lstT K X (d + 1) S := by
  unfold minJ
  rw [List.take_length, lstT_miss (by rw [hp]; exact hb), hp]
theorem choF_length {K S : Nat} : (choF K 8 S).length ≤ 9 := by
  have := pgS_len 8 S
  unfold choF
  rw [List.length_append]
  split <;> simp <;> omega
theorem lst_in {K : Nat} {X : List Int} (h0 : 0 < K) (hX : pagesB 8 X) {d S : Nat} (hd : d ≤ X.length) (hS : S < 256) (hk : szS S ≤ K) : 0 ≤ lstT K X d S ∧ lstT K X d S ≤ d :=
  (few_lst (n := 8) (by omega) h0 hX hd hS hk).2
theorem minJ_in {K : Nat} {X : List Int} (h0 : 0 < K) (hX : pagesB 8 X) {d S p : Nat} (hd : d ≤ X.length) (hS : S < 256) (hk : szS S ≤ K) (hp : p < 8) : ∀ {j : Nat}, j ≤ (choF K 8 S).length → 0 ≤ minJ K X d S p j ∧ minJ K X d S p j ≤ X.length + 1
  | 0, _ => by simp [minJ]; omega
  | j + 1, hj => by
    have ih := minJ_in h0 hX hd hS hk hp (j := j) (by omega)
    rw [minJ_succ (by omega)]
    have := lst_in h0 hX hd (aft_lt (n := 8) (x := nth (choF K 8 S) j) hS hp) (aft_sz (n := 8) (by omega) hS hp hk (nth_mem (by omega)))
    split <;> omega

set_option maxHeartbeats 6400000 in
set_option maxRecDepth 100000 in
theorem least_any {K : Nat} {X : List Int} {P Bm : Nat} {v : Value} (hK0 : 0 < K) (hX : pagesB 8 X) (hlX : X.length ≤ 60) :
    ∀ (d : Nat) {i S : Nat} {w : World}, i + d = X.length → S < 256 → szS S ≤ K → Pager w P Bm K v X →
      Calls Try.prog 36 #[.pointer (some ⟨P, 0, none⟩), .int .i64 i, .int .i64 S] w fun e w' => e = .returned (.int .i64 (lstT K X d S)) ∧ Memo w' Bm K X ∧ w.grownBy w' (some Bm)
  | 0, i, S, w, hid', hS, hsz, hp => by
    obtain ⟨aX, cX, rfl, lX⟩ := hp.ints.form
    have p1 := hp.reqs
    have hiX : i = X.length := by omega
    go_enter Try.func36, Try.ntmps36
    go_wp2
    go_ret
    exact ⟨rfl, hp.memo, World.grownBy.refl _ _⟩
  | d + 1, i, S, w, hid', hS, hsz, hp => by
    have ih := fun {i S : Nat} {w : World} => least_any (P := P) (Bm := Bm) (v := v) hK0 hX hlX d (i := i) (S := S) (w := w)
    obtain ⟨aX, cX, rfl, lX⟩ := hp.ints.form
    have p1 := hp.reqs
    have p2 := hp.known
    have hlt : i < X.length := by omega
    obtain ⟨D, hown, hkn⟩ := hp.memo
    have hkey := keyOf_pair (i64_nat (a := i) (by omega)) (i64_nat (a := S) (by omega))
    have hde := hid (show X.length - i = d + 1 by omega)
    have hix := hid (show X.length - (d + 1) = i by omega)
    have hL := lst_in hK0 hX (d := d + 1) (by omega) hS hsz
    obtain ⟨L, hLe⟩ : ∃ L, L = lstT K X (d + 1) S := ⟨_, rfl⟩
    rw [← hLe] at hL ⊢
    have hLd := hid (show lstT K X (X.length - i) S = L by rw [hde.out, hLe])
    have hne : (i : Int) ≠ X.length := by omega
    cases hhas : has D (kl i S) with
    | true =>
      have hval := hkn.at (by omega) hS hhas
      rw [hLd.out] at hval
      replace hhas := hid hhas
      replace hval := hid hval
      replace hLe := hid hLe
      go_enter Try.func36, Try.ntmps36
      go_wp2_with (at_lookup; refine wpList_lookup_own_ok_int _ rfl _ _ 50 rfl 74 3 .i64 key2_law Try.underlying50 Try.underlying3 (zeroInt _) Bm 15616 D rfl hown _ _ rfl hkey ?_; intro c hat hwc; rw [hhas.out]; obtain rfl : c = L := (by have h := hat.symm.trans hval.out; simpa using h))
      go_ret
      exact ⟨rfl, hp.memo, World.grownBy.refl _ _⟩
    | false =>
      replace hhas := hid hhas
      obtain ⟨b3, o3, rfl, hc3⟩ := hp.ints.at (w' := w) hlt
      have hpk := hid (hX i hlt)
      obtain ⟨p, hpx⟩ := Int.eq_ofNat_of_zero_le hpk.out.1
      have hp8 : p < 8 := by have := hpk.out.2; omega
      rw [hpx] at hc3
      have hpe := hid (show (nth X (X.length - (d + 1))).toNat = p by rw [hix.out, hpx]; rfl)
      have hb := hid (bit_and S hS p hp8)
      cases hbp : S.testBit p with
      | true =>
        have hres := hid (show lstT K X d S = L by rw [hLe, lstT_hit (by rw [hpe.out]; exact hbp)])
        rw [hbp] at hb
        have hb' := hb.out
        replace hbp := hid hbp
        replace hLe := hid hLe
        go_enter Try.func36, Try.ntmps36
        go_wp2_with (at_lookup; refine wpList_lookup_own_ok_int _ rfl _ _ 50 rfl 74 3 .i64 key2_law Try.underlying50 Try.underlying3 (zeroInt _) Bm 15616 D rfl hown _ _ rfl hkey ?_; intro c hat hwc; rw [hhas.out]; clear hat hwc)
        refine (ih (i := i + 1) (by omega) hS hsz hp).mono ?_
        rw [hres.out]
        rintro e w1 ⟨rfl, hm1, hg1⟩
        have hp1 := hp.grown hg1 hm1
        obtain ⟨D2, hown2, hkn2⟩ := hp1.memo
        have hown2' := hown2
        have t2 := hp1.known
        have hput := hid (hkn2.put (i := i) (S := S) (by omega) hS (by omega) (L := L) (by rw [hLd.out]))
        have hkey2 := hkey
        have hwf : (Lit.int .i64 L).wf = true := wf_of (by unfold I64; omega)
        go_wp2_with (at_mapUpdate; refine wpList_mapUpdate_own _ rfl _ _ _ 50 rfl 74 3 key2_law Try.underlying50 _ Bm 15616 D2 rfl hown2' (by unfold maxLen; omega) _ _ _ rfl rfl hkey2 _ [] (plainElem_int Try.underlying3 hwf) ?_; intro w9 hown9 hgrow9)
        go_ret
        refine ⟨rfl, memo_of hown9 hput.out, ?_⟩
        exact World.grownBy.trans hg1 hgrow9
      | false =>
        rw [hbp] at hb
        have hb' := hb.out
        have hend := hid (minJ_end (K := K) (X := X) (d := d) (S := S) hpe.out hbp)
        replace hbp := hid hbp
        go_enter Try.func36, Try.ntmps36
        go_wp2_with (at_lookup; refine wpList_lookup_own_ok_int _ rfl _ _ 50 rfl 74 3 .i64 key2_law Try.underlying50 Try.underlying3 (zeroInt _) Bm 15616 D rfl hown _ _ rfl hkey ?_; intro c hat hwc; rw [hhas.out]; clear hat hwc)
        refine (choices_any (k := K) (P := P) (w := w) hp.k hS).mono ?_
        rintro e w2 ⟨gc, mc, rfl, hcho, he2⟩
        obtain ⟨C, hC⟩ : ∃ C, C = choF K 8 S := ⟨_, rfl⟩
        have hcl := choF_length (K := K) (S := S)
        rw [← hC] at hcho hcl hend ⊢
        have hCid := hid hC
        clear hC
        have hp2 := hp.ext (w' := w2)
        go_wp2
        go_loopw [10, 60] (fun o q wr => ∃ j : Nat, j ≤ C.length ∧ q = .int .i64 j ∧ o = .int .i64 (minJ K X d S p j) ∧ w2.grownBy wr (some Bm) ∧ Memo wr Bm K X) (fun _ q _ => C.length - (intOf q).toNat)
        case atStart => exact ⟨0, by omega, rfl, rfl, World.grownBy.refl _ _, hp2.memo⟩
        case round =>
          obtain ⟨j, hj, rfl, rfl, hg, hm⟩ := hrel
          obtain ⟨w3, rfl⟩ : ∃ x : World, x = wr := ⟨_, rfl⟩
          have hp3 := hp2.grown hg hm
          by_cases hjC : j < C.length
          · obtain ⟨g, rfl⟩ := hcho.at (j := j) hjC
            have vC : w3.cell? ⟨g, j, none⟩ = some (.int .i64 (nth C j)) := by
              refine hp2.memo.cell hg ?_
              rw [hcho.cellAt (w' := w2) (j := j) hjC]
              simp [nth, hjC]
            have hmem : nth C j ∈ choF K 8 S := by rw [← hCid.out]; exact nth_mem hjC
            have hxp : nth C j = -1 ∨ ∃ q : Nat, nth C j = q ∧ q < 8 ∧ S.testBit q = true := by
              rcases mem_choF hmem with ⟨h, _⟩ | h
              · exact .inl h
              · exact .inr h
            have haS : aftS S (nth C j) p < 256 := aft_lt (n := 8) hS hp8
            have haz := aft_sz (n := 8) (by omega) hS hp8 hsz hmem
            have hstep := hid (minJ_succ (K := K) (X := X) (d := d) (S := S) (p := p) (j := j) (by rw [← hCid.out]; exact hjC))
            rw [← hCid.out] at hstep
            have hmb := minJ_in hK0 hX (d := d) (S := S) (p := p) (by omega) hS hsz hp8 (j := j) (by rw [← hCid.out]; omega)
            have hlb := lst_in hK0 hX (d := d) (by omega) haS haz
            obtain ⟨xj, hxj⟩ : ∃ x, x = nth C j := ⟨_, rfl⟩
            rw [← hxj] at vC hxp haS haz hstep hlb
            obtain ⟨S', hS'⟩ : ∃ x, x = aftS S xj p := ⟨_, rfl⟩
            rw [← hS'] at haS haz hstep hlb
            have hSid := hid hS'
            obtain ⟨L1, hL1⟩ : ∃ x, x = lstT K X d S' := ⟨_, rfl⟩
            rw [← hL1] at hstep hlb
            have hL1d := hid hL1.symm
            obtain ⟨m0, hm0⟩ : ∃ x, x = minJ K X d S p j := ⟨_, rfl⟩
            rw [← hm0] at hstep hmb ⊢
            clear hmem hxj hS' hL1 hm0
            go_wp2_with fail
            refine (after_any hS hp8 hxp w3).mono ?_
            rw [← hSid.out]
            rintro e w4 ⟨rfl, he4⟩
            have hp4 := hp3.ext (w' := w4)
            go_wp2_with fail
            refine (ih (i := i + 1) (by omega) haS haz hp4).mono ?_
            rw [hL1d.out]
            rintro e w5 ⟨rfl, hm5, hg5⟩
            have hg25 : w2.grownBy w5 (some Bm) := (World.grownBy.trans hg (ext_grown _)).trans hg5
            go_wp2_with fail
            go_roundw
            case rel => exact ⟨j + 1, by omega, by go_num, by rw [hstep.out], hg25, hm5⟩
            case measure => simp [intOf]; omega
          · have hjE : j = C.length := by omega
            have hres := hid (show minJ K X d S p j = L by rw [hjE, hend.out, hLe])
            rw [hres.out]
            replace hjE := hid hjE
            replace hLe := hid hLe
            have hgw : w.grownBy w3 (some Bm) := World.grownBy.trans (ext_grown _) hg
            obtain ⟨D2, hown2, hkn2⟩ := hp3.memo
            have hown2' := hown2
            have t2 := hp3.known
            have hput := hid (hkn2.put (i := i) (S := S) (by omega) hS (by omega) (L := L) (by rw [hLd.out]))
            have hkey2 := hkey
            have hwf : (Lit.int .i64 L).wf = true := wf_of (by unfold I64; omega)
            go_wp2_with (at_mapUpdate; refine wpList_mapUpdate_own _ rfl _ _ _ 50 rfl 74 3 key2_law Try.underlying50 _ Bm 15616 D2 rfl hown2' (by unfold maxLen; omega) _ _ _ rfl rfl hkey2 _ [] (plainElem_int Try.underlying3 hwf) ?_; intro w9 hown9 hgrow9)
            go_ret
            refine ⟨rfl, memo_of hown9 hput.out, ?_⟩
            exact World.grownBy.trans hgw hgrow9
end Go.Proofs.Ytkdbgobhgnjoaaa
