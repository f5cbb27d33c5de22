/- The algorithm that a draw makes: a table of rows of numbers. -/
import Derived.Test.YtkniohcmhdgbeaaProb
namespace Go.Proofs.Ytkniohcmhdgbeaa
open Go.RowKit

/-- what a draw of an algorithm gives -/
def AlgPost (w : World) (B c : Nat) (vc : Value) (a : Int) (R : List Row) (e : Ending) (w' : World) : Prop :=
  ∃ tv T Z a', e = .returned tv ∧ a ≤ a' ∧ a' ≤ a + 1000 ∧ CurAt w' B c vc a' (Z ++ R) ∧ (∀ u, Own u B Z → IsRows u tv T) ∧ Below B w w'

theorem IsRows.drop1 {w : World} {b o c n : Nat} {xss : List (List Int)} (h : IsRows w (.slice (some ⟨b, o, none⟩) n c) xss) (h0 : 0 < xss.length) :
    IsRows w (.slice (some ⟨b, o + 1, none⟩) (n - 1) (c - 1)) xss.tail := by
  obtain ⟨a', c', h1, h2, h3⟩ := h
  cases h1
  refine ⟨_, _, by rw [List.length_tail], by unfold ShortRows at *; rw [List.length_tail]; omega, fun j hj => ?_⟩
  rw [List.length_tail] at hj
  obtain ⟨b', o', u, h4, h5, h6⟩ := h3 (j + 1) (by omega)
  cases h4
  refine ⟨b, o + 1, u, rfl, by rw [← h5]; congr 2; omega, ?_⟩
  have e : row xss.tail j = row xss (j + 1) := by unfold row; cases xss <;> simp
  rw [e]; exact h6

theorem grow_row {w : World} {B e q : Nat} {v : Value} {X : List Int} {x : Int} {R : List Row} (h : Own w B (⟨e, 1, v, q + 1, X.map (Value.int .i64) ++ [.int .i64 x]⟩ :: R)) (hX : X.length = q) : Own w B (intRowOf e v (X ++ [x]) :: R) := ow_snoc h hX.symm
theorem ow_cap {w : World} {B e z g n c : Nat} {cs : List Value} {R : List Row} (h : Own w B (⟨e, z, .slice (some ⟨g, 0, none⟩) n c, n, cs⟩ :: R)) : n ≤ c := by
  rcases h.head.2 with ⟨h1, h2⟩ | ⟨g', cap, cur, hv, hb, hg, hc, hm, hz, ht⟩
  · cases h1
  · have hv' : Value.slice (some ⟨g, 0, none⟩) n c = .slice (some ⟨g', 0, none⟩) n cap := hv
    cases hv'
    exact hc
theorem isRows_no (w : World) (d : Option Addr) (c n : Nat) {T : List (List Int)} (hT : T.length = n) (hn : n = 0) : IsRows w (.slice d n c) T :=
  ⟨d, c, by rw [hT], by unfold ShortRows; omega, fun j hj => by omega⟩
theorem alg_reads {B e1 e2 : Nat} {v : Value} {vs : List Value} {T : List (List Int)} (hv : vs.length = T.length) (hl : T.length ≤ 100) (hT : RowsOk T) : ∀ u, Own u B (rowsOf e1 e2 v vs T) → IsRows u v T := by
  intro u h
  have h2 : Own u B (rowsOf e1 e2 v vs T ++ []) := by rw [List.append_nil]; exact h
  exact Own.readsAll h2 hv (by unfold ShortRows; omega) hT.short.1 hT.short.2

set_option maxHeartbeats 3200000 in
set_option maxRecDepth 100000 in
theorem algorithm_any {w0 w : World} [Ext w0 w] {vc : Value} {nb : Nat} (hc : IsBytes w0 vc nb) {B c : Nat} {a : Int} {R : List Row} (own : CurAt w B c vc a R) (hwB : w0.heap.size ≤ B) (ha : 0 ≤ a) (ha2 : a ≤ 1000000) {dm ds : Option Addr} {mm ms n q : Nat} {M S : List (List Int)}
    (hZ : ∀ u, Own u B R → IsRows u (.slice dm n mm) M ∧ IsRows u (.slice ds q ms) S) (hn : 1 ≤ n ∧ n ≤ 5) (hq : 1 ≤ q ∧ q ≤ 16) (hnM : M.length = n) (hqS : S.length = q) :
    Calls Try.prog 32 #[.pointer (some ⟨c, 0, none⟩), .agg #[.slice dm n mm, .slice ds q ms]] w (AlgPost w B c vc a R) := by
  have hBw := own.size
  replace hZ := hid hZ
  replace hnM := hid hnM
  replace hqS := hid hqS
  go_enter Try.func32, Try.ntmps32
  go_upto_region 1 with fail
  have own1 := own.box 26 2 #[.slice dm n mm, .slice ds q ms] hBw rfl
  have b1 : Below B w (w.alloc (.cells #[.slice dm n mm, .slice ds q ms] 26)) := (Below.refl B w).alloc hBw _
  obtain ⟨r, hr⟩ : ∃ r, r = w.heap.size := ⟨_, rfl⟩
  rw [← hr] at own1 ⊢
  replace hr := hid hr
  generalize w.alloc (.cells #[.slice dm n mm, .slice ds q ms] 26) = w1 at *
  have hE : ∀ u, Below B w u → Ext w0 u := fun u h => ⟨(‹Ext w0 w›).below.trans (h.mono hwB)⟩
  replace hE := hid hE
  go_upto_region 2 with fail
  have own2 : CurAt (w1.alloc (.cells #[] 29)) B c vc a (rowsOf 29 3 (.slice (some ⟨w1.heap.size, 0, none⟩) 0 0) [] [] ++ (boxRow 26 2 r [.slice dm n mm, .slice ds q ms] :: R)) := by
    have hB1 := own1.size
    obtain ⟨s, h⟩ := own1
    exact ⟨s, (h.lit 29 1 0 #[] hB1 (by unfold maxLen; omega) rfl).perm (List.Perm.swap _ _ _)⟩
  have b2 : Below B w (w1.alloc (.cells #[] 29)) := b1.alloc own1.size _
  generalize w1.alloc (.cells #[] 29) = w2 at *
  generalize (some (⟨w1.heap.size, 0, none⟩ : Addr)) = d0 at *
  clear own1 b1
  go_wp2
  go_loopw [5, 6] (fun v i wr => ∃ s : Nat, s ≤ n ∧ i = .int .i64 s ∧ ∃ dO mO vs T ax, v = .slice dO s mO ∧ vs.length = s ∧ (T : List (List Int)).length = s ∧ (∀ x ∈ T, x.length = q) ∧ RowsOk T ∧ a ≤ ax ∧ ax ≤ a + 40 * (s : Int) ∧ Below B w wr ∧ CurAt wr B c vc ax (rowsOf 29 3 (.slice dO s mO) vs T ++ (boxRow 26 2 r [.slice dm n mm, .slice ds q ms] :: R))) (fun _ i _ => n - (intOf i).toNat)
  case atStart => exact ⟨0, by omega, rfl, _, _, [], [], a, rfl, rfl, rfl, by simp, fun x hx => by simp at hx, by omega, by omega, b2, own2⟩
  case round =>
    clear own2 b2
    obtain ⟨s, hs, rfl, dO, mO, vs, T, ax, rfl, hvs, hT, hTq, hTok, hax1, hax2, b3, own3⟩ := hrel
    obtain ⟨w3, rfl⟩ : ∃ y : World, y = wr := ⟨_, rfl⟩
    have c3 : w3.cell? ⟨r, 0, none⟩ = some (.slice dm n mm) := (own3.at (List.mem_append_right _ (.head _)) (j := 0) (by omega)).1
    replace hvs := hid hvs
    replace hT := hid hT
    by_cases hlt : s < n
    · go_upto_region 6 with fail
      have own4 := own3.lit (e := 3) (n := 0) (cs := #[]) [] own3.size rfl rfl (by simp)
      have b4 : Below B w (w3.alloc (.cells #[] 3)) := b3.alloc own3.size _
      generalize w3.alloc (.cells #[] 3) = w4 at *
      generalize (some (⟨w3.heap.size, 0, none⟩ : Addr)) = d1 at *
      clear own3 b3 c3
      go_wp2
      go_loopw [7, 8] (fun v i wr => ∃ y : Nat, y ≤ q ∧ i = .int .i64 y ∧ ∃ X ay, (X : List Int).length = y ∧ (∀ x ∈ X, -1 ≤ x ∧ x ≤ 5) ∧ ax ≤ ay ∧ ay ≤ ax + 2 * (y : Int) ∧ Below B w wr ∧ CurAt wr B c vc ay (intRowOf 3 v X :: (rowsOf 29 3 (.slice dO s mO) vs T ++ (boxRow 26 2 r [.slice dm n mm, .slice ds q ms] :: R)))) (fun _ i _ => q - (intOf i).toNat)
      case atStart => exact ⟨0, by omega, rfl, [], ax, rfl, by simp, by omega, by omega, b4, own4⟩
      case round =>
        clear own4 b4
        obtain ⟨y, hy, rfl, X, ay, hX, hXb, hay1, hay2, b5, own5⟩ := hrel
        obtain ⟨w5, rfl⟩ : ∃ y : World, y = wr := ⟨_, rfl⟩
        obtain ⟨vd, vm, rfl⟩ := ow_ints own5.rows
        have e5 : Ext w0 w5 := hE.out _ b5
        have c50 : w5.cell? ⟨r, 0, none⟩ = some (.slice dm n mm) := (own5.at (.tail _ (List.mem_append_right _ (.head _))) (j := 0) (by omega)).1
        have c51 : w5.cell? ⟨r, 1, none⟩ = some (.slice ds q ms) := (own5.at (.tail _ (List.mem_append_right _ (.head _))) (j := 1) (by omega)).1
        replace hX := hid hX
        by_cases hlty : y < q
        · go_upto_region 9 with fail
          go_wp2_with fail
          refine (pick_any (w0 := w0) hc own5 hwB (by omega) (by omega)).mono ?_
          rintro e w6 ⟨t, a6, rfl, ht0, ht1, ht2, h61, h62, own6, b6⟩
          have htn := ht2 (by omega)
          have b6' := b5.trans b6
          obtain ⟨t, rfl⟩ := Int.eq_ofNat_of_zero_le ht0
          have c60 : w6.cell? ⟨r, 0, none⟩ = some (.slice dm n mm) := (own6.at (.tail _ (List.mem_append_right _ (.head _))) (j := 0) (by omega)).1
          have c61 : w6.cell? ⟨r, 1, none⟩ = some (.slice ds q ms) := (own6.at (.tail _ (List.mem_append_right _ (.head _))) (j := 1) (by omega)).1
          have hS6 := (hZ.out _ (own6.rows.tail.right.tail)).2
          have hqS' := hqS.out
          obtain ⟨gs, os, dr, mr, rfl, c6r, hrr, hrl⟩ := hS6.at (w' := w6) (k := y) (by omega)
          clear own5 b5 b6 e5 c50 c51 ht1 ht2 ht0 hqS'
          go_wp2
          go_loopw [9, 10] (fun tv i wr => wr = w6 ∧ ∃ k : Nat, k ≤ n ∧ i = .int .i64 k ∧ ∃ t : Nat, t < n ∧ tv = .int .i64 t) (fun _ i _ => n - (intOf i).toNat)
          case atStart => exact ⟨rfl, 0, by omega, rfl, t, by omega, rfl⟩
          case round =>
            obtain ⟨hwr, k, hk, rfl, t, ht, rfl⟩ := hrel
            subst hwr
            clear htn hS6
            have hn0 : ((n : Int) == 0) = false := by simp; omega
            have hmod := hid (show ∃ t' : Nat, t' < n ∧ ((t : Int) + 1) % (n : Int) = (t' : Int) from ⟨(t + 1) % n, Nat.mod_lt _ (by omega), by simp [Int.natCast_emod]⟩)
            by_cases hlk : k < n
            · by_cases hrt : (row S y).length ≤ t
              · go_wp2
                go_roundw
                case rel => exact ⟨trivial, k + 1, by omega, by go_num, by obtain ⟨t', h1, h2⟩ := hmod.out; exact ⟨t', h1, by rw [h2]⟩⟩
                case measure => simp [intOf]; omega
              · obtain ⟨gr, og, rfl, hcx⟩ := hrr.at (w' := wr) (k := t) (by omega)
                by_cases hneg : nth (row S y) t < 0
                · go_wp2
                  go_roundw
                  case rel => exact ⟨trivial, k + 1, by omega, by go_num, by obtain ⟨t', h1, h2⟩ := hmod.out; exact ⟨t', h1, by rw [h2]⟩⟩
                  case measure => simp [intOf]; omega
                · skip
                  clear hmod hn0
                  obtain ⟨s6, h6⟩ := own6
                  have hB6 := CurAt.size ⟨s6, h6⟩
                  have h6' := h6.perm (List.Perm.swap _ _ _)
                  have hXlen := hX.out
                  go_wp2_with (at_builtin; refine wpList_append1 rfl _ _ _ rfl elemInt rfl h6' hB6 rfl rfl (by omega) (by omega) ?_; intro v1 w7 ho hb7)
                  go_roundw
                  case rel =>
                    refine ⟨y + 1, by omega, by go_num, X ++ [(t : Int)], a6, by simp [hX.out], ?_, by omega, by omega, b6'.trans hb7, ⟨s6, (ow_snoc ho rfl).perm (List.Perm.swap _ _ _)⟩⟩
                    intro x hx
                    rcases List.mem_append.1 hx with h | h
                    · exact hXb x h
                    · rw [List.mem_singleton] at h; omega
                  case measure => simp [intOf]; omega
            · skip
              clear hmod hn0
              obtain ⟨s6, h6⟩ := own6
              have hB6 := CurAt.size ⟨s6, h6⟩
              have h6' := h6.perm (List.Perm.swap _ _ _)
              have hXlen := hX.out
              go_wp2_with (at_builtin; refine wpList_append1 rfl _ _ _ rfl elemInt rfl h6' hB6 rfl rfl (by omega) (by omega) ?_; intro v1 w7 ho hb7)
              go_roundw
              case rel =>
                refine ⟨y + 1, by omega, by go_num, X ++ [(t : Int)], a6, by simp [hX.out], ?_, by omega, by omega, b6'.trans hb7, ⟨s6, (ow_snoc ho rfl).perm (List.Perm.swap _ _ _)⟩⟩
                intro x hx
                rcases List.mem_append.1 hx with h | h
                · exact hXb x h
                · rw [List.mem_singleton] at h; omega
              case measure => simp [intOf]; omega
        · have hXq := hid (show X.length = q by have := hX.out; omega)
          have hy16 : (y : Int) ≤ 16 := by omega
          obtain ⟨s5, h5⟩ := own5
          have hB5 := CurAt.size ⟨s5, h5⟩
          have hout := rw_out (A := [curRow c vc ay s5]) (h5.perm (List.Perm.swap _ _ _))
          rw [hvs.out] at hout
          clear h5
          go_wp2_with (at_builtin; refine wpList_append1 rfl _ _ _ rfl elemInts rfl hout hB5 rfl rfl (by omega) (by omega) ?_; intro v1 w7 ho hb7; obtain ⟨vd1, vm1, hv1⟩ := ho.form; (obtain rfl : v1 = .slice vd1 (s + 1) vm1 := hv1))
          rw [← hvs.out] at ho
          have hin := rw_in (A := [curRow c vc ay s5]) ho (by rw [hvs.out, hT.out])
          rw [hvs.out] at hin
          go_roundw
          case rel => exact ⟨s + 1, by omega, by go_num, vd1, vm1, vs ++ [_], T ++ [X], ay, rfl, by simp [hvs.out], by simp [hT.out], rowsn_snoc hTq hXq.out, ok_snoc hTok (by rw [hXq.out]; omega) hXb, by omega, by omega, b5.trans hb7, ⟨s5, hin⟩⟩
          case measure => simp [intOf]; omega
    · have hs1 : 1 ≤ s ∧ s ≤ 5 := by omega
      have hvT : vs.length = T.length := by rw [hvs.out, hT.out]
      obtain ⟨R', hTab⟩ := CurAt.tab (A := []) own3
      obtain ⟨g, rfl⟩ := rw_addr hTab hvs.out (by omega)
      have hcap : s ≤ mO := by
        have h := hTab
        unfold rowsOf valRowOf at h
        rw [hvs.out] at h
        exact ow_cap h
      have hT0 : 0 < T.length := by rw [hT.out]; omega
      have hq0 := hid (hTq _ (row_mem hT0))
      obtain ⟨gk, mk, hu, _⟩ := rw_form hTab hvT hT0 (by rw [hq0.out]; omega)
      rw [hq0.out] at hu
      have hf := hid (show ∀ u av T', CurAt u B c vc av (rowsOf 29 3 (.slice (some ⟨g, 0, none⟩) s mO) vs T' ++ (boxRow 26 2 r [.slice dm n mm, .slice ds q ms] :: R)) →
          u.cell? ⟨g, 0, none⟩ = some (.slice (some ⟨gk, 0, none⟩) q mk) ∧ u.cell? ⟨r, 0, none⟩ = some (.slice dm n mm) from fun u av T' h => by
        have h1 : u.cell? ⟨r, 0, none⟩ = some (.slice dm n mm) := (h.at (List.mem_append_right _ (.head _)) (j := 0) (by omega)).1
        obtain ⟨R', hT⟩ := CurAt.tab (A := []) h
        exact ⟨(rw_cell hT hvs.out hu).1, h1⟩)
      have hf3 := (hf.out _ _ _ own3).1
      have e3 : Ext w0 w3 := hE.out _ b3
      clear hTab
      replace hvT := hid hvT
      replace hu := hid hu
      go_wp2_with fail
      refine (pick_any (w0 := w0) hc own3 hwB (by omega) (by omega)).mono ?_
      rintro e w4 ⟨x, a4, rfl, hx0, hx1, hx2, h41, h42, own4, b4⟩
      have b4' := b3.trans b4
      have hf4 := (hf.out _ _ _ own4).1
      clear own3 b3 b4 e3 hf3 c3 hx1 hx2
      by_cases hx0 : x = 0
      · clear hf4
        go_upto_region 19 with fail
        have own5 := own4.ext (w' := w4.drew)
        have b5 : Below B w w4.drew := b4'.drew
        have hf5 := hf.out _ _ _ own5
        clear own4 b4'
        refine wp_region_held_drew (S := fun w' => w'.cell? ⟨g, 0, none⟩ = some (.slice (some ⟨gk, 0, none⟩) q mk) ∧ w'.cell? ⟨r, 0, none⟩ = some (.slice dm n mm)) (by kernel_rfl) hf5 (fun hHeld0 => ?_)
        generalize w4.drew = w5 at *
        clear hf5
        refine wpAnyH_take (i := 0) (v := .slice (some ⟨g, 0, none⟩) s mO) rfl (by kernel_rfl) (by kernel_rfl) (by kernel_rfl) (fun _ _ _ h => h) (Or.inl ⟨by rfl, by intro wx hx; go_simp⟩) (by assumption) ?_
        try simp only [List.getElem_toArray, List.getElem_cons_zero, Act.put, List.setIfInBounds_toArray, List.set_cons_zero, List.set_cons_succ]
        refine wpAnyH_take (i := 1) (v := .pointer (some ⟨g, 0, none⟩)) rfl (by kernel_rfl) (by kernel_rfl) (by kernel_rfl) (fun _ _ _ h => h) (Or.inl ⟨by rfl, by intro wx hx; go_simp⟩) (by assumption) ?_
        try simp only [List.getElem_toArray, List.getElem_cons_succ, List.getElem_cons_zero, Act.put, List.setIfInBounds_toArray, List.set_cons_zero, List.set_cons_succ]
        refine wpAnyH_take (i := 2) (v := .slice (some ⟨gk, 0, none⟩) q mk) rfl (by kernel_rfl) (by kernel_rfl) (by kernel_rfl) (fun _ _ _ h => h) (Or.inl ⟨by rfl, by intro wx hx; obtain ⟨_, _⟩ := hx; go_simp⟩) (by assumption) ?_
        try simp only [List.getElem_toArray, List.getElem_cons_succ, List.getElem_cons_zero, Act.put, List.setIfInBounds_toArray, List.set_cons_zero, List.set_cons_succ]
        refine wpAnyH_take (i := 3) (v := .pointer (some ⟨c, 0, none⟩)) rfl (by kernel_rfl) (by kernel_rfl) (by kernel_rfl) (fun _ _ _ h => h) (Or.inl ⟨by rfl, by intro wx hx; go_simp⟩) (by assumption) ?_
        try simp only [List.getElem_toArray, List.getElem_cons_succ, List.getElem_cons_zero, Act.put, List.setIfInBounds_toArray, List.set_cons_zero, List.set_cons_succ]
        refine wpAnyH_take (i := 4) (v := .pointer (some ⟨r, 0, none⟩)) rfl (by kernel_rfl) (by kernel_rfl) (by kernel_rfl) (fun _ _ _ h => h) (Or.inl ⟨by rfl, by intro wx hx; go_simp⟩) (by assumption) ?_
        try simp only [List.getElem_toArray, List.getElem_cons_succ, List.getElem_cons_zero, Act.put, List.setIfInBounds_toArray, List.set_cons_zero, List.set_cons_succ]
        refine wpAnyH_take (i := 5) (v := .slice dm n mm) rfl (by kernel_rfl) (by kernel_rfl) (by kernel_rfl) (fun _ _ _ h => h) (Or.inl ⟨by rfl, by intro wx hx; obtain ⟨_, _⟩ := hx; go_simp⟩) (by assumption) ?_
        try simp only [List.getElem_toArray, List.getElem_cons_succ, List.getElem_cons_zero, Act.put, List.setIfInBounds_toArray, List.set_cons_zero, List.set_cons_succ]
        refine wpAnyH_take (i := 6) (v := .int .i64 n) rfl (by kernel_rfl) (by kernel_rfl) (by kernel_rfl) (fun _ _ _ h => h) (Or.inl ⟨by rfl, by intro wx hx; go_simp⟩) (by assumption) ?_
        try simp only [List.getElem_toArray, List.getElem_cons_succ, List.getElem_cons_zero, Act.put, List.setIfInBounds_toArray, List.set_cons_zero, List.set_cons_succ]
        have own6 := own5.lit (e := 3) (n := 3) (cs := #[.int .i64 (-1), .int .i64 n, .int .i64 0]) [-1, (n : Int), 0] own5.size rfl rfl (by simp)
        have b6 : Below B w (w5.alloc (.cells #[.int .i64 (-1), .int .i64 n, .int .i64 0] 3)) := b5.alloc own5.size _
        have hf6 := hf.out _ _ _ own6.drop
        refine wpAnyH_ready (rs := [7]) (by kernel_rfl) (by simp) ?_
        refine AllReadyH.cons rfl (fun K hK => ?_) AllReadyH.nil
        go_simp
        refine hK.out _ _ hf6 (fun _ => ?_)
        clear hK K
        try simp only [List.getElem_toArray, List.getElem_cons_succ, List.getElem_cons_zero, Act.put, List.setIfInBounds_toArray, List.set_cons_zero, List.set_cons_succ]
        have e6 : Ext w0 (w5.alloc (.cells #[.int .i64 (-1), .int .i64 n, .int .i64 0] 3)) := hE.out _ b6
        refine wpAnyH_ready (rs := [8]) (by kernel_rfl) (by simp) ?_
        refine AllReadyH.cons rfl (fun K hK => ?_) AllReadyH.nil
        go_simp
        go_at_call 34
        refine (among_any (w0 := w0) hc own6 hwB (by omega) (by omega) (by simp) (by simp)).mono ?_
        rintro e w7 ⟨x7, a7, rfl, hx7, h71, h72, own7, b7⟩
        have hx7' : -100000 ≤ x7 ∧ x7 ≤ 100000 := by simp at hx7; omega
        have own7' := own7.drop
        have b7' := b6.trans b7
        have hf7 := hf.out _ _ _ own7'
        have hput := CurAt.put (A := []) own7' hvT.out hT0 hu.out hq0.out 0 x7
        have hf8 := hf.out _ _ _ hput.1
        have hgc : w7.cell? ⟨gk, 0, none⟩ = some (.int .i64 (nth (row T 0) 0)) ∧ w7.frozen? ⟨gk, 0, none⟩ = false := by
          obtain ⟨R', hT⟩ := CurAt.tab (A := []) own7'
          exact rw_at hT hT0 hu.out hq0.out (by omega)
        have hgc0 := hgc.1
        have hgc1 := hgc.2
        go_wp2_with fail
        refine hK.out _ _ hf7 (fun _ => ?_)
        clear hK K
        try simp only [List.getElem_toArray, List.getElem_cons_succ, List.getElem_cons_zero, Act.put, List.setIfInBounds_toArray, List.set_cons_zero, List.set_cons_succ]
        refine wpAnyH_take (i := 9) (v := .pointer (some ⟨gk, 0, none⟩)) rfl (by kernel_rfl) (by kernel_rfl) (by kernel_rfl) (fun _ _ _ h => h) (Or.inl ⟨by rfl, by intro wx hx; go_simp⟩) (by assumption) ?_
        try simp only [List.getElem_toArray, List.getElem_cons_succ, List.getElem_cons_zero, Act.put, List.setIfInBounds_toArray, List.set_cons_zero, List.set_cons_succ]
        refine wpAnyH_ready (rs := [10]) (by kernel_rfl) (by simp) ?_
        refine AllReadyH.cons rfl (fun K hK => ?_) AllReadyH.nil
        go_simp
        refine hK.out _ _ hf8 (fun _ => ?_)
        clear hK K
        try simp only [List.getElem_toArray, List.getElem_cons_succ, List.getElem_cons_zero, Act.put, List.setIfInBounds_toArray, List.set_cons_zero, List.set_cons_succ]
        refine wpAnyH_done (by kernel_rfl) ?_ _
        have own8 := hput.1
        have b8 := b7'.setCell hput.2 (p := ⟨gk, 0, none⟩) (.int .i64 x7)
        have hT2 : (T.set 0 ((row T 0).set 0 x7)).length = s := by rw [List.length_set]; exact hT.out
        have hTok2 := row_set_ok (q := 0) (x := x7) hTok hT0 hx7'
        generalize T.set 0 ((row T 0).set 0 x7) = T2 at *
        generalize w7.setCell ⟨gk, 0, none⟩ (.int .i64 x7) = w8 at *
        clear own5 own6 own7 own7' b5 b6 b7 b7' hf6 hf7 hf8 hput hgc hgc0 hgc1 e6
        replace hT2 := hid hT2
        go_wp2_with fail
        go_ret
        exact ⟨_, T2, rowsOf 29 3 (.slice (some ⟨g, 0, none⟩) s mO) vs T2, a7, rfl, by omega, by omega, own8.sub (List.Sublist.append_left (List.sublist_cons_self _ _) _), alg_reads (by rw [hvs.out, hT2.out]) (by rw [hT2.out]; omega) hTok2, b8⟩
      · by_cases hx1 : x = 1
        · obtain ⟨s4, h4⟩ := own4
          have hB4 := CurAt.size ⟨s4, h4⟩
          have h5 := rw_row (ow_front (A := [curRow c vc a4 s4]) h4) hT0 hu.out
          have e0 : intRowOf 3 (.slice (some ⟨gk, 0, none⟩) q mk) (row T 0) = (⟨3, 1, .slice (some ⟨gk, 0, none⟩) q mk, q, (row T 0).map (Value.int .i64)⟩ : Row) := by unfold intRowOf; rw [hq0.out]
          rw [e0] at h5
          have hu0 := hid (show vs.getD 0 undef = .slice (some ⟨gk, 0, none⟩) q mk by rw [List.getD_eq_getElem?_getD, hu.out]; rfl)
          go_wp2_with (at_builtin; refine wpList_append1 rfl _ _ _ rfl elemInt rfl h5 hB4 rfl rfl (by omega) (by omega) ?_; intro v1 w5 ho hb5; obtain ⟨vd1, vm1, hv1⟩ := ho.form; (obtain rfl : v1 = .slice vd1 (q + 1) vm1 := hv1); (have ho5 : Own w5 B (intRowOf 3 (.slice vd1 (q + 1) vm1) (row T 0 ++ [0]) :: (rowsOf 29 3 (.slice (some ⟨g, 0, none⟩) s mO) vs T ++ ([curRow c vc a4 s4] ++ (boxRow 26 2 r [.slice dm n mm, .slice ds q ms] :: R))).eraseIdx (0 + 1)) := grow_row ho hq0.out); obtain ⟨gc1, gc2, go1, gm1, gB⟩ := rw_grow ho5 hvs.out hT.out (by omega); rw [hu0.out] at gc1)
          go_ret
          refine ⟨_, T.set 0 (row T 0 ++ [0]), rowsOf 29 3 (.slice (some ⟨g, 0, none⟩) s mO) (vs.set 0 (.slice vd1 (q + 1) vm1)) (T.set 0 (row T 0 ++ [0])), a4, rfl, by omega, by omega, ?_, alg_reads (by rw [List.length_set, List.length_set]; exact hvT.out) (by rw [List.length_set, hT.out]; omega) ?_, (b4'.trans hb5).setCell gB _⟩
          · have h9 := ow_front (A := rowsOf 29 3 (.slice (some ⟨g, 0, none⟩) s mO) (vs.set 0 (.slice vd1 (q + 1) vm1)) (T.set 0 (row T 0 ++ [0]))) (T := [curRow c vc a4 s4]) go1
            have h10 : CurAt _ B c vc a4 (rowsOf 29 3 (.slice (some ⟨g, 0, none⟩) s mO) (vs.set 0 (.slice vd1 (q + 1) vm1)) (T.set 0 (row T 0 ++ [0])) ++ (boxRow 26 2 r [.slice dm n mm, .slice ds q ms] :: R)) := ⟨s4, h9⟩
            exact h10.sub (List.Sublist.append_left (List.sublist_cons_self _ _) _)
          · intro z hz
            rcases List.mem_or_eq_of_mem_set hz with h1 | h1
            · exact hTok z h1
            · have h2 := hTok _ (row_mem hT0)
              rw [h1]
              refine ⟨by rw [List.length_append, hq0.out]; simp; omega, fun z hz => ?_⟩
              rcases List.mem_append.1 hz with h3 | h3
              · exact h2.2 z h3
              · rw [List.mem_singleton] at h3; omega
        · by_cases hx2 : x = 2
          · have hTl := hid (show T.tail.length = s - 1 by rw [List.length_tail, hT.out])
            by_cases hm1 : mO = 1
            · go_wp2_with fail
              go_ret
              exact ⟨_, T.tail, rowsOf 29 3 (.slice (some ⟨g, 0, none⟩) s mO) vs T, a4, rfl, by omega, by omega, own4.sub (List.Sublist.append_left (List.sublist_cons_self _ _) _), fun u hu => isRows_no u _ _ _ hTl.out (by omega), b4'⟩
            · go_wp2_with fail
              go_ret
              exact ⟨_, T.tail, rowsOf 29 3 (.slice (some ⟨g, 0, none⟩) s mO) vs T, a4, rfl, by omega, by omega, own4.sub (List.Sublist.append_left (List.sublist_cons_self _ _) _), fun u hu => (alg_reads hvT.out (by rw [hT.out]; omega) hTok u hu).drop1 hT0, b4'⟩
          · go_wp2_with fail
            go_ret
            exact ⟨_, T, rowsOf 29 3 (.slice (some ⟨g, 0, none⟩) s mO) vs T, a4, rfl, by omega, by omega, own4.sub (List.Sublist.append_left (List.sublist_cons_self _ _) _), alg_reads hvT.out (by rw [hT.out]; omega) hTok, b4'⟩
end Go.Proofs.Ytkniohcmhdgbeaa
