/- The search by turns walked: l7Try. -/
import Derived.Test.YtllfchcocgdcjaaGreatBtb
import Derived.Test.YtllfchcocgdcjaaGreatKuP
import Derived.Test.YtllfchcocgdcjaaGreatGrG
namespace Go.Proofs.YtllfchcocgdcjaaGreat
open Go.RowKit

/-- the grid of a table of truth values -/
def grf (Mg : List (List Bool)) (r i : Nat) : Bool := nthB (rowB Mg r) i
theorem nthB_set {L : List Bool} {i : Nat} (h : i < L.length) : nthB (L.set i true) = putS (nthB L) i := by
  funext j
  show (L.set i true).getD j false = if j = i then true else L.getD j false
  rw [List.getD_eq_getElem?_getD, List.getElem?_set, List.getD_eq_getElem?_getD]
  by_cases e : i = j
  · subst e
    simp [h]
  · rw [if_neg e, if_neg (fun q => e q.symm)]
/-- how many columns are not seen -/
def unsB (L : List Bool) : Nat := L.count false
theorem unsB_mono : ∀ {A B : List Bool}, A.length = B.length → (∀ j, nthB A j = true → nthB B j = true) → unsB B ≤ unsB A
  | [], [], _, _ => Nat.le_refl _
  | [], b :: B, h, _ => by simp at h
  | a :: A, [], h, _ => by simp at h
  | a :: A, b :: B, h, hm => by
    have h1 := unsB_mono (A := A) (B := B) (by simpa using h) fun j hj => hm (j + 1) hj
    have h2 : a = true → b = true := hm 0
    unfold unsB at *
    rw [List.count_cons, List.count_cons]
    cases a <;> cases b <;> simp at * <;> omega
theorem unsB_set {L : List Bool} {i : Nat} (h : i < L.length) (hf : nthB L i = false) : unsB (L.set i true) < unsB L := by
  have h2 : L[i] = false := by simpa [nthB, h] using hf
  have h3 : false ∈ L := h2 ▸ List.getElem_mem h
  have h4 : 0 < L.count false := List.count_pos_iff.2 h3
  unfold unsB
  rw [List.count_set h, h2]
  simp
  omega
theorem Own.bput {w : World} {B e g n m k : Nat} {L : List Bool} {R : List Row} (h : Own w B (browOf e (.slice (some ⟨g, 0, none⟩) n m) L :: R)) (hn : n = L.length) : Own (w.setCell ⟨g, k, none⟩ (.bool true)) B (browOf e (.slice (some ⟨g, 0, none⟩) n m) (L.set k true) :: R) := by
  subst hn
  have h2 := Own.set h k (.bool true)
  rw [← List.map_set] at h2
  unfold browOf at *
  rw [List.length_set]
  exact h2
theorem Own.bnth {w : World} {B e g n m k : Nat} {L : List Bool} {R : List Row} (h : Own w B (browOf e (.slice (some ⟨g, 0, none⟩) n m) L :: R)) (hn : n = L.length) (hk : k < L.length) : w.cell? ⟨g, k, none⟩ = some (.bool (nthB L k)) ∧ w.frozen? ⟨g, k, none⟩ = false := by
  subst hn
  refine ⟨?_, h.frozenAt k⟩
  rw [Own.cellAt h hk]
  simp [nthB, hk]
theorem Own.bptr {w : World} {B e n m : Nat} {d : Option Addr} {L : List Bool} {R : List Row} (h : Own w B (browOf e (.slice d n m) L :: R)) (hn : n = L.length) (h0 : 0 < n) : ∃ g, d = some ⟨g, 0, none⟩ := by
  subst hn
  exact Own.at h h0
def TryPost (G : Nat → Nat → Bool) (R C : Nat) (H : List Int) (S0 : Nat → Bool) (r : Nat) (w : World) : Ending → World → Prop := fun e w' => ∃ (H' : List Int) (Sl' : List Bool) (d1 : Option Addr) (m1 : Nat) (d2 : Option Addr) (m2 : Nat) (ok : Bool),
  e = .returned (.tuple #[.slice d1 C m1, .slice d2 C m2, .bool ok]) ∧ H'.length = C ∧ Sl'.length = C ∧ IsInts w' (.slice d1 C m1) H' ∧ IsBools w' (.slice d2 C m2) Sl' ∧ Ext w w' ∧ (ok = true → TY G R C H S0 r H') ∧ (ok = false → H' = H ∧ TN G C H S0 r (nthB Sl') C)
set_option maxHeartbeats 3200000 in
set_option maxRecDepth 100000 in
theorem l7Try_any {Mg : List (List Bool)} {R C : Nat} (hMR : Mg.length = R) (hMC : ∀ r, r < R → (rowB Mg r).length = C) (hC : C ≤ 1000) (hR : R ≤ 1000) : ∀ (k : Nat) {vg : Value} {dh ds : Option Addr} {mh ms r : Nat} {H : List Int} {Sl : List Bool} {w0 w : World} [Ext w0 w], unsB Sl < k → IsGrid w0 vg Mg → IsInts w0 (.slice dh C mh) H → IsBools w0 (.slice ds C ms) Sl → H.length = C → Sl.length = C → r < R →
    TP (grf Mg) R C H (nthB Sl) → Fr C H (nthB Sl) r →
    Calls Tryz.prog 82 #[vg, .slice dh C mh, .slice ds C ms, .int .i64 r] w (TryPost (grf Mg) R C H (nthB Sl) r w) := by
  subst hMR
  intro k
  induction k with
  | zero =>
    intro vg dh ds mh ms r H Sl w0 w ex huns
    omega
  | succ k ih =>
    intro vg dh ds mh ms r H Sl w0 w ex huns hG hH hS hHl hSl hr hTP hFr
    unfold TryPost
    obtain ⟨ag, cg, rfl, lg⟩ := hG.form
    obtain ⟨bg, og, dr, mr, hd, hcr, hir⟩ := hG.at (w' := w0) (k := r) hr
    cases hd
    have hlr := hMC r hr
    rw [hlr] at hcr hir
    go_enter Tryz.func82, Tryz.ntmps82
    go_upto_region 2 with fail
    go_loopw [2, 11] (fun sv iv wr => ∃ (i : Nat) (S : List Bool) (d : Option Addr) (m : Nat), sv = .slice d C m ∧ iv = .int .i64 i ∧ i ≤ C ∧ IsBools wr (.slice d C m) S ∧ S.length = C ∧ Hid (TN (grf Mg) C H (nthB Sl) r (nthB S) i) ∧ Ext w wr) (fun _ iv _ => C - (intOf iv).toNat)
    case atStart => exact ⟨0, Sl, ds, ms, rfl, rfl, by omega, hS.ext, hSl, hid TN.begin, Ext.refl _⟩
    case round =>
      obtain ⟨i, S, d, m, rfl, rfl, hi, hSb, hSn, hTN, he⟩ := hrel
      obtain ⟨wo, rfl⟩ : ∃ y : World, y = wr := ⟨_, rfl⟩
      have e0 : Ext w0 wo := Ext.trans ‹Ext w0 w› he
      by_cases hlt : i < C
      · obtain ⟨br, or', hdr, hgr⟩ := hir.at (w' := wo) (k := i) (by omega)
        cases hdr
        obtain ⟨bs, os, hds, hsc⟩ := hSb.at (w' := wo) (k := i) (by omega)
        cases hds
        have hcr' := e0.cell hcr
        cases hg : nthB (rowB Mg r) i with
        | false =>
          rw [hg] at hgr
          have hg := hid hg
          go_wp2_with fail
          go_roundw
          case rel => exact ⟨i + 1, S, _, m, rfl, by go_num, by omega, hSb, hSn, hid (hTN.out.skip (.inl hg.out)), he⟩
          case measure => simp [intOf]; omega
        | true =>
          rw [hg] at hgr
          have hg := hid hg
          cases hs : nthB S i with
          | true =>
            rw [hs] at hsc
            have hs := hid hs
            go_wp2_with fail
            go_roundw
            case rel => exact ⟨i + 1, S, _, m, rfl, by go_num, by omega, hSb, hSn, hid (hTN.out.skip (.inr hs.out)), he⟩
            case measure => simp [intOf]; omega
          | false =>
            rw [hs] at hsc
            have hs := hid hs
            have own0 : Own (wo.alloc (.cells #[] 4)) wo.heap.size [⟨4, 1, .slice (some ⟨wo.heap.size, 0, none⟩) 0 0, 0, []⟩] := (Own.nil wo wo.heap.size).lit 4 1 0 #[] (Nat.le_refl _) (by unfold maxLen; omega) rfl
            have hB0 : wo.heap.size ≤ (wo.alloc (.cells #[] 4)).heap.size := by simp
            have hSb0 := hSb.ext (w' := wo.alloc (.cells #[] 4))
            go_upto_region 6 with (at_builtin; refine wpList_appendBools rfl _ _ _ rfl elemBool rfl own0 hB0 rfl hSb0 (by omega) ?_; intro v1 w1 ho1 hb1)
            have o1 : Own w1 wo.heap.size [browOf 4 v1 S] := by
              rw [Nat.zero_add, List.nil_append] at ho1
              exact ho1
            clear own0 hSb0 ho1
            obtain ⟨d1, m1, hv1⟩ := o1.form
            have hv1' : v1 = .slice d1 C m1 := by rw [← hSn]; exact hv1
            subst hv1'
            obtain ⟨g, rfl⟩ := o1.bptr hSn.symm (by omega)
            have e1 : Ext wo w1 := ⟨((Below.refl _ wo).alloc (Nat.le_refl _) _).trans hb1⟩
            clear hv1 hb1 hB0
            obtain ⟨c6, f6⟩ := o1.bnth hSn.symm (k := i) (by omega)
            have o2 := o1.bput (k := i) hSn.symm
            have hgl : wo.heap.size ≤ g := by
              have h := o1
              rw [← hSn] at h
              exact (Own.lt h).1
            have e2 : Ext wo (w1.setCell ⟨g, i, none⟩ (.bool true)) := @Ext.set _ _ e1 ⟨g, i, none⟩ hgl _
            clear o1 e1
            go_upto_region 8 with fail
            clear c6 f6
            generalize w1.setCell ⟨g, i, none⟩ (.bool true) = w2 at *
            have hSl2 : (S.set i true).length = C := by rw [List.length_set]; exact hSn
            have hS2 : IsBools w2 (.slice (some ⟨g, 0, none⟩) C m1) (S.set i true) := o2.readsB (by rw [hSl2]; unfold Short; omega)
            have e02 : Ext w0 w2 := Ext.trans e0 e2
            have hx := Ext.trans he e2
            obtain ⟨bh, oh, hdh, hhc⟩ := hH.at (w' := w2) (k := i) (by omega)
            cases hdh
            have hmono := hTN.out.mono
            have hT1 := hTP.sub hmono
            have hF1 := hFr.sub hmono
            by_cases hneg : nth H i < 0
            · go_wp2_with fail
              refine (l4With_any (w0 := w2) (w := w2) (s := i) (r := (r : Int)) (hH.ext (w' := w2)) (by omega)).mono ?_
              rintro e w3 ⟨d3, m3, rfl, own3, e3⟩
              rw [hHl] at own3 ⊢
              go_wp2_with fail
              refine bodyPost_ret (v := .tuple #[.slice d3 C m3, .slice (some ⟨g, 0, none⟩) C m1, .bool true]) (by simp [results, Tryz.results82, go_sem]) rfl ?_
              have hy := TY.weaken hTP hFr hmono (TY.free hT1 hF1 hr hlt hs.out hg.out hneg)
              exact ⟨H.set i (r : Int), S.set i true, d3, m3, _, m1, true, rfl, by rw [List.length_set]; exact hHl, hSl2, own3.reads (by rw [List.length_set, hHl]; unfold Short; omega) (fun x hx => by
                rcases List.mem_or_eq_of_mem_set hx with hx | rfl
                · exact hH.all.2 x hx
                · unfold I64; omega), hS2.ext, Ext.trans hx e3, fun _ => hy, (by intro h; cases h)⟩
            · obtain ⟨q, hqR, hq, -⟩ : ∃ q : Nat, q < Mg.length ∧ nth H i = (q : Int) ∧ grf Mg q i = true := by
                rcases hTP.ok i hlt with h | h
                · omega
                · exact h
              rw [hq] at hhc
              have hq := hid hq
              have hset := nthB_set (L := S) (i := i) (by omega)
              have hT2 : TP (grf Mg) Mg.length C H (nthB (S.set i true)) := by
                rw [hset]
                exact hT1.sub fun j hj => putS_of hj
              have hF2 : Fr C H (nthB (S.set i true)) q := by
                rw [hset]
                intro j hj sj e
                obtain ⟨n1, n2⟩ := putS_no sj
                exact n1 (hT1.inj j i hj hlt n2 hs.out (by rw [e]; omega) (by rw [e, hq.out]))
              have hRec := hid (@ih (.slice (some ⟨bg, og, none⟩) Mg.length cg) _ _ _ _ q H (S.set i true) w2 w2 (Ext.refl _) (by have := unsB_set (L := S) (i := i) (by omega) hs.out; have := unsB_mono (A := Sl) (B := S) (by rw [hSl, hSn]) hmono; omega) hG.ext hH.ext hS2 hHl hSl2 hqR hT2 hF2)
              rw [hset] at hRec
              have hset := hid hset
              go_wp2_with fail
              refine hRec.out.mono ?_
              rintro e w3 ⟨H2, S2, d5, m5, d6, m6, ok, rfl, hH2l, hS2l, iH2, iS2, e5, hy, hn⟩
              cases ok with
              | false =>
                obtain ⟨rfl, hn2⟩ := hn rfl
                go_wp2_with fail
                go_roundw
                case rel => exact ⟨i + 1, S2, d6, m6, rfl, by go_num, by omega, iS2, hS2l, hid (hTN.out.fail hlt hs.out hq.out hn2), Ext.trans hx e5⟩
                case measure => simp [intOf]; omega
              | true =>
                have hy2 := TY.weaken hTP hFr hmono (TY.turn hF1 hr hlt hs.out hg.out hq.out (hy rfl))
                clear hy hn
                go_wp2_with fail
                refine (l4With_any (w0 := w3) (w := w3) (a := H2) (s := i) (r := (r : Int)) iH2 (by omega)).mono ?_
                rintro e w4 ⟨d7, m7, rfl, own7, e7⟩
                rw [hH2l] at own7 ⊢
                go_wp2_with fail
                refine bodyPost_ret (v := .tuple #[.slice d7 C m7, .slice d6 C m6, .bool true]) (by simp [results, Tryz.results82, go_sem]) rfl ?_
                exact ⟨H2.set i (r : Int), S2, d7, m7, d6, m6, true, rfl, by rw [List.length_set]; exact hH2l, hS2l, own7.reads (by rw [List.length_set, hH2l]; unfold Short; omega) (fun x hx => by
                  rcases List.mem_or_eq_of_mem_set hx with hx | rfl
                  · exact iH2.all.2 x hx
                  · unfold I64; omega), iS2.ext, Ext.trans (Ext.trans hx e5) e7, fun _ => hy2, (by intro h; cases h)⟩
      · obtain rfl : i = C := by omega
        have hx := he
        go_wp2_with fail
        refine bodyPost_ret (v := .tuple #[.slice dh i mh, .slice d i m, .bool false]) (by simp [results, Tryz.results82, go_sem]) rfl ?_
        exact ⟨H, S, dh, mh, d, m, false, rfl, hHl, hSn, hH.ext (w' := wo), hSb, he, (by intro h; cases h), fun _ => ⟨rfl, hTN.out⟩⟩
end Go.Proofs.YtllfchcocgdcjaaGreat
