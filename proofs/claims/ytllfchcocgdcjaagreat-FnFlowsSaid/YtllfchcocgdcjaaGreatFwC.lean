/- Coverings walked: l7Covers. -/
import Derived.Test.YtllfchcocgdcjaaGreatFwT
namespace Go.Proofs.YtllfchcocgdcjaaGreat
open Go.RowKit

theorem iA_row (b n c : Nat) (f : Nat → Int) : iA b n c f = intRowOf 3 (.slice (some ⟨b, 0, none⟩) n c) ((List.range n).map f) := by
  unfold iA aR intRowOf
  rw [List.map_map, List.length_map, List.length_range]
  rfl
theorem bA_row (b n c : Nat) (f : Nat → Bool) : bA b n c f = browOf 4 (.slice (some ⟨b, 0, none⟩) n c) ((List.range n).map f) := by
  unfold bA aR browOf
  rw [List.map_map, List.length_map, List.length_range]
  rfl
theorem nth_range {n : Nat} {f : Nat → Int} {i : Nat} (h : i < n) : nth ((List.range n).map f) i = f i := by simp [nth, h]
theorem nthB_range {n : Nat} {f : Nat → Bool} {i : Nat} (h : i < n) : nthB ((List.range n).map f) i = f i := by simp [nthB, h]
theorem nthB_false (n : Nat) : nthB ((List.range n).map fun _ => false) = fun _ => false := by
  funext i
  by_cases h : i < n
  · rw [nthB_range h]
  · unfold nthB
    rw [List.getD_eq_getElem?_getD, List.getElem?_eq_none (by simp; omega)]
    rfl
set_option maxHeartbeats 3200000 in
set_option maxRecDepth 100000 in
theorem l7Covers_any {Mg : List (List Bool)} {Xl : List Bool} {C : Nat} {vg vr : Value} {w0 w : World} [Ext w0 w] (hG : IsGrid w0 vg Mg) (hX : IsBools w0 vr Xl) (hXl : Xl.length = Mg.length) (hMC : ∀ r, r < Mg.length → (rowB Mg r).length = C) (hC : C ≤ 1000) (hR : Mg.length ≤ 1000) (hR1 : 1 ≤ Mg.length) :
    Calls Tryz.prog 54 #[vg, vr] w fun e w' => ∃ b : Bool, e = .returned (.bool b) ∧ (b = true ↔ Cov (grf Mg) Mg.length C (nthB Xl)) ∧ Ext w w' := by
  have hTr := hid (fun (u : World) (k : Nat) (dh ds : Option Addr) (mh ms r : Nat) (H : List Int) (Sl : List Bool) (eu : Ext w0 u) (hH : IsInts u (.slice dh C mh) H) (hS : IsBools u (.slice ds C ms) Sl) (h1 : H.length = C) (h2 : Sl.length = C) (hr : r < Mg.length) (ht : TP (grf Mg) Mg.length C H (nthB Sl)) (hf : Fr C H (nthB Sl) r) =>
    @l7Try_any Mg Mg.length C rfl hMC hC hR (unsB Sl + 1) vg dh ds mh ms r H Sl u u (Ext.refl _) (Nat.lt_succ_self _) (hG.ext) hH hS h1 h2 hr ht hf)
  unfold TryPost at hTr
  obtain ⟨ag, cg, rfl, lg⟩ := hG.form
  obtain ⟨ar, cr, rfl, lr, -⟩ := hX.form
  rw [hXl] at hX ⊢
  obtain ⟨bg, og, dr, mr, hd, hcr, -⟩ := hG.at (w' := w) (k := 0) (by omega)
  cases hd
  rw [hMC 0 (by omega), Nat.add_zero] at hcr
  have hne : ((Mg.length : Int) == 0) = false := beq_eq_false_iff_ne.2 (by omega)
  replace hXl := hid hXl
  go_enter Tryz.func54, Tryz.ntmps54
  go_upto_region 4 with (at_make; refine wpList_makeA rfl _ _ _ rfl elemInt C rfl rfl (by omega) (by omega) rfl (Own.nil w w.heap.size) (Nat.le_refl _) ?_; intro gh w2 own2 e2 b2)
  clear hcr
  go_upto_region 5 with fail
  go_loopw [6] (fun iv wr => ∃ (i : Nat) (f : Nat → Int), iv = .int .i64 i ∧ i ≤ C ∧ (∀ j, j < i → f j = -1) ∧ Own wr w.heap.size [iA gh C C f] ∧ Ext w wr) (fun iv _ => C - (intOf iv).toNat)
  case atStart => exact ⟨0, fun _ => 0, rfl, by omega, fun j hj => by omega, own2, e2⟩
  case round =>
    clear own2 e2
    obtain ⟨i, f, rfl, hi, hf, own, he⟩ := hrel
    obtain ⟨wo, rfl⟩ : ∃ y : World, y = wr := ⟨_, rfl⟩
    by_cases hlt : i < C
    · obtain ⟨c1, f1⟩ := own.aAt (k := 0) rfl (j := i) hlt
      have hgl := (own.aLt (k := 0) rfl).1
      have own3 := own.iSet (k := 0) rfl i (-1)
      have e3 : Ext w (wo.setCell ⟨gh, i, none⟩ (.int .i64 (-1))) := @Ext.set _ _ he ⟨gh, i, none⟩ hgl _
      go_wp2_with fail
      go_roundw
      case rel => exact ⟨i + 1, updI f i (-1), by go_num, by omega, fun j hj => by
        unfold updI
        split
        · rfl
        · exact hf j (by omega), own3, e3⟩
      case measure => simp [intOf]; omega
    · obtain rfl : i = C := by omega
      have hH0 : IsInts wo (.slice (some ⟨gh, 0, none⟩) i i) ((List.range i).map f) := by
        have h : Own wo w.heap.size [intRowOf 3 (.slice (some ⟨gh, 0, none⟩) i i) ((List.range i).map f)] := by rw [← iA_row]; exact own
        exact h.reads (by simp; unfold Short; omega) (fun x hx => by
          obtain ⟨j, hj, rfl⟩ := List.mem_map.1 hx
          rw [hf j (List.mem_range.1 hj)]
          unfold I64; omega)
      have hcv := hid (CV.begin (G := grf Mg) (R := Mg.length) (X := nthB Xl) (show ((List.range i).map f).length = i by simp) fun j hj => by rw [nth_range hj]; exact hf j hj)
      clear own
      go_upto_region 9 with fail
      go_loopw [5, 7] (fun hv rv wr => ∃ (k : Nat) (H : List Int) (d : Option Addr) (m : Nat), hv = .slice d i m ∧ rv = .int .i64 k ∧ k ≤ Mg.length ∧ IsInts wr (.slice d i m) H ∧ H.length = i ∧ Hid (CV (grf Mg) Mg.length i (nthB Xl) H k) ∧ Ext w wr) (fun _ rv _ => Mg.length - (intOf rv).toNat)
      case atStart => exact ⟨0, _, _, _, rfl, rfl, by omega, hH0, by simp, hcv, he⟩
      case round =>
        clear hH0 hcv he
        obtain ⟨k, H, d, m, rfl, rfl, hk, hH, hHl, hcv, he⟩ := hrel
        obtain ⟨wp, rfl⟩ : ∃ y : World, y = wr := ⟨_, rfl⟩
        have e0 : Ext w0 wp := Ext.trans ‹Ext w0 w› he
        replace hHl := hid hHl
        by_cases hlt2 : k < Mg.length
        · obtain ⟨bx, ox, hdx, hxc⟩ := hX.at (w' := wp) (k := k) (by rw [hXl.out]; exact hlt2)
          cases hdx
          cases hx : nthB Xl k with
          | false =>
            rw [hx] at hxc
            have hx := hid hx
            go_wp2_with fail
            go_roundw
            case rel => exact ⟨k + 1, H, d, m, rfl, by go_num, by omega, hH, hHl.out, hid (hcv.out.skip hx.out), he⟩
            case measure => simp [intOf]; omega
          | true =>
            rw [hx] at hxc
            have hx := hid hx
            go_wp2_with (at_make; refine wpList_makeA rfl _ _ _ rfl elemBool i rfl rfl (by omega) (by omega) rfl (Own.nil wp wp.heap.size) (Nat.le_refl _) ?_; intro gs w3 own3 e3 b3)
            have hS3 : IsBools w3 (.slice (some ⟨gs, 0, none⟩) i i) ((List.range i).map fun _ => false) := by
              have h : Own w3 wp.heap.size [browOf 4 (.slice (some ⟨gs, 0, none⟩) i i) ((List.range i).map fun _ => false)] := by rw [← bA_row]; exact own3
              exact h.readsB (by simp; unfold Short; omega)
            have hfr := hcv.out.free
            have htp := hcv.out.tp
            rw [← nthB_false i] at hfr htp
            have hCa := hid (hTr.out w3 k d (some ⟨gs, 0, none⟩) m i k H ((List.range i).map fun _ => false) (Ext.trans e0 e3) hH.ext hS3 hHl.out (by simp) hlt2 htp hfr)
            rw [nthB_false] at hCa
            clear hfr htp own3
            refine hCa.out.mono ?_
            rintro e w4 ⟨H2, S2, d5, m5, d6, m6, ok, rfl, hH2l, hS2l, iH2, iS2, e5, hy, hn⟩
            have e6 : Ext w w4 := Ext.trans (Ext.trans he e3) e5
            cases ok with
            | false =>
              obtain ⟨rfl, hn2⟩ := hn rfl
              go_wp2_with fail
              go_ret
              exact ⟨false, rfl, ⟨(by intro h; cases h), fun h => absurd h (hcv.out.no hlt2 hx.out hn2)⟩, e6⟩
            | true =>
              have hy2 := hid (hcv.out.yes hx.out (hy rfl))
              go_wp2_with fail
              go_roundw
              case rel => exact ⟨k + 1, H2, d5, m5, rfl, by go_num, by omega, iH2, hH2l, hy2, e6⟩
              case measure => simp [intOf]; omega
        · obtain rfl : k = Mg.length := by omega
          go_wp2_with fail
          go_ret
          exact ⟨true, rfl, ⟨fun _ => hcv.out.all, fun _ => rfl⟩, he⟩
end Go.Proofs.YtllfchcocgdcjaaGreat
