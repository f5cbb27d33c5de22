/- Exchanges between configurations, the program's. -/
import Derived.Test.YtmgcfnciejfpbaaGreatQExT
import Derived.Test.YtmgcfnciejfpbaaGreatQGrF
import Derived.Deep.RegionHeld3
import Derived.Deep.Cut
namespace Go.Proofs.YtmgcfnciejfpbaaGreat
open Go.RowKit

/-- what the program asks of a point q -/
def exQ (P : List (List Int)) (ws a b : List Int) (wi wj p q : Int) : Bool := decide (nth ws (atR P (movL a p q)) + nth ws (atR P (movL b q p)) ≤ wi + wj)
set_option maxHeartbeats 3200000 in
set_option maxRecDepth 100000 in
theorem exch1_any {vx va vb vw : Value} {M : List (List Int)} {ws a b : List Int} {i j k g1 g2 g3 g4 g5 g6 g7 : Nat} {p q : Int} {w0 w : World} [Ext w0 w] (hW : IsWorks w0 vx M (confs M.length k 0)) (hw : IsInts w0 vw ws) (ha : IsInts w0 va a) (hb : IsInts w0 vb b) (hn : M.length ≤ 6) (hk : k ≤ 3)
    (hac : a ∈ confs M.length k 0) (hbc : b ∈ confs M.length k 0) (hpa : p ∈ a) (hqb : q ∈ b) (hi : i < (confs M.length k 0).length) (hj : j < (confs M.length k 0).length) (hlw : ws.length = (confs M.length k 0).length) (hwb : ∀ j, j < (confs M.length k 0).length → 0 ≤ nth ws j ∧ nth ws j ≤ 1000000)
    (c1 : w.cell? ⟨g1, 0, none⟩ = some vw) (c2 : w.cell? ⟨g2, 0, none⟩ = some (.int .i64 i)) (c3 : w.cell? ⟨g3, 0, none⟩ = some (.int .i64 j)) (c4 : w.cell? ⟨g4, 0, none⟩ = some vx) (c5 : w.cell? ⟨g5, 0, none⟩ = some va) (c6 : w.cell? ⟨g6, 0, none⟩ = some (.int .i64 p)) (c7 : w.cell? ⟨g7, 0, none⟩ = some vb) :
    Calls Tryz.prog 153 #[.int .i64 q, .pointer (some ⟨g1, 0, none⟩), .pointer (some ⟨g2, 0, none⟩), .pointer (some ⟨g3, 0, none⟩), .pointer (some ⟨g4, 0, none⟩), .pointer (some ⟨g5, 0, none⟩), .pointer (some ⟨g6, 0, none⟩), .pointer (some ⟨g7, 0, none⟩)] w fun e w' => e = .returned (.bool (exQ (confs M.length k 0) ws a b (nth ws i) (nth ws j) p q)) ∧ Ext w w' := by
  have ha' := ha
  obtain ⟨da, ma, rfl, la⟩ := ha.form
  have hb' := hb
  obtain ⟨db, mb, rfl, lb⟩ := hb.form
  have hw' := hw
  obtain ⟨dw, mw, rfl, lw⟩ := hw.form
  obtain ⟨hak, _, hap0⟩ := confs_iff.1 hac
  obtain ⟨hbk, _, hbp0⟩ := confs_iff.1 hbc
  have hap : Pts M.length a := fun z hz => by have := hap0 z hz; omega
  have hbp : Pts M.length b := fun z hz => by have := hbp0 z hz; omega
  have hpr := hap p hpa
  have hqr := hbp q hqb
  have h216 := confs_216 hn hk
  have hm1 := hid (show movL a p q ∈ confs M.length k 0 by
    obtain ⟨s, hs, e⟩ := mem_iff_nth.1 hpa
    rw [← e, mov_sv hs]
    exact (set_conf hac (by omega) hqr).1)
  have hm2 := hid (show movL b q p ∈ confs M.length k 0 by
    obtain ⟨s, hs, e⟩ := mem_iff_nth.1 hqb
    rw [← e, mov_sv hs]
    exact (set_conf hbc (by omega) hpr).1)
  have hi1 := hid (show ∀ z ∈ movL a p q, I64 z from fun z hz => by
    have := (confs_iff.1 hm1.out).2.2 z hz
    unfold I64; omega)
  have hi2 := hid (show ∀ z ∈ movL b q p, I64 z from fun z hz => by
    have := (confs_iff.1 hm2.out).2.2 z hz
    unfold I64; omega)
  have hqi := hid (show I64 q by unfold I64; omega)
  have hpi := hid (show I64 p by unfold I64; omega)
  have ha3 : a.length ≤ 3 := by omega
  have hb3 : b.length ≤ 3 := by omega
  clear hap0 hbp0 hap hbp hpr hqr
  replace hac := hid hac
  replace hbc := hid hbc
  replace hpa := hid hpa
  replace hqb := hid hqb
  replace hak := hid hak
  replace hbk := hid hbk
  have hasc := hid (confs_asc M.length k 0)
  obtain ⟨P, hPd⟩ : ∃ p, p = confs M.length k 0 := ⟨_, rfl⟩
  rw [← hPd] at hW hlw hwb hi hj hm1 hm2 h216 hasc ⊢
  replace hPd := hid hPd
  have ht1 := (atR_lt hm1.out).1
  have ht2 := (atR_lt hm2.out).1
  have hex := hid (show exQ P ws a b (nth ws i) (nth ws j) p q = decide (nth ws (atR P (movL a p q)) + nth ws (atR P (movL b q p)) ≤ nth ws i + nth ws j) from rfl)
  obtain ⟨RES, hRES⟩ : ∃ r, r = exQ P ws a b (nth ws i) (nth ws j) p q := ⟨_, rfl⟩
  rw [← hRES] at hex ⊢
  replace hRES := hid hRES
  obtain ⟨t1, ht1d⟩ : ∃ z, z = atR P (movL a p q) := ⟨_, rfl⟩
  obtain ⟨t2, ht2d⟩ : ∃ z, z = atR P (movL b q p) := ⟨_, rfl⟩
  rw [← ht1d] at ht1 hex
  rw [← ht2d] at ht2 hex
  have ha1 := hid ht1d.symm
  have ha2 := hid ht2d.symm
  clear ht1d ht2d
  rw [← hlw] at hi hj ht1 ht2
  obtain ⟨bw, ow, hdw, hci⟩ := hw'.at (w' := w) hi
  cases hdw
  obtain ⟨b1, o1, hd1, hcj⟩ := hw'.at (w' := w) hj
  cases hd1
  obtain ⟨b2, o2, hd2, hc1⟩ := hw'.at (w' := w) ht1
  cases hd2
  obtain ⟨b3, o3, hd3, hc2⟩ := hw'.at (w' := w) ht2
  cases hd3
  have q1 := hwb i (by rw [← hlw]; exact hi)
  have q2 := hwb j (by rw [← hlw]; exact hj)
  have q3 := hwb t1 (by rw [← hlw]; exact ht1)
  have q4 := hwb t2 (by rw [← hlw]; exact ht2)
  replace hlw := hid hlw
  replace hwb := hid hwb
  obtain ⟨wi, hwi⟩ : ∃ z, z = nth ws i := ⟨_, rfl⟩
  obtain ⟨wj, hwj⟩ : ∃ z, z = nth ws j := ⟨_, rfl⟩
  obtain ⟨w1, hw1⟩ : ∃ z, z = nth ws t1 := ⟨_, rfl⟩
  obtain ⟨w2, hw2⟩ : ∃ z, z = nth ws t2 := ⟨_, rfl⟩
  rw [← hwi] at hci q1 hex
  rw [← hwj] at hcj q2 hex
  rw [← hw1] at hc1 q3 hex
  rw [← hw2] at hc2 q4 hex
  replace hwi := hid hwi
  replace hwj := hid hwj
  replace hw1 := hid hw1
  replace hw2 := hid hw2
  have hSx := hid (show ∀ u, Ext w u → u.cell? ⟨g1, 0, none⟩ = some (.slice (some ⟨bw, ow, none⟩) ws.length mw) ∧ u.cell? ⟨g2, 0, none⟩ = some (.int .i64 i) ∧ u.cell? ⟨g3, 0, none⟩ = some (.int .i64 j) ∧ u.cell? ⟨g4, 0, none⟩ = some vx ∧ u.cell? ⟨g5, 0, none⟩ = some (.slice da a.length ma) ∧ u.cell? ⟨g6, 0, none⟩ = some (.int .i64 p) ∧ u.cell? ⟨g7, 0, none⟩ = some (.slice db b.length mb) ∧ u.cell? ⟨bw, ow + i, none⟩ = some (.int .i64 wi) ∧ u.cell? ⟨bw, ow + j, none⟩ = some (.int .i64 wj) ∧ u.cell? ⟨bw, ow + t1, none⟩ = some (.int .i64 w1) ∧ u.cell? ⟨bw, ow + t2, none⟩ = some (.int .i64 w2) from fun u e => ⟨e.cell c1, e.cell c2, e.cell c3, e.cell c4, e.cell c5, e.cell c6, e.cell c7, e.cell hci, e.cell hcj, e.cell hc1, e.cell hc2⟩)
  clear c1 c2 c3 c4 c5 c6 c7 hci hcj hc1 hc2
  have hs1 : IntKind.i64.wrap (wi + wj) = wi + wj := IntWalk.i64_in _ (by omega)
  have hs2 : IntKind.i64.wrap (w1 + w2) = w1 + w2 := IntWalk.i64_in _ (by omega)
  go_enter Tryz.func153, Tryz.ntmps153
  go_wp2_with fail
  refine region_held_from (w0 := w) (S := fun u => u.cell? ⟨g1, 0, none⟩ = some (.slice (some ⟨bw, ow, none⟩) ws.length mw) ∧ u.cell? ⟨g2, 0, none⟩ = some (.int .i64 i) ∧ u.cell? ⟨g3, 0, none⟩ = some (.int .i64 j) ∧ u.cell? ⟨g4, 0, none⟩ = some vx ∧ u.cell? ⟨g5, 0, none⟩ = some (.slice da a.length ma) ∧ u.cell? ⟨g6, 0, none⟩ = some (.int .i64 p) ∧ u.cell? ⟨g7, 0, none⟩ = some (.slice db b.length mb) ∧ u.cell? ⟨bw, ow + i, none⟩ = some (.int .i64 wi) ∧ u.cell? ⟨bw, ow + j, none⟩ = some (.int .i64 wj) ∧ u.cell? ⟨bw, ow + t1, none⟩ = some (.int .i64 w1) ∧ u.cell? ⟨bw, ow + t2, none⟩ = some (.int .i64 w2)) (by kernel_rfl) hSx.out (fun wd ed hHeld0 => ?_)
  have e0d : Ext w0 wd := Ext.trans ‹Ext w0 w› ed
  refine wpAnyH_take (i := 0) (v := .slice (some ⟨bw, ow, none⟩) ws.length mw) rfl (by kernel_rfl) (by kernel_rfl) (by kernel_rfl) (fun _ _ _ h => h) (Or.inl ⟨by rfl, by intro wx hx; obtain ⟨_, _, _, _, _, _, _, _, _, _, _⟩ := hx; go_simp⟩) (by assumption) ?_
  try simp only [List.getElem_toArray, List.getElem_cons_zero, Act.put, List.setIfInBounds_toArray, List.set_cons_zero, List.set_cons_succ]
  refine wpAnyH_take (i := 1) (v := .int .i64 i) rfl (by kernel_rfl) (by kernel_rfl) (by kernel_rfl) (fun _ _ _ h => h) (Or.inl ⟨by rfl, by intro wx hx; obtain ⟨_, _, _, _, _, _, _, _, _, _, _⟩ := hx; go_simp⟩) (by assumption) ?_
  try simp only [List.getElem_toArray, List.getElem_cons_succ, List.getElem_cons_zero, Act.put, List.setIfInBounds_toArray, List.set_cons_zero, List.set_cons_succ]
  refine wpAnyH_take (i := 2) (v := .pointer (some ⟨bw, ow + i, none⟩)) rfl (by kernel_rfl) (by kernel_rfl) (by kernel_rfl) (fun _ _ _ h => h) (Or.inl ⟨by rfl, by intro wx hx; go_simp⟩) (by assumption) ?_
  try simp only [List.getElem_toArray, List.getElem_cons_succ, List.getElem_cons_zero, Act.put, List.setIfInBounds_toArray, List.set_cons_zero, List.set_cons_succ]
  refine wpAnyH_take (i := 3) (v := .int .i64 wi) rfl (by kernel_rfl) (by kernel_rfl) (by kernel_rfl) (fun _ _ _ h => h) (Or.inl ⟨by rfl, by intro wx hx; obtain ⟨_, _, _, _, _, _, _, _, _, _, _⟩ := hx; go_simp⟩) (by assumption) ?_
  try simp only [List.getElem_toArray, List.getElem_cons_succ, List.getElem_cons_zero, Act.put, List.setIfInBounds_toArray, List.set_cons_zero, List.set_cons_succ]
  refine wpAnyH_take (i := 4) (v := .slice (some ⟨bw, ow, none⟩) ws.length mw) rfl (by kernel_rfl) (by kernel_rfl) (by kernel_rfl) (fun _ _ _ h => h) (Or.inl ⟨by rfl, by intro wx hx; obtain ⟨_, _, _, _, _, _, _, _, _, _, _⟩ := hx; go_simp⟩) (by assumption) ?_
  try simp only [List.getElem_toArray, List.getElem_cons_succ, List.getElem_cons_zero, Act.put, List.setIfInBounds_toArray, List.set_cons_zero, List.set_cons_succ]
  refine wpAnyH_take (i := 5) (v := .int .i64 j) rfl (by kernel_rfl) (by kernel_rfl) (by kernel_rfl) (fun _ _ _ h => h) (Or.inl ⟨by rfl, by intro wx hx; obtain ⟨_, _, _, _, _, _, _, _, _, _, _⟩ := hx; go_simp⟩) (by assumption) ?_
  try simp only [List.getElem_toArray, List.getElem_cons_succ, List.getElem_cons_zero, Act.put, List.setIfInBounds_toArray, List.set_cons_zero, List.set_cons_succ]
  refine wpAnyH_take (i := 6) (v := .pointer (some ⟨bw, ow + j, none⟩)) rfl (by kernel_rfl) (by kernel_rfl) (by kernel_rfl) (fun _ _ _ h => h) (Or.inl ⟨by rfl, by intro wx hx; go_simp⟩) (by assumption) ?_
  try simp only [List.getElem_toArray, List.getElem_cons_succ, List.getElem_cons_zero, Act.put, List.setIfInBounds_toArray, List.set_cons_zero, List.set_cons_succ]
  refine wpAnyH_take (i := 7) (v := .int .i64 wj) rfl (by kernel_rfl) (by kernel_rfl) (by kernel_rfl) (fun _ _ _ h => h) (Or.inl ⟨by rfl, by intro wx hx; obtain ⟨_, _, _, _, _, _, _, _, _, _, _⟩ := hx; go_simp⟩) (by assumption) ?_
  try simp only [List.getElem_toArray, List.getElem_cons_succ, List.getElem_cons_zero, Act.put, List.setIfInBounds_toArray, List.set_cons_zero, List.set_cons_succ]
  refine wpAnyH_take (i := 8) (v := .int .i64 (wi + wj)) rfl (by kernel_rfl) (by kernel_rfl) (by kernel_rfl) (fun _ _ _ h => h) (Or.inl ⟨by rfl, by intro wx hx; go_simp⟩) (by assumption) ?_
  try simp only [List.getElem_toArray, List.getElem_cons_succ, List.getElem_cons_zero, Act.put, List.setIfInBounds_toArray, List.set_cons_zero, List.set_cons_succ]
  refine wpAnyH_take (i := 9) (v := .slice (some ⟨bw, ow, none⟩) ws.length mw) rfl (by kernel_rfl) (by kernel_rfl) (by kernel_rfl) (fun _ _ _ h => h) (Or.inl ⟨by rfl, by intro wx hx; obtain ⟨_, _, _, _, _, _, _, _, _, _, _⟩ := hx; go_simp⟩) (by assumption) ?_
  try simp only [List.getElem_toArray, List.getElem_cons_succ, List.getElem_cons_zero, Act.put, List.setIfInBounds_toArray, List.set_cons_zero, List.set_cons_succ]
  refine wpAnyH_take (i := 10) (v := vx) rfl (by kernel_rfl) (by kernel_rfl) (by kernel_rfl) (fun _ _ _ h => h) (Or.inl ⟨by rfl, by intro wx hx; obtain ⟨_, _, _, _, _, _, _, _, _, _, _⟩ := hx; go_simp⟩) (by assumption) ?_
  try simp only [List.getElem_toArray, List.getElem_cons_succ, List.getElem_cons_zero, Act.put, List.setIfInBounds_toArray, List.set_cons_zero, List.set_cons_succ]
  refine wpAnyH_take (i := 11) (v := .slice da a.length ma) rfl (by kernel_rfl) (by kernel_rfl) (by kernel_rfl) (fun _ _ _ h => h) (Or.inl ⟨by rfl, by intro wx hx; obtain ⟨_, _, _, _, _, _, _, _, _, _, _⟩ := hx; go_simp⟩) (by assumption) ?_
  try simp only [List.getElem_toArray, List.getElem_cons_succ, List.getElem_cons_zero, Act.put, List.setIfInBounds_toArray, List.set_cons_zero, List.set_cons_succ]
  refine wpAnyH_take (i := 12) (v := .int .i64 p) rfl (by kernel_rfl) (by kernel_rfl) (by kernel_rfl) (fun _ _ _ h => h) (Or.inl ⟨by rfl, by intro wx hx; obtain ⟨_, _, _, _, _, _, _, _, _, _, _⟩ := hx; go_simp⟩) (by assumption) ?_
  try simp only [List.getElem_toArray, List.getElem_cons_succ, List.getElem_cons_zero, Act.put, List.setIfInBounds_toArray, List.set_cons_zero, List.set_cons_succ]
  refine wpAnyH_take (i := 13) (v := .int .i64 q) rfl (by kernel_rfl) (by kernel_rfl) (by kernel_rfl) (fun _ _ _ h => h) (Or.inl ⟨by rfl, by intro wx hx; go_simp⟩) (by assumption) ?_
  try simp only [List.getElem_toArray, List.getElem_cons_succ, List.getElem_cons_zero, Act.put, List.setIfInBounds_toArray, List.set_cons_zero, List.set_cons_succ]
  refine wpAnyH_take (i := 18) (v := .slice (some ⟨bw, ow, none⟩) ws.length mw) rfl (by kernel_rfl) (by kernel_rfl) (by kernel_rfl) (fun _ _ _ h => h) (Or.inl ⟨by rfl, by intro wx hx; obtain ⟨_, _, _, _, _, _, _, _, _, _, _⟩ := hx; go_simp⟩) (by assumption) ?_
  try simp only [List.getElem_toArray, List.getElem_cons_succ, List.getElem_cons_zero, Act.put, List.setIfInBounds_toArray, List.set_cons_zero, List.set_cons_succ]
  refine wpAnyH_take (i := 19) (v := vx) rfl (by kernel_rfl) (by kernel_rfl) (by kernel_rfl) (fun _ _ _ h => h) (Or.inl ⟨by rfl, by intro wx hx; obtain ⟨_, _, _, _, _, _, _, _, _, _, _⟩ := hx; go_simp⟩) (by assumption) ?_
  try simp only [List.getElem_toArray, List.getElem_cons_succ, List.getElem_cons_zero, Act.put, List.setIfInBounds_toArray, List.set_cons_zero, List.set_cons_succ]
  refine wpAnyH_take (i := 20) (v := .slice db b.length mb) rfl (by kernel_rfl) (by kernel_rfl) (by kernel_rfl) (fun _ _ _ h => h) (Or.inl ⟨by rfl, by intro wx hx; obtain ⟨_, _, _, _, _, _, _, _, _, _, _⟩ := hx; go_simp⟩) (by assumption) ?_
  try simp only [List.getElem_toArray, List.getElem_cons_succ, List.getElem_cons_zero, Act.put, List.setIfInBounds_toArray, List.set_cons_zero, List.set_cons_succ]
  refine wpAnyH_take (i := 21) (v := .int .i64 q) rfl (by kernel_rfl) (by kernel_rfl) (by kernel_rfl) (fun _ _ _ h => h) (Or.inl ⟨by rfl, by intro wx hx; go_simp⟩) (by assumption) ?_
  try simp only [List.getElem_toArray, List.getElem_cons_succ, List.getElem_cons_zero, Act.put, List.setIfInBounds_toArray, List.set_cons_zero, List.set_cons_succ]
  refine wpAnyH_take (i := 22) (v := .int .i64 p) rfl (by kernel_rfl) (by kernel_rfl) (by kernel_rfl) (fun _ _ _ h => h) (Or.inl ⟨by rfl, by intro wx hx; obtain ⟨_, _, _, _, _, _, _, _, _, _, _⟩ := hx; go_simp⟩) (by assumption) ?_
  try simp only [List.getElem_toArray, List.getElem_cons_succ, List.getElem_cons_zero, Act.put, List.setIfInBounds_toArray, List.set_cons_zero, List.set_cons_succ]
  refine wpAnyH_ready (rs := [14]) (by kernel_rfl) (by simp) ?_
  refine AllReadyH.cons rfl (fun K hK => ?_) AllReadyH.nil
  go_simp
  go_at_call 100
  refine (moved_any (w0 := w0) ha' hpa.out hqi.out).mono ?_
  rintro e v5 ⟨d5, m5, rfl, own5, e5⟩
  have e5q : Ext w v5 := Ext.trans ed e5
  have hU : IsInts v5 (.slice d5 a.length m5) (movL a p q) := own5.reads (by unfold Short; rw [movL_len]; omega) hi1.out
  clear own5
  have hS5 := hSx.out v5 e5q
  go_wp2_with fail
  refine hK.out _ _ hS5 (fun _ => ?_)
  clear hK K
  try simp only [List.getElem_toArray, List.getElem_cons_succ, List.getElem_cons_zero, Act.put, List.setIfInBounds_toArray, List.set_cons_zero, List.set_cons_succ]
  refine wpAnyH_ready (rs := [15]) (by kernel_rfl) (by simp) ?_
  refine AllReadyH.cons rfl (fun K hK => ?_) AllReadyH.nil
  go_simp
  go_at_call 79
  have e05 : Ext w0 v5 := Ext.trans ‹Ext w0 w› e5q
  refine (index_any (w0 := v5) (w := v5) (hW.ext (e := e05)) hU hasc.out hm1.out (by omega)).mono ?_
  rw [ha1.out]
  rintro e v6 ⟨rfl, rfl⟩
  go_wp2_with fail
  refine hK.out _ _ hS5 (fun _ => ?_)
  clear hK K
  try simp only [List.getElem_toArray, List.getElem_cons_succ, List.getElem_cons_zero, Act.put, List.setIfInBounds_toArray, List.set_cons_zero, List.set_cons_succ]
  refine wpAnyH_take (i := 16) (v := .pointer (some ⟨bw, ow + t1, none⟩)) rfl (by kernel_rfl) (by kernel_rfl) (by kernel_rfl) (fun _ _ _ h => h) (Or.inl ⟨by rfl, by intro wx hx; go_simp⟩) (by assumption) ?_
  try simp only [List.getElem_toArray, List.getElem_cons_succ, List.getElem_cons_zero, Act.put, List.setIfInBounds_toArray, List.set_cons_zero, List.set_cons_succ]
  refine wpAnyH_take (i := 17) (v := .int .i64 w1) rfl (by kernel_rfl) (by kernel_rfl) (by kernel_rfl) (fun _ _ _ h => h) (Or.inl ⟨by rfl, by intro wx hx; obtain ⟨_, _, _, _, _, _, _, _, _, _, _⟩ := hx; go_simp⟩) (by assumption) ?_
  try simp only [List.getElem_toArray, List.getElem_cons_succ, List.getElem_cons_zero, Act.put, List.setIfInBounds_toArray, List.set_cons_zero, List.set_cons_succ]
  refine wpAnyH_ready (rs := [23]) (by kernel_rfl) (by simp) ?_
  refine AllReadyH.cons rfl (fun K hK => ?_) AllReadyH.nil
  go_simp
  go_at_call 100
  refine (moved_any (w0 := w0) hb' hqb.out hpi.out).mono ?_
  rintro e v7 ⟨d7, m7, rfl, own7, e7⟩
  have e7q : Ext w v7 := Ext.trans e5q e7
  have hU7 : IsInts v7 (.slice d7 b.length m7) (movL b q p) := own7.reads (by unfold Short; rw [movL_len]; omega) hi2.out
  clear own7
  have hS7 := hSx.out v7 e7q
  go_wp2_with fail
  refine hK.out _ _ hS7 (fun _ => ?_)
  clear hK K
  try simp only [List.getElem_toArray, List.getElem_cons_succ, List.getElem_cons_zero, Act.put, List.setIfInBounds_toArray, List.set_cons_zero, List.set_cons_succ]
  refine wpAnyH_ready (rs := [24]) (by kernel_rfl) (by simp) ?_
  refine AllReadyH.cons rfl (fun K hK => ?_) AllReadyH.nil
  go_simp
  go_at_call 79
  have e07 : Ext w0 v7 := Ext.trans ‹Ext w0 w› e7q
  refine (index_any (w0 := v7) (w := v7) (hW.ext (e := e07)) hU7 hasc.out hm2.out (by omega)).mono ?_
  rw [ha2.out]
  rintro e v8 ⟨rfl, rfl⟩
  go_wp2_with fail
  refine hK.out _ _ hS7 (fun _ => ?_)
  clear hK K
  try simp only [List.getElem_toArray, List.getElem_cons_succ, List.getElem_cons_zero, Act.put, List.setIfInBounds_toArray, List.set_cons_zero, List.set_cons_succ]
  refine wpAnyH_take (i := 25) (v := .pointer (some ⟨bw, ow + t2, none⟩)) rfl (by kernel_rfl) (by kernel_rfl) (by kernel_rfl) (fun _ _ _ h => h) (Or.inl ⟨by rfl, by intro wx hx; go_simp⟩) (by assumption) ?_
  try simp only [List.getElem_toArray, List.getElem_cons_succ, List.getElem_cons_zero, Act.put, List.setIfInBounds_toArray, List.set_cons_zero, List.set_cons_succ]
  refine wpAnyH_take (i := 26) (v := .int .i64 w2) rfl (by kernel_rfl) (by kernel_rfl) (by kernel_rfl) (fun _ _ _ h => h) (Or.inl ⟨by rfl, by intro wx hx; obtain ⟨_, _, _, _, _, _, _, _, _, _, _⟩ := hx; go_simp⟩) (by assumption) ?_
  try simp only [List.getElem_toArray, List.getElem_cons_succ, List.getElem_cons_zero, Act.put, List.setIfInBounds_toArray, List.set_cons_zero, List.set_cons_succ]
  refine wpAnyH_take (i := 27) (v := .int .i64 (w1 + w2)) rfl (by kernel_rfl) (by kernel_rfl) (by kernel_rfl) (fun _ _ _ h => h) (Or.inl ⟨by rfl, by intro wx hx; go_simp⟩) (by assumption) ?_
  try simp only [List.getElem_toArray, List.getElem_cons_succ, List.getElem_cons_zero, Act.put, List.setIfInBounds_toArray, List.set_cons_zero, List.set_cons_succ]
  refine wpAnyH_take (i := 28) (v := .bool (decide (w1 + w2 ≤ wi + wj))) rfl (by kernel_rfl) (by kernel_rfl) (by kernel_rfl) (fun _ _ _ h => h) (Or.inl ⟨by rfl, by intro wx hx; go_simp⟩) (by assumption) ?_
  try simp only [List.getElem_toArray, List.getElem_cons_succ, List.getElem_cons_zero, Act.put, List.setIfInBounds_toArray, List.set_cons_zero, List.set_cons_succ]
  refine wpAnyH_take (i := 29) (v := .bool (decide (w1 + w2 ≤ wi + wj))) rfl (by kernel_rfl) (by kernel_rfl) (by kernel_rfl) (fun _ _ _ h => h) (Or.inl ⟨by rfl, by intro wx hx; go_simp⟩) (by assumption) ?_
  try simp only [List.getElem_toArray, List.getElem_cons_succ, List.getElem_cons_zero, Act.put, List.setIfInBounds_toArray, List.set_cons_zero, List.set_cons_succ]
  refine wpAnyH_done (by kernel_rfl) ?_ _
  go_wp2_with fail
  go_ret
  exact ⟨ret_bool hex.out.symm, e7q⟩
theorem exch1_call (xa : Array Value) (W : World) : (callFunc 153 xa).run Tryz.prog W = .ok (.enter 153 xa) W := by kernel_rfl
theorem exQ_any {P : List (List Int)} {ws : List Int} {i j s : Nat} (hi : i < P.length) (hj : j < P.length) (hs : s < (row P i).length) (hat : ∀ q, q < P.length → atR P (row P q) = q) : (row P j).any (exQ P ws (row P i) (row P j) (nth ws i) (nth ws j) (nth (row P i) s)) = exOk P ws (row P i) (row P j) s := by
  rw [Bool.eq_iff_iff, List.any_eq_true]
  simp only [exOk, exQ, decide_eq_true_eq, exS, hat i hi, hat j hj]
  constructor
  · rintro ⟨q, hq, h⟩
    obtain ⟨t, ht, rfl⟩ := mem_iff_nth.1 hq
    refine ⟨t, ht, ?_⟩
    rw [mov_sv hs, mov_sv ht] at h
    exact h
  · rintro ⟨t, ht, h⟩
    refine ⟨nth (row P j) t, nth_mem ht, ?_⟩
    rw [mov_sv hs, mov_sv ht]
    exact h
set_option maxHeartbeats 3200000 in
set_option maxRecDepth 100000 in
theorem exchanges_any {v vw : Value} {M : List (List Int)} {ws : List Int} {k i j s : Nat} {w0 w : World} [Ext w0 w] (hW : IsWorks w0 v M (confs M.length k 0)) (hw : IsInts w0 vw ws) (hn : M.length ≤ 6) (hk : k ≤ 3) (hi : i < (confs M.length k 0).length) (hj : j < (confs M.length k 0).length) (hs : s < k) (hlw : ws.length = (confs M.length k 0).length) (hwb : ∀ j, j < (confs M.length k 0).length → 0 ≤ nth ws j ∧ nth ws j ≤ 1000000) :
    Calls Tryz.prog 115 #[v, vw, .int .i64 i, .int .i64 j, .int .i64 (nth (row (confs M.length k 0) i) s)] w fun e w' => e = .returned (.bool (exOk (confs M.length k 0) ws (row (confs M.length k 0) i) (row (confs M.length k 0) j) s)) ∧ Ext w w' := by
  have hW' := hW
  obtain ⟨bx, mv, pv, cv, rfl, h0, h1, h2, hR, hP, hCs⟩ := hW
  clear h0 h2 hR hCs
  have hw' := hw
  obtain ⟨dw, mw, rfl, lw⟩ := hw.form
  have hik := (row_conf hi).1
  have hpa := hid (show nth (row (confs M.length k 0) i) s ∈ row (confs M.length k 0) i from nth_mem (by omega))
  have hac := hid (row_mem hi)
  have hbc := hid (row_mem hj)
  have hres := hid (exQ_any (ws := ws) hi hj (show s < (row (confs M.length k 0) i).length by omega) (fun q hq => atR_row hq))
  have hwb' := hid hwb
  have hlw' := hid hlw
  clear hwb hlw
  replace hik := hid hik
  obtain ⟨P, hPd⟩ : ∃ p, p = confs M.length k 0 := ⟨_, rfl⟩
  rw [← hPd] at hP hpa hac hbc hres hi hj ⊢
  have hiP := hid hi
  have hjP := hid hj
  replace hPd := hid hPd
  obtain ⟨aP, cP, rfl, lP⟩ := hP.form
  obtain ⟨bP, oP, d1, m1, hdP, hc1, hi1, _⟩ := hP.at (w' := w0) hi
  cases hdP
  obtain ⟨bP2, oP2, d2, m2, hdP2, hc2, hi2, _⟩ := hP.at (w' := w0) hj
  cases hdP2
  obtain ⟨p, hp⟩ : ∃ z, z = nth (row P i) s := ⟨_, rfl⟩
  rw [← hp] at hpa hres ⊢
  replace hp := hid hp
  obtain ⟨a, had⟩ : ∃ z, z = row P i := ⟨_, rfl⟩
  obtain ⟨b, hbd⟩ : ∃ z, z = row P j := ⟨_, rfl⟩
  rw [← had] at hc1 hi1 hac hpa hres ⊢
  rw [← hbd] at hc2 hi2 hbc hres ⊢
  replace had := hid had
  replace hbd := hid hbd
  obtain ⟨W, hWd⟩ : ∃ x, x = ((((w.alloc (.cells #[.pointer (some ⟨bx, 0, none⟩)] 73)).alloc (.cells #[.slice dw ws.length mw] 27)).alloc (.cells #[.int .i64 i] 3)).alloc (.cells #[.int .i64 j] 3)).alloc (.cells #[.int .i64 p] 3) := ⟨_, rfl⟩
  have eW : Ext w W := by rw [hWd]; infer_instance
  have k0 : W.cell? ⟨w.heap.size, 0, none⟩ = some (.pointer (some ⟨bx, 0, none⟩)) := by rw [hWd]; go_simp
  have k1 : W.cell? ⟨w.heap.size + 1, 0, none⟩ = some (.slice dw ws.length mw) := by rw [hWd]; go_simp
  have k2 : W.cell? ⟨w.heap.size + 1 + 1, 0, none⟩ = some (.int .i64 i) := by rw [hWd]; go_simp
  have k3 : W.cell? ⟨w.heap.size + 1 + 1 + 1, 0, none⟩ = some (.int .i64 j) := by rw [hWd]; go_simp
  have k4 : W.cell? ⟨w.heap.size + 1 + 1 + 1 + 1, 0, none⟩ = some (.int .i64 p) := by rw [hWd]; go_simp
  have e0W : Ext w0 W := Ext.trans ‹Ext w0 w› eW
  go_enter Tryz.func115, Tryz.ntmps115
  go_upto_region 1 with fail
  rw [← hWd]
  generalize w.heap.size + 1 + 1 + 1 + 1 = g6 at *
  generalize w.heap.size + 1 + 1 + 1 = g3 at *
  generalize w.heap.size + 1 + 1 = g2 at *
  generalize w.heap.size + 1 = g1 at *
  generalize w.heap.size = g4 at *
  clear hWd
  go_cut [11, 12] (fun q1 q2 wx => ∃ g5 g7, q1 = .pointer (some ⟨g5, 0, none⟩) ∧ q2 = .pointer (some ⟨g7, 0, none⟩) ∧ wx.cell? ⟨g5, 0, none⟩ = some (.slice d1 a.length m1) ∧ wx.cell? ⟨g7, 0, none⟩ = some (.slice d2 b.length m2) ∧ Ext W wx)
  case first =>
    have y1 := e0W.cell h1
    have y2 := e0W.cell hc1
    have y3 := e0W.cell hc2
    have hSx := hid (show ∀ u, Ext W u → Ext W u ∧ u.cell? ⟨g4, 0, none⟩ = some (.pointer (some ⟨bx, 0, none⟩)) ∧ u.cell? ⟨bx, 1, none⟩ = some (.slice (some ⟨bP, oP, none⟩) P.length cP) ∧ u.cell? ⟨g2, 0, none⟩ = some (.int .i64 i) ∧ u.cell? ⟨g3, 0, none⟩ = some (.int .i64 j) ∧ u.cell? ⟨bP, oP + i, none⟩ = some (.slice d1 a.length m1) ∧ u.cell? ⟨bP, oP + j, none⟩ = some (.slice d2 b.length m2) from fun u e => ⟨e, e.cell k0, e.cell y1, e.cell k2, e.cell k3, e.cell y2, e.cell y3⟩)
    go_region_held3 (fun w' => Ext W w' ∧ w'.cell? ⟨g4, 0, none⟩ = some (.pointer (some ⟨bx, 0, none⟩)) ∧ w'.cell? ⟨bx, 1, none⟩ = some (.slice (some ⟨bP, oP, none⟩) P.length cP) ∧ w'.cell? ⟨g2, 0, none⟩ = some (.int .i64 i) ∧ w'.cell? ⟨g3, 0, none⟩ = some (.int .i64 j) ∧ w'.cell? ⟨bP, oP + i, none⟩ = some (.slice d1 a.length m1) ∧ w'.cell? ⟨bP, oP + j, none⟩ = some (.slice d2 b.length m2))
      ((refine hSx.out _ ?_; (first | infer_instance | (refine Ext.set ?_ _; simp) | (refine Ext.set ?_ _; simp; omega) | (refine @Ext.set _ _ (@Ext.set _ _ inferInstance _ ?_ _) _ ?_ _ <;> simp)))) (fail)
    all_goals
      go_wp2_with fail
      go_meet
      exact ⟨_, _, rfl, rfl, by go_simp, by go_simp, inferInstance⟩
  case rest =>
    obtain ⟨g5, g7, rfl, rfl, k5, k7, ecut⟩ := hcut
    have z1 := ecut.cell k1
    have z2 := ecut.cell k2
    have z3 := ecut.cell k3
    have z4 := ecut.cell k0
    have z6 := ecut.cell k4
    have e0c : Ext w0 wc := Ext.trans e0W ecut
    have hall := hid (show ∀ (U : World), Ext wc U → ∀ t, t < b.length → Calls Tryz.prog 153 (#[.int .i64 (nth b t)] ++ #[.pointer (some ⟨g1, 0, none⟩), .pointer (some ⟨g2, 0, none⟩), .pointer (some ⟨g3, 0, none⟩), .pointer (some ⟨g4, 0, none⟩), .pointer (some ⟨g5, 0, none⟩), .pointer (some ⟨g6, 0, none⟩), .pointer (some ⟨g7, 0, none⟩)]) U fun e w' => e = .returned (.bool (exQ P ws a b (nth ws i) (nth ws j) p (nth b t))) ∧ Ext U w' from fun U eU t ht => by
      have e0U : Ext w0 U := Ext.trans e0c eU
      rw [hPd.out]
      exact exch1_any (w0 := w0) (k := k) hW' hw' hi1 hi2 hn hk (by rw [← hPd.out]; exact hac.out) (by rw [← hPd.out]; exact hbc.out) hpa.out (nth_mem ht) (by rw [← hPd.out]; exact hiP.out) (by rw [← hPd.out]; exact hjP.out) hlw'.out hwb'.out (eU.cell z1) (eU.cell z2) (eU.cell z3) (eU.cell z4) (eU.cell k5) (eU.cell z6) (eU.cell k7))
    have hbI := hi2.ext (w' := wc)
    clear z1 z2 z3 z4 z6 k0 k1 k2 k3 k4
    go_wp2_with fail
    refine (containsFuncInts_any (w0 := wc) (w := wc) hbI _ _ (exQ P ws a b (nth ws i) (nth ws j) p) exch1_call hall.out).mono ?_
    rw [hres.out]
    rintro e w9 ⟨rfl, e9⟩
    go_wp2_with fail
    go_ret
    exact ⟨rfl, Ext.trans eW (Ext.trans ecut e9)⟩
end Go.Proofs.YtmgcfnciejfpbaaGreat
