/- The program's spanning tree, walked. -/
import Derived.Test.YtnlbjbnjjkilhaaTiC
namespace Go.Proofs.Ytnlbjbnjjkilhaa
open Go.RowKit

theorem flat_some {w : World} {B e z l m : Nat} {d : Option Addr} {cs : List Value} {R : List Row} (h : Own w B (⟨e, z, .slice d l m, l, cs⟩ :: R)) (hl : 0 < l) : ∃ g, d = some ⟨g, 0, none⟩ := by
  rcases h.head.2 with ⟨_, h2⟩ | ⟨g, cap, cur, hv, _⟩
  · have h2' : l = 0 := h2
    omega
  · cases hv
    exact ⟨g, rfl⟩
theorem prs_len {n : Nat} (h : n ≤ 6) : (prs n).length ≤ 15 := by
  have : n = 0 ∨ n = 1 ∨ n = 2 ∨ n = 3 ∨ n = 4 ∨ n = 5 ∨ n = 6 := by omega
  rcases this with rfl | rfl | rfl | rfl | rfl | rfl | rfl <;> decide
/-- the pairs of the points ahead of x -/
def pA (n x : Nat) : List (Nat × Nat) := (List.range x).flatMap (prsF n)
theorem pA_succ (n x : Nat) : pA n (x + 1) = pA n x ++ prC x (n - (x + 1)) := by
  unfold pA
  rw [List.range_succ, List.flatMap_append, List.flatMap_singleton, prsF_eq]
theorem pC_succ (n x j : Nat) : pA n x ++ prC x (j + 1) = (pA n x ++ prC x j) ++ [(x, x + 1 + j)] := by rw [prC_succ, List.append_assoc]
set_option maxHeartbeats 3200000 in
set_option maxRecDepth 100000 in
theorem spanningTree_any {v : Value} {M : List (List Int)} {w0 w : World} [Ext w0 w] (hm : IsMet w0 v M) (hM : metB M = true) :
    Calls Try.prog 33 #[v] w fun e w' => ∃ d m T, e = .returned (.slice d (T : List (Nat × Nat)).length m) ∧ Kr (edL (cell M) M.length) T ∧
      Own w' w.heap.size [flatRowOf 46 2 (.slice d T.length m) (edR T)] ∧ Ext w w' := by
  have hml := met_len hM
  have hEn := hid (show ∀ e, e ∈ prs M.length → e.1 < M.length ∧ e.2 < M.length from fun e he => by have := (mem_prs (u := e.1) (v := e.2)).1 he; omega)
  have hpl := hid (prs_len hml.2)
  have hUq := hid (fun (G : List (Nat × Nat)) (h1 : G.Pairwise fun a b => cell M a.1 a.2 ≤ cell M b.1 b.2) (h2 : ∀ d : Int, (G.filter fun e => decide (cell M e.1 e.2 = d)) = (prs M.length).filter fun e => decide (cell M e.1 e.2 = d)) (h3 : ∀ e, e ∈ G ↔ e ∈ prs M.length) => show G = edL (cell M) M.length from
    edL_uniq h1 h2 fun a ha => by
      have := (mem_prs (u := a.1) (v := a.2)).1 ((h3 a).1 ha)
      exact tr_pos hM (by omega) this.2 (by omega))
  obtain ⟨v1, rfl, hR⟩ := hm
  obtain ⟨a1, c1, rfl, l1⟩ := hR.form
  have hCm := hid (fun (bm : Nat) (u : World) (eu : Ext w0 u) (hb : u.cell? ⟨bm, 0, none⟩ = some (.slice a1 M.length c1)) (p q : Nat × Nat) (hp : p.1 < M.length ∧ p.2 < M.length) (hq : q.1 < M.length ∧ q.2 < M.length) => @cmp1_any a1 c1 bm M p q w0 u eu hM hR hb hp hq)
  obtain ⟨n, hn⟩ : ∃ n, n = M.length := ⟨_, rfl⟩
  obtain ⟨D, hD⟩ : ∃ D, D = cell M := ⟨_, rfl⟩
  rw [← hn] at hml hEn hpl hR l1 hCm hUq ⊢
  rw [← hD] at hCm hUq ⊢
  generalize hEE : edL D n = E at *
  replace hn := hid hn
  replace hD := hid hD
  replace hEE := hid hEE
  go_enter Try.func33, Try.ntmps33
  go_upto_region 1 with fail
  have ea : Ext w (w.alloc (.cells #[.slice a1 n c1] 29)) := inferInstance
  have qa : (w.alloc (.cells #[.slice a1 n c1] 29)).cell? ⟨w.heap.size, 0, none⟩ = some (.slice a1 n c1) := by go_simp
  have sa : (w.alloc (.cells #[.slice a1 n c1] 29)).heap.size = w.heap.size + 1 := by simp
  generalize w.alloc (.cells #[.slice a1 n c1] 29) = wa at *
  replace sa := hid sa
  have ownb : Own (wa.alloc (.cells #[] 46)) wa.heap.size [flatRowOf 46 2 (.slice (some ⟨wa.heap.size, 0, none⟩) 0 0) (edR (pA n 0))] :=
    (Own.nil wa wa.heap.size).lit 46 2 0 #[] (Nat.le_refl _) (by unfold maxLen; omega) rfl
  have eb : Ext wa (wa.alloc (.cells #[] 46)) := inferInstance
  have hB2 : wa.heap.size ≤ (wa.alloc (.cells #[] 46)).heap.size := eb.size
  go_upto_region 2 with fail
  obtain ⟨B, hB⟩ : ∃ B, B = wa.heap.size := ⟨_, rfl⟩
  rw [← hB] at ownb hB2 ⊢
  have hqB : w.heap.size < B := by have := sa.out; omega
  replace hB := hid hB
  have ew2 : Ext w (wa.alloc (.cells #[] 46)) := Ext.trans ea eb
  have e02 : Ext w0 (wa.alloc (.cells #[] 46)) := Ext.trans ‹Ext w0 w› ew2
  have q2 := eb.cell qa
  clear ea qa eb
  generalize wa.alloc (.cells #[] 46) = w2 at *
  have hlw : w.heap.size ≤ B := by omega
  have hE2 := hid (show ∀ u, Below B w2 u → Ext w u from fun u h => ⟨ew2.below.trans (h.mono hlw)⟩)
  have hE0 := hid (show ∀ u, Below B w2 u → Ext w0 u from fun u h => ⟨e02.below.trans (h.mono (Nat.le_trans (‹Ext w0 w›).size hlw))⟩)
  have hq := hid (show ∀ u, Below B w2 u → u.cell? ⟨w.heap.size, 0, none⟩ = some (.slice a1 n c1) from fun u h => (h.cell (p := ⟨w.heap.size, 0, none⟩) hqB).trans q2)
  clear e02
  go_upto_region 3 with fail
  clear q2
  go_loopw [3, 13] (fun ov xv wr => ∃ (x g l m : Nat), ov = .slice (some ⟨g, 0, none⟩) l m ∧ xv = .int .i64 x ∧ x ≤ n ∧ l ≤ x * 10 ∧ Hid (l = (pA n x).length) ∧ Own wr B [flatRowOf 46 2 (.slice (some ⟨g, 0, none⟩) l m) (edR (pA n x))] ∧ Below B w2 wr) (fun _ xv _ => n - (intOf xv).toNat)
  case atStart => exact ⟨0, _, _, _, rfl, rfl, by omega, by omega, hid rfl, ownb, Below.refl _ _⟩
  case round =>
    clear ownb
    obtain ⟨x, g, l, m, rfl, rfl, hx, hlk, hl, hown, hb⟩ := hrel
    obtain ⟨wo, rfl⟩ : ∃ y : World, y = wr := ⟨_, rfl⟩
    have hqo := hq.out wo hb
    by_cases hxl : x < n
    · have hC0 : pA n x = pA n x ++ prC x 0 := by simp [prC]
      rw [hC0] at hl hown
      clear hC0
      go_upto_region 6 with fail
      go_loopw [3, 5] (fun ov yv wr => ∃ (y j g l m : Nat), ov = .slice (some ⟨g, 0, none⟩) l m ∧ yv = .int .i64 y ∧ Hid (y = x + 1 + j) ∧ y ≤ n ∧ l ≤ x * 10 + j ∧ Hid (l = (pA n x ++ prC x j).length) ∧ Own wr B [flatRowOf 46 2 (.slice (some ⟨g, 0, none⟩) l m) (edR (pA n x ++ prC x j))] ∧ Below B w2 wr) (fun _ yv _ => n - (intOf yv).toNat)
      case atStart => exact ⟨x + 1, 0, _, _, _, rfl, by go_num, hid rfl, by omega, by omega, hl, hown, hb⟩
      case round =>
        clear hown hb hl hlk hqo
        obtain ⟨y, j, g, l, m, rfl, rfl, hy, hj, hlk, hl, hown, hb⟩ := hrel
        obtain ⟨wo, rfl⟩ : ∃ y : World, y = wr := ⟨_, rfl⟩
        have hqo := hq.out wo hb
        by_cases hyl : y < n
        · have hBo := Nat.le_trans hB2 hb.size
          have hl16 : l ≤ 100000 := by have := hy.out; omega
          have hin := hid (pC_succ n x j)
          have ownA := edges_row hown hl.out
          go_wp2_with (at_builtin; refine wpList_append1z rfl _ _ _ rfl elemPair rfl ownA hBo (us := [.int .i64 (x : Int), .int .i64 (y : Int)]) rfl rfl (by intro u hu; simp at hu; rcases hu with rfl | rfl <;> rfl) (by omega) (by omega) ?_; intro v1 w5 ho hb5; obtain ⟨vd, vm, hv1⟩ := ho.form; (obtain rfl : v1 = .slice vd (l + 1) vm := hv1); obtain ⟨vg, hvg⟩ := flat_some ho (Nat.succ_pos l); cases hvg)
          have own5 := edges_snoc ho hl.out
          rw [hy.out, ← hin.out] at own5
          go_roundw
          case rel => exact ⟨y + 1, j + 1, vg, l + 1, vm, rfl, by go_num, hid (by rw [hy.out]; omega), by omega, by omega, hid (by rw [hin.out, List.length_append, ← hl.out]; rfl), own5, hb.trans hb5⟩
          case measure => simp [intOf]; omega
        · have hjn : j = n - (x + 1) := by have := hy.out; omega
          have hA := hid (show pA n x ++ prC x j = pA n (x + 1) by rw [hjn, ← pA_succ])
          rw [hA.out] at hl hown
          replace hjn := hid hjn
          go_wp2_with fail
          go_roundw
          case rel => exact ⟨x + 1, g, l, m, rfl, by go_num, by omega, by have := hjn.out; omega, hl, hown, hb⟩
          case measure => simp [intOf]; omega
    · have hxn : x = n := by omega
      have hP := hid (show pA n x = prs n by rw [hxn]; rfl)
      rw [hP.out] at hl hown
      have hl20 : l < 20 := by have := hl.out; have := hpl.out; omega
      replace hxn := hid hxn
      have hBo := Nat.le_trans hB2 hb.size
      have hSt := hid (@sortStable_any g l m 54 B #[.pointer (some ⟨w.heap.size, 0, none⟩)] D (prs n) wo hl.out hl20 hown hBo cmp1_call (fun W hW p q hp hq' => (hCm.out w.heap.size W (hE0.out W (hb.trans hW)) (hq.out W (hb.trans hW)) p q (hEn.out p hp) (hEn.out q hq'))) (fun e he => by have := hEn.out e he; omega))
      have hbo := hid hb
      clear hown hb hlk
      go_wp2_with fail
      with_reducible refine hSt.out.mono ?_
      rintro e w3 ⟨rfl, G, g1, g2, g3, g4, own3, b3⟩
      have hG := hUq.out G g1 g2 g3
      subst hG
      have hb3 := hbo.out.trans b3
      have hlE := hid (show l = G.length by rw [g4]; exact hl.out)
      have hGn := hid (show ∀ e, e ∈ G → e.1 < n ∧ e.2 < n from fun e he => hEn.out e ((g3 e).1 he))
      clear g1 g2 g3 g4 hSt b3 hbo hqo
      have hB3 := Nat.le_trans hB2 hb3.size
      go_upto_region 12 with fail
      have own4 : Own (w3.alloc (.cells #[] 46)) B (flatRowOf 46 2 (.slice (some ⟨w3.heap.size, 0, none⟩) 0 0) (edR []) :: [flatRowOf 46 2 (.slice (some ⟨g, 0, none⟩) l m) (edR G)]) :=
        own3.lit 46 2 0 #[] hB3 (by unfold maxLen; omega) rfl
      have hb4 : Below B w2 (w3.alloc (.cells #[] 46)) := hb3.alloc hB3 _
      clear own3 hb3
      generalize w3.alloc (.cells #[] 46) = w4 at *
      generalize w3.heap.size = g4 at *
      have hlGr := hid (fun (u : World) (R : List Row) (h : Own u B (flatRowOf 46 2 (.slice (some ⟨g, 0, none⟩) l m) (edR G) :: R)) => edges_read h (n := n) (by omega) (by have := hlE.out; omega) hGn.out)
      go_upto_region 13 with fail
      go_loopw [6, 38] (fun tv iv wr => ∃ (i lT : Nat) (d : Option Addr) (mT : Nat) (T : List (Nat × Nat)), tv = .slice d lT mT ∧ iv = .int .i64 i ∧ i ≤ l ∧ lT ≤ i ∧ Hid (lT = T.length) ∧ Hid (Kr (G.take i) T) ∧ Own wr B (flatRowOf 46 2 (.slice d lT mT) (edR T) :: [flatRowOf 46 2 (.slice (some ⟨g, 0, none⟩) l m) (edR G)]) ∧ Below B w2 wr) (fun _ iv _ => l - (intOf iv).toNat)
      case atStart => exact ⟨0, 0, _, _, [], rfl, rfl, by omega, by omega, hid rfl, hid .nil, own4, hb4⟩
      case round =>
        clear own4 hb4
        obtain ⟨i, lT, d, mT, T, rfl, rfl, hi, hli, hlT, hK, own, hb⟩ := hrel
        obtain ⟨wo, rfl⟩ : ∃ y : World, y = wr := ⟨_, rfl⟩
        by_cases hil : i < l
        · obtain ⟨e, he⟩ : ∃ e, G[i]? = some e := ⟨_, List.getElem?_eq_getElem (by rw [← hlE.out]; exact hil)⟩
          have hen := hGn.out e (List.mem_of_getElem? he)
          have hTn := hK.out.ends hGn.out
          have hFT : IsFlat wo (.slice d lT mT) 2 (edR T) := by
            have h := edges_read own (n := n) (by omega) (by have := hlT.out; omega) hTn
            exact h
          obtain ⟨bE, oE, hdA, c0, c1'⟩ := edge_at (hlGr.out wo _ own.tail) (w' := wo) he
          cases hdA
          simp only [Nat.zero_add] at c0 c1'
          obtain ⟨e1, e2⟩ := e
          simp only at c0 c1' hen
          have hKw := hid (fun (L : List Int) (hL : SdL T e1 L) => hK.out.with he hL)
          have hBo := Nat.le_trans hB2 hb.size
          have hSi := hid (fun (u : World) (eu : Ext wo u) => @sideOf_any T n e1 (.slice d lT mT) wo u eu hFT (by omega) hen.1 hTn)
          clear he hFT
          go_upto_region 15 with fail
          have xE0 : (wo.alloc (.cells #[.int .i64 (e1 : Int), .int .i64 (e2 : Int)] 46)).cell? ⟨wo.heap.size, 0, none⟩ = some (.int .i64 (e1 : Int)) := by go_simp
          have xE1 : (wo.alloc (.cells #[.int .i64 (e1 : Int), .int .i64 (e2 : Int)] 46)).cell? ⟨wo.heap.size, 1, none⟩ = some (.int .i64 (e2 : Int)) := by go_simp
          have eE : Ext wo (wo.alloc (.cells #[.int .i64 (e1 : Int), .int .i64 (e2 : Int)] 46)) := inferInstance
          generalize wo.alloc (.cells #[.int .i64 (e1 : Int), .int .i64 (e2 : Int)] 46) = w5 at *
          generalize hgE : wo.heap.size = gE at *
          replace hgE := hid hgE
          refine region_held_from (w0 := w5) (S := fun u => u.cell? ⟨gE, 0, none⟩ = some (.int .i64 (e1 : Int)) ∧ u.cell? ⟨gE, 1, none⟩ = some (.int .i64 (e2 : Int))) (by kernel_rfl) (fun u eu => ⟨eu.cell xE0, eu.cell xE1⟩) (fun wd ed hHeld0 => ?_)
          refine wpAnyH_take (i := 0) (v := .slice d lT mT) rfl (by kernel_rfl) (by kernel_rfl) (by kernel_rfl) (fun _ _ _ h => h) (Or.inl ⟨by rfl, by intro wx hx; go_simp⟩) (by assumption) ?_
          try simp only [List.getElem_toArray, List.getElem_cons_zero, Act.put, List.setIfInBounds_toArray, List.set_cons_zero, List.set_cons_succ]
          refine wpAnyH_take (i := 1) (v := .pointer (some ⟨gE, 0, none⟩)) rfl (by kernel_rfl) (by kernel_rfl) (by kernel_rfl) (fun _ _ _ h => h) (Or.inl ⟨by rfl, by intro wx hx; go_simp⟩) (by assumption) ?_
          try simp only [List.getElem_toArray, List.getElem_cons_succ, List.getElem_cons_zero, Act.put, List.setIfInBounds_toArray, List.set_cons_zero, List.set_cons_succ]
          refine wpAnyH_take (i := 2) (v := .int .i64 (e1 : Int)) rfl (by kernel_rfl) (by kernel_rfl) (by kernel_rfl) (fun _ _ _ h => h) (Or.inl ⟨by rfl, by intro wx hx; obtain ⟨_, _⟩ := hx; go_simp⟩) (by assumption) ?_
          try simp only [List.getElem_toArray, List.getElem_cons_succ, List.getElem_cons_zero, Act.put, List.setIfInBounds_toArray, List.set_cons_zero, List.set_cons_succ]
          refine wpAnyH_take (i := 4) (v := .pointer (some ⟨gE, 1, none⟩)) rfl (by kernel_rfl) (by kernel_rfl) (by kernel_rfl) (fun _ _ _ h => h) (Or.inl ⟨by rfl, by intro wx hx; go_simp⟩) (by assumption) ?_
          try simp only [List.getElem_toArray, List.getElem_cons_succ, List.getElem_cons_zero, Act.put, List.setIfInBounds_toArray, List.set_cons_zero, List.set_cons_succ]
          refine wpAnyH_take (i := 5) (v := .int .i64 (e2 : Int)) rfl (by kernel_rfl) (by kernel_rfl) (by kernel_rfl) (fun _ _ _ h => h) (Or.inl ⟨by rfl, by intro wx hx; obtain ⟨_, _⟩ := hx; go_simp⟩) (by assumption) ?_
          try simp only [List.getElem_toArray, List.getElem_cons_succ, List.getElem_cons_zero, Act.put, List.setIfInBounds_toArray, List.set_cons_zero, List.set_cons_succ]
          refine wpAnyH_ready (rs := [3]) (by kernel_rfl) (by simp) ?_
          refine AllReadyH.cons rfl (fun K hK => ?_) AllReadyH.nil
          go_simp
          go_at_call 40
          have e0d : Ext wo wd := Ext.trans eE ed
          with_reducible refine (hSi.out wd e0d).mono ?_
          rintro e w6 ⟨dL, mL, L, rfl, hSd, iL, ownL, e6⟩
          have e56 : Ext w5 w6 := Ext.trans ed e6
          have e06 : Ext wo w6 := Ext.trans eE e56
          have hKc := hid (hKw.out L hSd)
          have hHs := hid (fun (y : Int) => @sContains_any (.slice dL L.length mL) L y w6 w6 (Ext.refl _) iL)
          have own6 := own.ext (w' := w6) (e := e06)
          have hb6 := hb.trans (e06.below.mono (by rw [hgE.out]; exact hBo))
          have f0 := e56.cell xE0
          have f1 := e56.cell xE1
          obtain ⟨lL, hlL⟩ : ∃ q, q = L.length := ⟨_, rfl⟩
          rw [← hlL] at hHs ⊢
          replace hlL := hid hlL
          clear ownL iL hSi hKw hb own hSd hHeld0 c0 c1' xE0 xE1
          go_wp2_with fail
          refine hK.out _ _ ⟨f0, f1⟩ (fun _ => ?_)
          clear hK K
          try simp only [List.getElem_toArray, List.getElem_cons_succ, List.getElem_cons_zero, Act.put, List.setIfInBounds_toArray, List.set_cons_zero, List.set_cons_succ]
          refine wpAnyH_ready (rs := [6]) (by kernel_rfl) (by simp) ?_
          refine AllReadyH.cons rfl (fun K hK => ?_) AllReadyH.nil
          go_simp
          go_at_call 55
          with_reducible refine (hHs.out e2).mono ?_
          cases hh : hasB L e2 with
          | true =>
            have hK2 := hid (show Kr (G.take (i + 1)) T by have := hKc.out; simp only [hh, if_true] at this; exact this)
            replace hh := hid hh
            rintro e w7 ⟨rfl, rfl⟩
            go_wp2_with fail
            refine hK.out _ _ ⟨f0, f1⟩ (fun _ => ?_)
            clear hK K
            try simp only [List.getElem_toArray, List.getElem_cons_succ, List.getElem_cons_zero, Act.put, List.setIfInBounds_toArray, List.set_cons_zero, List.set_cons_succ]
            refine wpAnyH_take (i := 7) (v := .bool false) rfl (by kernel_rfl) (by kernel_rfl) (by kernel_rfl) (fun _ _ _ h => h) (Or.inl ⟨by rfl, by intro wx hx; go_simp⟩) (by assumption) ?_
            try simp only [List.getElem_toArray, List.getElem_cons_succ, List.getElem_cons_zero, Act.put, List.setIfInBounds_toArray, List.set_cons_zero, List.set_cons_succ]
            refine wpAnyH_done (by kernel_rfl) ?_ _
            go_wp2_with fail
            go_roundw
            case rel => exact ⟨i + 1, lT, d, mT, T, rfl, by go_num, by omega, by omega, hlT, hK2, own6, hb6⟩
            case measure => simp [intOf]; omega
          | false =>
            have hK2 := hid (show Kr (G.take (i + 1)) (T ++ [(e1, e2)]) by have := hKc.out; simp only [hh, Bool.false_eq_true, if_false] at this; exact this)
            replace hh := hid hh
            rintro e w7 ⟨rfl, rfl⟩
            go_wp2_with fail
            refine hK.out _ _ ⟨f0, f1⟩ (fun _ => ?_)
            clear hK K
            try simp only [List.getElem_toArray, List.getElem_cons_succ, List.getElem_cons_zero, Act.put, List.setIfInBounds_toArray, List.set_cons_zero, List.set_cons_succ]
            refine wpAnyH_take (i := 7) (v := .bool true) rfl (by kernel_rfl) (by kernel_rfl) (by kernel_rfl) (fun _ _ _ h => h) (Or.inl ⟨by rfl, by intro wx hx; go_simp⟩) (by assumption) ?_
            try simp only [List.getElem_toArray, List.getElem_cons_succ, List.getElem_cons_zero, Act.put, List.setIfInBounds_toArray, List.set_cons_zero, List.set_cons_succ]
            refine wpAnyH_done (by kernel_rfl) ?_ _
            have hB6 := Nat.le_trans hB2 hb6.size
            have ownA := edges_row own6 hlT.out
            have hl16 : lT ≤ 100000 := by omega
            go_wp2_with (at_builtin; refine wpList_append1z rfl _ _ _ rfl elemPair rfl ownA hB6 (us := [.int .i64 (e1 : Int), .int .i64 (e2 : Int)]) rfl rfl (by intro u hu; simp at hu; rcases hu with rfl | rfl <;> rfl) (by omega) (by omega) ?_; intro v1 w9 ho hb9; obtain ⟨vd, vm, hv1⟩ := ho.form; (obtain rfl : v1 = .slice vd (lT + 1) vm := hv1))
            have own9 := edges_snoc ho hlT.out
            have hbl9 := hb6.trans hb9
            go_roundw
            case rel => exact ⟨i + 1, lT + 1, vd, vm, T ++ [(e1, e2)], rfl, by go_num, by omega, by omega, hid (by rw [List.length_append, ← hlT.out]; rfl), hK2, own9, hbl9⟩
            case measure => simp [intOf]; omega
        · have hiE : i = G.length := by have := hlE.out; omega
          have eF := hE2.out wo hb
          have hKr := hid (show Kr G T by have := hK.out; rw [hiE, List.take_length] at this; exact this)
          have own9 := (own.sub (S := [flatRowOf 46 2 (.slice d lT mT) (edR T)]) (by simp)).mono hlw
          replace hiE := hid hiE
          go_wp2_with fail
          refine bodyPost_ret (v := .slice d lT mT) (by simp [results, Try.results33, go_sem]) rfl ?_
          exact ⟨d, mT, T, by rw [hlT.out], hKr.out, by rw [hlT.out] at own9; exact own9, eF⟩
end Go.Proofs.Ytnlbjbnjjkilhaa
