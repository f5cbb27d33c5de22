/- The edges in ascending order, walked: l6Edges. -/
import Derived.Test.YtnlbjbnjjkilhaaTsA
import Derived.Test.YtnlbjbnjjkilhaaPackA
namespace Go.Proofs.Ytnlbjbnjjkilhaa
open Go.RowKit

theorem tr_row {M : List (List Int)} (h : metB M = true) {x : Nat} (hx : x < M.length) : (row M x).length = M.length := by
  have := met_sq h
  simp only [square, decide_eq_true_eq] at this
  exact this _ (row_mem hx)
/-- distances of different points -/
theorem tr_pos {M : List (List Int)} (h : metB M = true) {u v : Nat} (hu : u < M.length) (hv : v < M.length) (hne : u ≠ v) : 1 ≤ cell M u v ∧ cell M u v ≤ 99 := by
  have h1 := (dst_of_met h).pos u v hu hv
  have h2 := (dst_of_met h).zero u v hu hv
  exact ⟨by
    by_cases q : cell M u v = 0
    · exact absurd (h2 q) hne
    · omega, h1.2⟩
/-- the pairs of one point, as far as they have been made -/
def prC (x j : Nat) : List (Nat × Nat) := (List.range j).map fun t => (x, x + 1 + t)
theorem prC_succ (x j : Nat) : prC x (j + 1) = prC x j ++ [(x, x + 1 + j)] := by simp [prC, List.range_succ]
theorem prsF_eq (n x : Nat) : prsF n x = prC x (n - (x + 1)) := rfl
/-- the edges ahead of the distance k + 1 -/
def eA (D : Nat → Nat → Int) (n k : Nat) : List (Nat × Nat) := (List.range k).flatMap fun (d : Nat) => (prs n).filter fun e => decide (D e.1 e.2 = (d : Int) + 1)
def eB (D : Nat → Nat → Int) (n k x : Nat) : List (Nat × Nat) := eA D n k ++ ((List.range x).flatMap (prsF n)).filter fun e => decide (D e.1 e.2 = (k : Int) + 1)
def eC (D : Nat → Nat → Int) (n k x j : Nat) : List (Nat × Nat) := eB D n k x ++ (prC x j).filter fun e => decide (D e.1 e.2 = (k : Int) + 1)
section
variable {D : Nat → Nat → Int} {n k x j : Nat}
theorem eB_zero : eB D n k 0 = eA D n k := by simp [eB]
theorem eC_zero : eC D n k x 0 = eB D n k x := by simp [eC, prC]
theorem eA_succ : eB D n k n = eA D n (k + 1) := by
  unfold eB eA
  rw [List.range_succ, List.flatMap_append, List.flatMap_singleton]
  rfl
theorem eB_succ : eC D n k x (n - (x + 1)) = eB D n k (x + 1) := by
  unfold eC eB
  rw [List.range_succ, List.flatMap_append, List.flatMap_singleton, List.filter_append, List.append_assoc, prsF_eq]
theorem eC_in (h : D x (x + 1 + j) = (k : Int) + 1) : eC D n k x (j + 1) = eC D n k x j ++ [(x, x + 1 + j)] := by
  unfold eC
  rw [prC_succ, List.filter_append, ← List.append_assoc, List.filter_cons_of_pos (by simpa using h)]
  rfl
theorem eC_out (h : D x (x + 1 + j) ≠ (k : Int) + 1) : eC D n k x (j + 1) = eC D n k x j := by
  unfold eC
  rw [prC_succ, List.filter_append, List.filter_cons_of_neg (by simpa using h), List.filter_nil, List.append_nil]
end
theorem edR_i64 {E : List (Nat × Nat)} {n : Nat} (hn : n ≤ 1000) (h : ∀ e, e ∈ E → e.1 < n ∧ e.2 < n) : ∀ x ∈ edR E, ∀ y ∈ x, I64 y := by
  intro x hx y hy
  obtain ⟨e, he, rfl⟩ := List.mem_map.1 hx
  have := h e he
  simp only [List.mem_cons, List.not_mem_nil, or_false] at hy
  unfold I64
  rcases hy with rfl | rfl <;> omega
/-- what is read of a list of edges of one's own -/
theorem edges_read {w : World} {B : Nat} {v : Value} {E : List (Nat × Nat)} {n : Nat} {R : List Row} (h : Own w B (flatRowOf 46 2 v (edR E) :: R)) (hn : n ≤ 1000) (hl : E.length ≤ 1000000) (hE : ∀ e, e ∈ E → e.1 < n ∧ e.2 < n) : IsFlat w v 2 (edR E) :=
  h.readsFlat (by rw [edR_len]; exact hl) (edR_all E) (edR_i64 hn hE)
/-- one edge more -/
theorem edges_snoc {w : World} {B e l : Nat} {v : Value} {E : List (Nat × Nat)} {a b : Nat} {R : List Row} (h : Own w B (⟨e, 2, v, l + 1, (edR E).flatten.map (Value.int .i64) ++ [.int .i64 (a : Int), .int .i64 (b : Int)]⟩ :: R)) (hl : l = E.length) : Own w B (flatRowOf e 2 v (edR (E ++ [(a, b)])) :: R) := by
  rw [edR_app]
  exact flat_snoc (x := [(a : Int), (b : Int)]) h (by rw [edR_len]; exact hl) rfl
theorem edges_row {w : World} {B e l m : Nat} {d : Option Addr} {E : List (Nat × Nat)} {R : List Row} (h : Own w B (flatRowOf e 2 (.slice d l m) (edR E) :: R)) (hl : l = E.length) : Own w B (⟨e, 2, .slice d l m, l, (edR E).flatten.map (Value.int .i64)⟩ :: R) := by
  have h2 := h
  unfold flatRowOf at h2
  rw [edR_len, ← hl] at h2
  exact h2
set_option maxHeartbeats 3200000 in
set_option maxRecDepth 100000 in
theorem l6Edges_any {v : Value} {M : List (List Int)} {w0 w : World} [Ext w0 w] (hm : IsMet w0 v M) (hM : metB M = true) :
    Calls Try.prog 64 #[v] w fun e w' => ∃ d m, e = .returned (.slice d (edL (cell M) M.length).length m) ∧
      Own w' w.heap.size [flatRowOf 46 2 (.slice d (edL (cell M) M.length).length m) (edR (edL (cell M) M.length))] ∧ (edL (cell M) M.length).length ≤ 100000 ∧ Ext w w' := by
  have hml := met_len hM
  have hrow := hid (fun x (hx : x < M.length) => tr_row hM hx)
  obtain ⟨v1, rfl, hR⟩ := hm
  obtain ⟨a1, c1, rfl, l1⟩ := hR.form
  obtain ⟨n, hn⟩ : ∃ n, n = M.length := ⟨_, rfl⟩
  obtain ⟨D, hD⟩ : ∃ D, D = cell M := ⟨_, rfl⟩
  rw [← hn] at hml hrow hR ⊢
  rw [← hD]
  replace hn := hid hn
  replace hD := hid hD
  go_enter Try.func64, Try.ntmps64
  go_upto_region 2 with fail
  have e0 : Ext w ((w.alloc (.cells #[.slice a1 n c1] 29)).alloc (.cells #[] 46)) := inferInstance
  have q0 : ((w.alloc (.cells #[.slice a1 n c1] 29)).alloc (.cells #[] 46)).cell? ⟨w.heap.size, 0, none⟩ = some (.slice a1 n c1) := by go_simp
  have own0 : Own ((w.alloc (.cells #[.slice a1 n c1] 29)).alloc (.cells #[] 46)) (w.heap.size + 1) [flatRowOf 46 2 (.slice (some ⟨w.heap.size + 1, 0, none⟩) 0 0) (edR (eA D n 0))] := by
    have h := (Own.nil (w.alloc (.cells #[.slice a1 n c1] 29)) (w.heap.size + 1)).lit 46 2 0 #[] (by simp) (by unfold maxLen; omega) rfl
    rw [show (w.alloc (.cells #[.slice a1 n c1] 29)).heap.size = w.heap.size + 1 by simp] at h
    exact h
  have hsz : w.heap.size + 1 ≤ ((w.alloc (.cells #[.slice a1 n c1] 29)).alloc (.cells #[] 46)).heap.size := by simp
  generalize (w.alloc (.cells #[.slice a1 n c1] 29)).alloc (.cells #[] 46) = W at *
  obtain ⟨B, hB⟩ : ∃ B, B = w.heap.size + 1 := ⟨_, rfl⟩
  rw [← hB] at own0 hsz ⊢
  have hwB : w.heap.size < B := by omega
  have e0W : Ext w0 W := Ext.trans ‹Ext w0 w› e0
  have hE2 := hid (show ∀ u, Below B W u → Ext w u from fun u h => ⟨e0.below.trans (h.mono (by omega))⟩)
  have hE0 := hid (show ∀ u, Below B W u → Ext w0 u from fun u h => ⟨e0W.below.trans (h.mono (Nat.le_trans (‹Ext w0 w›).size (by omega)))⟩)
  have hq := hid (show ∀ u, Below B W u → u.cell? ⟨w.heap.size, 0, none⟩ = some (.slice a1 n c1) from fun u h => (h.cell (p := ⟨w.heap.size, 0, none⟩) hwB).trans q0)
  have hlw := hid (show w.heap.size ≤ B by omega)
  replace hB := hid hB
  clear q0 e0W e0
  go_upto_region 3 with fail
  go_loopw [3, 4] (fun ov kv wr => ∃ (q k : Nat) (d : Option Addr) (l m : Nat), ov = .slice d l m ∧ kv = .int .i64 q ∧ Hid (q = k + 1) ∧ k ≤ 99 ∧ l ≤ k * 100 ∧ Hid (l = (eA D n k).length) ∧ Own wr B [flatRowOf 46 2 (.slice d l m) (edR (eA D n k))] ∧ Below B W wr) (fun _ kv _ => 101 - (intOf kv).toNat)
  case atStart => exact ⟨1, 0, _, _, _, rfl, rfl, hid rfl, by omega, by omega, hid rfl, own0, Below.refl _ _⟩
  case round =>
    clear own0
    obtain ⟨q, k, d, l, m, rfl, rfl, hqk, hk, hlk, hl, hown, hb⟩ := hrel
    obtain ⟨wo, rfl⟩ : ∃ y : World, y = wr := ⟨_, rfl⟩
    by_cases hkl : k < 99
    · have hq99 : (q : Int) ≤ 99 := by have := hqk.out; omega
      have hq9b : decide ((q : Int) ≤ 99) = true := decide_eq_true hq99
      rw [← eB_zero] at hl hown
      go_upto_region 6 with fail
      go_loopw [3, 5] (fun ov xv wr => ∃ (x : Nat) (d : Option Addr) (l m : Nat), ov = .slice d l m ∧ xv = .int .i64 x ∧ x ≤ n ∧ l ≤ k * 100 + x * 10 ∧ Hid (l = (eB D n k x).length) ∧ Own wr B [flatRowOf 46 2 (.slice d l m) (edR (eB D n k x))] ∧ Below B W wr) (fun _ xv _ => n - (intOf xv).toNat)
      case atStart => exact ⟨0, _, _, _, rfl, rfl, by omega, by omega, hl, hown, hb⟩
      case round =>
        clear hown hb hl hlk
        obtain ⟨x, d, l, m, rfl, rfl, hx, hlk, hl, hown, hb⟩ := hrel
        obtain ⟨wo, rfl⟩ : ∃ y : World, y = wr := ⟨_, rfl⟩
        have hqo := hq.out wo hb
        by_cases hxl : x < n
        · rw [← eC_zero] at hl hown
          go_upto_region 9 with fail
          go_loopw [3, 6] (fun ov yv wr => ∃ (y j : Nat) (d : Option Addr) (l m : Nat), ov = .slice d l m ∧ yv = .int .i64 y ∧ Hid (y = x + 1 + j) ∧ y ≤ n ∧ l ≤ k * 100 + x * 10 + j ∧ Hid (l = (eC D n k x j).length) ∧ Own wr B [flatRowOf 46 2 (.slice d l m) (edR (eC D n k x j))] ∧ Below B W wr) (fun _ yv _ => n - (intOf yv).toNat)
          case atStart => exact ⟨x + 1, 0, _, _, _, rfl, by go_num, hid rfl, by omega, by omega, hl, hown, hb⟩
          case round =>
            clear hown hb hl hlk hqo
            obtain ⟨y, j, d, l, m, rfl, rfl, hy, hj, hlk, hl, hown, hb⟩ := hrel
            obtain ⟨wo, rfl⟩ : ∃ y : World, y = wr := ⟨_, rfl⟩
            have hqo := hq.out wo hb
            by_cases hyl : y < n
            · have e0o := hE0.out wo hb
              obtain ⟨bM, oM, dr, mr, ha1, hcr, hir, _⟩ := hR.at (w' := wo) (k := x) (by rw [← hn.out]; exact hxl)
              subst ha1
              rw [hrow.out x hxl] at hcr hir
              obtain ⟨bd, od, hda, hcy⟩ := hir.at (w' := wo) (k := y) (by rw [hrow.out x hxl]; exact hyl)
              subst hda
              have hDv := hid (show D x (x + 1 + j) = nth (row M x) y by rw [hD.out, ← hy.out]; rfl)
              generalize nth (row M x) y = dv at *
              have hB2 := Nat.le_trans hsz hb.size
              have hl16 : l ≤ 100000 := by have := hy.out; omega
              by_cases hdk : dv = (q : Int)
              · have hdb : (dv == (q : Int)) = true := beq_iff_eq.2 hdk
                have hin := hid (eC_in (n := n) (show D x (x + 1 + j) = (k : Int) + 1 by rw [hDv.out, hdk, hqk.out]; omega))
                replace hdk := hid hdk
                have ownA := edges_row hown hl.out
                go_wp2_with (at_builtin; refine wpList_append1z rfl _ _ _ rfl elemPair rfl ownA hB2 (us := [.int .i64 (x : Int), .int .i64 (y : Int)]) rfl rfl (by intro u hu; simp at hu; rcases hu with rfl | rfl <;> rfl) (by omega) (by omega) ?_; intro v1 w5 ho hb5; obtain ⟨vd, vm, hv1⟩ := ho.form; (obtain rfl : v1 = .slice vd (l + 1) vm := hv1))
                have own5 := edges_snoc ho hl.out
                rw [hy.out, ← hin.out] at own5
                go_roundw
                case rel => exact ⟨y + 1, j + 1, vd, l + 1, vm, rfl, by go_num, hid (by rw [hy.out]; omega), by omega, by omega, hid (by rw [hin.out, List.length_append, ← hl.out]; rfl), own5, hb.trans hb5⟩
                case measure => simp [intOf]; omega
              · have hdb : (dv == (q : Int)) = false := beq_eq_false_iff_ne.2 hdk
                have hin := hid (eC_out (n := n) (show D x (x + 1 + j) ≠ (k : Int) + 1 by rw [hDv.out]; have := hqk.out; omega))
                replace hdk := hid hdk
                go_wp2_with fail
                go_roundw
                case rel => exact ⟨y + 1, j + 1, d, l, m, rfl, by go_num, hid (by rw [hy.out]; omega), by omega, by omega, by rw [hin.out]; exact hl, by rw [hin.out]; exact hown, hb⟩
                case measure => simp [intOf]; omega
            · have hjn : j = n - (x + 1) := by have := hy.out; omega
              have hA := hid (hjn ▸ eB_succ : eC D n k x j = eB D n k (x + 1))
              rw [hA.out] at hl hown
              replace hjn := hid hjn
              go_wp2_with fail
              go_roundw
              case rel => exact ⟨x + 1, d, l, m, rfl, by go_num, by omega, by have := hjn.out; omega, hl, hown, hb⟩
              case measure => simp [intOf]; omega
        · have hxn : x = n := by omega
          have hA := hid (hxn ▸ eA_succ : eB D n k x = eA D n (k + 1))
          rw [hA.out] at hl hown
          replace hxn := hid hxn
          go_wp2_with fail
          go_roundw
          case rel => exact ⟨q + 1, k + 1, d, l, m, rfl, by go_num, hid (by rw [hqk.out]), by omega, by have := hxn.out; omega, hl, hown, hb⟩
          case measure => simp [intOf]; omega
    · have hk99 : k = 99 := by omega
      subst hk99
      have hq99 : ¬ (q : Int) ≤ 99 := by have := hqk.out; omega
      have hq9b : decide ((q : Int) ≤ 99) = false := decide_eq_false hq99
      have eF := hE2.out wo hb
      have own9 := hown.mono hlw.out
      go_wp2_with fail
      refine bodyPost_ret (v := .slice d l m) (by simp [results, Try.results64, go_sem]) rfl ?_
      exact ⟨d, m, by rw [hl.out]; rfl, by rw [hl.out] at own9; exact own9, by have := hl.out; have h2 : (edL D n).length = (eA D n 99).length := rfl; omega, eF⟩
end Go.Proofs.Ytnlbjbnjjkilhaa
