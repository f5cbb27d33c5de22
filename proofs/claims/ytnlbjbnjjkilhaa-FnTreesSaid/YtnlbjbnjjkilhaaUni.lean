/- Metrics that draws make: uniform ones and lines. -/
import Derived.Test.YtnlbjbnjjkilhaaCur
import Derived.Test.YtnlbjbnjjkilhaaPackA
namespace Go.Proofs.Ytnlbjbnjjkilhaa
open Go.RowKit

/-- rows: their list comes to the front -/
theorem rw_out {w : World} {B e1 e2 : Nat} {v : Value} {vs : List Value} {M : List (List Int)} {W : Row} {A R : List Row} (h : Own w B (W :: (A ++ (rowsOf e1 e2 v vs M ++ R)))) :
    Own w B (⟨e1, 1, v, vs.length, vs⟩ :: (W :: (A ++ (List.zipWith (intRowOf e2) vs M ++ R)))) :=
  ow_pull (A := W :: A) (L := List.zipWith (intRowOf e2) vs M ++ R) h
/-- and goes back with a new row -/
theorem rw_in {w : World} {B e1 e2 : Nat} {v rv : Value} {vs : List Value} {M : List (List Int)} {xs : List Int} {A R : List Row} (h : Own w B (⟨e1, 1, v, vs.length + 1, vs ++ [rv]⟩ :: (intRowOf e2 rv xs :: (A ++ (List.zipWith (intRowOf e2) vs M ++ R))))) (hl : vs.length = M.length) :
    Own w B (A ++ (rowsOf e1 e2 v (vs ++ [rv]) (M ++ [xs]) ++ R)) := by
  have e : rowsOf e1 e2 v (vs ++ [rv]) (M ++ [xs]) ++ R = (⟨e1, 1, v, vs.length + 1, vs ++ [rv]⟩ : Row) :: (List.zipWith (intRowOf e2) vs M ++ (intRowOf e2 rv xs :: R)) := by
    unfold rowsOf valRowOf
    rw [List.zipWith_append hl, List.length_append]
    simp
  rw [e]
  refine ow_push (h.perm ?_)
  refine List.Perm.cons _ ?_
  have p := List.perm_middle (a := intRowOf e2 rv xs) (l₁ := A ++ List.zipWith (intRowOf e2) vs M) (l₂ := R)
  simpa only [List.append_assoc] using p
theorem ow_front {w : World} {B : Nat} {A T R : List Row} (h : Own w B (A ++ (T ++ R))) : Own w B (T ++ (A ++ R)) := by
  refine h.perm ?_
  rw [← List.append_assoc, ← List.append_assoc]
  exact List.perm_append_comm.append_right R
/-- a table at the front: its cells -/
theorem rw_cell {w : World} {B e1 e2 g n c : Nat} {vs : List Value} {M : List (List Int)} {R : List Row} (h : Own w B (rowsOf e1 e2 (.slice (some ⟨g, 0, none⟩) n c) vs M ++ R)) (hn : vs.length = n) {j : Nat} {u : Value} (hu : vs[j]? = some u) :
    w.cell? ⟨g, j, none⟩ = some u ∧ w.frozen? ⟨g, j, none⟩ = false := by
  subst hn
  have h1 : Own w B (⟨e1, 1, .slice (some ⟨g, 0, none⟩) vs.length c, vs.length, vs⟩ :: (List.zipWith (intRowOf e2) vs M ++ R)) := h
  have hj : j < vs.length := (List.getElem?_eq_some_iff.1 hu).1
  refine ⟨?_, h1.frozenAt j⟩
  rw [h1.cellAt (w' := w) hj, List.getD_eq_getElem?_getD, hu]; rfl
/-- a row of it -/
theorem rw_row {w : World} {B e1 e2 : Nat} {v : Value} {vs : List Value} {M : List (List Int)} {R : List Row} (h : Own w B (rowsOf e1 e2 v vs M ++ R)) {j : Nat} (hj : j < M.length) {u : Value} (hu : vs[j]? = some u) :
    Own w B (intRowOf e2 u (row M j) :: (rowsOf e1 e2 v vs M ++ R).eraseIdx (j + 1)) := by
  have hr : M[j]? = some (row M j) := by simp [row, hj]
  exact h.pick (h.rowAt hr hu)
theorem rw_form {w : World} {B e1 e2 : Nat} {v : Value} {vs : List Value} {M : List (List Int)} {R : List Row} (h : Own w B (rowsOf e1 e2 v vs M ++ R)) (hl : vs.length = M.length) {j : Nat} (hj : j < M.length) (h0 : 0 < (row M j).length) :
    ∃ g m, vs[j]? = some (.slice (some ⟨g, 0, none⟩) (row M j).length m) ∧ B ≤ g := by
  obtain ⟨u, hu⟩ : ∃ u, vs[j]? = some u := ⟨_, List.getElem?_eq_getElem (by omega)⟩
  have hpick := rw_row h hj hu
  obtain ⟨d, m, hd⟩ := hpick.form
  have hd' : u = .slice d (row M j).length m := hd
  subst hd'
  obtain ⟨g, rfl⟩ := hpick.at h0
  exact ⟨g, m, hu, hpick.lt.1⟩
theorem rw_at {w : World} {B e1 e2 g l m : Nat} {v : Value} {vs : List Value} {M : List (List Int)} {R : List Row} (h : Own w B (rowsOf e1 e2 v vs M ++ R)) {j : Nat} (hj : j < M.length) (hu : vs[j]? = some (.slice (some ⟨g, 0, none⟩) l m)) (hl : (row M j).length = l) {q : Nat} (hq : q < l) :
    w.cell? ⟨g, q, none⟩ = some (.int .i64 (nth (row M j) q)) ∧ w.frozen? ⟨g, q, none⟩ = false := by
  subst hl
  have hpick := rw_row h hj hu
  refine ⟨?_, hpick.frozenAt q⟩
  rw [hpick.cellAt (w' := w) hq]
  simp [nth, hq]
/-- a cell of a row of it is written -/
theorem rw_put {w : World} {B e1 e2 g l m : Nat} {v : Value} {vs : List Value} {M : List (List Int)} {R : List Row} (h : Own w B (rowsOf e1 e2 v vs M ++ R)) (hv : vs.length = M.length) {j : Nat} (hj : j < M.length) (hu : vs[j]? = some (.slice (some ⟨g, 0, none⟩) l m)) (hl : (row M j).length = l) (q : Nat) (x : Int) :
    Own (w.setCell ⟨g, q, none⟩ (.int .i64 x)) B (rowsOf e1 e2 v vs (M.set j ((row M j).set q x)) ++ R) := by
  subst hl
  have hpick := (rw_row h hj hu).set q (.int .i64 x)
  rw [← List.map_set] at hpick
  have e : (⟨e2, 1, .slice (some ⟨g, 0, none⟩) (row M j).length m, (row M j).length, ((row M j).set q x).map (Value.int .i64)⟩ : Row) = intRowOf e2 (.slice (some ⟨g, 0, none⟩) (row M j).length m) ((row M j).set q x) := by
    unfold intRowOf
    rw [List.length_set]
  rw [e] at hpick
  have h' := hpick.put (by unfold rowsOf; simp; omega)
  rw [rowsOf_set (by omega) hu] at h'
  exact h'
theorem ow_ints {w : World} {B e : Nat} {v : Value} {xs : List Int} {R : List Row} (h : Own w B (intRowOf e v xs :: R)) : ∃ d m, v = .slice d xs.length m := h.form
theorem ow_snoc {w : World} {B e : Nat} {v : Value} {xs : List Int} {x : Int} {n : Nat} {R : List Row} (h : Own w B (⟨e, 1, v, n + 1, xs.map (Value.int .i64) ++ [.int .i64 x]⟩ :: R)) (hn : n = xs.length) : Own w B (intRowOf e v (xs ++ [x]) :: R) := by
  subst hn
  unfold intRowOf
  rw [List.length_append, List.map_append]
  exact h
def uniRow (f : Nat → Nat → Int) (x m : Nat) : List Int := (List.range m).map (f x)
def uniTab (f : Nat → Nat → Int) (m n : Nat) : List (List Int) := (List.range n).map fun x => uniRow f x m
theorem uniRow_succ (f : Nat → Nat → Int) (x m : Nat) : uniRow f x (m + 1) = uniRow f x m ++ [f x m] := by simp [uniRow, List.range_succ]
theorem uniTab_succ (f : Nat → Nat → Int) (m n : Nat) : uniTab f m (n + 1) = uniTab f m n ++ [uniRow f n m] := by simp [uniTab, List.range_succ]
theorem uniRow_length (f : Nat → Nat → Int) (x m : Nat) : (uniRow f x m).length = m := by simp [uniRow]
theorem uniTab_length (f : Nat → Nat → Int) (m n : Nat) : (uniTab f m n).length = n := by simp [uniTab]
theorem uniTab_row {f : Nat → Nat → Int} {m n : Nat} {r : List Int} (h : r ∈ uniTab f m n) : ∃ x, x < n ∧ r = uniRow f x m := by
  obtain ⟨x, hx, rfl⟩ := List.mem_map.1 h
  exact ⟨x, List.mem_range.1 hx, rfl⟩
abbrev boxRow (e z b : Nat) (cs : List Value) : Row := ⟨e, z, .slice (some ⟨b, 0, none⟩) 1 1, 1, cs⟩
set_option maxHeartbeats 1600000 in
set_option maxRecDepth 100000 in
theorem l6Uniform_any {n : Nat} {d : Int} (hn : n ≤ 1000) (w : World) :
    Calls Try.prog 27 #[.int .i64 n, .int .i64 d] w fun e w' => ∃ d0 m0 vs, e = .returned (.agg #[.slice d0 n m0]) ∧ vs.length = n ∧
      Own w' w.heap.size (rowsOf 24 3 (.slice d0 n m0) vs (uniTab (fun x y => if x = y then 0 else d) n n)) ∧ Ext w w' := by
  obtain ⟨f, hf⟩ : ∃ f : Nat → Nat → Int, f = fun x y => if x = y then 0 else d := ⟨_, rfl⟩
  rw [← hf]
  replace hf := hid hf
  go_enter Try.func27, Try.ntmps27
  go_upto_region 2 with fail
  generalize hW : ((w.alloc (.cells #[.slice none 0 0] 29)).alloc (.cells #[] 24)).alloc (.cells #[.slice (some ⟨w.heap.size + 1, 0, none⟩) 0 0] 29) = W
  have eW : Ext w W := hW ▸ inferInstance
  have x0 : W.cell? ⟨w.heap.size, 0, none⟩ = some (.slice none 0 0) := by subst hW; go_simp
  have xf : W.frozen? ⟨w.heap.size, 0, none⟩ = false := by subst hW; go_simp
  obtain ⟨b, hb⟩ : ∃ b, b = w.heap.size + 1 + 1 := ⟨_, rfl⟩
  rw [← hb]
  have own0 : Own W (w.heap.size + 1) (boxRow 29 1 b [.slice (some ⟨w.heap.size + 1, 0, none⟩) 0 0] :: (rowsOf 24 3 (.slice (some ⟨w.heap.size + 1, 0, none⟩) 0 0) [] [] ++ [])) := by
    subst hW
    have h := (Own.nil (w.alloc (.cells #[.slice none 0 0] 29)) (w.heap.size + 1)).lit 24 1 0 #[] (by simp) (by unfold maxLen; omega) rfl
    rw [show (w.alloc (.cells #[.slice none 0 0] 29)).heap.size = w.heap.size + 1 by simp] at h
    have h2 := h.lit 29 1 1 #[.slice (some ⟨w.heap.size + 1, 0, none⟩) 0 0] (by simp) (by unfold maxLen; omega) rfl
    rw [show ((w.alloc (.cells #[.slice none 0 0] 29)).alloc (.cells #[] 24)).heap.size = b by simp; omega] at h2
    exact h2
  have hBW : w.heap.size + 1 ≤ W.heap.size := by subst hW; simp
  clear hW
  replace hb := hid hb
  go_wp2
  go_loopw [6] (fun i wr => ∃ x : Nat, x ≤ n ∧ i = .int .i64 x ∧ Below (w.heap.size + 1) W wr ∧ ∃ d0 m0 vs, vs.length = x ∧ Own wr (w.heap.size + 1) (boxRow 29 1 b [.slice d0 x m0] :: (rowsOf 24 3 (.slice d0 x m0) vs (uniTab f n x) ++ []))) (fun i _ => n - (intOf i).toNat)
  case atStart => exact ⟨0, by omega, rfl, Below.refl _ _, _, _, [], rfl, own0⟩
  case round =>
    obtain ⟨x, hx, rfl, hb0, d0, m0, vs, hvs, hown⟩ := hrel
    obtain ⟨wo, rfl⟩ : ∃ y : World, y = wr := ⟨_, rfl⟩
    have hBo : w.heap.size + 1 ≤ wo.heap.size := Nat.le_trans hBW hb0.size
    by_cases hlt : x < n
    · go_upto_region 6 with fail
      have own1 : Own (wo.alloc (.cells #[] 3)) (w.heap.size + 1) (intRowOf 3 (.slice (some ⟨wo.heap.size, 0, none⟩) 0 0) (uniRow f x 0) :: (boxRow 29 1 b [.slice d0 x m0] :: (rowsOf 24 3 (.slice d0 x m0) vs (uniTab f n x) ++ []))) := by
        have h := hown.lit 3 1 0 #[] hBo (by unfold maxLen; omega) rfl
        exact h
      have hb1 : Below (w.heap.size + 1) W (wo.alloc (.cells #[] 3)) := hb0.alloc hBo _
      generalize wo.alloc (.cells #[] 3) = w1 at *
      replace hvs := hid hvs
      go_wp2
      go_loopw [7, 8] (fun v j wr => ∃ y : Nat, y ≤ n ∧ j = .int .i64 y ∧ Below (w.heap.size + 1) W wr ∧ Own wr (w.heap.size + 1) (intRowOf 3 v (uniRow f x y) :: (boxRow 29 1 b [.slice d0 x m0] :: (rowsOf 24 3 (.slice d0 x m0) vs (uniTab f n x) ++ [])))) (fun _ j _ => n - (intOf j).toNat)
      case atStart => exact ⟨0, by omega, rfl, hb1, own1⟩
      case round =>
        obtain ⟨y, hy, rfl, hb2, hown2⟩ := hrel
        obtain ⟨vd, vm, rfl⟩ := ow_ints hown2
        obtain ⟨wq, rfl⟩ : ∃ y : World, y = wr := ⟨_, rfl⟩
        have hBq : w.heap.size + 1 ≤ wq.heap.size := Nat.le_trans hBW hb2.size
        have hly := hid (uniRow_length f x y)
        have hys := hid (uniRow_succ f x y)
        by_cases hlty : y < n
        · by_cases hxy : x = y
          · have hfv := hid (show f x y = 0 by rw [hf.out, hxy]; simp)
            have hcc : ((x : Int) == (y : Int)) = true := by rw [hxy]; simp
            replace hxy := hid hxy
            go_wp2_with (at_builtin; refine wpList_append1 rfl _ _ _ rfl elemInt rfl hown2 hBq rfl rfl (by have := hly.out; omega) (by have := hly.out; omega) ?_; intro v1 w5 ho hb5)
            go_roundw
            case rel => exact ⟨y + 1, by omega, by go_num, hb2.trans hb5, by rw [hys.out, hfv.out]; exact ow_snoc ho rfl⟩
            case measure => simp [intOf]; omega
          · have hfv := hid (show f x y = d by rw [hf.out]; simp [hxy])
            go_wp2_with (at_builtin; refine wpList_append1 rfl _ _ _ rfl elemInt rfl hown2 hBq rfl rfl (by have := hly.out; omega) (by have := hly.out; omega) ?_; intro v1 w5 ho hb5)
            go_roundw
            case rel => exact ⟨y + 1, by omega, by go_num, hb2.trans hb5, by rw [hys.out, hfv.out]; exact ow_snoc ho rfl⟩
            case measure => simp [intOf]; omega
        · have hyn : y = n := by omega
          have hts := hid (show uniTab f n (x + 1) = uniTab f n x ++ [uniRow f x y] by rw [uniTab_succ, hyn])
          have hlt' := hid (uniTab_length f n x)
          replace hyn := hid hyn
          have hout := rw_out (A := [_]) hown2
          rw [hvs.out] at hout
          have tb : wq.cell? ⟨b, 0, none⟩ = some (.slice d0 x m0) := ow_cell hown2 (.tail _ (.head _)) (j := 0) (by omega)
          go_wp2_with (at_builtin; refine wpList_append1 rfl _ _ _ rfl elemInts rfl hout hBq rfl rfl (by omega) (by omega) ?_; intro v1 w5 ho hb5; obtain ⟨vd1, vm1, hv1⟩ := ho.form; (obtain rfl : v1 = .slice vd1 (x + 1) vm1 := hv1); (have tc : w5.cell? ⟨b, 0, none⟩ = some (.slice d0 x m0) := ow_cell ho (.tail _ (.tail _ (.head _))) (j := 0) (by omega)); have tf := ow_frozen ho (.tail _ (.tail _ (.head _))) 0)
          have hoS := ow_set (A := [_, _]) ho 0 (.slice vd1 (x + 1) vm1)
          have hbB := ((ho.1 _ (.tail _ (.tail _ (.head _)))).lt b rfl).1
          rw [← hvs.out] at hoS
          have hin := rw_in (A := [_]) hoS (by rw [hvs.out, hlt'.out])
          rw [hvs.out] at hin
          go_roundw
          case rel => exact ⟨x + 1, by omega, by go_num, (hb2.trans hb5).setCell hbB _, vd1, vm1, vs ++ [.slice vd (uniRow f x y).length vm], by rw [List.length_append, hvs.out]; rfl, by rw [hts.out]; exact hin⟩
          case measure => simp [intOf]; omega
    · have hxn : x = n := by omega
      subst hxn
      have tb : wo.cell? ⟨b, 0, none⟩ = some (.slice d0 x m0) := ow_cell hown (.head _) (j := 0) (by omega)
      have xr : wo.cell? ⟨w.heap.size, 0, none⟩ = some (.slice none 0 0) := (hb0.cell (p := ⟨w.heap.size, 0, none⟩) (Nat.lt_succ_self _)).trans x0
      have xrf : wo.frozen? ⟨w.heap.size, 0, none⟩ = false := (hb0.frozen (p := ⟨w.heap.size, 0, none⟩) (Nat.lt_succ_self _)).trans xf
      have hset : (wo.setCell ⟨w.heap.size, 0, none⟩ (.slice d0 x m0)).cell? ⟨w.heap.size, 0, none⟩ = some (.slice d0 x m0) := by go_simp
      have hownR := hown.tail.setBelow (p := ⟨w.heap.size, 0, none⟩) (Nat.lt_succ_self _) (.slice d0 x m0)
      have hown3 := hownR.mono (Nat.le_succ _)
      have eF : Ext w (wo.setCell ⟨w.heap.size, 0, none⟩ (.slice d0 x m0)) := ⟨eW.below.trans ((hb0.mono (Nat.le_succ _)).setCell (Nat.le_refl _) _)⟩
      go_wp2
      refine bodyPost_ret (v := .agg #[.slice d0 x m0]) (by simp [results, Try.results27, go_sem, hset]) rfl ?_
      rw [List.append_nil] at hown3
      exact ⟨_, _, vs, rfl, hvs, hown3, eF⟩
end Go.Proofs.Ytnlbjbnjjkilhaa
