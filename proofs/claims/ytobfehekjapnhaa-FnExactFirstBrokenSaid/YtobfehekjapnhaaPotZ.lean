/- Several texts in one (merge.py). -/
import Derived.Test.YtobfehekjapnhaaCycle
namespace Go.Proofs.Ytobfehekjapnhaa
open Go.RowKit
/- Tables of numbers for the pairs, and the first step at which one is no potential: both sides. -/

/-- whether a list has a number in range for each of m pairs -/
def tabB (m : Nat) (T : List Int) : Bool := decide (T.length = m) && belowB 1000000000000001 T
theorem tabB_at {m k : Nat} {T : List Int} (hk : k < T.length) (h : inB (nth T k) 0 1000000000000000 = false) : tabB m T = false := by
  rw [tabB, Bool.and_eq_false_iff]
  right
  cases hb : belowB 1000000000000001 T with
  | false => rfl
  | true =>
    have := belowB_at hb hk
    have h2 : inB (nth T k) 0 1000000000000000 = true := inB_true.2 (by omega)
    rw [h2] at h
    cases h
theorem belowB_all {T : List Int} (h : ∀ j, j < T.length → inB (nth T j) 0 1000000000000000 = true) : belowB 1000000000000001 T = true := by
  unfold belowB
  rw [decide_eq_true_eq]
  intro x hx
  obtain ⟨j, hj, rfl⟩ := List.getElem_of_mem hx
  have := h j hj
  rw [show nth T j = T[j] by simp [nth, hj]] at this
  exact this
theorem tabB_len {m : Nat} {T : List Int} (h : ∀ j, j < T.length → inB (nth T j) 0 1000000000000000 = true) : tabB m T = decide (T.length = m) := by
  rw [tabB, belowB_all h, Bool.and_true]
theorem tabB_in {m : Nat} {T : List Int} (h : tabB m T = true) : T.length = m ∧ ∀ k, k < T.length → 0 ≤ nth T k ∧ nth T k ≤ 1000000000000000 := by
  simp only [tabB, Bool.and_eq_true, decide_eq_true_eq] at h
  refine ⟨h.1, fun k hk => ?_⟩
  have := belowB_at h.2 hk
  omega
/-- whether a table is no potential at an edge, for the ratio n/d -/
def pE (n d : Int) (T : List Int) (e : List Int) : Bool := decide (nth T (nth e 0).toNat < d * nth e 2 - n * nth e 3 + nth T (nth e 1).toNat)
def brI (g : Gr) (s m : Nat) (n d : Int) (T : List Int) : Int := ixL (pE n d T) (prEd g s m) 0

set_option maxHeartbeats 400000 in
theorem l9Table_any {pd sd : Option Addr} {pn pm sn sm : Nat} {bb : Bool} {vT : Value} {T : List Int} {w0 w : World} [Ext w0 w] (hT : IsInts w0 vT T) :
    Calls Try.prog 61 #[.agg #[.slice pd pn pm, .slice sd sn sm, .bool bb], vT] w fun e w' => e = .returned (.bool (tabB pn T)) ∧ Ext w w' := by
  obtain ⟨aT, cT, rfl, lT⟩ := hT.form
  go_enter Try.func61, Try.ntmps61
  go_upto_region 1 with fail
  have eW : Ext w (w.alloc (.cells #[.slice pd pn pm, .slice sd sn sm, .bool bb] 76)) := inferInstance
  have x0 : (w.alloc (.cells #[.slice pd pn pm, .slice sd sn sm, .bool bb] 76)).cell? ⟨w.heap.size, 0, none⟩ = some (.slice pd pn pm) := by go_simp
  generalize w.alloc (.cells #[.slice pd pn pm, .slice sd sn sm, .bool bb] 76) = W at *
  go_wp2
  go_loopw [5] (fun i wr => ∃ k : Nat, k ≤ T.length ∧ i = .int .i64 k ∧ Hid (∀ j, j < k → inB (nth T j) 0 1000000000000000 = true) ∧ Ext W wr) (fun i _ => T.length - (intOf i).toNat)
  case atStart => exact ⟨0, by omega, rfl, by intro x hx; omega, Ext.refl _⟩
  case round =>
    obtain ⟨k, hk, rfl, hal, hex⟩ := hrel
    have er : Ext w wr := Ext.trans eW hex
    have er0 : Ext w0 wr := Ext.trans ‹Ext w0 w› er
    have y0 := hex.cell x0
    by_cases hlt : k < T.length
    · obtain ⟨b3, o3, rfl, hc3⟩ := hT.at (w' := wr) hlt
      cases hq : inB (nth T k) 0 1000000000000000 with
      | false =>
        have hr := hid (tabB_at (m := pn) hlt hq)
        replace hq := hid hq
        go_wp2_with fail
        refine (l1In_extw _ _ _ _).mono ?_; rw [hq.out]; rintro e w1 ⟨rfl, hb1⟩
        go_wp2_with fail
        go_ret
        exact ⟨ret_bool hr.out.symm, Ext.trans er hb1⟩
      | true =>
        replace hq := hid hq
        go_wp2_with fail
        refine (l1In_extw _ _ _ _).mono ?_; rw [hq.out]; rintro e w1 ⟨rfl, hb1⟩
        go_wp2_with fail
        go_roundw
        case rel =>
          refine ⟨k + 1, by omega, by go_num, ?_, Ext.trans hex hb1⟩
          intro j hj
          by_cases hjk : j = k
          · subst hjk; exact hq.out
          · exact hal.out j (by omega)
        case measure => simp [intOf]; omega
    · have hr := hid (tabB_len (m := pn) (T := T) (fun j hj => hal.out j (by omega)))
      by_cases hle : T.length = pn
      · have hr2 := hid (show tabB pn T = true by rw [hr.out, hle]; simp)
        have hbe : ((T.length : Int) == (pn : Int)) = true := by rw [hle]; simp
        replace hle := hid hle
        go_wp2
        go_ret
        exact ⟨ret_bool hr2.out.symm, er⟩
      · have hr2 := hid (show tabB pn T = false by rw [hr.out]; simp [hle])
        have hbe : ((T.length : Int) == (pn : Int)) = false := by simp; omega
        replace hle := hid hle
        go_wp2
        go_ret
        exact ⟨ret_bool hr2.out.symm, er⟩

set_option maxHeartbeats 400000 in
theorem areBelowB1_any {a n : Int} {B : Nat} {w : World} (hn : w.cell? ⟨B, 0, none⟩ = some (.int .i64 n)) (h0 : 0 ≤ n) (h1 : n ≤ 1000000000000001) :
    Calls Try.prog 120 #[.int .i64 a, .pointer (some ⟨B, 0, none⟩)] w fun e w' => e = .returned (.bool (!inB a 0 (n - 1))) ∧ w = w' := by
  go_enter Try.func120, Try.ntmps120
  go_wp2_with (go_at_call 68; refine (within_any _ _ _ _).mono ?_; rintro e w' ⟨rfl, rfl⟩)
  go_ret
  exact ⟨rfl, rfl⟩
theorem areBelowB1_all {l : List Int} {n : Int} {B : Nat} {w : World} (hn : w.cell? ⟨B, 0, none⟩ = some (.int .i64 n)) (h0 : 0 ≤ n) (h1 : n ≤ 1000000000000001) :
    ∀ (W : World), Ext w W → ∀ k, k < l.length → Calls Try.prog 120 (#[.int .i64 (nth l k)] ++ #[.pointer (some ⟨B, 0, none⟩)]) W fun e w' => e = .returned (.bool ((fun a => !inB a 0 (n - 1)) (nth l k))) ∧ Ext W w' := by
  intro W hW k hk
  refine (areBelowB1_any (hW.cell hn) h0 h1).mono ?_
  rintro e w' ⟨rfl, rfl⟩
  exact ⟨rfl, Ext.refl _⟩

set_option maxHeartbeats 400000 in
theorem areBelowB_any {v : Value} {l : List Int} {n : Int} {w0 w : World} [Ext w0 w] (hl : IsInts w0 v l) (h0 : 0 ≤ n) (h1 : n ≤ 1000000000000001) :
    Calls Try.prog 92 #[.int .i64 n, v] w fun e w' => e = .returned (.bool (belowB n l)) ∧ Ext w w' := by
  have hl' := hl
  obtain ⟨a, c, rfl, la⟩ := hl.form
  have hR := hid (below_any n l)
  go_enter Try.func92, Try.ntmps92
  go_wp2_with fail
  generalize hW : w.alloc (.cells #[.int .i64 n] 3) = W1
  have e1 : Ext w W1 := hW ▸ inferInstance
  have e0 : Ext w0 W1 := Ext.trans ‹Ext w0 w› e1
  have x0 : W1.cell? ⟨w.heap.size, 0, none⟩ = some (.int .i64 n) := by subst hW; go_simp
  clear hW
  refine (containsFuncInts_any (w0 := w0) hl' _ _ (fun a => !inB a 0 (n - 1)) areBelow1_call (areBelowB1_all x0 h0 h1)).mono ?_
  rintro e w2 ⟨rfl, hb⟩
  generalize hz : (l.any fun a => !inB a 0 (n - 1)) = z at *
  replace hz := hid hz
  go_wp2_with fail
  go_ret
  exact ⟨ret_bool hR.out, Ext.trans e1 hb⟩

set_option maxHeartbeats 400000 in
theorem areNumbers_any {vT : Value} {T : List Int} {m : Nat} {w0 w : World} [Ext w0 w] (hT : IsInts w0 vT T) :
    Calls Try.prog 64 #[vT, .int .i64 m] w fun e w' => e = .returned (.bool (tabB m T)) ∧ Ext w w' := by
  have hT' := hT
  obtain ⟨aT, cT, rfl, lT⟩ := hT.form
  go_enter Try.func64, Try.ntmps64
  by_cases hle : T.length = m
  · have hr := hid (show tabB m T = belowB 1000000000000001 T by simp [tabB, hle])
    have hbe : ((T.length : Int) == (m : Int)) = true := by rw [hle]; simp
    replace hle := hid hle
    go_wp2_with fail
    refine (areBelowB_any (w0 := w0) hT' (by omega) (by omega)).mono ?_
    rintro e w1 ⟨rfl, hb1⟩
    go_wp2_with fail
    go_ret
    exact ⟨ret_bool hr.out.symm, hb1⟩
  · have hr := hid (show tabB m T = false by simp [tabB, hle])
    have hbe : ((T.length : Int) == (m : Int)) = false := by simp; omega
    replace hle := hid hle
    go_wp2_with fail
    go_ret
    exact ⟨ret_bool hr.out.symm, inferInstance⟩

set_option maxHeartbeats 400000 in
theorem l9Gain_any {t c y n d : Int} (h : 1 ≤ d ∧ d ≤ 100000 ∧ 0 ≤ n ∧ n ≤ 100000000) (hc : 0 ≤ c ∧ c ≤ 10000) (hy : 0 ≤ y ∧ y ≤ 10000) (w : World) :
    Calls Try.prog 94 #[.agg #[.int .i64 n, .int .i64 d], .agg #[.int .i64 t, .int .i64 c, .int .i64 y]] w fun e w' => e = .returned (.int .i64 (d * c - n * y)) ∧ Ext w w' := by
  have q1 : 0 ≤ d * c ∧ d * c ≤ 1000000000 := ⟨Int.mul_nonneg (by omega) hc.1, Int.le_trans (Int.mul_le_mul h.2.1 hc.2 hc.1 (by omega)) (by omega)⟩
  have q2 : 0 ≤ n * y ∧ n * y ≤ 1000000000000 := ⟨Int.mul_nonneg h.2.2.1 hy.1, Int.le_trans (Int.mul_le_mul h.2.2.2 hy.2 hy.1 (by omega)) (by omega)⟩
  have w1 : IntKind.i64.wrap (d * c) = d * c := IntWalk.i64_in _ (by omega)
  have w2 : IntKind.i64.wrap (n * y) = n * y := IntWalk.i64_in _ (by omega)
  have w3 : IntKind.i64.wrap (d * c - n * y) = d * c - n * y := IntWalk.i64_in _ (by omega)
  go_enter Try.func94, Try.ntmps94
  go_wp2
  go_ret
  exact ⟨rfl, inferInstance⟩

set_option maxHeartbeats 800000 in
set_option maxRecDepth 100000 in
theorem broken1_any {i t : Nat} {c y n d : Int} {B1 B2 cT : Nat} {aT : Option Addr} {T : List Int} {w0 w : World} [Ext w0 w] (h : 1 ≤ d ∧ d ≤ 100000 ∧ 0 ≤ n ∧ n ≤ 100000000) (hc : 0 ≤ c ∧ c ≤ 10000) (hy : 0 ≤ y ∧ y ≤ 10000)
    (hT : IsInts w0 (.slice aT T.length cT) T) (hi : i < T.length) (ht : t < T.length) (hb : ∀ k, k < T.length → 0 ≤ nth T k ∧ nth T k ≤ 1000000000000000)
    (r0 : w.cell? ⟨B1, 0, none⟩ = some (.int .i64 n)) (r1 : w.cell? ⟨B1, 1, none⟩ = some (.int .i64 d)) (t0 : w.cell? ⟨B2, 0, none⟩ = some (.slice aT T.length cT)) :
    Calls Try.prog 96 #[.agg #[.int .i64 i, .int .i64 t, .int .i64 c, .int .i64 y], .pointer (some ⟨B1, 0, none⟩), .pointer (some ⟨B2, 0, none⟩)] w fun e w' => e = .returned (.bool (decide (nth T i < d * c - n * y + nth T t))) ∧ Ext w w' := by
  have q1 : 0 ≤ d * c ∧ d * c ≤ 1000000000 := ⟨Int.mul_nonneg (by omega) hc.1, Int.le_trans (Int.mul_le_mul h.2.1 hc.2 hc.1 (by omega)) (by omega)⟩
  have q2 : 0 ≤ n * y ∧ n * y ≤ 1000000000000 := ⟨Int.mul_nonneg h.2.2.1 hy.1, Int.le_trans (Int.mul_le_mul h.2.2.2 hy.2 hy.1 (by omega)) (by omega)⟩
  have hbt := hb t ht
  have w1 : IntKind.i64.wrap (d * c - n * y + nth T t) = d * c - n * y + nth T t := IntWalk.i64_in _ (by omega)
  have hga := hid (fun W => gain_any (i := i) (t := t) h hc hy W)
  generalize hgd : d * c - n * y = gd at *
  clear hb hbt q1 q2 hgd
  have eW : Ext w (w.alloc (.cells #[.int .i64 i, .int .i64 t, .int .i64 c, .int .i64 y] 120)) := inferInstance
  obtain ⟨W, hW⟩ : ∃ W, W = w.alloc (.cells #[.int .i64 i, .int .i64 t, .int .i64 c, .int .i64 y] 120) := ⟨_, rfl⟩
  rw [← hW] at eW
  have s0 : W.cell? ⟨w.heap.size, 0, none⟩ = some (.int .i64 i) := by rw [hW]; go_simp
  have s1 : W.cell? ⟨w.heap.size, 1, none⟩ = some (.int .i64 t) := by rw [hW]; go_simp
  have s2 : W.cell? ⟨w.heap.size, 2, none⟩ = some (.int .i64 c) := by rw [hW]; go_simp
  have s3 : W.cell? ⟨w.heap.size, 3, none⟩ = some (.int .i64 y) := by rw [hW]; go_simp
  have eW0 : Ext w0 W := Ext.trans ‹Ext w0 w› eW
  have u0 := eW.cell r0
  have u1 := eW.cell r1
  have u2 := eW.cell t0
  obtain ⟨b4, o4, h4, hv4⟩ := hT.at (w' := W) ht
  obtain ⟨b5, o5, h5, hv5⟩ := hT.at (w' := W) hi
  rw [h4] at h5
  cases h5
  subst h4
  go_enter Try.func96, Try.ntmps96
  go_upto_region 1 with fail
  rw [← hW]
  clear hW
  have ed : Ext W (W).drew := inferInstance
  refine wp_region_held_drew (S := fun w' => Ext W w' ∧ w'.cell? ⟨w.heap.size, 0, none⟩ = some (.int .i64 i) ∧ w'.cell? ⟨w.heap.size, 1, none⟩ = some (.int .i64 t) ∧ w'.cell? ⟨w.heap.size, 2, none⟩ = some (.int .i64 c) ∧ w'.cell? ⟨w.heap.size, 3, none⟩ = some (.int .i64 y) ∧ w'.cell? ⟨B1, 0, none⟩ = some (.int .i64 n) ∧ w'.cell? ⟨B1, 1, none⟩ = some (.int .i64 d) ∧ w'.cell? ⟨B2, 0, none⟩ = some (.slice (some ⟨b4, o4, none⟩) T.length cT) ∧ w'.cell? ⟨b4, o4 + t, none⟩ = some (.int .i64 (nth T t)) ∧ w'.cell? ⟨b4, o4 + i, none⟩ = some (.int .i64 (nth T i))) (by kernel_rfl) ⟨ed, ed.cell s0, ed.cell s1, ed.cell s2, ed.cell s3, ed.cell u0, ed.cell u1, ed.cell u2, ed.cell hv4, ed.cell hv5⟩ (fun hHeld0 => ?_)
  refine wpAnyH_take (i := 0) (v := .agg #[.int .i64 i, .int .i64 t, .int .i64 c, .int .i64 y]) rfl (by kernel_rfl) (by kernel_rfl) (by kernel_rfl) (fun _ _ _ h => h) (Or.inl ⟨by rfl, by intro wx hx; obtain ⟨_, _, _, _, _, _, _, _, _, _⟩ := hx; go_simp⟩) (by assumption) ?_
  try simp only [List.getElem_toArray, List.getElem_cons_zero, Act.put, List.setIfInBounds_toArray, List.set_cons_zero, List.set_cons_succ]
  refine wpAnyH_take (i := 1) (v := .agg #[.int .i64 n, .int .i64 d]) rfl (by kernel_rfl) (by kernel_rfl) (by kernel_rfl) (fun _ _ _ h => h) (Or.inl ⟨by rfl, by intro wx hx; obtain ⟨_, _, _, _, _, _, _, _, _, _⟩ := hx; go_simp⟩) (by assumption) ?_
  try simp only [List.getElem_toArray, List.getElem_cons_succ, List.getElem_cons_zero, Act.put, List.setIfInBounds_toArray, List.set_cons_zero, List.set_cons_succ]
  refine wpAnyH_take (i := 3) (v := .slice (some ⟨b4, o4, none⟩) T.length cT) rfl (by kernel_rfl) (by kernel_rfl) (by kernel_rfl) (fun _ _ _ h => h) (Or.inl ⟨by rfl, by intro wx hx; obtain ⟨_, _, _, _, _, _, _, _, _, _⟩ := hx; go_simp⟩) (by assumption) ?_
  try simp only [List.getElem_toArray, List.getElem_cons_succ, List.getElem_cons_zero, Act.put, List.setIfInBounds_toArray, List.set_cons_zero, List.set_cons_succ]
  refine wpAnyH_take (i := 4) (v := .pointer (some ⟨w.heap.size, 1, none⟩)) rfl (by kernel_rfl) (by kernel_rfl) (by kernel_rfl) (fun _ _ _ h => h) (Or.inl ⟨by rfl, by intro wx hx; go_simp⟩) (by assumption) ?_
  try simp only [List.getElem_toArray, List.getElem_cons_succ, List.getElem_cons_zero, Act.put, List.setIfInBounds_toArray, List.set_cons_zero, List.set_cons_succ]
  refine wpAnyH_take (i := 5) (v := .int .i64 t) rfl (by kernel_rfl) (by kernel_rfl) (by kernel_rfl) (fun _ _ _ h => h) (Or.inl ⟨by rfl, by intro wx hx; obtain ⟨_, _, _, _, _, _, _, _, _, _⟩ := hx; go_simp⟩) (by assumption) ?_
  try simp only [List.getElem_toArray, List.getElem_cons_succ, List.getElem_cons_zero, Act.put, List.setIfInBounds_toArray, List.set_cons_zero, List.set_cons_succ]
  refine wpAnyH_take (i := 6) (v := .pointer (some ⟨b4, o4 + t, none⟩)) rfl (by kernel_rfl) (by kernel_rfl) (by kernel_rfl) (fun _ _ _ h => h) (Or.inl ⟨by rfl, by intro wx hx; go_simp⟩) (by assumption) ?_
  try simp only [List.getElem_toArray, List.getElem_cons_succ, List.getElem_cons_zero, Act.put, List.setIfInBounds_toArray, List.set_cons_zero, List.set_cons_succ]
  refine wpAnyH_take (i := 7) (v := .int .i64 (nth T t)) rfl (by kernel_rfl) (by kernel_rfl) (by kernel_rfl) (fun _ _ _ h => h) (Or.inl ⟨by rfl, by intro wx hx; obtain ⟨_, _, _, _, _, _, _, _, _, _⟩ := hx; go_simp⟩) (by assumption) ?_
  try simp only [List.getElem_toArray, List.getElem_cons_succ, List.getElem_cons_zero, Act.put, List.setIfInBounds_toArray, List.set_cons_zero, List.set_cons_succ]
  refine wpAnyH_take (i := 9) (v := .slice (some ⟨b4, o4, none⟩) T.length cT) rfl (by kernel_rfl) (by kernel_rfl) (by kernel_rfl) (fun _ _ _ h => h) (Or.inl ⟨by rfl, by intro wx hx; obtain ⟨_, _, _, _, _, _, _, _, _, _⟩ := hx; go_simp⟩) (by assumption) ?_
  try simp only [List.getElem_toArray, List.getElem_cons_succ, List.getElem_cons_zero, Act.put, List.setIfInBounds_toArray, List.set_cons_zero, List.set_cons_succ]
  refine wpAnyH_take (i := 10) (v := .pointer (some ⟨w.heap.size, 0, none⟩)) rfl (by kernel_rfl) (by kernel_rfl) (by kernel_rfl) (fun _ _ _ h => h) (Or.inl ⟨by rfl, by intro wx hx; go_simp⟩) (by assumption) ?_
  try simp only [List.getElem_toArray, List.getElem_cons_succ, List.getElem_cons_zero, Act.put, List.setIfInBounds_toArray, List.set_cons_zero, List.set_cons_succ]
  refine wpAnyH_take (i := 11) (v := .int .i64 i) rfl (by kernel_rfl) (by kernel_rfl) (by kernel_rfl) (fun _ _ _ h => h) (Or.inl ⟨by rfl, by intro wx hx; obtain ⟨_, _, _, _, _, _, _, _, _, _⟩ := hx; go_simp⟩) (by assumption) ?_
  try simp only [List.getElem_toArray, List.getElem_cons_succ, List.getElem_cons_zero, Act.put, List.setIfInBounds_toArray, List.set_cons_zero, List.set_cons_succ]
  refine wpAnyH_take (i := 12) (v := .pointer (some ⟨b4, o4 + i, none⟩)) rfl (by kernel_rfl) (by kernel_rfl) (by kernel_rfl) (fun _ _ _ h => h) (Or.inl ⟨by rfl, by intro wx hx; go_simp⟩) (by assumption) ?_
  try simp only [List.getElem_toArray, List.getElem_cons_succ, List.getElem_cons_zero, Act.put, List.setIfInBounds_toArray, List.set_cons_zero, List.set_cons_succ]
  refine wpAnyH_take (i := 13) (v := .int .i64 (nth T i)) rfl (by kernel_rfl) (by kernel_rfl) (by kernel_rfl) (fun _ _ _ h => h) (Or.inl ⟨by rfl, by intro wx hx; obtain ⟨_, _, _, _, _, _, _, _, _, _⟩ := hx; go_simp⟩) (by assumption) ?_
  try simp only [List.getElem_toArray, List.getElem_cons_succ, List.getElem_cons_zero, Act.put, List.setIfInBounds_toArray, List.set_cons_zero, List.set_cons_succ]
  refine wpAnyH_ready (rs := [2]) (by kernel_rfl) (by simp) ?_
  refine AllReadyH.cons rfl (fun K hK => ?_) AllReadyH.nil
  go_simp
  go_at_call 97
  refine (hga.out _).mono ?_
  rintro e w2 ⟨rfl, hb2⟩
  go_wp2_with fail
  have er1 : Ext W w2 := Ext.trans ed hb2
  refine hK.out _ _ ⟨er1, er1.cell s0, er1.cell s1, er1.cell s2, er1.cell s3, er1.cell u0, er1.cell u1, er1.cell u2, er1.cell hv4, er1.cell hv5⟩ (fun hHeld1 => ?_)
  clear hK K hHeld0
  try simp only [List.getElem_toArray, List.getElem_cons_succ, List.getElem_cons_zero, Act.put, List.setIfInBounds_toArray, List.set_cons_zero, List.set_cons_succ]
  refine wpAnyH_take (i := 8) (v := .int .i64 (gd + nth T t)) rfl (by kernel_rfl) (by kernel_rfl) (by kernel_rfl) (fun _ _ _ h => h) (Or.inl ⟨by rfl, by intro wx hx; go_simp⟩) (by assumption) ?_
  try simp only [List.getElem_toArray, List.getElem_cons_succ, List.getElem_cons_zero, Act.put, List.setIfInBounds_toArray, List.set_cons_zero, List.set_cons_succ]
  refine wpAnyH_take (i := 14) (v := .bool (decide (nth T i < gd + nth T t))) rfl (by kernel_rfl) (by kernel_rfl) (by kernel_rfl) (fun _ _ _ h => h) (Or.inl ⟨by rfl, by intro wx hx; go_simp⟩) (by assumption) ?_
  try simp only [List.getElem_toArray, List.getElem_cons_succ, List.getElem_cons_zero, Act.put, List.setIfInBounds_toArray, List.set_cons_zero, List.set_cons_succ]
  refine wpAnyH_take (i := 15) (v := .bool (decide (nth T i < gd + nth T t))) rfl (by kernel_rfl) (by kernel_rfl) (by kernel_rfl) (fun _ _ _ h => h) (Or.inl ⟨by rfl, by intro wx hx; go_simp⟩) (by assumption) ?_
  try simp only [List.getElem_toArray, List.getElem_cons_succ, List.getElem_cons_zero, Act.put, List.setIfInBounds_toArray, List.set_cons_zero, List.set_cons_succ]
  refine wpAnyH_done (by kernel_rfl) ?_ _
  go_wp2_with fail
  go_ret
  exact ⟨rfl, Ext.trans eW er1⟩
theorem broken1_call (xa : Array Value) (W : World) : (callFunc 96 xa).run Try.prog W = .ok (.enter 96 xa) W := by kernel_rfl

set_option maxHeartbeats 400000 in
set_option maxRecDepth 100000 in
theorem indexEdges_any {v : Value} {E : List (List Int)} {w0 w : World} [Ext w0 w] (hx : IsFlat w0 v 4 E) (id : Nat) (caps : Array Value) (p : List Int → Bool)
    (hcall : ∀ xa W, (callFunc id xa).run Try.prog W = .ok (.enter id xa) W)
    (hf : ∀ (W : World), Ext w W → ∀ k, k < E.length → Calls Try.prog id (#[.agg #[.int .i64 (cell E k 0), .int .i64 (cell E k 1), .int .i64 (cell E k 2), .int .i64 (cell E k 3)]] ++ caps) W fun e w' => e = .returned (.bool (p (row E k))) ∧ Ext W w') :
    Calls Try.prog 95 #[v, .func (.func id) #[] caps] w fun e w' => e = .returned (.int .i64 (ixL p E 0)) ∧ Ext w w' := by
  obtain ⟨a, c, rfl, la⟩ := hx.form
  go_enter Try.func95, Try.ntmps95
  replace hf := hid hf
  go_wp2
  go_loopw [5, 8] (fun _ i wr => ∃ k : Nat, k ≤ E.length ∧ i = .int .i64 k ∧ Hid (∀ j, j < k → p (row E j) = false) ∧ Ext w wr) (fun _ i _ => E.length - (intOf i).toNat)
  case atStart => exact ⟨0, by omega, rfl, by intro x hx; omega, inferInstance⟩
  case round =>
    obtain ⟨k, hk, rfl, hno, hb⟩ := hrel
    by_cases hlt : k < E.length
    · have e0 : Ext w0 wr := Ext.trans ‹Ext w0 w› hb
      obtain ⟨b, o, rfl, hce⟩ := hx.at (w' := wr) hlt
      have g0 := hce 0 (by omega)
      have g1 := hce 1 (by omega)
      have g2 := hce 2 (by omega)
      have g3 := hce 3 (by omega)
      rw [Nat.add_zero] at g0
      clear hce
      have hfk := hid (hf.out wr hb k hlt)
      generalize cell E k 0 = e0 at *
      generalize cell E k 1 = e1 at *
      generalize cell E k 2 = e2 at *
      generalize cell E k 3 = e3 at *
      cases hp : p (row E k) with
      | true =>
        have hres := hid (ixL_some (p := p) (xs := E) (i := 0) hlt hp (fun j hj => hno.out j hj))
        rw [Nat.zero_add] at hres
        replace hp := hid hp
        go_wp2_with fail
        refine hfk.out.mono ?_
        rw [hp.out]
        rintro e w1 ⟨rfl, hb1⟩
        go_wp2_with fail
        go_ret
        exact ⟨ret_int hres.out.symm, Ext.trans hb hb1⟩
      | false =>
        replace hp := hid hp
        go_wp2_with fail
        refine hfk.out.mono ?_
        rw [hp.out]
        rintro e w1 ⟨rfl, hb1⟩
        go_wp2_with fail
        go_roundw
        case rel =>
          refine ⟨k + 1, by omega, by go_num, ?_, Ext.trans hb hb1⟩
          intro j hj
          by_cases hjk : j = k
          · subst hjk; exact hp.out
          · exact hno.out j (by omega)
        case measure => simp [intOf]; omega
    · have hres := hid (ixL_none (p := p) (xs := E) (i := 0) (fun j hj => hno.out j (by omega)))
      go_wp2
      go_ret
      exact ⟨ret_int hres.out.symm, hb⟩

/-- an edge's four numbers, within their bounds -/
theorem prEd_at {g : Gr} {n s m k : Nat} (hg : g.Ok n) (hs : s < g.M.length) (h : prEnd g s = some m) (hk : k < (prEd g s m).length) :
    ∃ i r t : Nat, ∃ c y : Int, i < m ∧ r < g.S.length ∧ k = i * g.S.length + r ∧ row (prEd g s m) k = [(i : Int), (t : Int), c, y] ∧ stepAt g s i r = [(t : Int), c, y] ∧ t < m ∧ 0 ≤ c ∧ c ≤ 119 ∧ 0 ≤ y ∧ y ≤ 1000 := by
  rw [prEd_length] at hk
  have hS := (probB_len hg.prob).2.2.1
  have hr : k % g.S.length < g.S.length := Nat.mod_lt _ (by omega)
  have hi : k / g.S.length < m := (Nat.div_lt_iff_lt_mul (by omega)).2 hk
  have hkk : k = k / g.S.length * g.S.length + k % g.S.length := by rw [Nat.mul_comm]; exact (Nat.div_add_mod k g.S.length).symm
  obtain ⟨t, c, y, e, h1, h2, h3, h4, h5, h6⟩ := stepAt_in hg hs h hi hr
  obtain ⟨t, rfl⟩ := Int.eq_ofNat_of_zero_le h1
  refine ⟨k / g.S.length, k % g.S.length, t, c, y, hi, hr, hkk, ?_, e, by omega, h3, h4, h5, h6⟩
  have := row_prEd (g := g) (s := s) hi hr
  rw [← hkk, e] at this
  exact this

set_option maxHeartbeats 800000 in
set_option maxRecDepth 100000 in
theorem broken_any {bx : Nat} {vT : Value} {n d : Int} {g : Gr} {nn s m : Nat} {T : List Int} {w0 w : World} [Ext w0 w] (hg : g.Ok nn) (hs : s < g.M.length) (hend : prEnd g s = some m)
    (hpx : IsPx w0 bx g s m g.S.length) (hT : IsInts w0 vT T) (hrt : ratioB n d = true) (htb : tabB m T = true) :
    Calls Try.prog 65 #[.pointer (some ⟨bx, 0, none⟩), .agg #[.int .i64 n, .int .i64 d], vT] w fun e w' => e = .returned (.int .i64 (brI g s m n d T)) ∧ Ext w w' := by
  obtain ⟨aT, cT, rfl, lT⟩ := hT.form
  obtain ⟨ed, em, hb1, hE⟩ := hpx.edges
  have hri := ratioB_in hrt
  obtain ⟨htl, htr⟩ := tabB_in htb
  obtain ⟨W, hW⟩ : ∃ W, W = (w.alloc (.cells #[.int .i64 n, .int .i64 d] 39)).alloc (.cells #[.slice aT T.length cT] 25) := ⟨_, rfl⟩
  have eW : Ext w W := by rw [hW]; infer_instance
  have r0 : W.cell? ⟨w.heap.size, 0, none⟩ = some (.int .i64 n) := by rw [hW]; go_simp
  have r1 : W.cell? ⟨w.heap.size, 1, none⟩ = some (.int .i64 d) := by rw [hW]; go_simp
  have t0 : W.cell? ⟨w.heap.size + 1, 0, none⟩ = some (.slice aT T.length cT) := by rw [hW]; go_simp
  have eW0 : Ext w0 W := Ext.trans ‹Ext w0 w› eW
  have u1 := eW0.cell hb1
  have hall : ∀ (W1 : World), Ext W W1 → ∀ k, k < (prEd g s m).length → Calls Try.prog 96 (#[.agg #[.int .i64 (cell (prEd g s m) k 0), .int .i64 (cell (prEd g s m) k 1), .int .i64 (cell (prEd g s m) k 2), .int .i64 (cell (prEd g s m) k 3)]] ++ #[.pointer (some ⟨w.heap.size, 0, none⟩), .pointer (some ⟨w.heap.size + 1, 0, none⟩)]) W1 fun e w' => e = .returned (.bool (pE n d T (row (prEd g s m) k))) ∧ Ext W1 w' := by
    intro W1 e1 k hk
    obtain ⟨i, r, t, c, y, hi, hr, hkk, hrow, _, ht, hc0, hc1, hy0, hy1⟩ := prEd_at hg hs hend hk
    have e0 : Ext w0 W1 := Ext.trans eW0 e1
    have h := broken1_any (w0 := w0) (w := W1) (i := i) (t := t) hri ⟨hc0, by omega⟩ ⟨hy0, by omega⟩ hT (by omega) (by omega) htr (e1.cell r0) (e1.cell r1) (e1.cell t0)
    unfold cell
    rw [hrow]
    exact h
  replace hall := hid hall
  replace htl := hid htl
  replace hrt := hid hrt
  replace htb := hid htb
  clear htr hri
  go_enter Try.func65, Try.ntmps65
  go_upto_region 1 with fail
  rw [← hW]
  clear hW
  go_wp2_with fail
  refine (indexEdges_any (w0 := w0) hE _ _ (pE n d T) broken1_call hall.out).mono ?_
  rintro e w1 ⟨rfl, hb⟩
  go_wp2_with fail
  go_ret
  exact ⟨rfl, Ext.trans eW hb⟩

/-- what the specification says of the first step at which a table is no potential -/
def brPost (g : Gr) (s m : Nat) (n d : Int) (T : List Int) (e : Ending) : Prop :=
  (∃ i r : Nat, i < m ∧ r < g.S.length ∧ brI g s m n d T = ((i * g.S.length + r : Nat) : Int) ∧ e = .returned (.tuple #[.agg #[.int .i64 i, .int .i64 r], .bool true])) ∨
  (brI g s m n d T = -1 ∧ e = .returned (.tuple #[.agg #[.int .i64 0, .int .i64 0], .bool false]))

set_option maxHeartbeats 1600000 in
set_option maxRecDepth 100000 in
theorem l9Broken_any {pd sd : Option Addr} {pn pm sm : Nat} {bb : Bool} {vT : Value} {n d : Int} {g : Gr} {nn s m : Nat} {T : List Int} {w0 w : World} [Ext w0 w] (hg : g.Ok nn) (hs : s < g.M.length) (hend : prEnd g s = some m)
    (hMs : IsFlats w0 (.slice sd (prSt g s m).length sm) 3 (prSt g s m)) (hT : IsInts w0 vT T) (hrt : ratioB n d = true) (htb : tabB m T = true) :
    Calls Try.prog 62 #[.agg #[.slice pd pn pm, .slice sd (prSt g s m).length sm, .bool bb], .agg #[.int .i64 n, .int .i64 d], vT] w fun e w' => brPost g s m n d T e ∧ Ext w w' := by
  obtain ⟨aT, cT, rfl, lT⟩ := hT.form
  have hri := hid (ratioB_in hrt)
  obtain ⟨htl, htr⟩ := tabB_in htb
  replace htl := hid htl
  replace htr := hid htr
  have hl := hid (prSt_length g s m)
  have hel := hid (prEd_length g s m)
  have h6 := hid (prEnd_some hg hs hend)
  have hk4 : g.S.length ≤ 4 := (probB_len hg.prob).2.2.2
  have hm6 : m ≤ 600 := h6.out.2.1
  replace hg := hid hg
  replace hend := hid hend
  replace hrt := hid hrt
  replace htb := hid htb
  obtain ⟨W, hW⟩ : ∃ W, W = ((w.alloc (.cells #[.slice pd pn pm, .slice sd (prSt g s m).length sm, .bool bb] 76)).alloc (.cells #[.int .i64 n, .int .i64 d] 39)).alloc (.cells #[.int .i64 0, .int .i64 0] 59) := ⟨_, rfl⟩
  have eW : Ext w W := by rw [hW]; infer_instance
  have x1 : W.cell? ⟨w.heap.size, 1, none⟩ = some (.slice sd (prSt g s m).length sm) := by rw [hW]; go_simp
  have r0 : W.cell? ⟨w.heap.size + 1, 0, none⟩ = some (.int .i64 n) := by rw [hW]; go_simp
  have r1 : W.cell? ⟨w.heap.size + 1, 1, none⟩ = some (.int .i64 d) := by rw [hW]; go_simp
  have z0 : W.cell? ⟨w.heap.size + 1 + 1, 0, none⟩ = some (.int .i64 0) := by rw [hW]; go_simp
  have z1 : W.cell? ⟨w.heap.size + 1 + 1, 1, none⟩ = some (.int .i64 0) := by rw [hW]; go_simp
  have f0 : W.frozen? ⟨w.heap.size + 1 + 1, 0, none⟩ = false := by rw [hW]; go_simp
  have f1 : W.frozen? ⟨w.heap.size + 1 + 1, 1, none⟩ = false := by rw [hW]; go_simp
  go_enter Try.func62, Try.ntmps62
  go_upto_region 1 with fail
  rw [← hW]
  clear hW
  go_wp2
  go_loopw [8, 9] (fun i _ wr => ∃ p : Nat, p ≤ m ∧ i = .int .i64 p ∧ Hid (∀ j, j < p * g.S.length → pE n d T (row (prEd g s m) j) = false) ∧ Ext W wr) (fun i _ _ => m - (intOf i).toNat)
  case atStart => exact ⟨0, by omega, rfl, by intro x hx; omega, Ext.refl _⟩
  case round =>
    obtain ⟨p, hp, rfl, hno, hex⟩ := hrel
    have er : Ext w wr := Ext.trans eW hex
    have y1 := hex.cell x1
    by_cases hlt : p < m
    · have hplI : (p : Int) < ((prSt g s m).length : Int) := by rw [hl.out]; omega
      go_wp2
      go_loopw [9] (fun q wj => ∃ r : Nat, r ≤ g.S.length ∧ q = .int .i64 r ∧ Hid (∀ j, j < p * g.S.length + r → pE n d T (row (prEd g s m) j) = false) ∧ Ext W wj) (fun q _ => g.S.length - (intOf q).toNat)
      case atStart => exact ⟨0, by omega, rfl, hid (by simpa using hno.out), hex⟩
      case round =>
        obtain ⟨r, hr, rfl, hnr, hxj⟩ := hrel
        have erj : Ext w wr := Ext.trans eW hxj
        have e0j : Ext w0 wr := Ext.trans ‹Ext w0 w› erj
        have v1 := hxj.cell x1
        obtain ⟨b4, o4, d4, m4, rfl, hc4, hr4⟩ := hMs.at (w' := wr) (k := p) (by rw [hl.out]; exact hlt)
        have hrow := hid (prSt_at (g := g) (s := s) hlt)
        have hrl : ((prSt g s m).getD p []).length = g.S.length := by rw [hrow.out, rowSt_length]
        rw [hrl] at hc4 hr4
        by_cases hrS : r < g.S.length
        · obtain ⟨b5, o5, rfl, hc5⟩ := hr4.at (w' := wr) (j := r) (by rw [hrl]; exact hrS)
          obtain ⟨t, c, y, hst, ht0, ht1, hc0, hc1, hy0, hy1⟩ := stepAt_in hg.out hs hend.out hlt hrS
          obtain ⟨t, rfl⟩ := Int.eq_ofNat_of_zero_le ht0
          have hst' : stpRow g (prLst g s p) p r = [(t : Int), c, y] := hst
          have hv0 : wr.cell? ⟨b5, o5 + r * 3, none⟩ = some (.int .i64 t) := by
            have := hc5 0 (by omega)
            rw [Nat.add_zero] at this
            rw [this, hrow.out]
            unfold cell
            rw [row_rowSt hrS, hst']
            rfl
          have hv1 : wr.cell? ⟨b5, o5 + r * 3 + 1, none⟩ = some (.int .i64 c) := by
            rw [hc5 1 (by omega), hrow.out]
            unfold cell
            rw [row_rowSt hrS, hst']
            rfl
          have hv2 : wr.cell? ⟨b5, o5 + r * 3 + 2, none⟩ = some (.int .i64 y) := by
            rw [hc5 2 (by omega), hrow.out]
            unfold cell
            rw [row_rowSt hrS, hst']
            rfl
          clear hc5 hst'
          have htT : t < T.length := by have := htl.out; omega
          have hpT : p < T.length := by have := htl.out; omega
          obtain ⟨b6, o6, h6a, hq6⟩ := hT.at (w' := wr) htT
          obtain ⟨b7, o7, h7a, hq7⟩ := hT.at (w' := wr) hpT
          rw [h6a] at h7a
          cases h7a
          subst h6a
          have hrowE := hid (row_prEd (g := g) (s := s) hlt hrS)
          have hpe := hid (show pE n d T (row (prEd g s m) (p * g.S.length + r)) = decide (nth T p < d * c - n * y + nth T t) by
            rw [hrowE.out, hst]
            rfl)
          have hklt := hid (show p * g.S.length + r < (prEd g s m).length by
            rw [hel.out]
            have h1 : (p + 1) * g.S.length ≤ m * g.S.length := Nat.mul_le_mul_right _ (by omega)
            rw [Nat.add_mul, Nat.one_mul] at h1
            omega)
          have hrr := hri.out
          have q1 : 0 ≤ d * c ∧ d * c ≤ 1000000000 := ⟨Int.mul_nonneg (by omega) hc0, Int.le_trans (Int.mul_le_mul hrr.2.1 (show c ≤ 10000 by omega) hc0 (by omega)) (by omega)⟩
          have q2 : 0 ≤ n * y ∧ n * y ≤ 1000000000000 := ⟨Int.mul_nonneg hrr.2.2.1 hy0, Int.le_trans (Int.mul_le_mul hrr.2.2.2 (show y ≤ 10000 by omega) hy0 (by omega)) (by omega)⟩
          have hbt := htr.out t htT
          have hwr : IntKind.i64.wrap (d * c - n * y + nth T t) = d * c - n * y + nth T t := IntWalk.i64_in _ (by omega)
          have hga := hid (fun W => l9Gain_any (t := t) hri.out ⟨hc0, by omega⟩ ⟨hy0, by omega⟩ W)
          generalize hgd : d * c - n * y = gd at *
          clear hbt q1 q2 hgd hrr hr4
          replace hrow := hid hrow
          replace hst := hid hst
          have hplN : p < (prSt g s m).length := by rw [hl.out]; exact hlt
          have m0 := hxj.cell r0
          have m1 := hxj.cell r1
          go_upto_region 7 with fail
          have ed : Ext wr (wr).drew := inferInstance
          refine wp_region_held_drew (S := fun w' => Ext wr w' ∧ w'.cell? ⟨w.heap.size, 1, none⟩ = some (.slice (some ⟨b4, o4, none⟩) (prSt g s m).length sm) ∧ w'.cell? ⟨w.heap.size + 1, 0, none⟩ = some (.int .i64 n) ∧ w'.cell? ⟨w.heap.size + 1, 1, none⟩ = some (.int .i64 d) ∧ w'.cell? ⟨b4, o4 + p, none⟩ = some (.slice (some ⟨b5, o5, none⟩) g.S.length m4) ∧ w'.cell? ⟨b5, o5 + r * 3, none⟩ = some (.int .i64 t) ∧ w'.cell? ⟨b5, o5 + r * 3 + 1, none⟩ = some (.int .i64 c) ∧ w'.cell? ⟨b5, o5 + r * 3 + 2, none⟩ = some (.int .i64 y) ∧ w'.cell? ⟨b6, o6 + t, none⟩ = some (.int .i64 (nth T t)) ∧ w'.cell? ⟨b6, o6 + p, none⟩ = some (.int .i64 (nth T p))) (by kernel_rfl) ⟨ed, ed.cell v1, ed.cell m0, ed.cell m1, ed.cell hc4, ed.cell hv0, ed.cell hv1, ed.cell hv2, ed.cell hq6, ed.cell hq7⟩ (fun hHeld0 => ?_)
          refine wpAnyH_take (i := 0) (v := .agg #[.int .i64 n, .int .i64 d]) rfl (by kernel_rfl) (by kernel_rfl) (by kernel_rfl) (fun _ _ _ h => h) (Or.inl ⟨by rfl, by intro wx hx; obtain ⟨_, _, _, _, _, _, _, _, _, _⟩ := hx; go_simp⟩) (by assumption) ?_
          try simp only [List.getElem_toArray, List.getElem_cons_zero, Act.put, List.setIfInBounds_toArray, List.set_cons_zero, List.set_cons_succ]
          refine wpAnyH_take (i := 1) (v := .pointer (some ⟨w.heap.size, 1, none⟩)) rfl (by kernel_rfl) (by kernel_rfl) (by kernel_rfl) (fun _ _ _ h => h) (Or.inl ⟨by rfl, by intro wx hx; go_simp⟩) (by assumption) ?_
          try simp only [List.getElem_toArray, List.getElem_cons_succ, List.getElem_cons_zero, Act.put, List.setIfInBounds_toArray, List.set_cons_zero, List.set_cons_succ]
          refine wpAnyH_take (i := 2) (v := .slice (some ⟨b4, o4, none⟩) (prSt g s m).length sm) rfl (by kernel_rfl) (by kernel_rfl) (by kernel_rfl) (fun _ _ _ h => h) (Or.inl ⟨by rfl, by intro wx hx; obtain ⟨_, _, _, _, _, _, _, _, _, _⟩ := hx; go_simp⟩) (by assumption) ?_
          try simp only [List.getElem_toArray, List.getElem_cons_succ, List.getElem_cons_zero, Act.put, List.setIfInBounds_toArray, List.set_cons_zero, List.set_cons_succ]
          refine wpAnyH_take (i := 3) (v := .int .i64 p) rfl (by kernel_rfl) (by kernel_rfl) (by kernel_rfl) (fun _ _ _ h => h) (Or.inl ⟨by rfl, by intro wx hx; go_simp⟩) (by assumption) ?_
          try simp only [List.getElem_toArray, List.getElem_cons_succ, List.getElem_cons_zero, Act.put, List.setIfInBounds_toArray, List.set_cons_zero, List.set_cons_succ]
          refine wpAnyH_take (i := 4) (v := .pointer (some ⟨b4, o4 + p, none⟩)) rfl (by kernel_rfl) (by kernel_rfl) (by kernel_rfl) (fun _ _ _ h => h) (Or.inl ⟨by rfl, by intro wx hx; go_simp⟩) (by assumption) ?_
          try simp only [List.getElem_toArray, List.getElem_cons_succ, List.getElem_cons_zero, Act.put, List.setIfInBounds_toArray, List.set_cons_zero, List.set_cons_succ]
          refine wpAnyH_take (i := 5) (v := .slice (some ⟨b5, o5, none⟩) g.S.length m4) rfl (by kernel_rfl) (by kernel_rfl) (by kernel_rfl) (fun _ _ _ h => h) (Or.inl ⟨by rfl, by intro wx hx; obtain ⟨_, _, _, _, _, _, _, _, _, _⟩ := hx; go_simp⟩) (by assumption) ?_
          try simp only [List.getElem_toArray, List.getElem_cons_succ, List.getElem_cons_zero, Act.put, List.setIfInBounds_toArray, List.set_cons_zero, List.set_cons_succ]
          refine wpAnyH_take (i := 6) (v := .int .i64 r) rfl (by kernel_rfl) (by kernel_rfl) (by kernel_rfl) (fun _ _ _ h => h) (Or.inl ⟨by rfl, by intro wx hx; go_simp⟩) (by assumption) ?_
          try simp only [List.getElem_toArray, List.getElem_cons_succ, List.getElem_cons_zero, Act.put, List.setIfInBounds_toArray, List.set_cons_zero, List.set_cons_succ]
          refine wpAnyH_take (i := 7) (v := .pointer (some ⟨b5, o5 + r * 3, none⟩)) rfl (by kernel_rfl) (by kernel_rfl) (by kernel_rfl) (fun _ _ _ h => h) (Or.inl ⟨by rfl, by intro wx hx; go_simp⟩) (by assumption) ?_
          try simp only [List.getElem_toArray, List.getElem_cons_succ, List.getElem_cons_zero, Act.put, List.setIfInBounds_toArray, List.set_cons_zero, List.set_cons_succ]
          refine wpAnyH_take (i := 8) (v := .agg #[.int .i64 t, .int .i64 c, .int .i64 y]) rfl (by kernel_rfl) (by kernel_rfl) (by kernel_rfl) (fun _ _ _ h => h) (Or.inl ⟨by rfl, by intro wx hx; obtain ⟨_, _, _, _, _, _, _, _, _, _⟩ := hx; go_simp⟩) (by assumption) ?_
          try simp only [List.getElem_toArray, List.getElem_cons_succ, List.getElem_cons_zero, Act.put, List.setIfInBounds_toArray, List.set_cons_zero, List.set_cons_succ]
          refine wpAnyH_take (i := 10) (v := .slice (some ⟨b6, o6, none⟩) T.length cT) rfl (by kernel_rfl) (by kernel_rfl) (by kernel_rfl) (fun _ _ _ h => h) (Or.inl ⟨by rfl, by intro wx hx; go_simp⟩) (by assumption) ?_
          try simp only [List.getElem_toArray, List.getElem_cons_succ, List.getElem_cons_zero, Act.put, List.setIfInBounds_toArray, List.set_cons_zero, List.set_cons_succ]
          refine wpAnyH_take (i := 11) (v := .pointer (some ⟨w.heap.size, 1, none⟩)) rfl (by kernel_rfl) (by kernel_rfl) (by kernel_rfl) (fun _ _ _ h => h) (Or.inl ⟨by rfl, by intro wx hx; go_simp⟩) (by assumption) ?_
          try simp only [List.getElem_toArray, List.getElem_cons_succ, List.getElem_cons_zero, Act.put, List.setIfInBounds_toArray, List.set_cons_zero, List.set_cons_succ]
          refine wpAnyH_take (i := 12) (v := .slice (some ⟨b4, o4, none⟩) (prSt g s m).length sm) rfl (by kernel_rfl) (by kernel_rfl) (by kernel_rfl) (fun _ _ _ h => h) (Or.inl ⟨by rfl, by intro wx hx; obtain ⟨_, _, _, _, _, _, _, _, _, _⟩ := hx; go_simp⟩) (by assumption) ?_
          try simp only [List.getElem_toArray, List.getElem_cons_succ, List.getElem_cons_zero, Act.put, List.setIfInBounds_toArray, List.set_cons_zero, List.set_cons_succ]
          refine wpAnyH_take (i := 13) (v := .int .i64 p) rfl (by kernel_rfl) (by kernel_rfl) (by kernel_rfl) (fun _ _ _ h => h) (Or.inl ⟨by rfl, by intro wx hx; go_simp⟩) (by assumption) ?_
          try simp only [List.getElem_toArray, List.getElem_cons_succ, List.getElem_cons_zero, Act.put, List.setIfInBounds_toArray, List.set_cons_zero, List.set_cons_succ]
          refine wpAnyH_take (i := 14) (v := .pointer (some ⟨b4, o4 + p, none⟩)) rfl (by kernel_rfl) (by kernel_rfl) (by kernel_rfl) (fun _ _ _ h => h) (Or.inl ⟨by rfl, by intro wx hx; go_simp⟩) (by assumption) ?_
          try simp only [List.getElem_toArray, List.getElem_cons_succ, List.getElem_cons_zero, Act.put, List.setIfInBounds_toArray, List.set_cons_zero, List.set_cons_succ]
          refine wpAnyH_take (i := 15) (v := .slice (some ⟨b5, o5, none⟩) g.S.length m4) rfl (by kernel_rfl) (by kernel_rfl) (by kernel_rfl) (fun _ _ _ h => h) (Or.inl ⟨by rfl, by intro wx hx; obtain ⟨_, _, _, _, _, _, _, _, _, _⟩ := hx; go_simp⟩) (by assumption) ?_
          try simp only [List.getElem_toArray, List.getElem_cons_succ, List.getElem_cons_zero, Act.put, List.setIfInBounds_toArray, List.set_cons_zero, List.set_cons_succ]
          refine wpAnyH_take (i := 16) (v := .int .i64 r) rfl (by kernel_rfl) (by kernel_rfl) (by kernel_rfl) (fun _ _ _ h => h) (Or.inl ⟨by rfl, by intro wx hx; go_simp⟩) (by assumption) ?_
          try simp only [List.getElem_toArray, List.getElem_cons_succ, List.getElem_cons_zero, Act.put, List.setIfInBounds_toArray, List.set_cons_zero, List.set_cons_succ]
          refine wpAnyH_take (i := 17) (v := .pointer (some ⟨b5, o5 + r * 3, none⟩)) rfl (by kernel_rfl) (by kernel_rfl) (by kernel_rfl) (fun _ _ _ h => h) (Or.inl ⟨by rfl, by intro wx hx; go_simp⟩) (by assumption) ?_
          try simp only [List.getElem_toArray, List.getElem_cons_succ, List.getElem_cons_zero, Act.put, List.setIfInBounds_toArray, List.set_cons_zero, List.set_cons_succ]
          refine wpAnyH_take (i := 18) (v := .pointer (some ⟨b5, o5 + r * 3, none⟩)) rfl (by kernel_rfl) (by kernel_rfl) (by kernel_rfl) (fun _ _ _ h => h) (Or.inl ⟨by rfl, by intro wx hx; go_simp⟩) (by assumption) ?_
          try simp only [List.getElem_toArray, List.getElem_cons_succ, List.getElem_cons_zero, Act.put, List.setIfInBounds_toArray, List.set_cons_zero, List.set_cons_succ]
          refine wpAnyH_take (i := 19) (v := .int .i64 t) rfl (by kernel_rfl) (by kernel_rfl) (by kernel_rfl) (fun _ _ _ h => h) (Or.inl ⟨by rfl, by intro wx hx; obtain ⟨_, _, _, _, _, _, _, _, _, _⟩ := hx; go_simp⟩) (by assumption) ?_
          try simp only [List.getElem_toArray, List.getElem_cons_succ, List.getElem_cons_zero, Act.put, List.setIfInBounds_toArray, List.set_cons_zero, List.set_cons_succ]
          refine wpAnyH_take (i := 20) (v := .pointer (some ⟨b6, o6 + t, none⟩)) rfl (by kernel_rfl) (by kernel_rfl) (by kernel_rfl) (fun _ _ _ h => h) (Or.inl ⟨by rfl, by intro wx hx; go_simp⟩) (by assumption) ?_
          try simp only [List.getElem_toArray, List.getElem_cons_succ, List.getElem_cons_zero, Act.put, List.setIfInBounds_toArray, List.set_cons_zero, List.set_cons_succ]
          refine wpAnyH_take (i := 21) (v := .int .i64 (nth T t)) rfl (by kernel_rfl) (by kernel_rfl) (by kernel_rfl) (fun _ _ _ h => h) (Or.inl ⟨by rfl, by intro wx hx; obtain ⟨_, _, _, _, _, _, _, _, _, _⟩ := hx; go_simp⟩) (by assumption) ?_
          try simp only [List.getElem_toArray, List.getElem_cons_succ, List.getElem_cons_zero, Act.put, List.setIfInBounds_toArray, List.set_cons_zero, List.set_cons_succ]
          refine wpAnyH_take (i := 23) (v := .slice (some ⟨b6, o6, none⟩) T.length cT) rfl (by kernel_rfl) (by kernel_rfl) (by kernel_rfl) (fun _ _ _ h => h) (Or.inl ⟨by rfl, by intro wx hx; go_simp⟩) (by assumption) ?_
          try simp only [List.getElem_toArray, List.getElem_cons_succ, List.getElem_cons_zero, Act.put, List.setIfInBounds_toArray, List.set_cons_zero, List.set_cons_succ]
          refine wpAnyH_take (i := 24) (v := .int .i64 p) rfl (by kernel_rfl) (by kernel_rfl) (by kernel_rfl) (fun _ _ _ h => h) (Or.inl ⟨by rfl, by intro wx hx; go_simp⟩) (by assumption) ?_
          try simp only [List.getElem_toArray, List.getElem_cons_succ, List.getElem_cons_zero, Act.put, List.setIfInBounds_toArray, List.set_cons_zero, List.set_cons_succ]
          refine wpAnyH_take (i := 25) (v := .pointer (some ⟨b6, o6 + p, none⟩)) rfl (by kernel_rfl) (by kernel_rfl) (by kernel_rfl) (fun _ _ _ h => h) (Or.inl ⟨by rfl, by intro wx hx; go_simp⟩) (by assumption) ?_
          try simp only [List.getElem_toArray, List.getElem_cons_succ, List.getElem_cons_zero, Act.put, List.setIfInBounds_toArray, List.set_cons_zero, List.set_cons_succ]
          refine wpAnyH_take (i := 26) (v := .int .i64 (nth T p)) rfl (by kernel_rfl) (by kernel_rfl) (by kernel_rfl) (fun _ _ _ h => h) (Or.inl ⟨by rfl, by intro wx hx; obtain ⟨_, _, _, _, _, _, _, _, _, _⟩ := hx; go_simp⟩) (by assumption) ?_
          try simp only [List.getElem_toArray, List.getElem_cons_succ, List.getElem_cons_zero, Act.put, List.setIfInBounds_toArray, List.set_cons_zero, List.set_cons_succ]
          refine wpAnyH_ready (rs := [9]) (by kernel_rfl) (by simp) ?_
          refine AllReadyH.cons rfl (fun K hK => ?_) AllReadyH.nil
          go_simp
          go_at_call 94
          refine (hga.out _).mono ?_
          rintro e w2 ⟨rfl, hb2⟩
          go_wp2_with fail
          have er1 : Ext wr w2 := Ext.trans ed hb2
          refine hK.out _ _ ⟨er1, er1.cell v1, er1.cell m0, er1.cell m1, er1.cell hc4, er1.cell hv0, er1.cell hv1, er1.cell hv2, er1.cell hq6, er1.cell hq7⟩ (fun hHeld1 => ?_)
          clear hK K hHeld0
          try simp only [List.getElem_toArray, List.getElem_cons_succ, List.getElem_cons_zero, Act.put, List.setIfInBounds_toArray, List.set_cons_zero, List.set_cons_succ]
          refine wpAnyH_take (i := 22) (v := .int .i64 (gd + nth T t)) rfl (by kernel_rfl) (by kernel_rfl) (by kernel_rfl) (fun _ _ _ h => h) (Or.inl ⟨by rfl, by intro wx hx; go_simp⟩) (by assumption) ?_
          try simp only [List.getElem_toArray, List.getElem_cons_succ, List.getElem_cons_zero, Act.put, List.setIfInBounds_toArray, List.set_cons_zero, List.set_cons_succ]
          refine wpAnyH_take (i := 27) (v := .bool (decide (nth T p < gd + nth T t))) rfl (by kernel_rfl) (by kernel_rfl) (by kernel_rfl) (fun _ _ _ h => h) (Or.inl ⟨by rfl, by intro wx hx; go_simp⟩) (by assumption) ?_
          try simp only [List.getElem_toArray, List.getElem_cons_succ, List.getElem_cons_zero, Act.put, List.setIfInBounds_toArray, List.set_cons_zero, List.set_cons_succ]
          refine wpAnyH_done (by kernel_rfl) ?_ _
          have hxz : Ext W w2 := Ext.trans hxj er1
          have hxw : Ext w w2 := Ext.trans eW hxz
          by_cases hgt : nth T p < gd + nth T t
          · have hdec : decide (nth T p < gd + nth T t) = true := by simp [hgt]
            have hbr := hid (show brI g s m n d T = ((p * g.S.length + r : Nat) : Int) by
              have := ixL_some (p := pE n d T) (xs := prEd g s m) (i := 0) hklt.out (by rw [hpe.out]; exact hdec) (fun j hj => hnr.out j hj)
              rw [Nat.zero_add] at this
              exact this)
            have zz0 := hxz.cell z0
            have zz1 := hxz.cell z1
            have ff0 : w2.frozen? ⟨w.heap.size + 1 + 1, 0, none⟩ = false := (World.frozen?_of_block (a := ⟨w.heap.size + 1 + 1, 0, none⟩) (hxz.below.block (w.heap.size + 1 + 1) (World.block_lt_of_cell? W _ z0))).trans f0
            have ff1 : w2.frozen? ⟨w.heap.size + 1 + 1, 1, none⟩ = false := (World.frozen?_of_block (a := ⟨w.heap.size + 1 + 1, 1, none⟩) (hxz.below.block (w.heap.size + 1 + 1) (World.block_lt_of_cell? W _ z0))).trans f1
            go_wp2_with fail
            refine bodyPost_ret (v := .tuple #[.agg #[.int .i64 p, .int .i64 r], .bool true]) (by simp [results, Try.results62, go_sem, zz0, zz1]) rfl ?_
            refine ⟨.inl ⟨p, r, hlt, hrS, hbr.out, rfl⟩, ?_⟩
            exact @Ext.set _ _ (@Ext.set _ _ hxw ⟨w.heap.size + 1 + 1, 0, none⟩ (by simp; omega) _) ⟨w.heap.size + 1 + 1, 1, none⟩ (by simp; omega) _
          · have hdec : decide (nth T p < gd + nth T t) = false := by simp [hgt]
            have hno2 := hid (show ∀ j, j < p * g.S.length + (r + 1) → pE n d T (row (prEd g s m) j) = false by
              intro j hj
              by_cases hjk : j = p * g.S.length + r
              · subst hjk; rw [hpe.out]; exact hdec
              · exact hnr.out j (by omega))
            replace hgt := hid hgt
            go_wp2_with fail
            go_roundw
            case rel => exact ⟨r + 1, by omega, by go_num, hno2, hxz⟩
            case measure => simp [intOf]; omega
        · have hkl : r = g.S.length := by omega
          have hnx := hid (show ∀ j, j < (p + 1) * g.S.length → pE n d T (row (prEd g s m) j) = false by
            intro j hj
            rw [Nat.add_mul, Nat.one_mul, ← hkl] at hj
            rw [← hkl] at hnr
            exact hnr.out j hj)
          replace hkl := hid hkl
          have hplN : p < (prSt g s m).length := by rw [hl.out]; exact hlt
          go_wp2
          go_roundw
          case rel => exact ⟨p + 1, by omega, by go_num, hnx, hxj⟩
          case measure => simp [intOf]; omega
    · have hplI : ¬ (p : Int) < ((prSt g s m).length : Int) := by rw [hl.out]; omega
      have hbr := hid (show brI g s m n d T = -1 from ixL_none (fun j hj => hno.out j (by
        rw [hel.out] at hj
        have : p = m := by omega
        rw [this]; exact hj)))
      have zz0 := hex.cell z0
      have zz1 := hex.cell z1
      have ff0 : wr.frozen? ⟨w.heap.size + 1 + 1, 0, none⟩ = false := (World.frozen?_of_block (a := ⟨w.heap.size + 1 + 1, 0, none⟩) (hex.below.block (w.heap.size + 1 + 1) (World.block_lt_of_cell? W _ z0))).trans f0
      have ff1 : wr.frozen? ⟨w.heap.size + 1 + 1, 1, none⟩ = false := (World.frozen?_of_block (a := ⟨w.heap.size + 1 + 1, 1, none⟩) (hex.below.block (w.heap.size + 1 + 1) (World.block_lt_of_cell? W _ z0))).trans f1
      go_wp2
      refine bodyPost_ret (v := .tuple #[.agg #[.int .i64 0, .int .i64 0], .bool false]) (by simp [results, Try.results62, go_sem, zz0, zz1]) rfl ?_
      refine ⟨.inr ⟨hbr.out, rfl⟩, ?_⟩
      exact @Ext.set _ _ (@Ext.set _ _ er ⟨w.heap.size + 1 + 1, 0, none⟩ (by simp; omega) _) ⟨w.heap.size + 1 + 1, 1, none⟩ (by simp; omega) _

/- IsPotential of both sides. -/

def prMn (M S N : List (List Int)) (s : Int) : Nat := (prEnd (grOf M S N s.toNat (offN M S s)) s.toNat).getD 0
def ptG (M S N : List (List Int)) (s n d : Int) : Bool := prB M S N s && ratioB n d
def ptT (M S N : List (List Int)) (s : Int) (T : List Int) : Bool := tabB (prMn M S N s) T
def ptK (M S N : List (List Int)) (s n d : Int) (T : List Int) : Int := brI (grOf M S N s.toNat (offN M S s)) s.toNat (prMn M S N s) n d T
def ptB (M S N : List (List Int)) (s n d : Int) (T : List Int) : Bool := ptG M S N s n d && (ptT M S N s T && decide (ptK M S N s n d T < 0))
theorem ptG_a {M S N : List (List Int)} {s n d : Int} (h : prB M S N s = false) : ptG M S N s n d = false := by simp [ptG, h]
theorem ptG_b {M S N : List (List Int)} {s n d : Int} (h : ratioB n d = false) : ptG M S N s n d = false := by simp [ptG, h]
theorem ptB_no {M S N : List (List Int)} {s n d : Int} {T : List Int} (h : ptG M S N s n d = false) : ptB M S N s n d T = false := by simp [ptB, h]
theorem ptB_tab {M S N : List (List Int)} {s n d : Int} {T : List Int} (h : ptT M S N s T = false) : ptB M S N s n d T = false := by simp [ptB, h]
theorem ptB_end {M S N : List (List Int)} {s n d : Int} {T : List Int} (h : ptG M S N s n d = true) (h2 : ptT M S N s T = true) : ptB M S N s n d T = decide (ptK M S N s n d T < 0) := by simp [ptB, h, h2]

set_option maxHeartbeats 1600000 in
set_option maxRecDepth 100000 in
theorem specIP_any {v vN vT : Value} {M S N : List (List Int)} {T : List Int} {s n d : Int} {w0 w : World} [Ext w0 w] (hp : IsProb w0 v M S) (hN : IsRows w0 vN N) (_hs : I64 s) (hT : IsInts w0 vT T) :
    Calls Try.prog 34 #[v, vN, .int .i64 s, .agg #[.int .i64 n, .int .i64 d], vT] w fun e w' => e = .returned (.tuple #[.bool (ptB M S N s n d T), .bool (ptG M S N s n d)]) ∧ Ext w w' := by
  have hp' := hp
  obtain ⟨v1, v2, rfl, hM, hS⟩ := hp
  have hM' := hM
  have hS' := hS
  obtain ⟨a1, c1, rfl, l1⟩ := hM.form
  obtain ⟨a2, c2, rfl, l2⟩ := hS.form
  have hN' := hN
  obtain ⟨aN, cN, rfl, lN⟩ := hN.form
  have hT' := hT
  obtain ⟨aT, cT, rfl, lT⟩ := hT.form
  obtain ⟨W, hW⟩ : ∃ W, W = (w.alloc (.cells #[.slice a1 M.length c1, .slice a2 S.length c2] 29)).alloc (.cells #[.int .i64 n, .int .i64 d] 39) := ⟨_, rfl⟩
  have eW : Ext w W := by rw [hW]; infer_instance
  have k0 : W.cell? ⟨w.heap.size, 0, none⟩ = some (.slice a1 M.length c1) := by rw [hW]; go_simp
  have k1 : W.cell? ⟨w.heap.size, 1, none⟩ = some (.slice a2 S.length c2) := by rw [hW]; go_simp
  have j0 : W.cell? ⟨w.heap.size + 1, 0, none⟩ = some (.int .i64 n) := by rw [hW]; go_simp
  have j1 : W.cell? ⟨w.heap.size + 1, 1, none⟩ = some (.int .i64 d) := by rw [hW]; go_simp
  have eW0 : Ext w0 W := Ext.trans ‹Ext w0 w› eW
  go_enter Try.func34, Try.ntmps34
  go_upto_region 1 with fail
  rw [← hW]
  clear hW
  go_wp2_with fail
  refine (l9Get_any (w0 := w0) hp' hN').mono ?_
  rintro e w2 ⟨hpost, hb2⟩
  have e2 : Ext W w2 := hb2
  rcases hpost with ⟨hno, d1, n1, m1, d2, n2, m2, bb, rfl⟩ | ⟨nn, m, hal, hoff, hend, pd, pm, sd, sm, rfl, hL, hMs⟩
  · have hr := hid (ptG_a (n := n) (d := d) hno)
    have hz := hid (ptB_no (T := T) hr.out)
    clear hno
    go_wp2_with fail
    go_ret2
    rw [hz.out, hr.out]
    exact ⟨rfl, by first | exact Ext.trans eW e2 | exact Ext.trans eW (Ext.trans e2 inferInstance)⟩
  · have hgk := hid (gr_ok (algOk_parts hal).1 (algOk_parts hal).2 hoff)
    have hgd : grOf M S N s.toNat nn = ⟨M, S, N, offStp M S s.toNat nn, offGrw M S s.toNat nn⟩ := rfl
    rw [← hgd] at hgk
    clear hgd
    have hsI := startB_state (algOk_parts hal).1
    have hsM : s.toNat < (grOf M S N s.toNat nn).M.length := by show s.toNat < M.length; omega
    have hpos := prEnd_pos hend
    have hprb := hid (prB_some hal hoff hend)
    have hgS : (grOf M S N s.toNat nn).S = S := rfl
    have hgo : grOf M S N s.toNat (offN M S s) = grOf M S N s.toNat nn := by rw [offN_some hoff]
    have hpl := hid (show (prLst (grOf M S N s.toNat nn) s.toNat m).length = m from (prEnd_some hgk.out hsM hend).1)
    have hm6 := (prEnd_some hgk.out hsM hend).2.1
    have hG1 := hid (show ptG M S N s n d = ratioB n d by rw [ptG, hprb.out, Bool.true_and])
    have hMn : prMn M S N s = m := by rw [prMn, hgo, hend]; rfl
    have hT1 := hid (show ptT M S N s T = tabB (prLst (grOf M S N s.toNat nn) s.toNat m).length T by rw [ptT, hMn, hpl.out])
    have hK1 := hid (show ptK M S N s n d T = brI (grOf M S N s.toNat nn) s.toNat m n d T by rw [ptK, hMn, hgo])
    clear hMn
    clear hsI
    obtain ⟨wg, hwg⟩ : ∃ wg, wg = w2.alloc (.cells #[.slice pd (prLst (grOf M S N s.toNat nn) s.toNat m).length pm, .slice sd (prSt (grOf M S N s.toNat nn) s.toNat m).length sm, .bool false] 76) := ⟨_, rfl⟩
    have eg2 : Ext w2 wg := by rw [hwg]; infer_instance
    have b0 : wg.cell? ⟨w2.heap.size, 0, none⟩ = some (.slice pd (prLst (grOf M S N s.toNat nn) s.toNat m).length pm) := by rw [hwg]; go_simp
    have b1 : wg.cell? ⟨w2.heap.size, 1, none⟩ = some (.slice sd (prSt (grOf M S N s.toNat nn) s.toNat m).length sm) := by rw [hwg]; go_simp
    have b2 : wg.cell? ⟨w2.heap.size, 2, none⟩ = some (.bool false) := by rw [hwg]; go_simp
    have eg : Ext W wg := Ext.trans e2 eg2
    have hMg := hMs.ext (w' := wg)
    have g0 := eg.cell k0
    have g1 := eg.cell k1
    have i0 := eg.cell j0
    have i1 := eg.cell j1
    have e0g : Ext w0 wg := Ext.trans eW0 eg
    have ewg : Ext w wg := Ext.trans eW eg
    replace hoff := hid hoff
    replace hend := hid hend
    replace hal := hid hal
    replace hgo := hid hgo
    replace hgS := hid hgS
    go_upto_region 2 with fail
    rw [← hwg]
    clear hwg
    cases hq1 : ratioB n d with
    | false =>
      have hr := hid (ptG_b (M := M) (S := S) (N := N) (s := s) hq1)
      have hz := hid (ptB_no (T := T) hr.out)
      replace hq1 := hid hq1
      go_wp2_with fail
      refine (l9Ratio_any _).mono ?_; rw [hq1.out]; rintro e w3 ⟨rfl, hb3⟩
      have e3 : Ext wg w3 := hb3
      go_wp2_with fail
      go_ret2
      rw [hz.out, hr.out]
      exact ⟨rfl, by first | exact Ext.trans ewg e3⟩
    | true =>
      have hGy := hid (show ptG M S N s n d = true by rw [hG1.out]; exact hq1)
      have hQ1 := hid hq1
      replace hq1 := hid hq1
      generalize grOf M S N s.toNat nn = g at *
      cases hq2 : tabB (prLst g s.toNat m).length T with
      | false =>
        have hr := hid (ptB_tab (n := n) (d := d) (show ptT M S N s T = false by rw [hT1.out]; exact hq2))
        replace hq2 := hid hq2
        go_wp2_with fail
        refine (l9Ratio_any _).mono ?_; rw [hq1.out]; rintro e w3 ⟨rfl, hb3⟩
        have e3 : Ext wg w3 := hb3
        have h30 := e3.cell b0
        have h31 := e3.cell b1
        have h32 := e3.cell b2
        have e03 : Ext w0 w3 := Ext.trans e0g e3
        go_wp2_with fail
        refine (l9Table_any (w0 := w0) hT').mono ?_; rw [hq2.out]; rintro e w4 ⟨rfl, hb4⟩
        have e4 : Ext wg w4 := Ext.trans e3 hb4
        go_wp2_with fail
        go_ret2
        rw [hr.out, hGy.out]
        exact ⟨rfl, Ext.trans ewg e4⟩
      | true =>
        have hQ2 := hid (show tabB m T = true by rw [← hpl.out]; exact hq2)
        have hB := hid (ptB_end hGy.out (show ptT M S N s T = true by rw [hT1.out]; exact hq2))
        replace hq2 := hid hq2
        go_wp2_with fail
        refine (l9Ratio_any _).mono ?_; rw [hq1.out]; rintro e w3 ⟨rfl, hb3⟩
        have e3 : Ext wg w3 := hb3
        have h30 := e3.cell b0
        have h31 := e3.cell b1
        have h32 := e3.cell b2
        have i30 := e3.cell i0
        have i31 := e3.cell i1
        have e03 : Ext w0 w3 := Ext.trans e0g e3
        go_wp2_with fail
        refine (l9Table_any (w0 := w0) hT').mono ?_; rw [hq2.out]; rintro e w4 ⟨rfl, hb4⟩
        have e4 : Ext wg w4 := Ext.trans e3 hb4
        have h40 := hb4.cell h30
        have h41 := hb4.cell h31
        have h42 := hb4.cell h32
        have i40 := hb4.cell i30
        have i41 := hb4.cell i31
        have e04 : Ext w0 w4 := Ext.trans e0g e4
        go_wp2_with fail
        refine (l9Broken_any (w0 := wg) hgk.out hsM hend.out hMg (hT'.ext (w' := wg)) hQ1.out hQ2.out).mono ?_
        rintro e w5 ⟨hbp, hb5⟩
        have e5 : Ext wg w5 := Ext.trans e4 hb5
        rcases hbp with ⟨bi, br, _, _, hbk, rfl⟩ | ⟨hbk, rfl⟩
        · have hv := hid (show ptB M S N s n d T = false by rw [hB.out, hK1.out, hbk]; simp; omega)
          replace hbk := hid hbk
          go_wp2_with fail
          go_ret2
          rw [hv.out, hGy.out]
          exact ⟨rfl, by first | exact Ext.trans ewg e5 | exact Ext.trans ewg (Ext.trans e5 inferInstance)⟩
        · have hv := hid (show ptB M S N s n d T = true by rw [hB.out, hK1.out, hbk]; rfl)
          replace hbk := hid hbk
          go_wp2_with fail
          go_ret2
          rw [hv.out, hGy.out]
          exact ⟨rfl, by first | exact Ext.trans ewg e5 | exact Ext.trans ewg (Ext.trans e5 inferInstance)⟩

set_option maxHeartbeats 1600000 in
set_option maxRecDepth 100000 in
theorem implIP_any {v vN vT : Value} {M S N : List (List Int)} {T : List Int} {s n d : Int} {w0 w : World} [Ext w0 w] (hp : IsProb w0 v M S) (hN : IsRows w0 vN N) (_hs : I64 s) (hT : IsInts w0 vT T) :
    Calls Try.prog 36 #[v, vN, .int .i64 s, .agg #[.int .i64 n, .int .i64 d], vT] w fun e w' => e = .returned (.tuple #[.bool (ptB M S N s n d T), .bool (ptG M S N s n d)]) ∧ Ext w w' := by
  have hp' := hp
  obtain ⟨v1, v2, rfl, hM, hS⟩ := hp
  have hM' := hM
  have hS' := hS
  obtain ⟨a1, c1, rfl, l1⟩ := hM.form
  obtain ⟨a2, c2, rfl, l2⟩ := hS.form
  have hN' := hN
  obtain ⟨aN, cN, rfl, lN⟩ := hN.form
  have hT' := hT
  obtain ⟨aT, cT, rfl, lT⟩ := hT.form
  obtain ⟨W, hW⟩ : ∃ W, W = (w.alloc (.cells #[.slice a1 M.length c1, .slice a2 S.length c2] 29)).alloc (.cells #[.int .i64 n, .int .i64 d] 39) := ⟨_, rfl⟩
  have eW : Ext w W := by rw [hW]; infer_instance
  have k0 : W.cell? ⟨w.heap.size, 0, none⟩ = some (.slice a1 M.length c1) := by rw [hW]; go_simp
  have k1 : W.cell? ⟨w.heap.size, 1, none⟩ = some (.slice a2 S.length c2) := by rw [hW]; go_simp
  have j0 : W.cell? ⟨w.heap.size + 1, 0, none⟩ = some (.int .i64 n) := by rw [hW]; go_simp
  have j1 : W.cell? ⟨w.heap.size + 1, 1, none⟩ = some (.int .i64 d) := by rw [hW]; go_simp
  have eW0 : Ext w0 W := Ext.trans ‹Ext w0 w› eW
  go_enter Try.func36, Try.ntmps36
  go_upto_region 1 with fail
  rw [← hW]
  clear hW
  go_wp2_with fail
  refine (pairsOf_any (w0 := w0) hp' hN').mono ?_
  rintro e w2 ⟨hpost, hb2⟩
  have e2 : Ext W w2 := hb2
  rcases hpost with ⟨hno, rfl⟩ | ⟨nn, m, hal, hoff, hend, bx, pd, ed, pm, em, rfl, hown⟩
  · have hr := hid (ptG_a (n := n) (d := d) hno)
    have hz := hid (ptB_no (T := T) hr.out)
    clear hno
    go_wp2_with fail
    go_ret2
    rw [hz.out, hr.out]
    exact ⟨rfl, by first | exact Ext.trans eW e2 | exact Ext.trans eW (Ext.trans e2 inferInstance)⟩
  · have hgk := hid (gr_ok (algOk_parts hal).1 (algOk_parts hal).2 hoff)
    have hgd : grOf M S N s.toNat nn = ⟨M, S, N, offStp M S s.toNat nn, offGrw M S s.toNat nn⟩ := rfl
    rw [← hgd] at hgk
    clear hgd
    have hsI := startB_state (algOk_parts hal).1
    have hsM : s.toNat < (grOf M S N s.toNat nn).M.length := by show s.toNat < M.length; omega
    have hpos := prEnd_pos hend
    have hprb := hid (prB_some hal hoff hend)
    have hgS : (grOf M S N s.toNat nn).S = S := rfl
    have hgo : grOf M S N s.toNat (offN M S s) = grOf M S N s.toNat nn := by rw [offN_some hoff]
    have hpl := hid (show (prLst (grOf M S N s.toNat nn) s.toNat m).length = m from (prEnd_some hgk.out hsM hend).1)
    have hm6 := (prEnd_some hgk.out hsM hend).2.1
    have hG1 := hid (show ptG M S N s n d = ratioB n d by rw [ptG, hprb.out, Bool.true_and])
    have hMn : prMn M S N s = m := by rw [prMn, hgo, hend]; rfl
    have hT1 := hid (show ptT M S N s T = tabB (prLst (grOf M S N s.toNat nn) s.toNat m).length T by rw [ptT, hMn, hpl.out])
    have hK1 := hid (show ptK M S N s n d T = brI (grOf M S N s.toNat nn) s.toNat m n d T by rw [ptK, hMn, hgo])
    clear hMn
    clear hsI
    obtain ⟨wg, hwg⟩ : ∃ wg, wg = w2 := ⟨_, rfl⟩
    have eg : Ext W wg := by rw [hwg]; exact e2
    have hpx : IsPx wg bx (grOf M S N s.toNat nn) s.toNat m (grOf M S N s.toNat nn).S.length := by rw [hwg]; exact isPx_of_own hgk.out hsM hend hown
    clear hown
    have g0 := eg.cell k0
    have g1 := eg.cell k1
    have i0 := eg.cell j0
    have i1 := eg.cell j1
    have e0g : Ext w0 wg := Ext.trans eW0 eg
    have ewg : Ext w wg := Ext.trans eW eg
    replace hoff := hid hoff
    replace hend := hid hend
    replace hal := hid hal
    replace hgo := hid hgo
    replace hgS := hid hgS
    go_upto_region 2 with fail
    rw [← hwg]
    clear hwg
    cases hq1 : ratioB n d with
    | false =>
      have hr := hid (ptG_b (M := M) (S := S) (N := N) (s := s) hq1)
      have hz := hid (ptB_no (T := T) hr.out)
      replace hq1 := hid hq1
      go_wp2_with fail
      refine (isRatio_any _).mono ?_; rw [hq1.out]; rintro e w3 ⟨rfl, hb3⟩
      have e3 : Ext wg w3 := hb3
      have p4 := e3.cell g0
      have p5 := e3.cell g1
      have e03 : Ext w0 w3 := Ext.trans e0g e3
      go_wp2_with fail
      go_ret2
      rw [hz.out, hr.out]
      exact ⟨rfl, by first | exact Ext.trans ewg e3⟩
    | true =>
      have hGy := hid (show ptG M S N s n d = true by rw [hG1.out]; exact hq1)
      have hQ1 := hid hq1
      replace hq1 := hid hq1
      obtain ⟨pd, pm, hl0, _⟩ := hpx.list
      generalize grOf M S N s.toNat nn = g at *
      cases hq2 : tabB (prLst g s.toNat m).length T with
      | false =>
        have hr := hid (ptB_tab (n := n) (d := d) (show ptT M S N s T = false by rw [hT1.out]; exact hq2))
        replace hq2 := hid hq2
        go_wp2_with fail
        refine (isRatio_any _).mono ?_; rw [hq1.out]; rintro e w3 ⟨rfl, hb3⟩
        have e3 : Ext wg w3 := hb3
        have p4 := e3.cell g0
        have p5 := e3.cell g1
        have e03 : Ext w0 w3 := Ext.trans e0g e3
        have h30 := e3.cell hl0
        go_wp2_with fail
        refine (areNumbers_any (w0 := w0) hT').mono ?_; rw [hq2.out]; rintro e w4 ⟨rfl, hb4⟩
        have e4 : Ext wg w4 := Ext.trans e3 hb4
        go_wp2_with fail
        go_ret2
        rw [hr.out, hGy.out]
        exact ⟨rfl, Ext.trans ewg e4⟩
      | true =>
        have hQ2 := hid (show tabB m T = true by rw [← hpl.out]; exact hq2)
        have hB := hid (ptB_end (n := n) (d := d) hGy.out (show ptT M S N s T = true by rw [hT1.out]; exact hq2))
        replace hq2 := hid hq2
        go_wp2_with fail
        refine (isRatio_any _).mono ?_; rw [hq1.out]; rintro e w3 ⟨rfl, hb3⟩
        have e3 : Ext wg w3 := hb3
        have p4 := e3.cell g0
        have p5 := e3.cell g1
        have e03 : Ext w0 w3 := Ext.trans e0g e3
        have h30 := e3.cell hl0
        have i30 := e3.cell i0
        have i31 := e3.cell i1
        go_wp2_with fail
        refine (areNumbers_any (w0 := w0) hT').mono ?_; rw [hq2.out]; rintro e w4 ⟨rfl, hb4⟩
        have e4 : Ext wg w4 := Ext.trans e3 hb4
        have i40 := hb4.cell i30
        have i41 := hb4.cell i31
        have e04 : Ext w0 w4 := Ext.trans e0g e4
        go_wp2_with fail
        refine (broken_any (w0 := wg) (T := T) hgk.out hsM hend.out (by rw [hgS.out]; rw [hgS.out] at hpx; exact hpx) (hT'.ext (w' := wg)) hQ1.out hQ2.out).mono ?_
        rintro e w5 ⟨rfl, hb5⟩
        have e5 : Ext wg w5 := Ext.trans e4 hb5
        have hv := hid (show ptB M S N s n d T = decide (brI g s.toNat m n d T < 0) by rw [hB.out, hK1.out])
        generalize brI g s.toNat m n d T = kk at *
        go_wp2_with fail
        go_ret2
        rw [hv.out, hGy.out]
        exact ⟨rfl, by first | exact Ext.trans ewg e5 | exact Ext.trans ewg (Ext.trans e5 inferInstance)⟩

/- FirstBroken of both sides. -/

theorem ixL_form (p : List Int → Bool) : ∀ (xs : List (List Int)) (i : Nat), ixL p xs i = -1 ∨ ∃ k, k < xs.length ∧ ixL p xs i = ((i + k : Nat) : Int)
  | [], _ => .inl rfl
  | x :: xs, i => by
    unfold ixL
    split
    · exact .inr ⟨0, by simp, by simp⟩
    · rcases ixL_form p xs (i + 1) with h | ⟨k, hk, h⟩
      · exact .inl h
      · exact .inr ⟨k + 1, by simpa using hk, by rw [h]; congr 1; omega⟩
theorem frozen_on {W X : World} (hx : Ext W X) {a : Addr} {v : Value} (hc : W.cell? a = some v) (hf : W.frozen? a = false) : X.frozen? a = false :=
  (World.frozen?_of_block (a := a) (hx.below.block a.block (World.block_lt_of_cell? W _ hc))).trans hf
def fbB (M S N : List (List Int)) (s n d : Int) (T : List Int) : Bool := ptG M S N s n d && (ptT M S N s T && decide (0 ≤ ptK M S N s n d T))
def fbI (M S N : List (List Int)) (s n d : Int) (T : List Int) : Int := if fbB M S N s n d T = true then (((ptK M S N s n d T).toNat / S.length : Nat) : Int) else 0
def fbJ (M S N : List (List Int)) (s n d : Int) (T : List Int) : Int := if fbB M S N s n d T = true then (((ptK M S N s n d T).toNat % S.length : Nat) : Int) else 0
theorem fbB_no {M S N : List (List Int)} {s n d : Int} {T : List Int} (h : ptG M S N s n d = false) : fbB M S N s n d T = false := by simp [fbB, h]
theorem fbB_tab {M S N : List (List Int)} {s n d : Int} {T : List Int} (h : ptT M S N s T = false) : fbB M S N s n d T = false := by simp [fbB, h]
theorem fbB_neg {M S N : List (List Int)} {s n d : Int} {T : List Int} (h : ptK M S N s n d T < 0) : fbB M S N s n d T = false := by
  have : ¬ 0 ≤ ptK M S N s n d T := by omega
  simp [fbB, this]
theorem fbI_no {M S N : List (List Int)} {s n d : Int} {T : List Int} (h : fbB M S N s n d T = false) : fbI M S N s n d T = 0 ∧ fbJ M S N s n d T = 0 := by simp [fbI, fbJ, h]
theorem fb_yes {M S N : List (List Int)} {s n d : Int} {T : List Int} {i r : Nat} (h : ptG M S N s n d = true) (h2 : ptT M S N s T = true) (h3 : ptK M S N s n d T = ((i * S.length + r : Nat) : Int)) (hr : r < S.length) :
    fbI M S N s n d T = i ∧ fbJ M S N s n d T = r ∧ fbB M S N s n d T = true := by
  have hb : fbB M S N s n d T = true := by
    rw [fbB, h, h2, h3, Bool.true_and, Bool.true_and, decide_eq_true_eq]
    exact Int.natCast_nonneg _
  refine ⟨?_, ?_, hb⟩
  · rw [fbI, if_pos hb, h3, Int.toNat_natCast, Nat.mul_comm, Nat.mul_add_div (by omega), Nat.div_eq_of_lt hr, Nat.add_zero]
  · rw [fbJ, if_pos hb, h3, Int.toNat_natCast, Nat.mul_comm, Nat.mul_add_mod, Nat.mod_eq_of_lt hr]

set_option maxHeartbeats 1600000 in
set_option maxRecDepth 100000 in
theorem specFB_any {v vN vT : Value} {M S N : List (List Int)} {T : List Int} {s n d : Int} {w0 w : World} [Ext w0 w] (hp : IsProb w0 v M S) (hN : IsRows w0 vN N) (_hs : I64 s) (hT : IsInts w0 vT T) :
    Calls Try.prog 37 #[v, vN, .int .i64 s, .agg #[.int .i64 n, .int .i64 d], vT] w fun e w' => e = .returned (.tuple #[.agg #[.int .i64 (fbI M S N s n d T), .int .i64 (fbJ M S N s n d T)], .bool (fbB M S N s n d T)]) ∧ Ext w w' := by
  have hp' := hp
  obtain ⟨v1, v2, rfl, hM, hS⟩ := hp
  have hM' := hM
  have hS' := hS
  obtain ⟨a1, c1, rfl, l1⟩ := hM.form
  obtain ⟨a2, c2, rfl, l2⟩ := hS.form
  have hN' := hN
  obtain ⟨aN, cN, rfl, lN⟩ := hN.form
  have hT' := hT
  obtain ⟨aT, cT, rfl, lT⟩ := hT.form
  obtain ⟨W, hW⟩ : ∃ W, W = ((w.alloc (.cells #[.slice a1 M.length c1, .slice a2 S.length c2] 29)).alloc (.cells #[.int .i64 n, .int .i64 d] 39)).alloc (.cells #[.int .i64 0, .int .i64 0] 59) := ⟨_, rfl⟩
  have eW : Ext w W := by rw [hW]; infer_instance
  have k0 : W.cell? ⟨w.heap.size, 0, none⟩ = some (.slice a1 M.length c1) := by rw [hW]; go_simp
  have k1 : W.cell? ⟨w.heap.size, 1, none⟩ = some (.slice a2 S.length c2) := by rw [hW]; go_simp
  have j0 : W.cell? ⟨w.heap.size + 1, 0, none⟩ = some (.int .i64 n) := by rw [hW]; go_simp
  have j1 : W.cell? ⟨w.heap.size + 1, 1, none⟩ = some (.int .i64 d) := by rw [hW]; go_simp
  have eW0 : Ext w0 W := Ext.trans ‹Ext w0 w› eW
  have z0 : W.cell? ⟨w.heap.size + 1 + 1, 0, none⟩ = some (.int .i64 0) := by rw [hW]; go_simp
  have z1 : W.cell? ⟨w.heap.size + 1 + 1, 1, none⟩ = some (.int .i64 0) := by rw [hW]; go_simp
  have f0 : W.frozen? ⟨w.heap.size + 1 + 1, 0, none⟩ = false := by rw [hW]; go_simp
  have f1 : W.frozen? ⟨w.heap.size + 1 + 1, 1, none⟩ = false := by rw [hW]; go_simp
  go_enter Try.func37, Try.ntmps37
  go_upto_region 1 with fail
  rw [← hW]
  clear hW
  go_wp2_with fail
  refine (l9Get_any (w0 := w0) hp' hN').mono ?_
  rintro e w2 ⟨hpost, hb2⟩
  have e2 : Ext W w2 := hb2
  rcases hpost with ⟨hno, d1, n1, m1, d2, n2, m2, bb, rfl⟩ | ⟨nn, m, hal, hoff, hend, pd, pm, sd, sm, rfl, hL, hMs⟩
  · have hr := hid (fbB_no (T := T) (ptG_a (n := n) (d := d) hno))
    clear hno
    obtain ⟨wg, hwg⟩ : ∃ wg, wg = w2.alloc (.cells #[.slice d1 n1 m1, .slice d2 n2 m2, .bool bb] 76) := ⟨_, rfl⟩
    have eg : Ext W wg := by rw [hwg]; exact Ext.trans e2 inferInstance
    go_upto_region 2 with fail
    rw [← hwg]
    clear hwg
    have ewg := Ext.trans eW eg
    have zz0 := eg.cell z0
    have zz1 := eg.cell z1
    have ff0 := frozen_on eg z0 f0
    have ff1 := frozen_on eg z1 f1
    go_wp2_with fail
    refine bodyPost_ret (v := .tuple #[.agg #[.int .i64 0, .int .i64 0], .bool false]) (by simp [results, Try.results37, go_sem, zz0, zz1]) rfl ?_
    refine ⟨by rw [(fbI_no hr.out).1, (fbI_no hr.out).2, hr.out], ?_⟩
    exact @Ext.set _ _ (@Ext.set _ _ ewg ⟨w.heap.size + 1 + 1, 0, none⟩ (by simp; omega) _) ⟨w.heap.size + 1 + 1, 1, none⟩ (by simp; omega) _
  · have hgk := hid (gr_ok (algOk_parts hal).1 (algOk_parts hal).2 hoff)
    have hgd : grOf M S N s.toNat nn = ⟨M, S, N, offStp M S s.toNat nn, offGrw M S s.toNat nn⟩ := rfl
    rw [← hgd] at hgk
    clear hgd
    have hsI := startB_state (algOk_parts hal).1
    have hsM : s.toNat < (grOf M S N s.toNat nn).M.length := by show s.toNat < M.length; omega
    have hpos := prEnd_pos hend
    have hprb := hid (prB_some hal hoff hend)
    have hgS : (grOf M S N s.toNat nn).S = S := rfl
    have hgo : grOf M S N s.toNat (offN M S s) = grOf M S N s.toNat nn := by rw [offN_some hoff]
    have hpl := hid (show (prLst (grOf M S N s.toNat nn) s.toNat m).length = m from (prEnd_some hgk.out hsM hend).1)
    have hm6 := (prEnd_some hgk.out hsM hend).2.1
    have hG1 := hid (show ptG M S N s n d = ratioB n d by rw [ptG, hprb.out, Bool.true_and])
    have hMn : prMn M S N s = m := by rw [prMn, hgo, hend]; rfl
    have hT1 := hid (show ptT M S N s T = tabB (prLst (grOf M S N s.toNat nn) s.toNat m).length T by rw [ptT, hMn, hpl.out])
    have hK1 := hid (show ptK M S N s n d T = brI (grOf M S N s.toNat nn) s.toNat m n d T by rw [ptK, hMn, hgo])
    clear hMn
    clear hsI
    obtain ⟨wg, hwg⟩ : ∃ wg, wg = w2.alloc (.cells #[.slice pd (prLst (grOf M S N s.toNat nn) s.toNat m).length pm, .slice sd (prSt (grOf M S N s.toNat nn) s.toNat m).length sm, .bool false] 76) := ⟨_, rfl⟩
    have eg2 : Ext w2 wg := by rw [hwg]; infer_instance
    have b0 : wg.cell? ⟨w2.heap.size, 0, none⟩ = some (.slice pd (prLst (grOf M S N s.toNat nn) s.toNat m).length pm) := by rw [hwg]; go_simp
    have b1 : wg.cell? ⟨w2.heap.size, 1, none⟩ = some (.slice sd (prSt (grOf M S N s.toNat nn) s.toNat m).length sm) := by rw [hwg]; go_simp
    have b2 : wg.cell? ⟨w2.heap.size, 2, none⟩ = some (.bool false) := by rw [hwg]; go_simp
    have eg : Ext W wg := Ext.trans e2 eg2
    have hMg := hMs.ext (w' := wg)
    have g0 := eg.cell k0
    have g1 := eg.cell k1
    have i0 := eg.cell j0
    have i1 := eg.cell j1
    have e0g : Ext w0 wg := Ext.trans eW0 eg
    have ewg : Ext w wg := Ext.trans eW eg
    replace hoff := hid hoff
    replace hend := hid hend
    replace hal := hid hal
    replace hgo := hid hgo
    replace hgS := hid hgS
    go_upto_region 2 with fail
    rw [← hwg]
    clear hwg
    cases hq1 : ratioB n d with
    | false =>
      have hr := hid (fbB_no (T := T) (ptG_b (M := M) (S := S) (N := N) (s := s) hq1))
      replace hq1 := hid hq1
      go_wp2_with fail
      refine (l9Ratio_any _).mono ?_; rw [hq1.out]; rintro e w3 ⟨rfl, hb3⟩
      have e3 : Ext wg w3 := hb3
      have eX : Ext W w3 := Ext.trans eg e3
      have ewX : Ext w w3 := Ext.trans eW eX
      have zz0 := eX.cell z0
      have zz1 := eX.cell z1
      have ff0 := frozen_on eX z0 f0
      have ff1 := frozen_on eX z1 f1
      go_wp2_with fail
      refine bodyPost_ret (v := .tuple #[.agg #[.int .i64 0, .int .i64 0], .bool false]) (by simp [results, Try.results37, go_sem, zz0, zz1]) rfl ?_
      refine ⟨by rw [(fbI_no hr.out).1, (fbI_no hr.out).2, hr.out], ?_⟩
      exact @Ext.set _ _ (@Ext.set _ _ ewX ⟨w.heap.size + 1 + 1, 0, none⟩ (by simp; omega) _) ⟨w.heap.size + 1 + 1, 1, none⟩ (by simp; omega) _
    | true =>
      have hGy := hid (show ptG M S N s n d = true by rw [hG1.out]; exact hq1)
      have hQ1 := hid hq1
      replace hq1 := hid hq1
      generalize grOf M S N s.toNat nn = g at *
      cases hq2 : tabB (prLst g s.toNat m).length T with
      | false =>
        have hr := hid (fbB_tab (n := n) (d := d) (show ptT M S N s T = false by rw [hT1.out]; exact hq2))
        replace hq2 := hid hq2
        go_wp2_with fail
        refine (l9Ratio_any _).mono ?_; rw [hq1.out]; rintro e w3 ⟨rfl, hb3⟩
        have e3 : Ext wg w3 := hb3
        have h30 := e3.cell b0
        have h31 := e3.cell b1
        have h32 := e3.cell b2
        have e03 : Ext w0 w3 := Ext.trans e0g e3
        go_wp2_with fail
        refine (l9Table_any (w0 := w0) hT').mono ?_; rw [hq2.out]; rintro e w4 ⟨rfl, hb4⟩
        have e4 : Ext wg w4 := Ext.trans e3 hb4
        have eX : Ext W w4 := Ext.trans eg e4
        have ewX : Ext w w4 := Ext.trans eW eX
        have zz0 := eX.cell z0
        have zz1 := eX.cell z1
        have ff0 := frozen_on eX z0 f0
        have ff1 := frozen_on eX z1 f1
        go_wp2_with fail
        refine bodyPost_ret (v := .tuple #[.agg #[.int .i64 0, .int .i64 0], .bool false]) (by simp [results, Try.results37, go_sem, zz0, zz1]) rfl ?_
        refine ⟨by rw [(fbI_no hr.out).1, (fbI_no hr.out).2, hr.out], ?_⟩
        exact @Ext.set _ _ (@Ext.set _ _ ewX ⟨w.heap.size + 1 + 1, 0, none⟩ (by simp; omega) _) ⟨w.heap.size + 1 + 1, 1, none⟩ (by simp; omega) _
      | true =>
        have hQ2 := hid (show tabB m T = true by rw [← hpl.out]; exact hq2)
        have hTy := hid (show ptT M S N s T = true by rw [hT1.out]; exact hq2)
        replace hq2 := hid hq2
        go_wp2_with fail
        refine (l9Ratio_any _).mono ?_; rw [hq1.out]; rintro e w3 ⟨rfl, hb3⟩
        have e3 : Ext wg w3 := hb3
        have h30 := e3.cell b0
        have h31 := e3.cell b1
        have h32 := e3.cell b2
        have i30 := e3.cell i0
        have i31 := e3.cell i1
        have e03 : Ext w0 w3 := Ext.trans e0g e3
        go_wp2_with fail
        refine (l9Table_any (w0 := w0) hT').mono ?_; rw [hq2.out]; rintro e w4 ⟨rfl, hb4⟩
        have e4 : Ext wg w4 := Ext.trans e3 hb4
        have h40 := hb4.cell h30
        have h41 := hb4.cell h31
        have h42 := hb4.cell h32
        have i40 := hb4.cell i30
        have i41 := hb4.cell i31
        have e04 : Ext w0 w4 := Ext.trans e0g e4
        go_wp2_with fail
        refine (l9Broken_any (w0 := wg) hgk.out hsM hend.out hMg (hT'.ext (w' := wg)) hQ1.out hQ2.out).mono ?_
        rintro e w5 ⟨hbp, hb5⟩
        have e5 : Ext wg w5 := Ext.trans e4 hb5
        have eX : Ext W w5 := Ext.trans eg e5
        have ewX : Ext w w5 := Ext.trans eW eX
        have zz0 := eX.cell z0
        have zz1 := eX.cell z1
        have ff0 := frozen_on eX z0 f0
        have ff1 := frozen_on eX z1 f1
        rcases hbp with ⟨bi, br, _, hbr, hbk, rfl⟩ | ⟨hbk, rfl⟩
        · have hv := hid (fb_yes (i := bi) (r := br) hGy.out hTy.out (by rw [hK1.out, hbk, hgS.out]) (by rw [← hgS.out]; exact hbr))
          replace hbk := hid hbk
          go_wp2_with fail
          refine bodyPost_ret (v := .tuple #[.agg #[.int .i64 bi, .int .i64 br], .bool true]) (by simp [results, Try.results37, go_sem, zz0, zz1]) rfl ?_
          refine ⟨by rw [hv.out.1, hv.out.2.1, hv.out.2.2], ?_⟩
          exact @Ext.set _ _ (@Ext.set _ _ ewX ⟨w.heap.size + 1 + 1, 0, none⟩ (by simp; omega) _) ⟨w.heap.size + 1 + 1, 1, none⟩ (by simp; omega) _
        · have hr := hid (fbB_neg (show ptK M S N s n d T < 0 by rw [hK1.out, hbk]; omega))
          replace hbk := hid hbk
          go_wp2_with fail
          refine bodyPost_ret (v := .tuple #[.agg #[.int .i64 0, .int .i64 0], .bool false]) (by simp [results, Try.results37, go_sem, zz0, zz1]) rfl ?_
          refine ⟨by rw [(fbI_no hr.out).1, (fbI_no hr.out).2, hr.out], ?_⟩
          exact @Ext.set _ _ (@Ext.set _ _ ewX ⟨w.heap.size + 1 + 1, 0, none⟩ (by simp; omega) _) ⟨w.heap.size + 1 + 1, 1, none⟩ (by simp; omega) _

theorem brI_cases {g : Gr} {nn s m : Nat} {n d : Int} {T : List Int} (hg : g.Ok nn) (hs : s < g.M.length) (h : prEnd g s = some m) : brI g s m n d T < 0 ∨ ∃ i r : Nat, r < g.S.length ∧ brI g s m n d T = ((i * g.S.length + r : Nat) : Int) := by
  rcases ixL_form (pE n d T) (prEd g s m) 0 with h1 | ⟨k, hk, h1⟩
  · left; unfold brI; omega
  · right
    obtain ⟨i, r, t, c, y, _, hr, hkk, _⟩ := prEd_at hg hs h hk
    refine ⟨i, r, hr, ?_⟩
    unfold brI
    rw [h1, Nat.zero_add, hkk]
theorem brI_big {g : Gr} {nn s m : Nat} {n d : Int} {T : List Int} (hg : g.Ok nn) (hs : s < g.M.length) (h : prEnd g s = some m) : ∀ k : Nat, brI g s m n d T = (k : Int) → k < 1000000 := by
  intro k hk
  have h6 := (prEnd_some hg hs h).2.1
  have h4 := (probB_len hg.prob).2.2.2
  have hl := prEd_length g s m
  have h2 : m * g.S.length ≤ 600 * 4 := Nat.mul_le_mul h6 h4
  rcases ixL_form (pE n d T) (prEd g s m) 0 with h1 | ⟨j, hj, h1⟩
  · unfold brI at hk; omega
  · unfold brI at hk; omega
set_option maxHeartbeats 1600000 in
set_option maxRecDepth 100000 in
theorem implFB_any {v vN vT : Value} {M S N : List (List Int)} {T : List Int} {s n d : Int} {w0 w : World} [Ext w0 w] (hp : IsProb w0 v M S) (hN : IsRows w0 vN N) (_hs : I64 s) (hT : IsInts w0 vT T) :
    Calls Try.prog 38 #[v, vN, .int .i64 s, .agg #[.int .i64 n, .int .i64 d], vT] w fun e w' => e = .returned (.tuple #[.agg #[.int .i64 (fbI M S N s n d T), .int .i64 (fbJ M S N s n d T)], .bool (fbB M S N s n d T)]) ∧ Ext w w' := by
  have hp' := hp
  obtain ⟨v1, v2, rfl, hM, hS⟩ := hp
  have hM' := hM
  have hS' := hS
  obtain ⟨a1, c1, rfl, l1⟩ := hM.form
  obtain ⟨a2, c2, rfl, l2⟩ := hS.form
  have hN' := hN
  obtain ⟨aN, cN, rfl, lN⟩ := hN.form
  have hT' := hT
  obtain ⟨aT, cT, rfl, lT⟩ := hT.form
  obtain ⟨W, hW⟩ : ∃ W, W = ((w.alloc (.cells #[.slice a1 M.length c1, .slice a2 S.length c2] 29)).alloc (.cells #[.int .i64 n, .int .i64 d] 39)).alloc (.cells #[.int .i64 0, .int .i64 0] 59) := ⟨_, rfl⟩
  have eW : Ext w W := by rw [hW]; infer_instance
  have k0 : W.cell? ⟨w.heap.size, 0, none⟩ = some (.slice a1 M.length c1) := by rw [hW]; go_simp
  have k1 : W.cell? ⟨w.heap.size, 1, none⟩ = some (.slice a2 S.length c2) := by rw [hW]; go_simp
  have j0 : W.cell? ⟨w.heap.size + 1, 0, none⟩ = some (.int .i64 n) := by rw [hW]; go_simp
  have j1 : W.cell? ⟨w.heap.size + 1, 1, none⟩ = some (.int .i64 d) := by rw [hW]; go_simp
  have eW0 : Ext w0 W := Ext.trans ‹Ext w0 w› eW
  have z0 : W.cell? ⟨w.heap.size + 1 + 1, 0, none⟩ = some (.int .i64 0) := by rw [hW]; go_simp
  have z1 : W.cell? ⟨w.heap.size + 1 + 1, 1, none⟩ = some (.int .i64 0) := by rw [hW]; go_simp
  have f0 : W.frozen? ⟨w.heap.size + 1 + 1, 0, none⟩ = false := by rw [hW]; go_simp
  have f1 : W.frozen? ⟨w.heap.size + 1 + 1, 1, none⟩ = false := by rw [hW]; go_simp
  go_enter Try.func38, Try.ntmps38
  go_upto_region 1 with fail
  rw [← hW]
  clear hW
  go_wp2_with fail
  refine (pairsOf_any (w0 := w0) hp' hN').mono ?_
  rintro e w2 ⟨hpost, hb2⟩
  have e2 : Ext W w2 := hb2
  rcases hpost with ⟨hno, rfl⟩ | ⟨nn, m, hal, hoff, hend, bx, pd, ed, pm, em, rfl, hown⟩
  · have hr := hid (fbB_no (T := T) (ptG_a (n := n) (d := d) hno))
    clear hno
    have eg : Ext W w2 := e2
    have ewg := Ext.trans eW eg
    have zz0 := eg.cell z0
    have zz1 := eg.cell z1
    have ff0 := frozen_on eg z0 f0
    have ff1 := frozen_on eg z1 f1
    go_wp2_with fail
    refine bodyPost_ret (v := .tuple #[.agg #[.int .i64 0, .int .i64 0], .bool false]) (by simp [results, Try.results38, go_sem, zz0, zz1]) rfl ?_
    refine ⟨by rw [(fbI_no hr.out).1, (fbI_no hr.out).2, hr.out], ?_⟩
    exact @Ext.set _ _ (@Ext.set _ _ ewg ⟨w.heap.size + 1 + 1, 0, none⟩ (by simp; omega) _) ⟨w.heap.size + 1 + 1, 1, none⟩ (by simp; omega) _
  · have hgk := hid (gr_ok (algOk_parts hal).1 (algOk_parts hal).2 hoff)
    have hgd : grOf M S N s.toNat nn = ⟨M, S, N, offStp M S s.toNat nn, offGrw M S s.toNat nn⟩ := rfl
    rw [← hgd] at hgk
    clear hgd
    have hsI := startB_state (algOk_parts hal).1
    have hsM : s.toNat < (grOf M S N s.toNat nn).M.length := by show s.toNat < M.length; omega
    have hpos := prEnd_pos hend
    have hprb := hid (prB_some hal hoff hend)
    have hgS : (grOf M S N s.toNat nn).S = S := rfl
    have hgo : grOf M S N s.toNat (offN M S s) = grOf M S N s.toNat nn := by rw [offN_some hoff]
    have hpl := hid (show (prLst (grOf M S N s.toNat nn) s.toNat m).length = m from (prEnd_some hgk.out hsM hend).1)
    have hm6 := (prEnd_some hgk.out hsM hend).2.1
    have hG1 := hid (show ptG M S N s n d = ratioB n d by rw [ptG, hprb.out, Bool.true_and])
    have hMn : prMn M S N s = m := by rw [prMn, hgo, hend]; rfl
    have hT1 := hid (show ptT M S N s T = tabB (prLst (grOf M S N s.toNat nn) s.toNat m).length T by rw [ptT, hMn, hpl.out])
    have hK1 := hid (show ptK M S N s n d T = brI (grOf M S N s.toNat nn) s.toNat m n d T by rw [ptK, hMn, hgo])
    clear hMn
    clear hsI
    obtain ⟨wg, hwg⟩ : ∃ wg, wg = w2 := ⟨_, rfl⟩
    have eg : Ext W wg := by rw [hwg]; exact e2
    have hpx : IsPx wg bx (grOf M S N s.toNat nn) s.toNat m (grOf M S N s.toNat nn).S.length := by rw [hwg]; exact isPx_of_own hgk.out hsM hend hown
    clear hown
    have g0 := eg.cell k0
    have g1 := eg.cell k1
    have i0 := eg.cell j0
    have i1 := eg.cell j1
    have e0g : Ext w0 wg := Ext.trans eW0 eg
    have ewg : Ext w wg := Ext.trans eW eg
    replace hoff := hid hoff
    replace hend := hid hend
    replace hal := hid hal
    replace hgo := hid hgo
    replace hgS := hid hgS
    go_upto_region 2 with fail
    rw [← hwg]
    clear hwg
    cases hq1 : ratioB n d with
    | false =>
      have hr := hid (fbB_no (T := T) (ptG_b (M := M) (S := S) (N := N) (s := s) hq1))
      replace hq1 := hid hq1
      go_wp2_with fail
      refine (isRatio_any _).mono ?_; rw [hq1.out]; rintro e w3 ⟨rfl, hb3⟩
      have e3 : Ext wg w3 := hb3
      have p4 := e3.cell g0
      have p5 := e3.cell g1
      have e03 : Ext w0 w3 := Ext.trans e0g e3
      have eX : Ext W w3 := Ext.trans eg e3
      have ewX : Ext w w3 := Ext.trans eW eX
      have zz0 := eX.cell z0
      have zz1 := eX.cell z1
      have ff0 := frozen_on eX z0 f0
      have ff1 := frozen_on eX z1 f1
      go_wp2_with fail
      refine bodyPost_ret (v := .tuple #[.agg #[.int .i64 0, .int .i64 0], .bool false]) (by simp [results, Try.results38, go_sem, zz0, zz1]) rfl ?_
      refine ⟨by rw [(fbI_no hr.out).1, (fbI_no hr.out).2, hr.out], ?_⟩
      exact @Ext.set _ _ (@Ext.set _ _ ewX ⟨w.heap.size + 1 + 1, 0, none⟩ (by simp; omega) _) ⟨w.heap.size + 1 + 1, 1, none⟩ (by simp; omega) _
    | true =>
      have hGy := hid (show ptG M S N s n d = true by rw [hG1.out]; exact hq1)
      have hQ1 := hid hq1
      replace hq1 := hid hq1
      obtain ⟨pd, pm, hl0, _⟩ := hpx.list
      have hkn := hpx.kinds
      have hS4 := hid (probB_len hgk.out.prob).2.2
      generalize grOf M S N s.toNat nn = g at *
      cases hq2 : tabB (prLst g s.toNat m).length T with
      | false =>
        have hr := hid (fbB_tab (n := n) (d := d) (show ptT M S N s T = false by rw [hT1.out]; exact hq2))
        replace hq2 := hid hq2
        go_wp2_with fail
        refine (isRatio_any _).mono ?_; rw [hq1.out]; rintro e w3 ⟨rfl, hb3⟩
        have e3 : Ext wg w3 := hb3
        have p4 := e3.cell g0
        have p5 := e3.cell g1
        have e03 : Ext w0 w3 := Ext.trans e0g e3
        have h30 := e3.cell hl0
        have e03 : Ext w0 w3 := Ext.trans e0g e3
        go_wp2_with fail
        refine (areNumbers_any (w0 := w0) hT').mono ?_; rw [hq2.out]; rintro e w4 ⟨rfl, hb4⟩
        have e4 : Ext wg w4 := Ext.trans e3 hb4
        have eX : Ext W w4 := Ext.trans eg e4
        have ewX : Ext w w4 := Ext.trans eW eX
        have zz0 := eX.cell z0
        have zz1 := eX.cell z1
        have ff0 := frozen_on eX z0 f0
        have ff1 := frozen_on eX z1 f1
        go_wp2_with fail
        refine bodyPost_ret (v := .tuple #[.agg #[.int .i64 0, .int .i64 0], .bool false]) (by simp [results, Try.results38, go_sem, zz0, zz1]) rfl ?_
        refine ⟨by rw [(fbI_no hr.out).1, (fbI_no hr.out).2, hr.out], ?_⟩
        exact @Ext.set _ _ (@Ext.set _ _ ewX ⟨w.heap.size + 1 + 1, 0, none⟩ (by simp; omega) _) ⟨w.heap.size + 1 + 1, 1, none⟩ (by simp; omega) _
      | true =>
        have hQ2 := hid (show tabB m T = true by rw [← hpl.out]; exact hq2)
        have hTy := hid (show ptT M S N s T = true by rw [hT1.out]; exact hq2)
        replace hq2 := hid hq2
        go_wp2_with fail
        refine (isRatio_any _).mono ?_; rw [hq1.out]; rintro e w3 ⟨rfl, hb3⟩
        have e3 : Ext wg w3 := hb3
        have p4 := e3.cell g0
        have p5 := e3.cell g1
        have e03 : Ext w0 w3 := Ext.trans e0g e3
        have h30 := e3.cell hl0
        have i30 := e3.cell i0
        have i31 := e3.cell i1
        go_wp2_with fail
        refine (areNumbers_any (w0 := w0) hT').mono ?_; rw [hq2.out]; rintro e w4 ⟨rfl, hb4⟩
        have e4 : Ext wg w4 := Ext.trans e3 hb4
        have i40 := hb4.cell i30
        have i41 := hb4.cell i31
        have e04 : Ext w0 w4 := Ext.trans e0g e4
        go_wp2_with fail
        refine (broken_any (w0 := wg) (T := T) hgk.out hsM hend.out (by rw [hgS.out]; rw [hgS.out] at hpx; exact hpx) (hT'.ext (w' := wg)) hQ1.out hQ2.out).mono ?_
        rintro e w5 ⟨rfl, hb5⟩
        have e5 : Ext wg w5 := Ext.trans e4 hb5
        have eX : Ext W w5 := Ext.trans eg e5
        have ewX : Ext w w5 := Ext.trans eW eX
        have zz0 := eX.cell z0
        have zz1 := eX.cell z1
        have ff0 := frozen_on eX z0 f0
        have ff1 := frozen_on eX z1 f1
        have kn5 := e5.cell hkn
        have hbig := hid (brI_big (n := n) (d := d) (T := T) hgk.out hsM hend.out)
        have hcase := hid (brI_cases (n := n) (d := d) (T := T) hgk.out hsM hend.out)
        generalize hkk : brI g s.toNat m n d T = kk at *
        replace hkk := hid hkk
        by_cases hneg : kk < 0
        · have hr := hid (fbB_neg (show ptK M S N s n d T < 0 by rw [hK1.out]; exact hneg))
          go_wp2_with fail
          refine bodyPost_ret (v := .tuple #[.agg #[.int .i64 0, .int .i64 0], .bool false]) (by simp [results, Try.results38, go_sem, zz0, zz1]) rfl ?_
          refine ⟨by rw [(fbI_no hr.out).1, (fbI_no hr.out).2, hr.out], ?_⟩
          exact @Ext.set _ _ (@Ext.set _ _ ewX ⟨w.heap.size + 1 + 1, 0, none⟩ (by simp; omega) _) ⟨w.heap.size + 1 + 1, 1, none⟩ (by simp; omega) _
        · obtain ⟨bi, br, hbr, hbk⟩ : ∃ bi br : Nat, br < g.S.length ∧ kk = ((bi * g.S.length + br : Nat) : Int) := hcase.out.resolve_left (by omega)
          have hv := hid (fb_yes (i := bi) (r := br) hGy.out hTy.out (by rw [hK1.out, hbk, hgS.out]) (by rw [← hgS.out]; exact hbr))
          have hSp := hS4.out.1
          have hq1 : kk.tdiv (g.S.length : Int) = (bi : Int) := by
            rw [hbk, ← Int.ofNat_tdiv, Nat.mul_comm, Nat.mul_add_div (by omega), Nat.div_eq_of_lt hbr, Nat.add_zero]
          have hq2 : kk.tmod (g.S.length : Int) = (br : Int) := by
            rw [hbk, ← Int.ofNat_tmod, Nat.mul_comm, Nat.mul_add_mod, Nat.mod_eq_of_lt hbr]
          have hSne : ¬ g.S = [] := by intro h0; rw [h0] at hSp; simp at hSp
          have hne : (g.S.length : Int) ≠ 0 := by omega
          have hne0 : ((g.S.length : Int) == 0) = false := by simp [hSne]
          have hbm := hid (show bi ≤ 1000000 from by
            have h1 : (bi * g.S.length + br : Nat) < 1000000 := hbig.out _ hbk
            have h2 : bi * 1 ≤ bi * g.S.length := Nat.mul_le_mul_left _ (by omega)
            omega)
          have hbm' := hbm.out
          have hb4 : br < 4 := by have := hS4.out.2; omega
          have hwq : IntKind.i64.wrap (bi : Int) = bi := IntWalk.i64_in _ (by omega)
          have hwr : IntKind.i64.wrap (br : Int) = br := IntWalk.i64_in _ (by omega)
          replace hbk := hid hbk
          go_upto_region 7 with fail
          have ed : Ext w5 (w5).drew := inferInstance
          refine wp_region_held_drew (S := fun w' => w'.cell? ⟨bx, 2, none⟩ = some (.int .i64 g.S.length)) (by kernel_rfl) (ed.cell kn5) (fun hHeld0 => ?_)
          have zd0 := ed.cell zz0
          have zd1 := ed.cell zz1
          have fd0 := frozen_on ed zz0 ff0
          have fd1 := frozen_on ed zz1 ff1
          refine wpAnyH_take (i := 0) (v := .int .i64 kk) rfl (by kernel_rfl) (by kernel_rfl) (by kernel_rfl) (fun _ _ _ h => h) (Or.inl ⟨by rfl, by intro wx hx; go_simp⟩) (by assumption) ?_
          try simp only [List.getElem_toArray, List.getElem_cons_zero, Act.put, List.setIfInBounds_toArray, List.set_cons_zero, List.set_cons_succ]
          refine wpAnyH_take (i := 1) (v := .pointer (some ⟨bx, 0, none⟩)) rfl (by kernel_rfl) (by kernel_rfl) (by kernel_rfl) (fun _ _ _ h => h) (Or.inl ⟨by rfl, by intro wx hx; go_simp⟩) (by assumption) ?_
          try simp only [List.getElem_toArray, List.getElem_cons_succ, List.getElem_cons_zero, Act.put, List.setIfInBounds_toArray, List.set_cons_zero, List.set_cons_succ]
          refine wpAnyH_take (i := 2) (v := .pointer (some ⟨bx, 0, none⟩)) rfl (by kernel_rfl) (by kernel_rfl) (by kernel_rfl) (fun _ _ _ h => h) (Or.inl ⟨by rfl, by intro wx hx; go_simp⟩) (by assumption) ?_
          try simp only [List.getElem_toArray, List.getElem_cons_succ, List.getElem_cons_zero, Act.put, List.setIfInBounds_toArray, List.set_cons_zero, List.set_cons_succ]
          refine wpAnyH_take (i := 3) (v := .pointer (some ⟨bx, 2, none⟩)) rfl (by kernel_rfl) (by kernel_rfl) (by kernel_rfl) (fun _ _ _ h => h) (Or.inl ⟨by rfl, by intro wx hx; go_simp⟩) (by assumption) ?_
          try simp only [List.getElem_toArray, List.getElem_cons_succ, List.getElem_cons_zero, Act.put, List.setIfInBounds_toArray, List.set_cons_zero, List.set_cons_succ]
          refine wpAnyH_take (i := 4) (v := .int .i64 g.S.length) rfl (by kernel_rfl) (by kernel_rfl) (by kernel_rfl) (fun _ _ _ h => h) (Or.inl ⟨by rfl, by intro wx hx; go_simp⟩) (by assumption) ?_
          try simp only [List.getElem_toArray, List.getElem_cons_succ, List.getElem_cons_zero, Act.put, List.setIfInBounds_toArray, List.set_cons_zero, List.set_cons_succ]
          refine wpAnyH_take (i := 5) (v := .int .i64 bi) rfl (by kernel_rfl) (by kernel_rfl) (by kernel_rfl) (fun _ _ _ h => h) (Or.inl ⟨by rfl, by intro wx hx; go_simp⟩) (by assumption) ?_
          try simp only [List.getElem_toArray, List.getElem_cons_succ, List.getElem_cons_zero, Act.put, List.setIfInBounds_toArray, List.set_cons_zero, List.set_cons_succ]
          refine wpAnyH_take (i := 6) (v := .int .i64 kk) rfl (by kernel_rfl) (by kernel_rfl) (by kernel_rfl) (fun _ _ _ h => h) (Or.inl ⟨by rfl, by intro wx hx; go_simp⟩) (by assumption) ?_
          try simp only [List.getElem_toArray, List.getElem_cons_succ, List.getElem_cons_zero, Act.put, List.setIfInBounds_toArray, List.set_cons_zero, List.set_cons_succ]
          refine wpAnyH_take (i := 7) (v := .pointer (some ⟨bx, 0, none⟩)) rfl (by kernel_rfl) (by kernel_rfl) (by kernel_rfl) (fun _ _ _ h => h) (Or.inl ⟨by rfl, by intro wx hx; go_simp⟩) (by assumption) ?_
          try simp only [List.getElem_toArray, List.getElem_cons_succ, List.getElem_cons_zero, Act.put, List.setIfInBounds_toArray, List.set_cons_zero, List.set_cons_succ]
          refine wpAnyH_take (i := 8) (v := .pointer (some ⟨bx, 0, none⟩)) rfl (by kernel_rfl) (by kernel_rfl) (by kernel_rfl) (fun _ _ _ h => h) (Or.inl ⟨by rfl, by intro wx hx; go_simp⟩) (by assumption) ?_
          try simp only [List.getElem_toArray, List.getElem_cons_succ, List.getElem_cons_zero, Act.put, List.setIfInBounds_toArray, List.set_cons_zero, List.set_cons_succ]
          refine wpAnyH_take (i := 9) (v := .pointer (some ⟨bx, 2, none⟩)) rfl (by kernel_rfl) (by kernel_rfl) (by kernel_rfl) (fun _ _ _ h => h) (Or.inl ⟨by rfl, by intro wx hx; go_simp⟩) (by assumption) ?_
          try simp only [List.getElem_toArray, List.getElem_cons_succ, List.getElem_cons_zero, Act.put, List.setIfInBounds_toArray, List.set_cons_zero, List.set_cons_succ]
          refine wpAnyH_take (i := 10) (v := .int .i64 g.S.length) rfl (by kernel_rfl) (by kernel_rfl) (by kernel_rfl) (fun _ _ _ h => h) (Or.inl ⟨by rfl, by intro wx hx; go_simp⟩) (by assumption) ?_
          try simp only [List.getElem_toArray, List.getElem_cons_succ, List.getElem_cons_zero, Act.put, List.setIfInBounds_toArray, List.set_cons_zero, List.set_cons_succ]
          refine wpAnyH_take (i := 11) (v := .int .i64 br) rfl (by kernel_rfl) (by kernel_rfl) (by kernel_rfl) (fun _ _ _ h => h) (Or.inl ⟨by rfl, by intro wx hx; go_simp⟩) (by assumption) ?_
          try simp only [List.getElem_toArray, List.getElem_cons_succ, List.getElem_cons_zero, Act.put, List.setIfInBounds_toArray, List.set_cons_zero, List.set_cons_succ]
          refine wpAnyH_take (i := 12) (v := .agg #[.int .i64 bi, .int .i64 br]) rfl (by kernel_rfl) (by kernel_rfl) (by kernel_rfl) (fun _ _ _ h => h) (Or.inl ⟨by rfl, by intro wx hx; go_simp⟩) (by assumption) ?_
          try simp only [List.getElem_toArray, List.getElem_cons_succ, List.getElem_cons_zero, Act.put, List.setIfInBounds_toArray, List.set_cons_zero, List.set_cons_succ]
          refine wpAnyH_ready (rs := [13]) (by kernel_rfl) (by simp) ?_
          refine AllReadyH.cons rfl (fun K hK => ?_) AllReadyH.nil
          go_simp
          have hstill : ((w5.setCell ⟨w.heap.size + 1 + 1, 0, none⟩ (.int .i64 bi)).setCell ⟨w.heap.size + 1 + 1, 1, none⟩ (.int .i64 br)).cell? ⟨bx, 2, none⟩ = some (.int .i64 g.S.length) := by
            rw [World.cell?_setCell_other _ _ _ _ (fun e => by simp at e), World.cell?_setCell_other _ _ _ _ (fun e => by simp at e)]
            exact kn5
          refine hK.out _ _ ((inferInstance : Ext ((w5.setCell ⟨w.heap.size + 1 + 1, 0, none⟩ (.int .i64 bi)).setCell ⟨w.heap.size + 1 + 1, 1, none⟩ (.int .i64 br)) ((w5.setCell ⟨w.heap.size + 1 + 1, 0, none⟩ (.int .i64 bi)).setCell ⟨w.heap.size + 1 + 1, 1, none⟩ (.int .i64 br)).drew).cell hstill) (fun _ => ?_)
          clear hK K
          try simp only [List.getElem_toArray, List.getElem_cons_succ, List.getElem_cons_zero, Act.put, List.setIfInBounds_toArray, List.set_cons_zero, List.set_cons_succ]
          refine wpAnyH_take (i := 14) (v := .bool true) rfl (by kernel_rfl) (by kernel_rfl) (by kernel_rfl) (fun _ _ _ h => h) (Or.inl ⟨by rfl, by intro wx hx; go_simp⟩) (by assumption) ?_
          try simp only [List.getElem_toArray, List.getElem_cons_succ, List.getElem_cons_zero, Act.put, List.setIfInBounds_toArray, List.set_cons_zero, List.set_cons_succ]
          refine wpAnyH_done (by kernel_rfl) ?_ _
          go_wp2_with fail
          refine bodyPost_ret (v := .tuple #[.agg #[.int .i64 bi, .int .i64 br], .bool true]) (by simp [results, Try.results38, go_sem, zz0, zz1]) rfl ?_
          refine ⟨by rw [hv.out.1, hv.out.2.1, hv.out.2.2], ?_⟩
          have hh := @Ext.set _ _ (@Ext.set _ _ ewX ⟨w.heap.size + 1 + 1, 0, none⟩ (by simp; omega) (.int .i64 bi)) ⟨w.heap.size + 1 + 1, 1, none⟩ (by simp; omega) (.int .i64 br)
          exact Ext.trans hh inferInstance

end Go.Proofs.Ytobfehekjapnhaa
