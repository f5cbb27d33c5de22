/- Several texts in one: Step Swp NxtP RepB. -/
import Derived.Test.YtllfchcocgdcjaaGreatGrA
import Derived.Deep.RegionHeld3
import Derived.Deep.RegionLaw
import Derived.Test.YtllfchcocgdcjaaGreatGrF
import Derived.Test.YtllfchcocgdcjaaGreatGrE
import Derived.Test.YtllfchcocgdcjaaGreatGrC
import Derived.Test.YtllfchcocgdcjaaGreatShelf
/- Steps of a drawing region that append. -/
namespace Go.Proofs.YtllfchcocgdcjaaGreat
open Go.RowKit

theorem stp_one {P : Program} {ops : Array Oper} {o : Oper} {a : Act} {w : World} {K : Act → World → Prop} {Q : Exit → Act → World → Prop} {E0 : Prop} (hgd : o.guard = none) (s x : Operand) (t : TypeId)
    (ho : o.op = .call { callee := .builtin .append, args := #[s, x], argTypes := #[t, t] })
    {e z bytes : Nat} {zv : Value} (E : Elem P t e zv z bytes) {B : Nat} {R : List Row} {v : Value} {n : Nat} {cs : List Value} (hs : a.eval s = v)
    (own : Own w B (⟨e, z, v, n, cs⟩ :: R)) (hB : B ≤ w.heap.size) {g : Nat} {us : List Value} (hus : us.length = z)
    (hx : a.eval x = .slice (some ⟨g, 0, none⟩) 1 1) (hnews : ∀ j u, us[j]? = some u → w.cell? ⟨g, j, none⟩ = some u) (h1 : ∀ u ∈ us, u.oneCell' = true) (h63 : n ≤ 17592186044415) (hb16 : (n + 1) * bytes ≤ 140737488355328)
    (h : ∀ v' w', Own w' B (⟨e, z, v', n + 1, cs ++ us⟩ :: R) → Below B w w' → K (a.put o.dst v') w') :
    if Region.wanted o (yielded ops a.tmps) = true then Oper.wp P o a w K Q else E0 := by
  have hw : Region.wanted o (yielded ops a.tmps) = true := by simp [Region.wanted, hgd]
  rw [if_pos hw]
  have hn2 : ∀ j u, us[j]? = some u → w.cell? ((⟨g, 0, none⟩ : Addr).add j) = some u := by
    intro j u hj
    have e1 : (⟨g, 0, none⟩ : Addr).add j = ⟨g, j, none⟩ := by
      unfold Addr.add; split <;> simp_all
    rw [e1]
    exact hnews j u hj
  obtain ⟨v', w', hr, h2, h3⟩ := run_append_Own (P := P) (ty := o.type) E own hB (m := 1) (c := 1) (by omega) hn2 h1 (by unfold maxLen; omega) hb16
  unfold Oper.wp execOp
  simp only [ho, resolve, invoke, builtin, Sem.run_bind, Sem.run_pure, Result.andThen_ok, List.map_toArray, List.map_cons, List.map_nil, hs, hx]
  rw [hr]
  exact h v' w' h2 h3

theorem stp_ints {P : Program} {ops : Array Oper} {o : Oper} {a : Act} {w : World} {K : Act → World → Prop} {Q : Exit → Act → World → Prop} {E0 : Prop} (hgd : o.guard = none) (s x : Operand) (t : TypeId)
    (ho : o.op = .call { callee := .builtin .append, args := #[s, x], argTypes := #[t, t] })
    {e : Nat} (E : Elem P t e (.int .i64 0) 1 8) {B : Nat} {R : List Row} {v u : Value} {n : Nat} {cs : List Value} (hs : a.eval s = v)
    (own : Own w B (⟨e, 1, v, n, cs⟩ :: R)) (hB : B ≤ w.heap.size) {ys : List Int} (hx : a.eval x = u) (hy : IsInts w u ys)
    (h63 : n + ys.length ≤ 17592186044415)
    (h : ∀ v' w', Own w' B (⟨e, 1, v', n + ys.length, cs ++ ys.map (Value.int .i64)⟩ :: R) → Below B w w' → K (a.put o.dst v') w') :
    if Region.wanted o (yielded ops a.tmps) = true then Oper.wp P o a w K Q else E0 := by
  have hw : Region.wanted o (yielded ops a.tmps) = true := by simp [Region.wanted, hgd]
  rw [if_pos hw]
  obtain ⟨d, c, rfl, hl⟩ := hy.form
  cases d with
  | some ad =>
    obtain ⟨v', w', hr, h2, h3⟩ := run_append_Own (P := P) (ty := o.type) E own hB (ad := ad) (m := ys.length) (c := c) (news := ys.map (Value.int .i64)) (by simp) (cells_of_ints hy) (by intro y hy'; simp at hy'; obtain ⟨k, _, rfl⟩ := hy'; rfl) (by unfold maxLen; omega) (by omega)
    unfold Oper.wp execOp
    simp only [ho, resolve, invoke, builtin, Sem.run_bind, Sem.run_pure, Result.andThen_ok, List.map_toArray, List.map_cons, List.map_nil, hs, hx]
    rw [hr]
    exact h v' w' h2 h3
  | none =>
    have hy0 : ys = [] := by
      cases ys with
      | nil => rfl
      | cons y ys =>
        obtain ⟨b, o, h1, _⟩ := hy.at (w' := w) (k := 0) (by simp)
        cases h1
    subst hy0
    have hr := run_append_none (P := P) (ty := o.type) E own.head c
    unfold Oper.wp execOp
    simp only [ho, resolve, invoke, builtin, Sem.run_bind, Sem.run_pure, Result.andThen_ok, List.map_toArray, List.map_cons, List.map_nil, hs, hx, List.length_nil]
    rw [hr]
    exact h v w (by rw [List.length_nil, Nat.add_zero, List.map_nil, List.append_nil]; exact own) (Below.refl _ _)


theorem region_held_from {P : Program} {ops : Array Oper} {Q : Exit → Act → World → Prop} {S : World → Prop} {id : Nat} {a : Act} {w w0 : World} [e : Ext w0 w] (hm : P.follows .mixedOrders = true) (hS : ∀ u, Ext w0 u → S u)
    (h : ∀ wd, Ext w0 wd → S wd → wpAnyH P .any ops Q S ops.size (Array.replicate ops.size false) a wd) : (Code.region id ops true).wp P Q a w :=
  wp_region_held_drew hm (hS _ inferInstance) (fun h0 => h _ inferInstance h0)
theorem own_formN {w : World} {B e : Nat} {v : Value} {xs : List Int} {R : List Row} (h : Own w B (intRowOf e v xs :: R)) : ∃ d n m, v = .slice d n m ∧ Hid (n = xs.length) := by
  obtain ⟨d, m, h⟩ := h.form
  exact ⟨d, _, m, h, rfl⟩
theorem own_grow1 {w : World} {B e n : Nat} {v : Value} {xs : List Int} {x : Int} {R : List Row} (h : Own w B (⟨e, 1, v, n + 1, xs.map (Value.int .i64) ++ [.int .i64 x]⟩ :: R)) (hn : n = xs.length) : Own w B (intRowOf e v (xs ++ [x]) :: R) := by
  subst hn
  unfold intRowOf
  rw [List.length_append, List.map_append]
  exact h
theorem own_more {w : World} {B e n : Nat} {v : Value} {xs ys : List Int} {R : List Row} (h : Own w B (⟨e, 1, v, n + ys.length, xs.map (Value.int .i64) ++ ys.map (Value.int .i64)⟩ :: R)) (hn : n = xs.length) : Own w B (intRowOf e v (xs ++ ys) :: R) := by
  subst hn
  unfold intRowOf
  rw [List.length_append, List.map_append]
  exact h
end Go.Proofs.YtllfchcocgdcjaaGreat

/- One point of a list in the place of another one: the reference's. -/
namespace Go.Proofs.YtllfchcocgdcjaaGreat
open Go.RowKit

set_option maxHeartbeats 400000 in
set_option maxRecDepth 100000 in
theorem l1Own_any {v : Value} {a : List Int} {w0 w : World} [Ext w0 w] (ha : IsInts w0 v a) :
    Calls Tryz.prog 32 #[v] w fun e w' => ∃ d m, e = .returned (.slice d a.length m) ∧ Own w' w.heap.size [intRowOf 3 (.slice d a.length m) a] ∧ Ext w w' := by
  have ha' := ha
  obtain ⟨da, ma, rfl, la⟩ := ha.form
  have own0 : Own (w.alloc (.cells #[] 3)) w.heap.size [⟨3, 1, .slice (some ⟨w.heap.size, 0, none⟩) 0 0, 0, []⟩] := Own.litInts (xs := []) (Nat.le_refl _) rfl rfl (by simp) rfl
  have hB : w.heap.size ≤ (w.alloc (.cells #[] 3)).heap.size := by simp
  have e0 : Ext w0 (w.alloc (.cells #[] 3)) := Ext.trans ‹Ext w0 w› inferInstance
  go_enter Tryz.func32, Tryz.ntmps32
  go_wp2_with (at_builtin; refine wpList_appendInts rfl _ _ _ rfl elemInt rfl own0 hB rfl (ha'.ext (w' := w.alloc (.cells #[] 3))) (by omega) ?_; intro v1 w1 ho hb1)
  go_ret
  rw [Nat.zero_add, List.nil_append] at ho
  obtain ⟨d, m, rfl⟩ := Own.formInts (e := 3) (xs := a) ho
  exact ⟨d, m, rfl, ho, ⟨((Below.refl _ w).alloc (Nat.le_refl _) _).trans hb1⟩⟩

set_option maxHeartbeats 400000 in
set_option maxRecDepth 100000 in
theorem l4With_any {v : Value} {a : List Int} {s : Nat} {r : Int} {w0 w : World} [Ext w0 w] (ha : IsInts w0 v a) (hs : s < a.length) :
    Calls Tryz.prog 96 #[v, .int .i64 s, .int .i64 r] w fun e w' => ∃ d m, e = .returned (.slice d a.length m) ∧ Own w' w.heap.size [intRowOf 3 (.slice d a.length m) (a.set s r)] ∧ Ext w w' := by
  have ha' := ha
  obtain ⟨da, ma, rfl, la⟩ := ha.form
  go_enter Tryz.func96, Tryz.ntmps96
  go_wp2_with fail
  with_reducible refine (l1Own_any (w0 := w0) ha').mono ?_
  rintro e w1 ⟨d, m, rfl, own1, e1⟩
  obtain ⟨g, rfl⟩ := own1.at (j := 0) (show 0 < a.length by omega)
  have c1 : w1.cell? ⟨g, s, none⟩ = some (.int .i64 (nth a s)) := by
    rw [own1.cellAt (w' := w1) hs]; simp [nth, hs]
  have f1 := own1.frozenAt s
  have own2 := own1.set s (.int .i64 r)
  have b2 : Below w.heap.size w (w1.setCell ⟨g, s, none⟩ (.int .i64 r)) := e1.below.setCell own1.lt.1 _
  rw [← List.map_set] at own2
  have eX : (⟨3, 1, .slice (some ⟨g, 0, none⟩) a.length m, a.length, (a.set s r).map (Value.int .i64)⟩ : Row) = intRowOf 3 (.slice (some ⟨g, 0, none⟩) a.length m) (a.set s r) := by unfold intRowOf; rw [List.length_set]
  rw [eX] at own2
  replace eX := hid eX
  go_wp2_with fail
  go_ret
  exact ⟨_, _, rfl, own2, ⟨b2⟩⟩
end Go.Proofs.YtllfchcocgdcjaaGreat

/- The plain law of the next work list: the program's least sum over the configurations with a point is the reference's over one point moved. -/
namespace Go.Proofs.YtllfchcocgdcjaaGreat
open Go.RowKit

--PURE
/-- a configuration with the s-th point moved to r, and its sum -/
def swC (P : List (List Int)) (r : Int) (i s : Nat) : List Int := sortL ((row P i).set s r)
def swS (M P : List (List Int)) (ws : List Int) (r : Int) (i s : Nat) : Int := nth ws (atR P (swC P r i s)) + cell M (nth (row P i) s).toNat r.toNat
def viS (M P : List (List Int)) (ws : List Int) (i j : Nat) : Int := nth ws j + mvC M (row P j) (row P i)
def LipW (M P : List (List Int)) (ws : List Int) : Prop := ws.length = P.length ∧ ∀ i j, i < P.length → j < P.length → nth ws i - nth ws j ≤ mvC M (row P i) (row P j)
theorem row_conf {n k i : Nat} (hi : i < (confs n k 0).length) : (row (confs n k 0) i).length = k ∧ Pts n (row (confs n k 0) i) ∧ Asc (row (confs n k 0) i) := by
  obtain ⟨h1, h2, h3⟩ := confs_iff.1 (row_mem hi)
  exact ⟨h1, fun x hx => by have := h3 x hx; omega, h2⟩
theorem sw_conf {n k i s : Nat} {r : Int} (hi : i < (confs n k 0).length) (hs : s < k) (hr : 0 ≤ r ∧ r < (n : Int)) : swC (confs n k 0) r i s ∈ confs n k 0 ∧ r ∈ swC (confs n k 0) r i s := by
  obtain ⟨h1, h2, h3⟩ := row_conf hi
  refine ⟨confs_iff.2 ⟨by rw [swC, sortL_len, List.length_set, h1], sortL_asc _, fun x hx => ?_⟩, ?_⟩
  · have h4 := (sortL_perm _).mem_iff.1 hx
    have := h2.set (s := s) hr x h4
    omega
  · refine (sortL_perm _).mem_iff.2 ?_
    rw [List.mem_iff_getElem]
    exact ⟨s, by rw [List.length_set, h1]; exact hs, by simp⟩
/-- each moved point is a way over a configuration with it -/
theorem sw_via {M : List (List Int)} {n k i s : Nat} {r : Int} {ws : List Int} (hd : Dst M n) (hk : k ≤ 3) (hi : i < (confs n k 0).length) (hs : s < k) (hr : 0 ≤ r ∧ r < (n : Int)) :
    ∃ j, j < (confs n k 0).length ∧ r ∈ row (confs n k 0) j ∧ viS M (confs n k 0) ws i j ≤ swS M (confs n k 0) ws r i s := by
  obtain ⟨h1, h2, h3⟩ := row_conf hi
  obtain ⟨hm, hrm⟩ := sw_conf hi hs hr
  obtain ⟨hlt, hrow⟩ := atR_lt hm
  refine ⟨_, hlt, by rw [hrow]; exact hrm, ?_⟩
  have hset := mvC_set hd (s := s) (r := r) h2 hr (by omega) (by omega)
  have hp := mvC_permR hd (sortL_perm ((row (confs n k 0) i).set s r)).symm h2 (h2.set hr) (by simp) (by omega)
  have hpts : Pts n (swC (confs n k 0) r i s) := (h2.set hr).perm (sortL_perm _)
  have hsy := mvC_symm hd h2 hpts (by rw [swC, sortL_len, List.length_set]) (by omega)
  unfold viS swS
  rw [hrow]
  unfold swC at *
  omega
/-- and each way is no less than a moved point -/
theorem via_sw {M : List (List Int)} {n k i j : Nat} {r : Int} {ws : List Int} (hd : Dst M n) (hk : k ≤ 3) (hw : LipW M (confs n k 0) ws) (hi : i < (confs n k 0).length) (hj : j < (confs n k 0).length) (hr : r ∈ row (confs n k 0) j) :
    ∃ s, s < k ∧ swS M (confs n k 0) ws r i s ≤ viS M (confs n k 0) ws i j := by
  obtain ⟨h1, h2, h3⟩ := row_conf hi
  obtain ⟨g1, g2, g3⟩ := row_conf hj
  have hrr := g2 r hr
  obtain ⟨s, hs, hle⟩ := mvC_via hd h2 g2 (by rw [h1, g1]) (by omega) hr
  rw [h1] at hs
  obtain ⟨hm, hrm⟩ := sw_conf hi hs hrr
  obtain ⟨hlt, hrow⟩ := atR_lt hm
  have hlip := hw.2 _ j hlt hj
  rw [hrow] at hlip
  have hp := mvC_permL hd (sortL_perm ((row (confs n k 0) i).set s r)).symm (h2.set hrr) g2 (by simp; omega) (by simp; omega)
  have hsy := mvC_symm hd h2 g2 (by rw [h1, g1]) (by omega)
  refine ⟨s, hs, ?_⟩
  unfold viS swS
  unfold swC at *
  omega
/-- a value that is the least of the ways is at least the old one, and not much more -/
theorem via_ge {M : List (List Int)} {n k i j : Nat} {ws : List Int} (hd : Dst M n) (hk : k ≤ 3) (hw : LipW M (confs n k 0) ws) (hi : i < (confs n k 0).length) (hj : j < (confs n k 0).length) : nth ws i ≤ viS M (confs n k 0) ws i j := by
  obtain ⟨h1, h2, h3⟩ := row_conf hi
  obtain ⟨g1, g2, g3⟩ := row_conf hj
  have := hw.2 i j hi hj
  have hsy := mvC_symm hd h2 g2 (by rw [h1, g1]) (by omega)
  unfold viS
  omega
theorem via_lip {M : List (List Int)} {n k i q j : Nat} {ws : List Int} (hd : Dst M n) (hk : k ≤ 3) (hi : i < (confs n k 0).length) (hq : q < (confs n k 0).length) (hj : j < (confs n k 0).length) : viS M (confs n k 0) ws i j ≤ viS M (confs n k 0) ws q j + mvC M (row (confs n k 0) q) (row (confs n k 0) i) := by
  obtain ⟨h1, h2, h3⟩ := row_conf hi
  obtain ⟨g1, g2, g3⟩ := row_conf hj
  obtain ⟨f1, f2, f3⟩ := row_conf hq
  have := mvC_tri hd g2 f2 h2 (by rw [g1, f1]) (by rw [f1, h1]) (by omega)
  unfold viS
  omega
end Go.Proofs.YtllfchcocgdcjaaGreat

/- slices.Repeat of one int, up to a thousand times. -/
namespace Go.Proofs.YtllfchcocgdcjaaGreat
open Go.RowKit

theorem mulN_any {n : Nat} (h : n ≤ 1000) (w : World) :
    Calls Tryz.prog 52 #[.int .u64 1, .int .u64 n] w fun e w' => e = .returned (.tuple #[.int .u64 0, .int .u64 n]) ∧ w = w' := by
  refine (Tryz.bits_Mul 1 n (by decide) (by omega) w).mono ?_
  rintro e w' ⟨h1, h2⟩
  refine ⟨?_, h2.symm⟩
  rw [h1, Nat.one_mul, Nat.div_eq_of_lt (by omega), Nat.mod_eq_of_lt (by omega)]
  rfl
theorem repN_own {w : World} {B g n : Nat} {c : Int} {t : TypeId} (h : w.heap[g]? = some (.cells (repL c n n).toArray t (0, 0))) (hB : B ≤ g) (hn : n ≤ 1000) : Own w B [intRowOf t (.slice (some ⟨g, 0, none⟩) (List.replicate n c).length n) (List.replicate n c)] := by
  refine ⟨fun r hr => ?_, List.pairwise_singleton _ _⟩
  rw [List.mem_singleton.1 hr]
  have e : repL c n n = (List.replicate n c).map (Value.int .i64) := by simp [repL]
  refine ⟨by simp, .inr ⟨g, n, (repL c n n).toArray, rfl, hB, h, by simp, by unfold maxLen; omega, by simp [repL_length], by simp [e]⟩⟩

set_option maxHeartbeats 800000 in
set_option maxRecDepth 100000 in
theorem sRepeatN_any {v : Value} {c : Int} {n : Nat} {w0 w : World} [Ext w0 w] (hx : IsInts w0 v [c]) (h1 : 1 ≤ n) (h4 : n ≤ 1000) :
    Calls Tryz.prog 28 #[v, .int .i64 n] w fun e w' => ∃ d m, e = .returned (.slice d (List.replicate n c).length m) ∧ Own w' w.heap.size [intRowOf 3 (.slice d (List.replicate n c).length m) (List.replicate n c)] ∧ Ext w w' := by
  obtain ⟨a, cc, rfl, _⟩ := hx.form
  obtain ⟨b, o, rfl, hc⟩ := hx.at (w' := w) (k := 0) (by simp)
  rw [Nat.add_zero] at hc
  have hl1 : ([c] : List Int).length = 1 := rfl
  rw [hl1]
  have hmk := hid (rep_make w c n 3)
  have hsz := hid (show (Tryz.prog.info? 3).map (·.size) = some 1 by kernel_rfl)
  have hc' : w.cell? ⟨b, o, none⟩ = some (.int .i64 c) := hc
  clear hc
  go_enter Tryz.func28, Tryz.ntmps28
  go_wp2_with fail
  refine (mulN_any h4 _).mono ?_
  rintro e w1 ⟨rfl, rfl⟩
  go_upto_region 7 with (at_make; refine wpList_makeOwn rfl _ _ _ rfl elemInt n rfl rfl (by omega) (by omega) rfl ?_; intro hown)
  have eM : Ext w (w.alloc (.cells (Array.replicate n (.int .i64 0)) 3)) := inferInstance
  have hcM := eM.cell hc'
  have hblt : b < w.heap.size := World.block_lt_of_cell? w _ hc'
  have hgs : (w.alloc (.cells (Array.replicate n (.int .i64 0)) 3)).heap.size = w.heap.size + 1 := by simp
  generalize w.alloc (.cells (Array.replicate n (.int .i64 0)) 3) = wM at *
  clear hown
  have hs1 := hid (show ∀ j v, ([.int .i64 c] : List Value)[j]? = some v → wM.cell? ((⟨b, o, none⟩ : Addr).add j) = some v by
    intro j v hj
    match j, hj with
    | 0, hj => simp at hj; subst hj; simpa [Addr.add] using hcM)
  have hbM : Below w.heap.size w wM := eM.below
  have hn1 := hid (show ([.int .i64 c] : List Value).length = Nat.min 1 n from (Nat.min_eq_left h1).symm)
  have hpos := hid (show 0 < ([.int .i64 c] : List Value).length → (some ⟨w.heap.size, 0, none⟩ : Option Addr) = some ⟨w.heap.size, 0, none⟩ ∧ ∃ ad, (some ⟨b, o, none⟩ : Option Addr) = some ad ∧ ∀ j v, ([.int .i64 c] : List Value)[j]? = some v → wM.cell? (ad.add j) = some v from fun _ => ⟨rfl, _, rfl, hs1.out⟩)
  have hfit := hid (show 0 + ([.int .i64 c] : List Value).length ≤ (repL c n 0).length by rw [repL_length (Nat.zero_le _)]; exact h1)
  have hone := hid (show ∀ v ∈ ([.int .i64 c] : List Value), v.oneCell' = true by intro v hv; simp at hv; subst hv; rfl)
  go_upto_region 8 with (with_reducible refine wpList_copy_splice rfl (.tmp 31) (.tmp 32) 27 27 rfl 3 Tryz.underlying27 hsz.out _ _ _ _ _ _ rfl rfl w.heap.size 0 (repL c n 0) 3 hmk.out [.int .i64 c] hn1.out hpos.out hfit.out hone.out w.heap.size w hbM (Nat.le_refl _) ?_; intro w2 hg2 hb2)
  rw [show (splice (repL c n 0) 0 [Value.int .i64 c]) = repL c n 1 from rep_splice (m := 1) (by omega)] at hg2
  go_loopw [8] (fun q wr => ∃ k : Nat, 1 ≤ k ∧ k ≤ n ∧ q = .int .i64 k ∧ Hid (wr.heap[w.heap.size]? = some (.cells (repL c n k).toArray 3 (0, 0))) ∧ Below w.heap.size w wr) (fun q _ => n - (intOf q).toNat)
  case atStart => exact ⟨1, by omega, by omega, rfl, hg2, hb2⟩
  case round =>
    obtain ⟨k, hk1, hkn, rfl, hg, hb⟩ := hrel
    by_cases hlt : k < n
    · obtain ⟨m, hm⟩ : ∃ m, m = Nat.min k (n - k) := ⟨_, rfl⟩
      have hm2 : m ≤ k ∧ m ≤ n - k ∧ 1 ≤ m := by
        have h5 : m ≤ k := hm ▸ Nat.min_le_left k (n - k)
        have h6 : m ≤ n - k := hm ▸ Nat.min_le_right k (n - k)
        have h7 : 1 ≤ m := hm ▸ Nat.le_min.2 ⟨hk1, by omega⟩
        exact ⟨h5, h6, h7⟩
      have hgd : Hid (wr.drew.heap[w.heap.size]? = some (.cells (repL c n k).toArray 3 (0, 0))) := hg
      have hbd : Below w.heap.size w wr.drew := hb.drew
      have hs2 := hid (show ∀ j v, (List.replicate m (Value.int .i64 c))[j]? = some v → wr.drew.cell? ((⟨w.heap.size, 0, none⟩ : Addr).add j) = some v by
        intro j v hj
        obtain ⟨h8, h9⟩ := List.getElem?_eq_some_iff.1 hj
        rw [List.length_replicate] at h8
        rw [List.getElem_replicate] at h9
        subst h9
        have := rep_cell hgd.out (j := j) (by omega) hkn
        rw [← this]
        congr 1
        unfold Addr.add
        split <;> simp_all)
      have hn2 := hid (show (List.replicate m (Value.int .i64 c)).length = Nat.min k (n - k) by rw [List.length_replicate]; exact hm)
      have hpos2 := hid (show 0 < (List.replicate m (Value.int .i64 c)).length → (some ⟨w.heap.size, k, none⟩ : Option Addr) = some ⟨w.heap.size, k, none⟩ ∧ ∃ ad, (some ⟨w.heap.size, 0, none⟩ : Option Addr) = some ad ∧ ∀ j v, (List.replicate m (Value.int .i64 c))[j]? = some v → wr.drew.cell? (ad.add j) = some v from fun _ => ⟨rfl, _, rfl, hs2.out⟩)
      have hfit2 := hid (show k + (List.replicate m (Value.int .i64 c)).length ≤ (repL c n k).length by rw [repL_length hkn, List.length_replicate]; omega)
      have hone2 := hid (show ∀ v ∈ (List.replicate m (Value.int .i64 c)), v.oneCell' = true by intro v hv; rw [List.eq_of_mem_replicate hv]; rfl)
      have hlen2 := hid (show (List.replicate m (Value.int .i64 c)).length = m from List.length_replicate)
      have hsp := hid (rep_splice (c := c) (n := n) (k := k) (m := m) (by omega))
      generalize List.replicate m (Value.int .i64 c) = cs at *
      replace hm := hid hm
      go_upto_region 9 with fail
      refine wp_region_held_drew (S := fun w' => Below w.heap.size w w') (by kernel_rfl) hbd (fun hHeld => ?_)
      refine wpAnyH_take (i := 0) (v := .int .i64 k) rfl (by kernel_rfl) (by kernel_rfl) (by kernel_rfl) (fun _ _ _ h => h) (Or.inl ⟨by rfl, by intro wx hx; go_simp⟩) (by assumption) ?_
      try simp only [List.getElem_toArray, List.getElem_cons_zero, Act.put, List.setIfInBounds_toArray, List.set_cons_zero, List.set_cons_succ]
      refine wpAnyH_take (i := 1) (v := .slice (some ⟨w.heap.size, 0, none⟩) n n) rfl (by kernel_rfl) (by kernel_rfl) (by kernel_rfl) (fun _ _ _ h => h) (Or.inl ⟨by rfl, by intro wx hx; go_simp⟩) (by assumption) ?_
      try simp only [List.getElem_toArray, List.getElem_cons_succ, List.getElem_cons_zero, Act.put, List.setIfInBounds_toArray, List.set_cons_zero, List.set_cons_succ]
      refine wpAnyH_take (i := 2) (v := .int .i64 k) rfl (by kernel_rfl) (by kernel_rfl) (by kernel_rfl) (fun _ _ _ h => h) (Or.inl ⟨by rfl, by intro wx hx; go_simp⟩) (by assumption) ?_
      try simp only [List.getElem_toArray, List.getElem_cons_succ, List.getElem_cons_zero, Act.put, List.setIfInBounds_toArray, List.set_cons_zero, List.set_cons_succ]
      refine wpAnyH_take (i := 3) (v := .slice (some ⟨w.heap.size, k, none⟩) (n - k) (n - k)) rfl (by kernel_rfl) (by kernel_rfl) (by kernel_rfl) (fun _ _ _ h => h) (Or.inl ⟨by rfl, by intro wx hx; go_simp; omega⟩) (by assumption) ?_
      try simp only [List.getElem_toArray, List.getElem_cons_succ, List.getElem_cons_zero, Act.put, List.setIfInBounds_toArray, List.set_cons_zero, List.set_cons_succ]
      refine wpAnyH_take (i := 4) (v := .slice (some ⟨w.heap.size, 0, none⟩) n n) rfl (by kernel_rfl) (by kernel_rfl) (by kernel_rfl) (fun _ _ _ h => h) (Or.inl ⟨by rfl, by intro wx hx; go_simp⟩) (by assumption) ?_
      try simp only [List.getElem_toArray, List.getElem_cons_succ, List.getElem_cons_zero, Act.put, List.setIfInBounds_toArray, List.set_cons_zero, List.set_cons_succ]
      refine wpAnyH_take (i := 5) (v := .int .i64 k) rfl (by kernel_rfl) (by kernel_rfl) (by kernel_rfl) (fun _ _ _ h => h) (Or.inl ⟨by rfl, by intro wx hx; go_simp⟩) (by assumption) ?_
      try simp only [List.getElem_toArray, List.getElem_cons_succ, List.getElem_cons_zero, Act.put, List.setIfInBounds_toArray, List.set_cons_zero, List.set_cons_succ]
      refine wpAnyH_take (i := 6) (v := .slice (some ⟨w.heap.size, 0, none⟩) k n) rfl (by kernel_rfl) (by kernel_rfl) (by kernel_rfl) (fun _ _ _ h => h) (Or.inl ⟨by rfl, by intro wx hx; go_simp⟩) (by assumption) ?_
      try simp only [List.getElem_toArray, List.getElem_cons_succ, List.getElem_cons_zero, Act.put, List.setIfInBounds_toArray, List.set_cons_zero, List.set_cons_succ]
      refine wpAnyH_ready (rs := [7]) (by kernel_rfl) (by simp) ?_
      refine AllReadyH.cons rfl (fun K hK => ?_) AllReadyH.nil
      refine step_copy_splice rfl (.tmp 41) (.tmp 44) 27 27 rfl 3 Tryz.underlying27 hsz.out _ _ _ _ _ _ rfl rfl w.heap.size k (repL c n k) 3 hgd.out cs hn2.out hpos2.out hfit2.out hone2.out w.heap.size w hbd (Nat.le_refl _) ?_
      intro w4 hg4 hb4
      rw [hsp.out] at hg4
      rw [hlen2.out]
      refine hK.out _ _ hb4 (fun hHeld2 => ?_)
      clear hK K hHeld
      try simp only [List.getElem_toArray, List.getElem_cons_succ, List.getElem_cons_zero, Act.put, List.setIfInBounds_toArray, List.set_cons_zero, List.set_cons_succ]
      refine wpAnyH_take (i := 8) (v := .int .i64 ((k : Int) + (m : Int))) rfl (by kernel_rfl) (by kernel_rfl) (by kernel_rfl) (fun _ _ _ h => h) (Or.inl ⟨by rfl, by intro wx hx; go_simp; exact IntWalk.i64_in _ (by omega)⟩) (by assumption) ?_
      try simp only [List.getElem_toArray, List.getElem_cons_succ, List.getElem_cons_zero, Act.put, List.setIfInBounds_toArray, List.set_cons_zero, List.set_cons_succ]
      refine wpAnyH_take (i := 9) (v := .int .i64 ((k : Int) + (m : Int))) rfl (by kernel_rfl) (by kernel_rfl) (by kernel_rfl) (fun _ _ _ h => h) (Or.inl ⟨by rfl, by intro wx hx; go_simp⟩) (by assumption) ?_
      try simp only [List.getElem_toArray, List.getElem_cons_succ, List.getElem_cons_zero, Act.put, List.setIfInBounds_toArray, List.set_cons_zero, List.set_cons_succ]
      refine wpAnyH_done (by kernel_rfl) ?_ _
      go_wp2_with fail
      go_roundw
      case rel => exact ⟨k + m, by omega, by omega, by go_num, hg4, hb4⟩
      case measure => simp [intOf]; omega
    · have : k = n := by omega
      subst this
      go_wp2
      go_ret
      exact ⟨some ⟨w.heap.size, 0, none⟩, k, by rw [List.length_replicate]; rfl, repN_own hg.out (Nat.le_refl _) h4, ⟨hb⟩⟩

end Go.Proofs.YtllfchcocgdcjaaGreat

