/- The reference's metric of a tree walked: l6Give, TreeMetric. -/
import Derived.Test.YtnlbjbnjjkilhaaTrC
import Derived.Test.YtnlbjbnjjkilhaaTrU
namespace Go.Proofs.Ytnlbjbnjjkilhaa
open Go.RowKit

/-- the tree of two lists -/
def paL (P : List Int) (k : Nat) : Nat := (nth P (k - 1)).toNat
def leL (L : List Int) (k : Nat) : Int := nth L (k - 1)
def edOk (P L : List Int) (i : Nat) : Prop := 0 ≤ nth P i ∧ nth P i ≤ i ∧ 1 ≤ nth L i ∧ nth L i ≤ 99
instance (P L : List Int) (i : Nat) : Decidable (edOk P L i) := by unfold edOk; infer_instance
def tmOk (P L : List Int) : Bool := decide (P.length ≤ 5) && decide (L.length = P.length) && decide (∀ i, i < P.length → edOk P L i)
def tmT (P L : List Int) : List (List Int) := trT (paL P) (leL L) (P.length + 1)
/-- whether there is a metric of the tree, and which -/
def tmB (P L : List Int) : Bool := tmOk P L && metB (tmT P L)
def tmM (P L : List Int) : List (List Int) := if tmB P L = true then tmT P L else []
theorem tm_tr {P L : List Int} (hl : L.length = P.length) (h : ∀ i, i < P.length → edOk P L i) : TrOk (paL P) (leL L) (P.length + 1) ∧ ∀ k, k < P.length + 1 → leL L k ≤ 99 := by
  refine ⟨fun k h1 h2 => ?_, fun k hk => ?_⟩
  · have := h (k - 1) (by omega)
    unfold paL leL
    unfold edOk at this
    omega
  · unfold leL
    by_cases q : k - 1 < P.length
    · have := h (k - 1) q
      unfold edOk at this
      omega
    · unfold nth
      rw [List.getD_eq_getElem?_getD, List.getElem?_eq_none (by omega)]
      show (0 : Int) ≤ 99
      omega
theorem tm_no1 {P L : List Int} (h : ¬ P.length ≤ 5) : tmB P L = false := by unfold tmB tmOk; rw [decide_eq_false h]; rfl
theorem tm_no2 {P L : List Int} (h : ¬ L.length = P.length) : tmB P L = false := by unfold tmB tmOk; rw [decide_eq_false h]; simp
theorem tm_no3 {P L : List Int} {i : Nat} (hi : i < P.length) (h : ¬ edOk P L i) : tmB P L = false := by
  unfold tmB tmOk
  rw [decide_eq_false (p := ∀ i, i < P.length → edOk P L i) (fun q => h (q i hi))]
  simp
theorem tm_yes {P L : List Int} (h1 : P.length ≤ 5) (h2 : L.length = P.length) (h3 : ∀ i, i < P.length → edOk P L i) : tmB P L = metB (tmT P L) := by
  unfold tmB tmOk
  rw [decide_eq_true h1, decide_eq_true h2, decide_eq_true h3]
  rfl
theorem tm_off {P L : List Int} (h : tmB P L = false) : tmM P L = [] := by unfold tmM; rw [h]; rfl
theorem tm_on {P L : List Int} (h : tmB P L = true) : tmM P L = tmT P L := by unfold tmM; rw [if_pos h]
/-- what both say of a tree -/
def TMPost (P L : List Int) (w : World) (e : Ending) (w' : World) : Prop :=
  ∃ v, e = .returned (.tuple #[.agg #[v], .bool (tmB P L)]) ∧ IsMet w' (.agg #[v]) (tmM P L) ∧ Ext w w'
theorem tb_mok {N : List (List Int)} {n : Nat} {g : Nat → Nat → Int} (h : TbF N n g) (hn : n ≤ 7) (hg : ∀ u v, u < n → v < n → I64 (g u v)) : MOk N := by
  refine ⟨by rw [h.len]; exact hn, fun r hr => ?_⟩
  obtain ⟨x, hx, rfl⟩ := List.mem_iff_getElem.1 hr
  have e : N[x] = row N x := by simp [row, hx]
  have hl := h.rows x (by rw [← h.len]; exact hx)
  rw [e, hl, h.len]
  refine ⟨Nat.le_refl _, by omega, fun v hv => ?_⟩
  obtain ⟨y, hy, rfl⟩ := List.mem_iff_getElem.1 hv
  have e2 : (row N x)[y] = nth (row N x) y := by simp [nth, hy]
  rw [e2, h.at_ x y (by rw [← h.len]; exact hx) (by omega)]
  exact hg x y (by rw [← h.len]; exact hx) (by omega)
theorem edV_i64 {pa : Nat → Nat} {le : Nat → Int} {n kd k : Nat} {f : Int} (h : TrOk pa le n) (hl : ∀ k, k < n → le k ≤ 99) (hf : I64 f) (u v : Nat) (hu : u < n) (hv : v < n) : I64 (edV pa le kd k f u v) := by
  unfold edV
  split
  · split
    · unfold I64; omega
    · exact hf
  · split
    · have h1 := h u (by omega) hu
      have h2 := hl u hu
      unfold I64; omega
    · split
      · have h1 := h v (by omega) hv
        have h2 := hl v hv
        unfold I64; omega
      · exact hf
theorem two_pow_le {y : Nat} (h : y ≤ 7) : (99 : Int) * 2 ^ y ≤ 100000 ∧ 0 ≤ (99 : Int) * 2 ^ y := by
  rcases y with _ | _ | _ | _ | _ | _ | _ | _ | y
  all_goals first | omega | (constructor <;> decide)
theorem IsMet.none (w : World) : IsMet w (.agg #[.slice none 0 0]) [] := ⟨_, rfl, IsRows.nil w⟩
set_option maxHeartbeats 3200000 in
set_option maxRecDepth 100000 in
theorem l6Give_any {v : Value} {M : List (List Int)} {w0 w : World} [Ext w0 w] (hm : IsMet w0 (.agg #[v]) M) :
    Calls Try.prog 29 #[.agg #[v]] w fun e w' => e = .returned (.tuple #[if metB M = true then .agg #[v] else .agg #[.slice none 0 0], .bool (metB M)]) ∧ Ext w w' := by
  have hm' := hm
  obtain ⟨v1, hv1, hR⟩ := hm
  cases hv1
  obtain ⟨a1, c1, rfl, l1⟩ := hR.form
  obtain ⟨mb, hmb⟩ : ∃ mb, mb = metB M := ⟨_, rfl⟩
  rw [← hmb]
  go_enter Try.func29, Try.ntmps29
  go_upto_region 1 with fail
  have ez : Ext w ((w.alloc (.cells #[.slice a1 M.length c1] 29)).alloc (.cells #[.slice none 0 0] 29)) := inferInstance
  have q0 : ((w.alloc (.cells #[.slice a1 M.length c1] 29)).alloc (.cells #[.slice none 0 0] 29)).cell? ⟨w.heap.size, 0, none⟩ = some (.slice a1 M.length c1) := by go_simp
  have z0 : ((w.alloc (.cells #[.slice a1 M.length c1] 29)).alloc (.cells #[.slice none 0 0] 29)).cell? ⟨w.heap.size + 1, 0, none⟩ = some (.slice none 0 0) := by go_simp
  have zf : ((w.alloc (.cells #[.slice a1 M.length c1] 29)).alloc (.cells #[.slice none 0 0] 29)).frozen? ⟨w.heap.size + 1, 0, none⟩ = false := by go_simp
  generalize (w.alloc (.cells #[.slice a1 M.length c1] 29)).alloc (.cells #[.slice none 0 0] 29) = wa at *
  obtain ⟨r, hr⟩ : ∃ r, r = w.heap.size + 1 := ⟨_, rfl⟩
  rw [← hr] at z0 zf ⊢
  have hrw := hid (show w.heap.size ≤ r by omega)
  replace hr := hid hr
  have e0a : Ext w0 wa := Ext.trans ‹Ext w0 w› ez
  cases mb with
  | false =>
    have hM := hid hmb.symm
    clear hmb
    go_wp2_with fail
    with_reducible refine (l6Good_any (w0 := w0) hm').mono ?_
    rw [hM.out]
    rintro e w1 ⟨rfl, e1⟩
    have z1 := e1.cell z0
    have f1 := e1.frozen z0 zf
    have hset : (w1.setCell ⟨r, 0, none⟩ (.slice none 0 0)).cell? ⟨r, 0, none⟩ = some (.slice none 0 0) := by go_simp
    have eF : Ext w (w1.setCell ⟨r, 0, none⟩ (.slice none 0 0)) := ⟨(Ext.trans ez e1).below.setCell hrw.out _⟩
    go_wp2_with fail
    refine bodyPost_ret (v := .tuple #[.agg #[.slice none 0 0], .bool false]) (by simp [results, Try.results29, go_sem, hset]) rfl ?_
    exact ⟨rfl, eF⟩
  | true =>
    have hM := hid hmb.symm
    clear hmb
    go_wp2_with fail
    with_reducible refine (l6Good_any (w0 := w0) hm').mono ?_
    rw [hM.out]
    rintro e w1 ⟨rfl, e1⟩
    have z1 := e1.cell z0
    have f1 := e1.frozen z0 zf
    have q1 := e1.cell q0
    have hset : (w1.setCell ⟨r, 0, none⟩ (.slice a1 M.length c1)).cell? ⟨r, 0, none⟩ = some (.slice a1 M.length c1) := by go_simp
    have eF : Ext w (w1.setCell ⟨r, 0, none⟩ (.slice a1 M.length c1)) := ⟨(Ext.trans ez e1).below.setCell hrw.out _⟩
    go_wp2_with fail
    refine bodyPost_ret (v := .tuple #[.agg #[.slice a1 M.length c1], .bool true]) (by simp [results, Try.results29, go_sem, hset]) rfl ?_
    exact ⟨rfl, eF⟩
end Go.Proofs.Ytnlbjbnjjkilhaa
