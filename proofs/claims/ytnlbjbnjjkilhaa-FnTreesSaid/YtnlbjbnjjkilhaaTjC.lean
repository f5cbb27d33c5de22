/- Whether a list is an order of the points: isOrder, l6Perm; walked. -/
import Derived.Test.YtnlbjbnjjkilhaaTiA
import Derived.Test.YtnlbjbnjjkilhaaPackA
namespace Go.Proofs.Ytnlbjbnjjkilhaa
open Go.RowKit

def orQ (n : Int) (T : List Int) : Bool := decide ((T.length : Int) = n) && (belowB n T && decide (((difL T).length : Int) = n))
set_option maxHeartbeats 800000 in
theorem isOrderQ_any {v : Value} {T : List Int} {n : Int} {w0 w : World} [Ext w0 w] (hT : IsInts w0 v T) (hn : 1 ≤ n ∧ n ≤ 8) :
    Calls Try.prog 36 #[.int .i64 n, v] w fun e w' => e = .returned (.bool (orQ n T)) ∧ Ext w w' := by
  have hT' := hT
  obtain ⟨a, c, rfl, la⟩ := hT.form
  by_cases hl : (T.length : Int) = n
  · have hb : ((T.length : Int) == n) = true := by simp [hl]
    cases hbl : belowB n T with
    | false =>
      have hr := hid (show orQ n T = false by simp [orQ, hbl])
      replace hbl := hid hbl
      replace hl := hid hl
      go_enter Try.func36, Try.ntmps36
      go_wp2_with fail
      with_reducible refine (areBelow_any (w0 := w0) hT' (by omega) (by omega)).mono ?_
      rw [hbl.out]
      rintro e w2 ⟨rfl, e2⟩
      go_wp2_with fail
      go_ret
      exact ⟨ret_bool hr.out.symm, e2⟩
    | true =>
      obtain ⟨D, hD⟩ : ∃ D, D = (difL T).length := ⟨_, rfl⟩
      have hr := hid (show orQ n T = ((D : Int) == n) by rw [orQ, decide_eq_true hl, hbl, Bool.true_and, Bool.true_and, ← hD]; rfl)
      replace hbl := hid hbl
      replace hl := hid hl
      go_enter Try.func36, Try.ntmps36
      go_wp2_with fail
      with_reducible refine (areBelow_any (w0 := w0) hT' (by omega) (by omega)).mono ?_
      rw [hbl.out]
      rintro e w2 ⟨rfl, e2⟩
      have e02 : Ext w0 w2 := Ext.trans ‹Ext w0 w› e2
      go_wp2_with fail
      with_reducible refine (rising_any (w0 := w0) (w := w2) hT').mono ?_
      rw [← hD]
      rintro e w3 ⟨d3, m3, rfl, _, e3⟩
      replace hD := hid hD
      go_wp2_with fail
      go_ret
      exact ⟨ret_bool hr.out.symm, Ext.trans e2 e3⟩
  · have hb : ((T.length : Int) == n) = false := by simp [hl]
    have hr := hid (show orQ n T = false by simp [orQ, hl])
    replace hl := hid hl
    go_enter Try.func36, Try.ntmps36
    go_wp2_with fail
    go_ret
    exact ⟨ret_bool hr.out.symm, Ext.refl _⟩
def pmB (n : Nat) (T : List Int) : Bool := decide (T.length = n) && decide (∀ x, x < n → (x : Int) ∈ T)
theorem cnt_more {x : Int} {p : Int → Bool} (hp : p x = false) : ∀ {l : List Int}, x ∈ l → (l.filter p).length + 1 ≤ (l.filter fun v => p v || decide (v = x)).length
  | [], h => by cases h
  | y :: l, h => by
    have hle : ∀ l : List Int, (l.filter p).length ≤ (l.filter fun v => p v || decide (v = x)).length := fun l => by
      induction l with
      | nil => simp
      | cons z l ih =>
        rw [List.filter_cons, List.filter_cons]
        cases hz : p z with
        | true => simp; exact ih
        | false =>
          by_cases c : z = x
          · simp [c]; have := ih; omega
          · simp [c]; exact ih
    rw [List.filter_cons, List.filter_cons]
    by_cases c : y = x
    · subst c
      rw [hp]
      simp
      have := hle l
      omega
    · have h2 : x ∈ l := by
        rcases List.mem_cons.1 h with q | q
        · exact absurd q.symm c
        · exact q
      have ih := cnt_more hp h2
      cases hz : p y with
      | true => simp [c]; omega
      | false => simp [c]; omega
theorem cnt_all {l : List Int} : ∀ {n : Nat}, (∀ x, x < n → (x : Int) ∈ l) → n ≤ (l.filter fun v => decide (0 ≤ v ∧ v < (n : Int))).length
  | 0, _ => Nat.zero_le _
  | n + 1, h => by
    have ih := cnt_all (n := n) fun x hx => h x (by omega)
    have h1 := cnt_more (x := (n : Int)) (p := fun v => decide (0 ≤ v ∧ v < (n : Int))) (by simp) (h n (by omega))
    have e : (l.filter fun v => decide (0 ≤ v ∧ v < ((n + 1 : Nat) : Int))) = l.filter fun v => (decide (0 ≤ v ∧ v < (n : Int)) || decide (v = (n : Int))) := by
      congr 1
      funext v
      rw [Bool.eq_iff_iff]
      simp only [decide_eq_true_eq, Bool.or_eq_true]
      omega
    rw [e]; omega
theorem orQ_pm (n : Nat) (T : List Int) : orQ n T = pmB n T := by
  rw [Bool.eq_iff_iff]
  unfold orQ pmB belowB
  simp only [Bool.and_eq_true, decide_eq_true_eq, inB]
  constructor
  · rintro ⟨h1, h2, h3⟩
    refine ⟨by omega, fun x hx => Classical.byContradiction fun hx2 => ?_⟩
    have hb : ∀ v ∈ difL T ++ [(x : Int)], 0 ≤ v ∧ v < (n : Int) := fun v hv => by
      rcases List.mem_append.1 hv with hv | hv
      · have := h2 v (mem_difL.1 hv); omega
      · rw [List.mem_singleton.1 hv]; omega
    have hnd : (difL T ++ [(x : Int)]).Nodup := by
      rw [List.nodup_append]
      refine ⟨(difL_sasc T).imp fun h => by omega, by simp, fun a ha b hb' => ?_⟩
      rw [List.mem_singleton.1 hb']
      exact fun q => hx2 (mem_difL.1 (q ▸ ha))
    have := nodup_lt hnd hb
    rw [List.length_append] at this
    simp at this
    omega
  · rintro ⟨h1, h2⟩
    have hc := cnt_all (l := difL T) (n := n) fun x hx => mem_difL.2 (h2 x hx)
    have hl := difL_len T
    have hle := List.length_filter_le (fun v => decide (0 ≤ v ∧ v < (n : Int))) (difL T)
    have hall := List.length_filter_eq_length_iff.1 (show ((difL T).filter fun v => decide (0 ≤ v ∧ v < (n : Int))).length = (difL T).length by omega)
    refine ⟨by omega, fun a ha => ?_, by omega⟩
    have := hall a (mem_difL.2 ha)
    have := of_decide_eq_true this
    omega
set_option maxHeartbeats 800000 in
theorem l6Perm_any {v : Value} {T : List Int} {n : Nat} {w0 w : World} [Ext w0 w] (hT : IsInts w0 v T) (hn : n ≤ 1000) :
    Calls Try.prog 38 #[.int .i64 n, v] w fun e w' => e = .returned (.bool (pmB n T)) ∧ Ext w w' := by
  have hT' := hT
  obtain ⟨a, c, rfl, la⟩ := hT.form
  by_cases hl : T.length = n
  · have hb : ((T.length : Int) == (n : Int)) = true := by simp [hl]
    have hyes := hid (fun (h : ∀ x, x < n → (x : Int) ∈ T) => show pmB n T = true by unfold pmB; rw [decide_eq_true hl, decide_eq_true h]; rfl)
    have hno := hid (fun (h : ¬ ∀ x, x < n → (x : Int) ∈ T) => show pmB n T = false by unfold pmB; rw [decide_eq_false h]; simp)
    rw [hl] at hT' ⊢
    clear hb
    replace hl := hid hl
    go_enter Try.func38, Try.ntmps38
    go_upto_region 4 with fail
    go_loopw [5] (fun xv wr => ∃ x : Nat, xv = .int .i64 x ∧ x ≤ n ∧ Hid (∀ y, y < x → (y : Int) ∈ T) ∧ Ext w wr) (fun xv _ => n - (intOf xv).toNat)
    case atStart => exact ⟨0, rfl, by omega, hid (fun y hy => by omega), Ext.refl _⟩
    case round =>
      obtain ⟨x, rfl, hx, hok, ew⟩ := hrel
      obtain ⟨wo, rfl⟩ : ∃ y : World, y = wr := ⟨_, rfl⟩
      by_cases hxl : x < n
      · have hHs := hid (@l1Has_any (.slice a n c) T (x : Int) w0 wo (Ext.trans ‹Ext w0 w› ew) hT')
        cases hh : hasB T (x : Int) with
        | true =>
          have hok2 := hid (show ∀ y, y < x + 1 → (y : Int) ∈ T from fun y hy => by
            by_cases q : y < x
            · exact hok.out y q
            · rw [show y = x by omega]; exact hasB_mem hh)
          replace hh := hid hh
          go_wp2_with fail
          with_reducible refine hHs.out.mono ?_
          rw [hh.out]
          rintro e w3 ⟨rfl, rfl⟩
          go_wp2_with fail
          go_roundw
          case rel => exact ⟨x + 1, by go_num, by omega, hok2, ew⟩
          case measure => simp [intOf]; omega
        | false =>
          have hf := hid (hno.out fun h => hasB_not hh (h x hxl))
          replace hh := hid hh
          go_wp2_with fail
          with_reducible refine hHs.out.mono ?_
          rw [hh.out]
          rintro e w3 ⟨rfl, rfl⟩
          go_wp2_with fail
          go_ret
          exact ⟨ret_bool hf.out.symm, ew⟩
      · have hf := hid (hyes.out fun y hy => hok.out y (by omega))
        go_wp2_with fail
        go_ret
        exact ⟨ret_bool hf.out.symm, ew⟩
  · have hb : ((T.length : Int) == (n : Int)) = false := beq_eq_false_iff_ne.2 (by omega)
    have hr := hid (show pmB n T = false by unfold pmB; rw [decide_eq_false hl]; rfl)
    replace hl := hid hl
    go_enter Try.func38, Try.ntmps38
    go_wp2_with fail
    go_ret
    exact ⟨ret_bool hr.out.symm, Ext.refl _⟩
end Go.Proofs.Ytnlbjbnjjkilhaa
