/- As XEnd, with waiting in several steps: who is free of the condition waits, through others, for the operation that is taken. -/
import Derived.Test.YtdohjmbhgjfcaaaDoorEnd
namespace Go.Proofs.YtdohjmbhgjfcaaaDoor
open Go

section
variable {P : Program} {ops : Array Oper} {Q : Exit → Act → World → Prop} {md : Region.Mode} {S : World → Prop} {X : Nat → Bool}

def closedB (md : Region.Mode) (ops : Array Oper) (listed : Array Bool) : Bool :=
  (List.range ops.size).all fun j => !listed.getD j false || (match ops[j]? with | some o => o.after.toList.all (fun e => !Region.binds md e || listed.getD e.on false) | none => true)
def ClosedL (md : Region.Mode) (ops : Array Oper) (listed : Array Bool) : Prop :=
  ∀ j oj, ops[j]? = some oj → listed.getD j false = true → ∀ e ∈ oj.after, Region.binds md e = true → listed.getD e.on false = true
theorem closedB_spec {listed : Array Bool} (h : closedB md ops listed = true) : ClosedL md ops listed := by
  intro j oj hj hl e he hb
  have h1 := List.all_eq_true.1 h j (List.mem_range.2 (Array.getElem?_eq_some_iff.1 hj).1)
  simp only [hl, hj, Bool.not_true, Bool.false_or] at h1
  have h2 := List.all_eq_true.1 h1 e (Array.mem_toList_iff.2 he)
  simpa [hb] using h2
def reachB (md : Region.Mode) (ops : Array Oper) : Nat → Nat → Nat → Bool
  | 0, _, _ => false
  | n + 1, i, j => match ops[j]? with
    | some o => (o.after.toList.any fun e => Region.binds md e && e.on == i) || o.after.toList.any fun e => Region.binds md e && reachB md ops n i e.on
    | none => false
theorem reach_not {listed : Array Bool} {i : Nat} (hc : ClosedL md ops listed) (hi : ¬ listed.getD i false = true) : ∀ (n j : Nat), reachB md ops n i j = true → ¬ listed.getD j false = true
  | 0, _, h => by simp [reachB] at h
  | n + 1, j, h => by
    intro hl
    unfold reachB at h
    cases hj : ops[j]? with
    | none => rw [hj] at h; cases h
    | some o =>
      rw [hj] at h
      rw [Bool.or_eq_true] at h
      rcases h with h | h
      · obtain ⟨e, he, h2⟩ := List.any_eq_true.1 h
        rw [Bool.and_eq_true, beq_iff_eq] at h2
        have h3 := hc j o hj hl e (Array.mem_toList_iff.1 he) h2.1
        rw [h2.2] at h3; exact hi h3
      · obtain ⟨e, he, h2⟩ := List.any_eq_true.1 h
        rw [Bool.and_eq_true] at h2
        have h3 := hc j o hj hl e (Array.mem_toList_iff.1 he) h2.1
        exact reach_not hc hi n e.on h2.2 h3
theorem ready_unlisted {listed : Array Bool} {i : Nat} (h : listed.getD i true = false) : ¬ listed.getD i false = true := by
  intro h2
  rcases Nat.lt_or_ge i listed.size with h' | h'
  · simp [h'] at h h2
    rw [h] at h2; cases h2
  · simp [Array.getElem?_eq_none h'] at h2
theorem reach_blocks {listed : Array Bool} {i j n : Nat} (hc : ClosedL md ops listed) (hi : listed.getD i true = false) (hr : reachB md ops n i j = true) (hj : j ∈ Region.ready md ops listed) : False := by
  cases n with
  | zero => simp [reachB] at hr
  | succ n =>
    obtain ⟨_, o, ho, hall⟩ := mem_ready.1 hj
    unfold reachB at hr
    rw [ho] at hr
    rw [Bool.or_eq_true] at hr
    rcases hr with hr | hr
    · obtain ⟨e, he, h2⟩ := List.any_eq_true.1 hr
      rw [Bool.and_eq_true, beq_iff_eq] at h2
      have h3 := hall e (Array.mem_toList_iff.1 he) h2.1
      rw [h2.2] at h3; exact ready_unlisted hi h3
    · obtain ⟨e, he, h2⟩ := List.any_eq_true.1 hr
      rw [Bool.and_eq_true] at h2
      have h3 := hall e (Array.mem_toList_iff.1 he) h2.1
      exact reach_not hc (ready_unlisted hi) n e.on h2.2 h3
theorem closed_set {listed : Array Bool} {j : Nat} (hc : ClosedL md ops listed) (hj : j ∈ Region.ready md ops listed) : ClosedL md ops (listed.setIfInBounds j true) := by
  obtain ⟨hun, o, ho, hall⟩ := mem_ready.1 hj
  have hup : ∀ k, listed.getD k false = true → (listed.setIfInBounds j true).getD k false = true := fun k hk => by
    by_cases hjk : j = k
    · subst hjk; exact absurd hk (ready_unlisted hun)
    · rw [getD_set_ne false hjk]; exact hk
  intro k ok hk hl e he hb
  by_cases hjk : j = k
  · subst hjk
    rw [ho] at hk
    injection hk with hk
    subst hk
    exact hup _ (hall e he hb)
  · rw [getD_set_ne false hjk] at hl
    exact hup _ (hc k ok hk hl e he hb)
theorem wpAnyE_firstT {i : Nat} {oi : Oper} {v : Value} (hi : ops[i]? = some oi) (hsel : ∀ (j : Nat) (o : Oper) cs b, ops[j]? = some o → o.op ≠ .select cs b)
    (hQ : ∀ c a w, Q (.panic c) (a.put oi.dst v) w → Q (.panic c) a w) (hX : ∀ j oj, ops[j]? = some oj → X j = true → j ≠ i → reachB md ops ops.size i j = true) :
    ∀ (fuel : Nat) (listed : Array Bool) (a : Act) (w : World),
      (∀ j oj, ops[j]? = some oj → j ≠ i → listed.getD j true = false → (∀ e ∈ oj.after, Region.binds md e = true → e.on ≠ i) → oi.apart ops oj = true) →
      ClosedL md ops listed →
      i ∈ Region.ready md ops listed → YieldsIf P ops S oi v a → S w →
      wpAnyE P md ops Q S X fuel (listed.setIfInBounds i true) (a.put oi.dst v) w → wpAnyE P md ops Q S X (fuel + 1) listed a w := by
  intro fuel
  induction fuel with
  | zero =>
    intro listed a w _ _ hr hy hS H
    refine ⟨fun h => (by rw [h] at hr; cases hr), fun j hj => ?_⟩
    by_cases hji : j = i
    · subst hji; exact hy.wpOp hi hS ⟨.inr hS, H⟩
    · have := ready_mono hj hji
      rw [H.1] at this
      cases this
  | succ fuel ih =>
    intro listed a w hfree hcl hr hy hS H
    refine ⟨fun h => (by rw [h] at hr; cases hr), fun j hj => ?_⟩
    by_cases hji : j = i
    · subst hji; exact hy.wpOp hi hS ⟨.inr hS, H⟩
    · have h1 := H.2 j (ready_mono hj hji)
      obtain ⟨hjun, oj, hoj, hall⟩ := mem_ready.1 hj
      have hnot : ∀ e ∈ oj.after, Region.binds md e = true → e.on ≠ i := fun e he hb heq => by
        have h1 := hall e he hb
        have h0 := (mem_ready.1 hr).1
        rw [heq] at h1
        exact ready_unlisted h0 h1
      have h2 := wpOp_putIf hoj (hfree j oj hoj hji hjun hnot) (fun cs b => hsel i oi cs b hi) (fun cs b => hsel j oj cs b hoj) hQ hy h1
      have hfree' : ∀ k ok, ops[k]? = some ok → k ≠ i → (listed.setIfInBounds j true).getD k true = false →
          (∀ e ∈ ok.after, Region.binds md e = true → e.on ≠ i) → oi.apart ops ok = true := fun k ok hk hki hun hno => by
        refine hfree k ok hk hki ?_ hno
        by_cases hjk : j = k
        · subst hjk; exact hjun
        · rw [getD_set_ne true hjk] at hun; exact hun
      refine wpOp_mono (fun a' w' h3 => ?_) h2
      have hSw : S w' := by
        rcases h3.2.1 with hx | hs
        · exact absurd hj fun hj => reach_blocks hcl (mem_ready.1 hr).1 (hX j oj hoj hx hji) hj
        · exact hs
      refine ⟨.inr hSw, ih (listed.setIfInBounds j true) a' w' hfree' (closed_set hcl hj) (ready_mono hr (Ne.symm hji)) h3.1 hSw ?_⟩
      rw [Array.setIfInBounds_comm _ _ hji]
      exact h3.2.2
def waitsT (md : Region.Mode) (ops : Array Oper) (X : Nat → Bool) (i : Nat) : Bool := (List.range ops.size).all fun j => !X j || (j == i || reachB md ops ops.size i j)
theorem wpAnyE_takeT {i : Nat} {oi : Oper} {v : Value} {fuel : Nat} {listed : Array Bool} {a : Act} {w : World} (hi : ops[i]? = some oi)
    (hs : Region.noSelect ops = true) (hf : Region.free md ops listed i = true) (hr : (Region.ready md ops listed).contains i = true)
    (hQ : ∀ c a w, Q (.panic c) (a.put oi.dst v) w → Q (.panic c) a w) (hy : YieldsIf P ops S oi v a) (hS : S w)
    (h : wpAnyE P md ops Q S X fuel (listed.setIfInBounds i true) (a.put oi.dst v) w) (hX : waitsT md ops X i = true := by kernel_rfl) (hcl : closedB md ops listed = true := by kernel_rfl) : wpAnyE P md ops Q S X (fuel + 1) listed a w :=
  wpAnyE_firstT hi (Region.noSelect_spec hs) hQ (fun j oj hj hx hne => by
    have h1 := List.all_eq_true.1 hX j (List.mem_range.2 (Array.getElem?_eq_some_iff.1 hj).1)
    simp only [hx, Bool.not_true, Bool.false_or, Bool.or_eq_true, beq_iff_eq] at h1
    exact h1.resolve_left hne) fuel listed a w (Region.free_spec hi hf) (closedB_spec hcl) (by simpa using hr) hy hS h
end
end Go.Proofs.YtdohjmbhgjfcaaaDoor
