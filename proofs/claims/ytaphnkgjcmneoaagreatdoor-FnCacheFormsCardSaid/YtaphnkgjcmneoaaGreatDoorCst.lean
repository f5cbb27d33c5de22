/- The shape of a drawn cache, in plain words. -/
import Derived.Test.YtaphnkgjcmneoaaGreatDoorCjg
namespace Go.Proofs.YtaphnkgjcmneoaaGreatDoor
open Go.RowKit

/-- the shape of a cache that was drawn: its policy, its size, its pages, its marks and its hand lie in narrow bounds -/
structure ST (p z : Int) (P M : List Int) (h : Int) : Prop where
  p1 : 1 ≤ p
  p2 : p ≤ 7
  z1 : 1 ≤ z
  z2 : z ≤ 6
  len : (P.length : Int) ≤ z
  pg : ∀ x ∈ P, 0 ≤ x ∧ x ≤ 7
  mks : p = 5 ∨ p = 6 → M.length = P.length
  mn : ¬(p = 5 ∨ p = 6) → M = []
  mv : ∀ x ∈ M, 0 ≤ x ∧ x ≤ 61
  m6 : p = 6 → ∀ x ∈ M, x ≤ 1
  h1 : 0 ≤ h
  h2 : h < z
  h3 : p ≠ 6 → h = 0
theorem ST.new {p z : Int} (hp : 1 ≤ p ∧ p ≤ 7) (hz : 1 ≤ z ∧ z ≤ 6) : ST p z [] [] 0 :=
  ⟨hp.1, hp.2, hz.1, hz.2, by show (0 : Int) ≤ z; omega, by simp, fun _ => rfl, fun _ => rfl, by simp, by simp, by omega, by omega, fun _ => rfl⟩
theorem mem_wo {L : List Int} {k : Nat} {x : Int} (h : x ∈ L.take k ++ L.drop (k + 1)) : x ∈ L := by
  rcases List.mem_append.1 h with h | h
  · exact List.mem_of_mem_take h
  · exact List.mem_of_mem_drop h
theorem len_wo {L : List Int} {k : Nat} (h : k < L.length) : (L.take k ++ L.drop (k + 1)).length = L.length - 1 := by
  rw [List.length_append, List.length_take, List.length_drop]; omega
theorem nth_in {L : List Int} {k : Nat} (h : k < L.length) : nth L k ∈ L := by
  rw [show nth L k = L[k] by simp [nth, h]]
  exact List.getElem_mem h
theorem ST.front {p z h : Int} {P M : List Int} (s : ST p z P M h) (hp : ¬(p = 5 ∨ p = 6)) {k : Nat} (hk : k < P.length) : ST p z (nth P k :: (P.take k ++ P.drop (k + 1))) M h := by
  obtain ⟨p1, p2, z1, z2, hl, pg, mk, mn, mv, m6, h1, h2, h3⟩ := s
  refine ⟨p1, p2, z1, z2, ?_, ?_, fun q => absurd q hp, mn, mv, m6, h1, h2, h3⟩
  · rw [List.length_cons, len_wo hk]; omega
  · intro x hx
    rcases List.mem_cons.1 hx with rfl | hx
    · exact pg _ (nth_in hk)
    · exact pg _ (mem_wo hx)
theorem ST.mark {p z h : Int} {P M : List Int} (s : ST p z P M h) (hp : p = 5 ∨ p = 6) {v : Int} (k : Nat) (hv : 0 ≤ v ∧ v ≤ 61) (hv6 : p = 6 → v ≤ 1) : ST p z P (M.set k v) h := by
  obtain ⟨p1, p2, z1, z2, hl, pg, mk, mn, mv, m6, h1, h2, h3⟩ := s
  refine ⟨p1, p2, z1, z2, hl, pg, fun q => by rw [List.length_set]; exact mk q, fun q => absurd hp q, ?_, ?_, h1, h2, h3⟩
  · intro x hx
    rcases List.mem_or_eq_of_mem_set hx with hx | rfl
    · exact mv _ hx
    · exact hv
  · intro q x hx
    rcases List.mem_or_eq_of_mem_set hx with hx | rfl
    · exact m6 q _ hx
    · exact hv6 q
theorem ST.push {z h : Int} {P M : List Int} (s : ST 6 z P M h) (hl : (P.length : Int) < z) {x : Int} (hx : 0 ≤ x ∧ x ≤ 7) : ST 6 z (P ++ [x]) (M ++ [1]) h := by
  obtain ⟨p1, p2, z1, z2, _, pg, mk, mn, mv, m6, h1, h2, h3⟩ := s
  refine ⟨p1, p2, z1, z2, by rw [List.length_append]; show ((P.length + 1 : Nat) : Int) ≤ z; omega, ?_, fun q => by rw [List.length_append, List.length_append, mk q]; rfl, fun q => absurd (.inr rfl) q, ?_, ?_, h1, h2, h3⟩
  · intro y hy
    rcases List.mem_append.1 hy with hy | hy
    · exact pg _ hy
    · rw [List.mem_singleton.1 hy]; exact hx
  · intro y hy
    rcases List.mem_append.1 hy with hy | hy
    · exact mv _ hy
    · rw [List.mem_singleton.1 hy]; omega
  · intro _ y hy
    rcases List.mem_append.1 hy with hy | hy
    · exact m6 rfl _ hy
    · rw [List.mem_singleton.1 hy]; omega
theorem ST.turn {z h : Int} {P M M' : List Int} (s : ST 6 z P M h) {h' : Int} (hh : 0 ≤ h' ∧ h' < z) (hl : M'.length = M.length) (hm : ∀ x ∈ M', 0 ≤ x ∧ x ≤ 1) : ST 6 z P M' h' := by
  obtain ⟨p1, p2, z1, z2, hl0, pg, mk, mn, mv, m6, h1, h2, h3⟩ := s
  exact ⟨p1, p2, z1, z2, hl0, pg, fun q => by rw [hl]; exact mk q, fun q => absurd (.inr rfl) q, fun x hx => by have := hm x hx; omega, fun _ x hx => (hm x hx).2, hh.1, hh.2, fun q => absurd rfl q⟩
theorem ST.put {z h : Int} {P M : List Int} (s : ST 6 z P M h) {h' x : Int} (k : Nat) (hx : 0 ≤ x ∧ x ≤ 7) (hh : 0 ≤ h' ∧ h' < z) : ST 6 z (P.set k x) (M.set k 1) h' := by
  obtain ⟨p1, p2, z1, z2, hl, pg, mk, mn, mv, m6, h1, h2, h3⟩ := s.mark (.inr rfl) (v := 1) k (by omega) (fun _ => Int.le_refl _)
  refine ⟨p1, p2, z1, z2, by rw [List.length_set]; exact hl, ?_, fun q => by rw [mk q, List.length_set], fun q => absurd (.inr rfl) q, mv, m6, hh.1, hh.2, fun q => absurd rfl q⟩
  intro y hy
  rcases List.mem_or_eq_of_mem_set hy with hy | rfl
  · exact pg _ hy
  · exact hx
theorem ST.out {p z h : Int} {P M : List Int} (s : ST p z P M h) (hp : p ≠ 6) (hp5 : p ≠ 5) {k : Nat} (hk : k < P.length) : ST p z (P.take k ++ P.drop (k + 1)) M h := by
  obtain ⟨p1, p2, z1, z2, hl, pg, mk, mn, mv, m6, h1, h2, h3⟩ := s
  refine ⟨p1, p2, z1, z2, by rw [len_wo hk]; omega, fun x hx => pg _ (mem_wo hx), fun q => absurd q (by omega), mn, mv, m6, h1, h2, h3⟩
theorem ST.outM {z h : Int} {P M : List Int} (s : ST 5 z P M h) {k : Nat} (hk : k < P.length) : ST 5 z (P.take k ++ P.drop (k + 1)) (M.take k ++ M.drop (k + 1)) h := by
  obtain ⟨p1, p2, z1, z2, hl, pg, mk, mn, mv, m6, h1, h2, h3⟩ := s
  have hM := mk (.inl rfl)
  refine ⟨p1, p2, z1, z2, by rw [len_wo hk]; omega, fun x hx => pg _ (mem_wo hx), fun _ => by rw [len_wo hk, len_wo (by omega), hM], fun q => absurd (.inl rfl) q, fun x hx => mv _ (mem_wo hx), fun q => absurd q (by decide), h1, h2, h3⟩
theorem ST.flush {z h : Int} {P M : List Int} (s : ST 4 z P M h) : ST 4 z [] M h := by
  obtain ⟨p1, p2, z1, z2, hl, pg, mk, mn, mv, m6, h1, h2, h3⟩ := s
  exact ⟨p1, p2, z1, z2, by show (0 : Int) ≤ z; omega, by simp, fun q => absurd q (by decide), mn, mv, m6, h1, h2, h3⟩
theorem ST.in1 {p z h : Int} {P M : List Int} (s : ST p z P M h) (hp : p ≠ 6) (hp5 : p ≠ 5) (hl : (P.length : Int) < z) {x : Int} (hx : 0 ≤ x ∧ x ≤ 7) : ST p z (x :: P) M h := by
  obtain ⟨p1, p2, z1, z2, _, pg, mk, mn, mv, m6, h1, h2, h3⟩ := s
  refine ⟨p1, p2, z1, z2, by rw [List.length_cons]; omega, ?_, fun q => absurd q (by omega), mn, mv, m6, h1, h2, h3⟩
  intro y hy
  rcases List.mem_cons.1 hy with rfl | hy
  · exact hx
  · exact pg _ hy
theorem ST.in5 {z h : Int} {P M : List Int} (s : ST 5 z P M h) (hl : (P.length : Int) < z) {x : Int} (hx : 0 ≤ x ∧ x ≤ 7) : ST 5 z (x :: P) (1 :: M) h := by
  obtain ⟨p1, p2, z1, z2, _, pg, mk, mn, mv, m6, h1, h2, h3⟩ := s
  refine ⟨p1, p2, z1, z2, by rw [List.length_cons]; omega, ?_, fun q => by rw [List.length_cons, List.length_cons, mk q], fun q => absurd (.inl rfl) q, ?_, fun q => absurd q (by decide), h1, h2, h3⟩
  · intro y hy
    rcases List.mem_cons.1 hy with rfl | hy
    · exact hx
    · exact pg _ hy
  · intro y hy
    rcases List.mem_cons.1 hy with rfl | hy
    · omega
    · exact mv _ hy
theorem ST.iP {p z h : Int} {P M : List Int} (s : ST p z P M h) : P.length ≤ 6 ∧ Short P.length ∧ ∀ x ∈ P, I64 x := by
  have h1 := s.len
  have h2 := s.z2
  refine ⟨by omega, by unfold Short; omega, fun x hx => ?_⟩
  have := s.pg x hx
  unfold I64
  omega
theorem ST.iM {p z h : Int} {P M : List Int} (s : ST p z P M h) : M.length ≤ 6 ∧ Short M.length ∧ ∀ x ∈ M, I64 x := by
  have h1 := s.iP.1
  have h3 : M.length ≤ 6 := by
    by_cases q : p = 5 ∨ p = 6
    · rw [s.mks q]; exact h1
    · rw [s.mn q]; show 0 ≤ 6; omega
  refine ⟨h3, by unfold Short; omega, fun x hx => ?_⟩
  have := s.mv x hx
  unfold I64
  omega
/-- the block of a list has a property -/
def GB (G : Nat → Prop) (v : Value) (L : List Int) : Prop := ∀ b o n m, v = .slice (some ⟨b, o, none⟩) n m → 0 < L.length → G b
/-- a list that reads, and lies in a block below lo with a property, or in one not below hi -/
def RF (u : World) (G : Nat → Prop) (lo hi : Nat) (v : Value) (L : List Int) : Prop := IsInts u v L ∧ GB (fun b => (G b ∧ b < lo) ∨ hi ≤ b) v L
theorem ints_low {w0 : World} {b o n m : Nat} {L : List Int} (h : IsInts w0 (.slice (some ⟨b, o, none⟩) n m) L) (hl : 0 < L.length) : b < w0.heap.size := by
  obtain ⟨b', o', h5, h6⟩ := h.at (w' := w0) hl
  cases h5
  by_cases hb : b < w0.heap.size
  · exact hb
  · have : w0.heap[b]? = none := Array.getElem?_eq_none (by omega)
    simp [World.cell?, this] at h6
theorem RF.of {u w0 : World} {G : Nat → Prop} {hi : Nat} {v : Value} {L : List Int} (g : GB G v L) (h : IsInts w0 v L) (e : Ext w0 u) : RF u G w0.heap.size hi v L := by
  refine ⟨h.ext, fun b o n m hv hl => .inl ⟨g b o n m hv hl, ?_⟩⟩
  subst hv
  exact ints_low h hl
/-- what a step of the reference hands over: a cache of the shape, its lists readable -/
def SPost (G : Nat → Prop) (p z : Int) (w0 w : World) : Ending → World → Prop := fun e w' => ∃ (P M : List Int) (h : Int) (dP : Option Addr) (nP cP : Nat) (dM : Option Addr) (nM cM : Nat), e = .returned (cvl p z dP nP cP dM nM cM h) ∧ ST p z P M h ∧ RF w' G w0.heap.size w.heap.size (.slice dP nP cP) P ∧ RF w' G w0.heap.size w.heap.size (.slice dM nM cM) M ∧ Ext w w'
end Go.Proofs.YtaphnkgjcmneoaaGreatDoor
