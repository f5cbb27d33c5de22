/- Spanning trees and cuts of the reference, walked. -/
import Derived.Test.YtnlbjbnjjkilhaaTsC
import Derived.Test.YtnlbjbnjjkilhaaMtD
namespace Go.Proofs.Ytnlbjbnjjkilhaa
open Go.RowKit

/-- the spanning tree and its cost -/
def StOk (M : List (List Int)) (T : List (Nat × Nat)) (s : Int) : Prop := if metB M = true then Kr (edL (cell M) M.length) T ∧ s = smT (cell M) T else T = [] ∧ s = 0
theorem StOk.uniq {M : List (List Int)} {T T' : List (Nat × Nat)} {s s' : Int} (h : StOk M T s) (h' : StOk M T' s') : T = T' ∧ s = s' := by
  unfold StOk at h h'
  by_cases c : metB M = true
  · rw [if_pos c] at h h'
    have e := h.1.uniq h'.1
    exact ⟨e, by rw [h.2, h'.2, e]⟩
  · rw [if_neg c] at h h'
    rw [h.1, h'.1, h.2, h'.2]
    exact ⟨rfl, rfl⟩
def STPost (M : List (List Int)) (w : World) (e : Ending) (w' : World) : Prop :=
  ∃ d m T s, e = .returned (.tuple #[.slice d (T : List (Nat × Nat)).length m, .int .i64 s, .bool (metB M)]) ∧ StOk M T s ∧ IsFlat w' (.slice d T.length m) 2 (edR T) ∧ Ext w w'
/-- the cuts of the spanning tree -/
def CtIs (T : List (Nat × Nat)) (C : List (List Int)) : Prop := C.length = T.length ∧ ∀ i e, T[i]? = some e → SdL (T.take i ++ T.drop (i + 1)) e.1 (row C i)
def CtOk (M : List (List Int)) (C : List (List Int)) : Prop := if metB M = true then ∃ T, Kr (edL (cell M) M.length) T ∧ CtIs T C else C = []
theorem CtOk.uniq {M C C' : List (List Int)} (h : CtOk M C) (h' : CtOk M C') : C = C' := by
  unfold CtOk at h h'
  by_cases c : metB M = true
  · rw [if_pos c] at h h'
    obtain ⟨T, k, l1, l2⟩ := h
    obtain ⟨T', k', l1', l2'⟩ := h'
    have e := k.uniq k'
    subst e
    refine List.ext_getElem (by omega) fun i hi hi' => ?_
    have hT : i < T.length := by omega
    have e1 : C[i] = row C i := by simp [row, hi]
    have e2 : C'[i] = row C' i := by simp [row, hi']
    rw [e1, e2]
    exact (l2 i _ (List.getElem?_eq_getElem hT)).uniq (l2' i _ (List.getElem?_eq_getElem hT))
  · rw [if_neg c] at h h'
    rw [h, h']
def CTPost (M : List (List Int)) (w : World) (e : Ending) (w' : World) : Prop :=
  ∃ d m C, e = .returned (.tuple #[.slice d (C : List (List Int)).length m, .bool (metB M)]) ∧ CtOk M C ∧ IsRows w' (.slice d C.length m) C ∧ Ext w w'
/-- cuts as far as they have been made -/
def CtTo (T : List (Nat × Nat)) (C : List (List Int)) (i : Nat) : Prop := C.length = i ∧ ∀ j e, j < i → T[j]? = some e → SdL (T.take j ++ T.drop (j + 1)) e.1 (row C j)
theorem CtTo.snoc {T : List (Nat × Nat)} {C : List (List Int)} {i : Nat} {e : Nat × Nat} {L : List Int} (h : CtTo T C i) (he : T[i]? = some e) (hL : SdL (T.take i ++ T.drop (i + 1)) e.1 L) : CtTo T (C ++ [L]) (i + 1) := by
  refine ⟨by rw [List.length_append, h.1]; rfl, fun j p hj hp => ?_⟩
  by_cases q : j = i
  · subst q
    rw [he] at hp
    cases hp
    have : row (C ++ [L]) j = L := by simp [row, ← h.1]
    rw [this]; exact hL
  · have : row (C ++ [L]) j = row C j := by
      unfold row
      rw [List.getD_eq_getElem?_getD, List.getElem?_append_left (by rw [h.1]; omega), ← List.getD_eq_getElem?_getD]
    rw [this]; exact h.2 j p (by omega) hp
theorem CtTo.fin {T : List (Nat × Nat)} {C : List (List Int)} (h : CtTo T C T.length) : CtIs T C := ⟨h.1, fun i e he => h.2 i e (by
  rcases Nat.lt_or_ge i T.length with q | q
  · exact q
  · rw [List.getElem?_eq_none q] at he; cases he) he⟩
/-- the rows of cuts are short lists of points -/
theorem CtTo.rows {T : List (Nat × Nat)} {C : List (List Int)} {i n : Nat} (h : CtTo T C i) (hi : i ≤ T.length) (hn : n ≤ 1000) (hT : ∀ e, e ∈ T → e.1 < n ∧ e.2 < n) : ∀ r ∈ C, Short r.length ∧ ∀ x ∈ r, I64 x := by
  intro r hr
  obtain ⟨j, hj, rfl⟩ := List.mem_iff_getElem.1 hr
  have e1 : C[j] = row C j := by simp [row, hj]
  have hjT : j < T.length := by have := h.1; omega
  have hS := h.2 j _ (by have := h.1; omega) (List.getElem?_eq_getElem hjT)
  rw [e1]
  have hb : ∀ x ∈ row C j, 0 ≤ x ∧ x < (n : Int) := fun x hx => by
    obtain ⟨u, rfl, hc⟩ := (hS.2 x).1 hx
    have : ∀ {a b : Nat}, Cn (T.take j ++ T.drop (j + 1)) a b → a < n → b < n := by
      intro a b hc ha
      induction hc with
      | refl => exact ha
      | step _ e ih =>
        have hm : ∀ p, p ∈ T.take j ++ T.drop (j + 1) → p ∈ T := fun p hp => by
          rcases List.mem_append.1 hp with q | q
          · exact List.mem_of_mem_take q
          · exact List.mem_of_mem_drop q
        rcases e with e | e
        · exact (hT _ (hm _ e)).2
        · exact (hT _ (hm _ e)).1
    have := this hc (hT _ (List.getElem_mem hjT)).1
    omega
  refine ⟨?_, fun x hx => by have := hb x hx; unfold I64; omega⟩
  have hnd : (row C j).Nodup := hS.1.imp fun h => by omega
  have := nodup_lt hnd hb
  unfold Short; omega
set_option maxHeartbeats 3200000 in
set_option maxRecDepth 100000 in
theorem specST_any {v : Value} {M : List (List Int)} {w0 w : World} [Ext w0 w] (hm : IsMet w0 v M) :
    Calls Try.prog 14 #[v] w (STPost M w) := by
  have hm' := hm
  have hTr := hid (fun (hM : metB M = true) (u : World) (eu : Ext w0 u) => @l6Tree_any v M w0 u eu hm' hM)
  have hrd := hid (fun (hM : metB M = true) (T : List (Nat × Nat)) (hK : Kr (edL (cell M) M.length) T) => show (∀ e, e ∈ T → e.1 < M.length ∧ e.2 < M.length) ∧ T.length ≤ 6 from by
    have h1 := (met_srt hM).lt
    have h2 := kr_len (met_srt hM) hK (met_len hM).1
    have h3 := met_len hM
    exact ⟨fun e he => h1 e (hK.sub e he), by omega⟩)
  have hn6 := hid (fun (hM : metB M = true) => (met_len hM).2)
  obtain ⟨v1, rfl, hR⟩ := hm
  obtain ⟨a1, c1, rfl, l1⟩ := hR.form
  obtain ⟨mb, hmb⟩ : ∃ mb, mb = metB M := ⟨_, rfl⟩
  obtain ⟨OK, hOK⟩ : ∃ P, P = StOk M := ⟨_, rfl⟩
  unfold STPost
  rw [← hmb, ← hOK]
  replace hOK := hid hOK
  go_enter Try.func14, Try.ntmps14
  go_upto_region 1 with fail
  have ea : Ext w (w.alloc (.cells #[.slice a1 M.length c1] 29)) := inferInstance
  have qa : (w.alloc (.cells #[.slice a1 M.length c1] 29)).cell? ⟨w.heap.size, 0, none⟩ = some (.slice a1 M.length c1) := by go_simp
  generalize w.alloc (.cells #[.slice a1 M.length c1] 29) = wa at *
  have e0a : Ext w0 wa := Ext.trans ‹Ext w0 w› ea
  cases mb with
  | false =>
    have hM := hid hmb.symm
    clear hmb
    have hno := hid (show OK [] 0 by rw [hOK.out]; unfold StOk; rw [hM.out]; exact ⟨rfl, rfl⟩)
    go_wp2_with fail
    with_reducible refine (l6Good_any (w0 := w0) hm').mono ?_
    rw [hM.out]
    rintro e w1 ⟨rfl, e1⟩
    have eF : Ext w (w1.alloc (.cells #[] 46)) := Ext.trans (Ext.trans ea e1) inferInstance
    go_wp2_with fail
    refine bodyPost_ret (v := .tuple #[.slice (some ⟨w1.heap.size, 0, none⟩) 0 0, .int .i64 0, .bool false]) (by simp [results, Try.results14, go_sem]) rfl ?_
    exact ⟨_, 0, [], 0, rfl, hno.out, IsFlat.zero _ _ 0 2, eF⟩
  | true =>
    have hM := hid hmb.symm
    clear hmb
    go_wp2_with fail
    with_reducible refine (l6Good_any (w0 := w0) hm').mono ?_
    rw [hM.out]
    rintro e w1 ⟨rfl, e1⟩
    have q1 := e1.cell qa
    have e01 : Ext w0 w1 := Ext.trans e0a e1
    go_wp2_with fail
    with_reducible refine (hTr.out hM.out w1 e01).mono ?_
    rintro e w2 ⟨d, m, T, rfl, hK, own2, e2⟩
    have hyes := hid (show OK T (smT (cell M) T) by rw [hOK.out]; unfold StOk; rw [if_pos hM.out]; exact ⟨hK, rfl⟩)
    have hT := hrd.out hM.out T hK
    have hFl : IsFlat w2 (.slice d T.length m) 2 (edR T) := edges_read own2 (n := M.length) (by have := hn6.out hM.out; omega) (by omega) hT.1
    have eF : Ext w w2 := Ext.trans (Ext.trans ea e1) e2
    clear hK own2
    go_wp2_with fail
    refine bodyPost_ret (v := .tuple #[.slice d T.length m, .int .i64 (smT (cell M) T), .bool true]) (by simp [results, Try.results14, go_sem]) rfl ?_
    exact ⟨_, _, T, _, rfl, hyes.out, hFl, eF⟩
end Go.Proofs.Ytnlbjbnjjkilhaa
