/- The laws' copy of a code without its first bytes. -/
import Derived.Test.YtdohjmbhgjfcaaaDoorAppend
import Derived.Test.YtdohjmbhgjfcaaaDoorCur
import Derived.Test.YtdohjmbhgjfcaaaDoorLawA
namespace Go.Proofs.YtdohjmbhgjfcaaaDoor
open Go.RowKit

theorem Tryd.infoByte : (Tryd.prog.info? 5).map (fun i => (i.zero, i.size, i.bytes)) = some (some (.int .u8 0), 1, 1) := by kernel_rfl
theorem elemByte : Elem Tryd.prog 22 5 (.int .u8 0) 1 1 := ⟨Tryd.underlying22, info_parts Tryd.infoByte, rfl, by decide⟩

/-- a code: bytes that came in as an argument, with what is known of their room -/
def IsCode (w : World) (v : Value) (n : Nat) : Prop := IsBytes w v n ∧ ∃ a c, v = .slice a n c ∧ n ≤ c ∧ c ≤ maxLen ∧ (c = 0 ∨ ∃ b o, a = some ⟨b, o, none⟩)
theorem IsCode.bytes {w : World} {v : Value} {n : Nat} (h : IsCode w v n) : IsBytes w v n := h.1
theorem IsBytes.ext {w w' : World} {v : Value} {n : Nat} (h : IsBytes w v n) [e : Ext w w'] : IsBytes w' v n := by
  obtain ⟨a, c, rfl, h2⟩ := h
  refine ⟨a, c, rfl, fun j hj => ?_⟩
  obtain ⟨b, o, x, h3, h4, h5⟩ := h2 j hj
  exact ⟨b, o, x, h3, e.cell h4, h5⟩
theorem list_of {n : Nat} {p : Nat → Int → Prop} (h : ∀ j, j < n → ∃ x, p j x) : ∃ xs : List Int, xs.length = n ∧ ∀ j, j < n → p j (nth xs j) := by
  induction n with
  | zero => exact ⟨[], rfl, fun j hj => by omega⟩
  | succ n ih =>
    obtain ⟨xs, h1, h2⟩ := ih fun j hj => h j (by omega)
    obtain ⟨x, hx⟩ := h n (by omega)
    refine ⟨xs ++ [x], by simp [h1], fun j hj => ?_⟩
    by_cases e : j = n
    · subst e
      rw [show nth (xs ++ [x]) j = x by simp [nth, ← h1]]
      exact hx
    · rw [show nth (xs ++ [x]) j = nth xs j by simp [nth, List.getElem?_append_left (show j < xs.length by omega)]]
      exact h2 j (by omega)
/-- the bytes of a place as a list -/
theorem IsBytes.list {w : World} {b o n c : Nat} (h : IsBytes w (.slice (some ⟨b, o, none⟩) n c) n) : ∃ xs : List Int, xs.length = n ∧ ∀ j, j < n → w.cell? ⟨b, o + j, none⟩ = some (.int .u8 (nth xs j)) ∧ 0 ≤ nth xs j ∧ nth xs j ≤ 255 := by
  refine list_of (p := fun j x => w.cell? ⟨b, o + j, none⟩ = some (.int .u8 x) ∧ 0 ≤ x ∧ x ≤ 255) fun j hj => ?_
  obtain ⟨a', c', h1, h2⟩ := h
  cases h1
  obtain ⟨b', o', x, h3, h4, h5⟩ := h2 j hj
  cases h3
  exact ⟨x, h4, h5⟩
theorem bytes_own {w : World} {B : Nat} {v : Value} {n : Nat} {cs : List Value} {R : List Row} (h : Own w B (⟨5, 1, v, n, cs⟩ :: R)) (hb : ∀ u ∈ cs, ∃ x : Int, u = .int .u8 x ∧ 0 ≤ x ∧ x ≤ 255) : IsBytes w v n := by
  rcases h.head.2 with ⟨h1, h2⟩ | ⟨g, cap, cur, hv, hb', hg, hc, hm, hz, ht⟩
  · have h1' : v = .slice none 0 0 := h1
    have h2' : n = 0 := h2
    subst h1'
    subst h2'
    exact ⟨none, 0, rfl, fun j hj => by omega⟩
  · have hv' : v = .slice (some ⟨g, 0, none⟩) n cap := hv
    subst hv'
    refine ⟨_, _, rfl, fun j hj => ?_⟩
    have hl : cs.length = n := by have := h.head.1; simpa using this
    have h3 := h.cellAt (w' := w) hj
    obtain ⟨x, h4, h5⟩ := hb (cs.getD j undef) (by
      rw [List.getD_eq_getElem?_getD, List.getElem?_eq_getElem (by omega)]
      exact List.getElem_mem _)
    rw [h4] at h3
    exact ⟨g, 0, x, rfl, by rw [Nat.zero_add]; exact h3, h5⟩

section
variable {P : Program} {w : World} {ops : Array Oper} {rest : List Oper} {o : Oper} {a : Act} {Q : Exit → Act → World → Prop}
/-- 'append(s, xs...)' of what lies anywhere, none included -/
theorem wpList_appendAny (hgd : o.guard = none) (s x : Operand) (t : TypeId)
    (ho : o.op = .call { callee := .builtin .append, args := #[s, x], argTypes := #[t, t] })
    {e bytes : Nat} {z : Value} (E : Elem P t e z 1 bytes) {B : Nat} {R : List Row} {v : Value} {n : Nat} {cs : List Value} (hs : a.eval s = v)
    (own : Own w B (⟨e, 1, v, n, cs⟩ :: R)) (hB : B ≤ w.heap.size) {d : Option Addr} {m c : Nat} {news : List Value} (hx : a.eval x = .slice d m c) (hl : news.length = m) (hd : d = none → m = 0)
    (hnews : ∀ ad, d = some ad → ∀ j u, news[j]? = some u → w.cell? (ad.add j) = some u) (h1 : ∀ u ∈ news, u.oneCell' = true)
    (h63 : n + m ≤ maxLen) (hbytes : (n + m) * bytes ≤ 140737488355328)
    (h : ∀ v' w', Own w' B (⟨e, 1, v', n + m, cs ++ news⟩ :: R) → Below B w w' → wpList P ops Q rest (a.put o.dst v') w') : wpList P ops Q (o :: rest) a w := by
  cases d with
  | some ad => exact wpList_append_Own hgd ho E hs own hB hx (by rw [hl, Nat.mul_one]) (hnews ad rfl) h1 h63 hbytes h
  | none =>
    have hm := hd rfl
    subst hm
    have hn : news = [] := List.eq_nil_of_length_eq_zero hl
    subst hn
    refine wpList_plain hgd fun K hK => ?_
    have hr := run_append_none (P := P) (ty := o.type) E own.head c
    unfold Oper.wp execOp
    simp only [ho, resolve, invoke, builtin, Sem.run_bind, Sem.run_pure, Result.andThen_ok, List.map_toArray, List.map_cons, List.map_nil, hs, hx]
    rw [hr]
    exact hK _ _ (h v w (by rw [Nat.add_zero, List.append_nil]; exact own) (Below.refl _ _))
end

set_option maxHeartbeats 1600000 in
set_option maxRecDepth 100000 in
theorem vCut_any {w0 w : World} [e0 : Ext w0 w] {v : Value} {nb n : Nat} (hc : IsCode w0 v nb) (hn : n ≤ 100) (hb : nb ≤ 65536) :
    Calls Tryd.prog 32 #[v, .int .i64 n] w fun e w' => ∃ v' n', e = .returned v' ∧ IsBytes w' v' n' ∧ Ext w w' := by
  obtain ⟨hby, a, c, rfl, hnc, hcm, hac⟩ := hc
  obtain ⟨q, hq, hqn, hqd⟩ : ∃ q, q ≤ nb ∧ q ≤ 100 ∧ ((nb < n ∧ q = nb) ∨ (¬ nb < n ∧ q = n)) := by
    by_cases h : nb < n
    · exact ⟨nb, Nat.le_refl _, by omega, .inl ⟨h, rfl⟩⟩
    · exact ⟨n, by omega, hn, .inr ⟨h, rfl⟩⟩
  have own0 : Own (w.alloc (.cells #[] 5)) w.heap.size [⟨5, 1, .slice (some ⟨w.heap.size, 0, none⟩) 0 0, 0, []⟩] := (Own.nil w w.heap.size).lit 5 1 0 #[] (Nat.le_refl _) (by unfold maxLen; omega) rfl
  have hBs : w.heap.size ≤ (w.alloc (.cells #[] 5)).heap.size := by simp
  have bl0 : Below w.heap.size w (w.alloc (.cells #[] 5)) := (Below.refl _ w).alloc (Nat.le_refl _) _
  have e01 : Ext w0 (w.alloc (.cells #[] 5)) := Ext.trans e0 ⟨bl0⟩
  -- what the cut slice has
  obtain ⟨news, hnl, hnone, hnews, hbyte⟩ : ∃ news : List Value, news.length = nb - q ∧ ((if c = q then a else a.map (fun p => p.add q)) = none → nb - q = 0) ∧ (∀ ad, (if c = q then a else a.map (fun p => p.add q)) = some ad → ∀ j u, news[j]? = some u → (w.alloc (.cells #[] 5)).cell? (ad.add j) = some u) ∧ ∀ u ∈ news, ∃ x : Int, u = .int .u8 x ∧ 0 ≤ x ∧ x ≤ 255 := by
    by_cases hz : nb = 0
    · exact ⟨[], by simp; omega, fun _ => by omega, fun ad h j u hj => by simp at hj, fun u hu => by simp at hu⟩
    · obtain ⟨b, o, rfl⟩ : ∃ b o, a = some ⟨b, o, none⟩ := by
        rcases hac with h | h
        · omega
        · exact h
      obtain ⟨xs, hxl, hxs⟩ := (hby.ext (w' := w.alloc (.cells #[] 5))).list
      refine ⟨(xs.drop q).map (Value.int .u8), by simp [hxl], fun h => by split at h <;> simp at h, fun ad had j u hj => ?_, fun u hu => ?_⟩
      · have hjl : j < nb - q := by
          by_cases hjl : j < nb - q
          · exact hjl
          · rw [List.getElem?_eq_none (by simp; omega)] at hj
            cases hj
        have hcq : ¬ c = q := by omega
        rw [if_neg hcq] at had
        simp only [Option.map_some, Option.some.injEq] at had
        subst had
        have h1 := (hxs (q + j) (by omega)).1
        have e1 : ((⟨b, o, none⟩ : Addr).add q).add j = ⟨b, o + (q + j), none⟩ := by
          unfold Addr.add
          split <;> split <;> simp_all <;> omega
        rw [e1, h1, ← hj]
        simp [nth, show q + j < xs.length by omega]
      · obtain ⟨x, hx, rfl⟩ := List.mem_map.1 hu
        obtain ⟨k, hk, rfl⟩ := mem_iff_nth.1 (List.mem_of_mem_drop hx)
        exact ⟨_, rfl, (hxs k (by omega)).2⟩
  have hone : ∀ u ∈ news, u.oneCell' = true := fun u hu => by obtain ⟨x, rfl, _⟩ := hbyte u hu; rfl
  have hqc : (0 : Int) ≤ q ∧ q ≤ nb := by omega
  obtain ⟨sa, hsa⟩ : ∃ z, z = if c = q then a else a.map (fun p => p.add q) := ⟨_, rfl⟩
  rw [← hsa] at hnone hnews
  by_cases hcq : c = q
  · rw [if_pos hcq] at hsa
    subst hsa
    have hnq : nb = q := by omega
    subst hnq
    subst hcq
    clear hq hqc hnc
    rw [Nat.sub_self] at hnl hnone
    cases sa with
    | none =>
      rcases hqd with ⟨h, _⟩ | ⟨h, rfl⟩
      · go_enter Tryd.func32, Tryd.ntmps32
        go_wp2_with (at_builtin; first
          | (refine wpList_appendAny rfl _ _ _ rfl elemByte rfl own0 hBs rfl hnl hnone hnews hone (by unfold maxLen; omega) (by omega) ?_; intro v1 w2 ho hb2)
          | (refine wpList_append1 rfl _ _ _ rfl elemByte rfl ho (show Ext w w2 from ⟨bl0.trans hb2⟩).size rfl rfl (by omega) (by omega) ?_; intro v2 w3 ho2 hb3))
        go_ret
        first
          | refine ⟨_, rfl, ⟨_, bytes_own ho2 ?_⟩, ⟨bl0.trans (hb2.trans hb3)⟩⟩
          | refine ⟨_, _, rfl, bytes_own ho2 ?_, ⟨bl0.trans (hb2.trans hb3)⟩⟩
        intro u hu
        rcases List.mem_append.1 hu with h1 | h1
        · exact hbyte u (by simpa using h1)
        · refine ⟨_, List.mem_singleton.1 h1, ?_⟩
          first | omega | (simp [IntKind.wrap, IntKind.bits, IntKind.signed]; omega)
      · go_enter Tryd.func32, Tryd.ntmps32
        go_wp2_with (at_builtin; first
          | (refine wpList_appendAny rfl _ _ _ rfl elemByte rfl own0 hBs rfl hnl hnone hnews hone (by unfold maxLen; omega) (by omega) ?_; intro v1 w2 ho hb2)
          | (refine wpList_append1 rfl _ _ _ rfl elemByte rfl ho (show Ext w w2 from ⟨bl0.trans hb2⟩).size rfl rfl (by omega) (by omega) ?_; intro v2 w3 ho2 hb3))
        go_ret
        first
          | refine ⟨_, rfl, ⟨_, bytes_own ho2 ?_⟩, ⟨bl0.trans (hb2.trans hb3)⟩⟩
          | refine ⟨_, _, rfl, bytes_own ho2 ?_, ⟨bl0.trans (hb2.trans hb3)⟩⟩
        intro u hu
        rcases List.mem_append.1 hu with h1 | h1
        · exact hbyte u (by simpa using h1)
        · refine ⟨_, List.mem_singleton.1 h1, ?_⟩
          first | omega | (simp [IntKind.wrap, IntKind.bits, IntKind.signed]; omega)
    | some ad =>
      rcases hqd with ⟨h, _⟩ | ⟨h, rfl⟩
      · go_enter Tryd.func32, Tryd.ntmps32
        go_wp2_with (at_builtin; first
          | (refine wpList_appendAny rfl _ _ _ rfl elemByte rfl own0 hBs rfl hnl hnone hnews hone (by unfold maxLen; omega) (by omega) ?_; intro v1 w2 ho hb2)
          | (refine wpList_append1 rfl _ _ _ rfl elemByte rfl ho (show Ext w w2 from ⟨bl0.trans hb2⟩).size rfl rfl (by omega) (by omega) ?_; intro v2 w3 ho2 hb3))
        go_ret
        first
          | refine ⟨_, rfl, ⟨_, bytes_own ho2 ?_⟩, ⟨bl0.trans (hb2.trans hb3)⟩⟩
          | refine ⟨_, _, rfl, bytes_own ho2 ?_, ⟨bl0.trans (hb2.trans hb3)⟩⟩
        intro u hu
        rcases List.mem_append.1 hu with h1 | h1
        · exact hbyte u (by simpa using h1)
        · refine ⟨_, List.mem_singleton.1 h1, ?_⟩
          first | omega | (simp [IntKind.wrap, IntKind.bits, IntKind.signed]; omega)
      · go_enter Tryd.func32, Tryd.ntmps32
        go_wp2_with (at_builtin; first
          | (refine wpList_appendAny rfl _ _ _ rfl elemByte rfl own0 hBs rfl hnl hnone hnews hone (by unfold maxLen; omega) (by omega) ?_; intro v1 w2 ho hb2)
          | (refine wpList_append1 rfl _ _ _ rfl elemByte rfl ho (show Ext w w2 from ⟨bl0.trans hb2⟩).size rfl rfl (by omega) (by omega) ?_; intro v2 w3 ho2 hb3))
        go_ret
        first
          | refine ⟨_, rfl, ⟨_, bytes_own ho2 ?_⟩, ⟨bl0.trans (hb2.trans hb3)⟩⟩
          | refine ⟨_, _, rfl, bytes_own ho2 ?_, ⟨bl0.trans (hb2.trans hb3)⟩⟩
        intro u hu
        rcases List.mem_append.1 hu with h1 | h1
        · exact hbyte u (by simpa using h1)
        · refine ⟨_, List.mem_singleton.1 h1, ?_⟩
          first | omega | (simp [IntKind.wrap, IntKind.bits, IntKind.signed]; omega)
  · obtain ⟨b, o, rfl⟩ : ∃ b o, a = some ⟨b, o, none⟩ := by
      rcases hac with h | h
      · omega
      · exact h
    rw [if_neg hcq] at hsa
    have hsa' : sa = some ⟨b, o + q, none⟩ := by
      rw [hsa]
      simp [Addr.add]
    subst hsa'
    clear hsa
    rcases hqd with ⟨h, rfl⟩ | ⟨h, rfl⟩
    · rw [Nat.sub_self] at hnl hnone
      go_enter Tryd.func32, Tryd.ntmps32
      go_wp2_with (at_builtin; first
        | (refine wpList_appendAny rfl _ _ _ rfl elemByte rfl own0 hBs rfl hnl hnone hnews hone (by unfold maxLen; omega) (by omega) ?_; intro v1 w2 ho hb2)
        | (refine wpList_append1 rfl _ _ _ rfl elemByte rfl ho (show Ext w w2 from ⟨bl0.trans hb2⟩).size rfl rfl (by omega) (by omega) ?_; intro v2 w3 ho2 hb3))
      go_ret
      first
        | refine ⟨_, rfl, ⟨_, bytes_own ho2 ?_⟩, ⟨bl0.trans (hb2.trans hb3)⟩⟩
        | refine ⟨_, _, rfl, bytes_own ho2 ?_, ⟨bl0.trans (hb2.trans hb3)⟩⟩
      intro u hu
      rcases List.mem_append.1 hu with h1 | h1
      · exact hbyte u (by simpa using h1)
      · refine ⟨_, List.mem_singleton.1 h1, ?_⟩
        first | omega | (simp [IntKind.wrap, IntKind.bits, IntKind.signed]; omega)
    · go_enter Tryd.func32, Tryd.ntmps32
      go_wp2_with (at_builtin; first
        | (refine wpList_appendAny rfl _ _ _ rfl elemByte rfl own0 hBs rfl hnl hnone hnews hone (by unfold maxLen; omega) (by omega) ?_; intro v1 w2 ho hb2)
        | (refine wpList_append1 rfl _ _ _ rfl elemByte rfl ho (show Ext w w2 from ⟨bl0.trans hb2⟩).size rfl rfl (by omega) (by omega) ?_; intro v2 w3 ho2 hb3))
      go_ret
      first
        | refine ⟨_, rfl, ⟨_, bytes_own ho2 ?_⟩, ⟨bl0.trans (hb2.trans hb3)⟩⟩
        | refine ⟨_, _, rfl, bytes_own ho2 ?_, ⟨bl0.trans (hb2.trans hb3)⟩⟩
      intro u hu
      rcases List.mem_append.1 hu with h1 | h1
      · exact hbyte u (by simpa using h1)
      · refine ⟨_, List.mem_singleton.1 h1, ?_⟩
        first | omega | (simp [IntKind.wrap, IntKind.bits, IntKind.signed]; omega)
end Go.Proofs.YtdohjmbhgjfcaaaDoor
