/- Appends of a slice of slices to itself; rows laid into a list of rows. -/
import Derived.Test.YtkniohcmhdgbeaaFlatW
import Derived.Test.YtkniohcmhdgbeaaUni
namespace Go.Proofs.Ytkniohcmhdgbeaa
open Go.RowKit

theorem zipWith_unset {α β γ : Type} (f : α → β → γ) : ∀ (l : List α) (m : List β) (j : Nat) (a : α) (b : β), (List.zipWith f l m).set j (f a b) = List.zipWith f (l.set j a) (m.set j b)
  | [], m, j, a, b => by simp
  | x :: l, [], j, a, b => by cases j <;> simp
  | x :: l, y :: m, 0, a, b => by simp
  | x :: l, y :: m, j + 1, a, b => by
    simp only [List.zipWith_cons_cons, List.set_cons_succ]
    rw [zipWith_unset f l m j a b]
theorem append_two {P : Program} {w w' : World} {B t ty e : Nat} {i : TypeInfo} {z : Value} {size bytes : Nat} (ht : P.underlying t = some (.slice e)) (hi : P.info? e = some i) (hz : i.zero = some z)
    (hsize : i.size = size) (hby : i.bytes = bytes)
    {v v' : Value} {n : Nat} {xs : List Value} (hown : w.ownsRow B e size v n xs)
    {a : Addr} {m c : Nat} {news : List Value} (hl : news.length = m * size) (hnews : ∀ j u, news[j]? = some u → w.cell? (a.add j) = some u) (h1 : ∀ u ∈ news, u.oneCell' = true)
    (h63 : n + m ≤ maxLen) (hbytes : (n + m) * bytes ≤ 140737488355328)
    (hr : (Builtin.append_ #[t, t] ty #[v, .slice (some a) m c]).run P w = .ok v' w') :
    v'.ownBlock = v.ownBlock ∨ (Ext w w' ∧ ∀ k, v'.ownBlock = some k → w.heap.size ≤ k) := by
  subst hsize
  subst hby
  have hsmall : n + m ≤ 9223372036854775807 := by simp only [maxLen] at h63; omega
  rcases hown.2 with ⟨rfl, rfl⟩ | ⟨g, cap, cur, rfl, hbg, hg, hnc, hcm, hcs, htake⟩
  · by_cases hm : m = 0
    · subst hm
      have hn : news = [] := List.eq_nil_of_length_eq_zero (by simpa using hl)
      subst hn
      have : (Builtin.append_ #[t, t] ty #[.slice none 0 0, .slice (some a) 0 c]).run P w = .ok (.slice none 0 0) w := by
        simp [Builtin.append_, run_underlying ht, sizeOf, typeInfo, hi, Builtin.lenOf, Builtin.firstCells, loadCells, loadCellsFrom]
      rw [this] at hr
      cases hr
      exact .inl rfl
    · have := run_append_nil (P := P) w t ty e i z ht hi hz a m c news hl hnews (by omega) (by omega) (by have hb := hbytes; simp only [Nat.zero_add] at hb; omega)
      rw [this] at hr
      cases hr
      refine .inr ⟨inferInstance, fun k hk => ?_⟩
      simp [Value.ownBlock] at hk
      omega
  · by_cases hroom : n + m ≤ cap
    · have hfit : n * i.size + news.length ≤ cur.size := by rw [hl, hcs, ← Nat.add_mul]; exact Nat.mul_le_mul_right _ hroom
      have := run_append_room (P := P) w t ty e i ht hi g n cap cur hg a m c news hl hnews h1 hroom hfit
      rw [this] at hr
      cases hr
      exact .inl rfl
    · have := run_append_grow (P := P) w t ty e i z ht hi hz ⟨g, 0, none⟩ n cap xs hown.1 (hown.cells (g := g) rfl) a m c news hl hnews (by omega) (by omega) (growslice_fits (by omega) hbytes)
      rw [this] at hr
      cases hr
      refine .inr ⟨inferInstance, fun k hk => ?_⟩
      simp [Value.ownBlock] at hk
      omega
theorem step_appendN {P : Program} {ops : Array Oper} {o : Oper} {a : Act} {w : World} {K : Act → World → Prop} {Q : Exit → Act → World → Prop} {E0 : Prop} (hgd : o.guard = none) (s x : Operand) (t : TypeId)
    (ho : o.op = .call { callee := .builtin .append, args := #[s, x], argTypes := #[t, t] })
    {e bytes : Nat} {zv : Value} (E : Elem P t e zv 1 bytes) {B : Nat} {R : List Row} {v : Value} {n : Nat} {cs : List Value} (hs : a.eval s = v)
    (own : Own w B (⟨e, 1, v, n, cs⟩ :: R)) (hB : B ≤ w.heap.size) {g m c : Nat} {news : List Value} (hl : news.length = m)
    (hx : a.eval x = .slice (some ⟨g, 0, none⟩) m c) (hnews : ∀ j u, news[j]? = some u → w.cell? ⟨g, j, none⟩ = some u) (h1 : ∀ u ∈ news, u.oneCell' = true) (h63 : n + m ≤ 17592186044415) (hb16 : (n + m) * bytes ≤ 140737488355328)
    (h : ∀ v' w', Own w' B (⟨e, 1, v', n + m, cs ++ news⟩ :: R) → Below B w w' → w.grownBy w' v.ownBlock → (v'.ownBlock = v.ownBlock ∨ (Ext w w' ∧ ∀ k, v'.ownBlock = some k → w.heap.size ≤ k)) → K (a.put o.dst v') w') :
    if Region.wanted o (yielded ops a.tmps) = true then Oper.wp P o a w K Q else E0 := by
  have hw : Region.wanted o (yielded ops a.tmps) = true := by simp [Region.wanted, hgd]
  rw [if_pos hw]
  have hn2 : ∀ j u, news[j]? = some u → w.cell? ((⟨g, 0, none⟩ : Addr).add j) = some u := by
    intro j u hj
    have e1 : (⟨g, 0, none⟩ : Addr).add j = ⟨g, j, none⟩ := by
      unfold Addr.add; split <;> simp_all
    rw [e1]
    exact hnews j u hj
  obtain ⟨i, hi, hz, hsz, hby⟩ := E.info
  have hlm : news.length = m * 1 := by omega
  obtain ⟨v', w', hr, h2, h3, _⟩ := run_append_own (P := P) w B t o.type e i zv 1 bytes E.under hi hz hsz hby E.cells E.pos v n cs own.head ⟨g, 0, none⟩ m c news hlm hn2 h1 (by unfold maxLen; omega) hb16 hB
  have hblk := append_two (P := P) (ty := o.type) (m := m) (n := n) E.under hi hz hsz hby own.head hlm hn2 h1 (by unfold maxLen; omega) hb16 hr
  have hblk2 : v'.ownBlock = v.ownBlock ∨ ∀ k, v'.ownBlock = some k → w.heap.size ≤ k := hblk.imp id (·.2)
  unfold Oper.wp execOp
  simp only [ho, resolve, invoke, builtin, Sem.run_bind, Sem.run_pure, Result.andThen_ok, List.map_toArray, List.map_cons, List.map_nil, hs, hx]
  rw [hr]
  exact h v' w' (own.turn h2 h3 hblk2) (below_of_grown own.head h3 hB) h3 hblk
/-- the first cells of an old slice stay what they are while it is appended to again and again -/
def Keeps (w : World) (g : Nat) (ws : List Value) (v : Value) (cs : List Value) : Prop := (∀ (j : Nat) (u : Value), ws[j]? = some u → w.cell? ⟨g, j, none⟩ = some u) ∧ g < w.heap.size ∧ (v.ownBlock = some g → ∀ (j : Nat) (u : Value), ws[j]? = some u → cs[j]? = some u)
theorem Keeps.next {w w' : World} {B e m g : Nat} {ws cs news : List Value} {v v' : Value} {R : List Row} (h : Keeps w g ws v cs) (own : Own w' B (⟨e, 1, v', m, cs ++ news⟩ :: R)) (hg : w.grownBy w' v.ownBlock) (hd : v'.ownBlock = v.ownBlock ∨ (Ext w w' ∧ ∀ k, v'.ownBlock = some k → w.heap.size ≤ k)) : Keeps w' g ws v' (cs ++ news) := by
  obtain ⟨h1, h2, h3⟩ := h
  have hpre : v.ownBlock = some g → ∀ (j : Nat) (u : Value), ws[j]? = some u → (cs ++ news)[j]? = some u := by
    intro hb j u hu
    have h4 := h3 hb j u hu
    have hj : j < cs.length := (List.getElem?_eq_some_iff.1 h4).1
    rw [List.getElem?_append_left hj]
    exact h4
  refine ⟨fun j u hu => ?_, Nat.lt_of_lt_of_le h2 hg.size, fun hb' => ?_⟩
  · by_cases hb : v.ownBlock = some g
    · rcases hd with hd | hd
      · have h5 := own.head.cells (hd.trans hb) j u (hpre hb j u hu)
        have e1 : (⟨g, 0, none⟩ : Addr).add j = ⟨g, j, none⟩ := by
          unfold Addr.add; split <;> simp_all
        rwa [e1] at h5
      · exact hd.1.cell (h1 j u hu)
    · exact hg.cell (h1 j u hu) (fun e => hb e.symm)
  · rcases hd with hd | hd
    · exact hpre (hd.symm.trans hb')
    · have := hd.2 g hb'
      omega
/-- what each row reads as -/
def EachInts (w : World) (vs : List Value) (M : List (List Int)) : Prop := vs.length = M.length ∧ ∀ j, j < M.length → IsInts w (vs.getD j undef) (row M j)
theorem EachInts.app {w : World} {vs us : List Value} {M N : List (List Int)} (h : EachInts w vs M) (k : EachInts w us N) : EachInts w (vs ++ us) (M ++ N) := by
  refine ⟨by rw [List.length_append, List.length_append, h.1, k.1], fun j hj => ?_⟩
  by_cases hlt : j < M.length
  · have e1 : (vs ++ us).getD j undef = vs.getD j undef := by
      rw [List.getD_eq_getElem?_getD, List.getElem?_append_left (by rw [h.1]; exact hlt), List.getD_eq_getElem?_getD]
    have e2 : row (M ++ N) j = row M j := by
      unfold row
      rw [List.getD_eq_getElem?_getD, List.getElem?_append_left hlt, List.getD_eq_getElem?_getD]
    rw [e1, e2]
    exact h.2 j hlt
  · have e1 : (vs ++ us).getD j undef = us.getD (j - M.length) undef := by
      rw [List.getD_eq_getElem?_getD, List.getElem?_append_right (by rw [h.1]; omega), List.getD_eq_getElem?_getD, h.1]
    have e2 : row (M ++ N) j = row N (j - M.length) := by
      unfold row
      rw [List.getD_eq_getElem?_getD, List.getElem?_append_right (by omega), List.getD_eq_getElem?_getD]
    rw [e1, e2]
    rw [List.length_append] at hj
    exact k.2 _ (by omega)
theorem EachInts.of {w : World} {B e1 e2 : Nat} {v : Value} {vs : List Value} {M : List (List Int)} {R : List Row} (h : Own w B (rowsOf e1 e2 v vs M ++ R)) (hl : vs.length = M.length) (hr : ∀ r ∈ M, Short r.length) (hi : ∀ r ∈ M, ∀ x ∈ r, I64 x) : EachInts w vs M := by
  refine ⟨hl, fun j hj => ?_⟩
  obtain ⟨u, hu⟩ : ∃ u, vs[j]? = some u := ⟨_, List.getElem?_eq_getElem (by omega)⟩
  have e : vs.getD j undef = u := by rw [List.getD_eq_getElem?_getD, hu]; rfl
  rw [e]
  exact (rw_row h hj hu).reads (hr _ (row_mem hj)) (hi _ (row_mem hj))
theorem rows_one {w : World} {B e1 e2 : Nat} {v : Value} {vs : List Value} {M : List (List Int)} {R : List Row} (h : Own w B (rowsOf e1 e2 v vs M ++ R)) (hl : vs.length = M.length) : ∀ u ∈ vs, u.oneCell' = true := by
  intro u hu
  obtain ⟨j, hj, rfl⟩ := List.mem_iff_getElem.1 hu
  have := rw_row h (j := j) (by omega) (List.getElem?_eq_getElem hj)
  obtain ⟨d, m, hd⟩ := this.form
  have hd' : vs[j] = .slice d (row M j).length m := hd
  rw [hd']
  rfl
/-- behind an append to a row the new slice is stored -/
theorem rw_grow {w : World} {B e1 e2 g n c : Nat} {vs : List Value} {M : List (List Int)} {v' : Value} {xs : List Int} {i : Nat} {R : List Row} (h : Own w B (intRowOf e2 v' xs :: (rowsOf e1 e2 (.slice (some ⟨g, 0, none⟩) n c) vs M ++ R).eraseIdx (i + 1))) (hv : vs.length = n) (ht : M.length = n) (hi : i < n) :
    w.cell? ⟨g, i, none⟩ = some (vs.getD i undef) ∧ w.frozen? ⟨g, i, none⟩ = false ∧ Own (w.setCell ⟨g, i, none⟩ v') B (rowsOf e1 e2 (.slice (some ⟨g, 0, none⟩) n c) (vs.set i v') (M.set i xs) ++ R) ∧ (∀ r ∈ R, w.ownsRow B r.e r.z r.v r.n r.cs) ∧ B ≤ g := by
  subst hv
  have hl : i < (List.zipWith (intRowOf e2) vs M).length := by rw [List.length_zipWith]; omega
  have e0 : (rowsOf e1 e2 (.slice (some ⟨g, 0, none⟩) vs.length c) vs M ++ R).eraseIdx (i + 1) = (⟨e1, 1, .slice (some ⟨g, 0, none⟩) vs.length c, vs.length, vs⟩ : Row) :: ((List.zipWith (intRowOf e2) vs M).eraseIdx i ++ R) := by
    unfold rowsOf valRowOf
    rw [List.cons_append, List.eraseIdx_cons_succ, List.eraseIdx_append_of_lt_length hl]
  rw [e0] at h
  have h1 : Own w B (⟨e1, 1, .slice (some ⟨g, 0, none⟩) vs.length c, vs.length, vs⟩ :: (intRowOf e2 v' xs :: ((List.zipWith (intRowOf e2) vs M).eraseIdx i ++ R))) := h.perm (List.Perm.swap _ _ _)
  refine ⟨h1.cellAt hi, h1.frozenAt i, ?_, fun r hr => h1.1 r (by simp [hr]), h1.lt.1⟩
  have h2 := h1.set i v'
  have e : rowsOf e1 e2 (.slice (some ⟨g, 0, none⟩) vs.length c) (vs.set i v') (M.set i xs) ++ R = (⟨e1, 1, .slice (some ⟨g, 0, none⟩) vs.length c, vs.length, vs.set i v'⟩ : Row) :: ((List.zipWith (intRowOf e2) vs M).set i (intRowOf e2 v' xs) ++ R) := by
    rw [zipWith_unset]
    unfold rowsOf valRowOf
    rw [List.length_set]
    rfl
  rw [e]
  refine h2.perm (List.Perm.cons _ ?_)
  have p := perm_set (List.zipWith (intRowOf e2) vs M) i (intRowOf e2 v' xs) hl
  exact p.append_right R
end Go.Proofs.Ytkniohcmhdgbeaa
