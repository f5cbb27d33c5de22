/- slices.Grow and slices.Concat of lists of edges, walked. -/
import Derived.Test.YtnlbjbnjjkilhaaTiD
import Derived.Lib.AppendZerosOnto
namespace Go.Proofs.Ytnlbjbnjjkilhaa
open Go.RowKit Go.Lib

set_option maxHeartbeats 800000 in
set_option maxRecDepth 100000 in
theorem growE_any {n : Nat} (hn : n ≤ 100000) (w : World) :
    Calls Try.prog 65 #[.slice none 0 0, .int .i64 n] w fun e w' => ∃ d m, e = .returned (.slice d 0 m) ∧ Own w' w.heap.size [⟨46, 2, .slice d 0 m, 0, ([] : List Int).map (Value.int .i64)⟩] ∧ Ext w w' := by
  by_cases h0 : n = 0
  · subst h0
    go_enter Try.func65, Try.ntmps65
    go_wp2
    go_ret
    exact ⟨none, 0, rfl, (Own.nil _ _).cons_nil _ _, Ext.refl _⟩
  · obtain ⟨i0, hi0, hz0, hs0, hb0⟩ := elemPair.info
    have hold : (Builtin.firstCells i0.size 0 (.slice none 0 0)).run Try.prog w.drew = .ok ([] : List Value).toArray w.drew := run_firstCells_none w.drew i0.size 0 0 0
    have hrz : ∀ ty, (Builtin.append_ #[35, 3] ty #[.slice none 0 0, .int .i64 n]).run Try.prog w =
        .ok (.slice (some ⟨w.heap.size, 0, none⟩) n (grownCap w n 0 46)) (w.drew.alloc (.cells (#[] ++ Builtin.zeroCells (Value.agg #[.int .i64 0, .int .i64 0]).cells n ++ Builtin.zeroCells (Value.agg #[.int .i64 0, .int .i64 0]).cells (grownCap w n 0 46 - n)) 46)) := fun ty => by
      have h := Lib.run_append_grow_zeros w 35 3 ty 46 i0 (.agg #[.int .i64 0, .int .i64 0]) .i64 .i64 (by kernel_rfl) (by kernel_rfl) hi0 hz0 none 0 0 [] hold n (by omega) (by omega) (by omega) (by omega) (by rw [hb0]; omega) (growslice_fits (by omega) (by rw [hb0]; omega))
      rw [Nat.zero_add] at h
      exact h
    have hGn : n ≤ grownCap w n 0 46 := grownCap_ge w _ _ _
    have hGm := grownCap_le_maxLen w n 0 46 (by unfold maxLen; omega)
    obtain ⟨G, hG⟩ : ∃ G, G = grownCap w n 0 46 := ⟨_, rfl⟩
    rw [← hG] at hrz hGn hGm
    have hG63 : G ≤ 9223372036854775807 := by unfold maxLen at hGm; omega
    obtain ⟨cs, hcs⟩ : ∃ cs, cs = (#[] ++ Builtin.zeroCells (Value.agg #[.int .i64 0, .int .i64 0]).cells n ++ Builtin.zeroCells (Value.agg #[.int .i64 0, .int .i64 0]).cells (G - n) : Array Value) := ⟨_, rfl⟩
    rw [← hcs] at hrz
    have hsz : cs.size = G * 2 := by
      rw [hcs]
      simp [Builtin.zeroCells, Value.cells]
      omega
    have own : Own (w.drew.alloc (.cells cs 46)) w.heap.size [⟨46, 2, .slice (some ⟨w.heap.size, 0, none⟩) 0 G, 0, ([] : List Int).map (Value.int .i64)⟩] := by
      refine ⟨fun r hr => ?_, List.pairwise_singleton _ _⟩
      rw [List.mem_singleton.1 hr]
      refine ⟨rfl, .inr ⟨w.heap.size, G, cs, rfl, Nat.le_refl _, ?_, Nat.zero_le _, hGm, hsz, by simp⟩⟩
      have h : (w.drew.alloc (.cells cs 46)).heap = w.heap.push (.cells cs 46) := rfl
      rw [h]
      simp
    have eE : Ext w (w.drew.alloc (.cells cs 46)) := inferInstance
    have h1 : ¬ ((n : Int) < 0) := by omega
    have h4 : decide ((n : Int) > 0) = true := by simp; omega
    clear hold hG hcs hsz
    replace hGm := hid hGm
    go_enter Try.func65, Try.ntmps65
    go_wp2_with (at_builtin; refine Lib.wpList_append_run _ rfl _ _ _ _ rfl _ _ rfl rfl _ _ (hrz _) ?_)
    go_ret
    exact ⟨_, _, rfl, own, eE⟩
theorem cells_of_edges {w : World} {ad : Addr} {n c : Nat} {E : List (Nat × Nat)} (h : IsFlat w (.slice (some ad) n c) 2 (edR E)) :
    ∀ j u, ((edR E).flatten.map (Value.int .i64))[j]? = some u → w.cell? (ad.add j) = some u := by
  intro j u hj
  have hl : j < E.length * 2 := by
    by_cases hl : j < E.length * 2
    · exact hl
    · rw [List.getElem?_eq_none (by rw [List.length_map, flatz_len (edR_all E), edR_len]; omega)] at hj; cases hj
  have hq : j / 2 < (edR E).length := by rw [edR_len]; omega
  obtain ⟨b, o, h1, h2⟩ := h.at (w' := w) hq
  cases h1
  have e1 : (⟨b, o, none⟩ : Addr).add j = ⟨b, o + j, none⟩ := by
    unfold Addr.add; split <;> simp_all
  have e2 := h2 (j % 2) (by omega)
  have e3 := flat_get (edR_all E) hq (show j % 2 < 2 by omega)
  rw [show j / 2 * 2 + j % 2 = j by omega] at e3
  rw [List.getElem?_map, e3] at hj
  rw [e1, show o + j = o + j / 2 * 2 + j % 2 by omega, e2, ← hj]
  rfl
section
variable {P : Program} {w : World} {ops : Array Oper} {rest : List Oper} {o : Oper} {a : Act} {Q : Exit → Act → World → Prop}
/-- 'append(s, es...)': the edges of another slice. -/
theorem wpList_appendEdges (hgd : o.guard = none) (s x : Operand) (t : TypeId)
    (ho : o.op = .call { callee := .builtin .append, args := #[s, x], argTypes := #[t, t] })
    {e : Nat} {zv : Value} (E : Elem P t e zv 2 16) {B : Nat} {R : List Row} {v u : Value} {n : Nat} {cs : List Value} (hs : a.eval s = v)
    (own : Own w B (⟨e, 2, v, n, cs⟩ :: R)) (hB : B ≤ w.heap.size) {T : List (Nat × Nat)} (hx : a.eval x = u) (hy : IsFlat w u 2 (edR T))
    (h63 : n + T.length ≤ 1000000)
    (h : ∀ v' w', Own w' B (⟨e, 2, v', n + T.length, cs ++ (edR T).flatten.map (Value.int .i64)⟩ :: R) → Below B w w' → wpList P ops Q rest (a.put o.dst v') w') : wpList P ops Q (o :: rest) a w := by
  obtain ⟨d, c, rfl, hl⟩ := hy.form
  rw [edR_len] at hx hl hy
  cases d with
  | some ad =>
    exact wpList_append_Own hgd ho E hs own hB hx (by rw [List.length_map, flatz_len (edR_all T), edR_len]) (cells_of_edges hy) (by intro y hy'; obtain ⟨_, _, rfl⟩ := List.mem_map.1 hy'; rfl) (by unfold maxLen; omega) (by omega) h
  | none =>
    have hy0 : T = [] := by
      cases T with
      | nil => rfl
      | cons y ys =>
        obtain ⟨b, o, h1, _⟩ := hy.at (w' := w) (j := 0) (by simp [edR])
        cases h1
    subst hy0
    refine wpList_plain hgd fun K hK => ?_
    have hr := run_append_none (P := P) (ty := o.type) E own.head c
    unfold Oper.wp execOp
    simp only [ho, resolve, invoke, builtin, Sem.run_bind, Sem.run_pure, Result.andThen_ok, List.map_toArray, List.map_cons, List.map_nil, hs, hx, List.length_nil]
    rw [hr]
    exact hK _ _ (h v w (by simpa [edR] using own) (Below.refl _ _))
end
def sm2 (A C : List (Nat × Nat)) : Nat → Nat
  | 0 => 0
  | 1 => A.length
  | _ => A.length + C.length
def sq2 (A C : List (Nat × Nat)) : Nat → List (Nat × Nat)
  | 0 => []
  | 1 => A
  | _ => A ++ C
set_option maxHeartbeats 800000 in
set_option maxRecDepth 100000 in
theorem concatE_any {bs : Nat} {A C : List (Nat × Nat)} {va vc : Value} {w : World} (h0 : w.cell? ⟨bs, 0, none⟩ = some va) (h1 : w.cell? ⟨bs, 1, none⟩ = some vc) (hA : IsFlat w va 2 (edR A)) (hC : IsFlat w vc 2 (edR C)) (hl : A.length + C.length ≤ 1000) :
    Calls Try.prog 41 #[.slice (some ⟨bs, 0, none⟩) 2 2] w fun e w' => ∃ d m, e = .returned (.slice d (A ++ C).length m) ∧ Own w' w.heap.size [flatRowOf 46 2 (.slice d (A ++ C).length m) (edR (A ++ C))] ∧ Ext w w' := by
  have hA' := hA
  have hC' := hC
  obtain ⟨da, ma, rfl, la⟩ := hA.form
  obtain ⟨dc, mc, rfl, lc⟩ := hC.form
  rw [edR_len] at h0 h1 hA' hC'
  have hAC : (A ++ C).length = A.length + C.length := List.length_append
  have hng1 : decide ((A.length : Int) < 0) = false := decide_eq_false (by omega)
  have hng2 : decide ((A.length : Int) + (C.length : Int) < 0) = false := decide_eq_false (by omega)
  replace hAC := hid hAC
  go_enter Try.func41, Try.ntmps41
  go_wp2_with fail
  go_loopw [3, 11] (fun s i wr => ∃ k : Nat, k ≤ 2 ∧ i = .int .i64 k ∧ s = .int .i64 (sm2 A C k) ∧ Ext w wr) (fun _ i _ => 2 - (intOf i).toNat)
  case atStart => exact ⟨0, by omega, rfl, rfl, Ext.refl _⟩
  case round =>
    obtain ⟨k, hk, rfl, rfl, he⟩ := hrel
    obtain ⟨wo, rfl⟩ : ∃ y : World, y = wr := ⟨_, rfl⟩
    have x0 := he.cell h0
    have x1 := he.cell h1
    by_cases hlt : k < 2
    · have hk01 : k = 0 ∨ k = 1 := by omega
      rcases hk01 with rfl | rfl
      · have hs0 : sm2 A C 0 = 0 := rfl
        go_wp2_with fail
        go_roundw
        case rel => exact ⟨0 + 1, by omega, by first | rfl | go_num, by first | rfl | go_num, he⟩
        case measure => simp [intOf]
      · have hs1 : sm2 A C 1 = A.length := rfl
        go_wp2_with fail
        go_roundw
        case rel => exact ⟨1 + 1, by omega, by first | rfl | go_num, by first | rfl | go_num, he⟩
        case measure => simp [intOf]
    · obtain rfl : k = 2 := by omega
      obtain ⟨N, hN⟩ : ∃ N, N = A.length + C.length := ⟨_, rfl⟩
      have hs2 : sm2 A C 2 = N := hN.symm
      rw [hs2]
      have hN2 : N ≤ 1000 := by omega
      replace hs2 := hid hs2
      replace hN := hid hN
      go_wp2_with fail
      with_reducible refine (growE_any (n := N) (by omega) wo).mono ?_
      rintro e w1 ⟨d1, m1, rfl, own1, e1⟩
      obtain ⟨B, hB⟩ : ∃ b, b = w.heap.size := ⟨_, rfl⟩
      have own2 : Own w1 B [⟨46, 2, .slice d1 0 m1, 0, (edR (sq2 A C 0)).flatten.map (Value.int .i64)⟩] := own1.mono (by rw [hB]; exact he.size)
      have b1 : Below B w w1 := by rw [hB]; exact (Ext.trans he e1).below
      have hEx := hid (show ∀ u, Below B w u → Ext w u from fun u h => ⟨by rw [← hB]; exact h⟩)
      have hBs := hid (show ∀ u, Below B w u → B ≤ u.heap.size from fun u h => by rw [hB]; exact h.size)
      clear own1
      go_wp2_with fail
      go_loopw [6, 27] (fun u i wr => ∃ k : Nat, k ≤ 2 ∧ i = .int .i64 k ∧ (∃ n : Nat, Hid (n = sm2 A C k) ∧ Own wr B [⟨46, 2, u, n, (edR (sq2 A C k)).flatten.map (Value.int .i64)⟩]) ∧ Below B w wr) (fun _ i _ => 2 - (intOf i).toNat)
      case atStart => exact ⟨0, by omega, rfl, ⟨0, hid rfl, own2⟩, b1⟩
      case round =>
        clear own2 b1 x0 x1 he
        obtain ⟨j, hj, rfl, ⟨n, hn, own⟩, hb⟩ := hrel
        obtain ⟨wq, rfl⟩ : ∃ y : World, y = wr := ⟨_, rfl⟩
        have eq : Ext w wq := hEx.out _ hb
        have x0 := eq.cell h0
        have x1 := eq.cell h1
        have hBq := hBs.out _ hb
        obtain ⟨dO, mO, hvO⟩ := own.form
        simp only at hvO
        subst hvO
        by_cases hlt : j < 2
        · have hj01 : j = 0 ∨ j = 1 := by omega
          rcases hj01 with rfl | rfl
          · have hn0 : n = 0 := hn.out
            subst hn0
            have hFA := hA'.ext (w' := wq) (e := eq)
            go_wp2_with (at_builtin; refine wpList_appendEdges rfl _ _ _ rfl elemPair rfl own hBq rfl hFA (by omega) ?_; intro v1 w5 ho hb1)
            go_roundw
            case rel => exact ⟨0 + 1, by omega, by first | rfl | go_num, ⟨_, hid (show 0 + A.length = sm2 A C 1 by simp [sm2]), (by simpa [edR, sq2] using ho)⟩, hb.trans hb1⟩
            case measure => simp [intOf]
          · have hn1 : n = A.length := hn.out
            have hFC := hC'.ext (w' := wq) (e := eq)
            replace hn1 := hid hn1
            have hnl : n ≤ 1000 := by have := hn1.out; omega
            go_wp2_with (at_builtin; refine wpList_appendEdges rfl _ _ _ rfl elemPair rfl own hBq rfl hFC (by omega) ?_; intro v1 w5 ho hb1)
            go_roundw
            case rel => exact ⟨1 + 1, by omega, by first | rfl | go_num, ⟨_, hid (show n + C.length = sm2 A C 2 by rw [hn1.out]; rfl), (by have h := ho; rw [← List.map_append] at h; simpa [edR, sq2] using h)⟩, hb.trans hb1⟩
            case measure => simp [intOf]
        · obtain rfl : j = 2 := by omega
          have hnn := hid (show n = (A ++ C).length by rw [hn.out, hAC.out]; rfl)
          have hsq : sq2 A C 2 = A ++ C := rfl
          rw [hsq] at own
          replace hsq := hid hsq
          go_wp2_with fail
          go_ret
          refine ⟨dO, mO, by rw [← hnn.out]; rfl, ?_, hEx.out _ hb⟩
          rw [← hB]
          unfold flatRowOf
          rw [edR_len, ← hnn.out]
          exact own
end Go.Proofs.Ytnlbjbnjjkilhaa
