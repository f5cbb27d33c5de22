/- The problem that a draw makes: what it returns reads as rows of numbers. -/
import Derived.Test.YtkniohcmhdgbeaaLine
import Derived.Test.YtkniohcmhdgbeaaSl
import Derived.Test.YtkniohcmhdgbeaaAppN
import Derived.Test.YtkniohcmhdgbeaaEnd
import Derived.Deep.DeepCutAuto
namespace Go.Proofs.Ytkniohcmhdgbeaa
open Go.RowKit

theorem CurAt.join {w w' : World} {B c : Nat} {vc : Value} {a : Int} {R S : List Row} (h : CurAt w B c vc a R) (hn : Own w' w.heap.size S) [e : Ext w w'] (hB : B ≤ w.heap.size) : CurAt w' B c vc a (S ++ R) := by
  obtain ⟨s, h⟩ := h
  exact ⟨s, (h.join hn hB).perm List.perm_middle.symm⟩
theorem CurAt.box {w : World} {B c : Nat} {vc : Value} {a : Int} {R : List Row} (h : CurAt w B c vc a R) (e z : Nat) (cs : Array Value) (hB : B ≤ w.heap.size) (hs : cs.size = 1 * z) :
    CurAt (w.alloc (.cells cs e)) B c vc a (boxRow e z w.heap.size cs.toList :: R) := by
  obtain ⟨s, h⟩ := h
  exact ⟨s, (h.lit e z 1 cs hB (by unfold maxLen; omega) hs).perm (List.Perm.swap _ _ _)⟩
theorem CurAt.cur {w : World} {B c : Nat} {vc : Value} {a : Int} {R : List Row} (h : CurAt w B c vc a R) : ∃ s, Own w B (curRow c vc a s :: R) := h
/-- a bound on the size: blocks below B are there -/
theorem CurAt.size {w : World} {B c : Nat} {vc : Value} {a : Int} {R : List Row} (h : CurAt w B c vc a R) : B ≤ w.heap.size := by
  obtain ⟨s, h⟩ := h
  have := ow_lt h
  omega
/-- a box's cell -/
theorem CurAt.at {w : World} {B c : Nat} {vc : Value} {a : Int} {e z b : Nat} {cs : List Value} {R : List Row} (h : CurAt w B c vc a R) (hm : boxRow e z b cs ∈ R) {j : Nat} (hj : j < z) : w.cell? ⟨b, j, none⟩ = some (cs.getD j undef) ∧ w.frozen? ⟨b, j, none⟩ = false := by
  have h1 := h.rows
  exact ⟨ow_cell h1 hm (by omega), ow_frozen h1 hm j⟩

theorem CurAt.set {w : World} {B c : Nat} {vc : Value} {a : Int} {e z b : Nat} {cs : List Value} {A L : List Row} (h : CurAt w B c vc a (A ++ (boxRow e z b cs :: L))) (j : Nat) (u : Value) :
    CurAt (w.setCell ⟨b, j, none⟩ u) B c vc a (A ++ (boxRow e z b (cs.set j u) :: L)) ∧ B ≤ b := by
  obtain ⟨s, h⟩ := h
  refine ⟨⟨s, ow_set (A := curRow c vc a s :: A) h j u⟩, ?_⟩
  exact ((h.1 (boxRow e z b cs) (by simp)).lt b rfl).1
theorem rowsn_snoc {S : List (List Int)} {n : Nat} (h : ∀ x ∈ S, x.length = n) {X : List Int} (hX : X.length = n) : ∀ x ∈ S ++ [X], x.length = n := by
  intro x hx
  rcases List.mem_append.1 hx with h1 | h1
  · exact h x h1
  · rw [List.mem_singleton] at h1; rw [h1]; exact hX
theorem IsInts.take {w : World} {a : Option Addr} {n c : Nat} {xs : List Int} (h : IsInts w (.slice a n c) xs) {k : Nat} (hk : k ≤ xs.length) : IsInts w (.slice a k c) (xs.take k) := by
  obtain ⟨a', c', h1, h2, h3, h4⟩ := h
  cases h1
  have hl : (xs.take k).length = k := by rw [List.length_take]; omega
  refine ⟨a, c, by rw [hl], ⟨by rw [hl]; have := h2.1; unfold Short at *; omega, by rw [hl]; have := h2.2; omega⟩, fun x hx => h3 x (List.mem_of_mem_take hx), fun j hj => ?_⟩
  rw [hl] at hj
  obtain ⟨b, o, h5, h6⟩ := h4 j (by omega)
  refine ⟨b, o, h5, ?_⟩
  rw [h6]
  simp [nth, hj]
theorem CurAt.fin {w : World} {B c : Nat} {vc : Value} {a : Int} {bx : Row} {e z r : Nat} {u0 u1 v0 v1 : Value} {Z R : List Row} (h : CurAt w B c vc a (bx :: (Z ++ (boxRow e z r [u0, u1] :: R)))) :
    CurAt ((w.setCell ⟨r, 0, none⟩ v0).setCell ⟨r, 1, none⟩ v1) B c vc a (Z ++ R) ∧ Below B w ((w.setCell ⟨r, 0, none⟩ v0).setCell ⟨r, 1, none⟩ v1) := by
  have h1 := CurAt.set (A := bx :: Z) h 0 v0
  have h2 := CurAt.set (A := bx :: Z) h1.1 1 v1
  refine ⟨(h2.1.drop).sub (List.Sublist.append_left (List.sublist_cons_self _ _) _), ((Below.refl B w).setCell h1.2 _).setCell h1.2 _⟩
/-- what a draw of a problem gives -/
def ProbPost (w : World) (B c : Nat) (vc : Value) (a : Int) (R : List Row) (e : Ending) (w' : World) : Prop :=
  ∃ mv sv M S Z a', e = .returned (.agg #[mv, sv]) ∧ 1 ≤ M.length ∧ M.length ≤ 5 ∧ 1 ≤ S.length ∧ S.length ≤ 16 ∧ a ≤ a' ∧ a' ≤ a + 10000 ∧ CurAt w' B c vc a' (Z ++ R) ∧ (∀ u, Own u B Z → IsRows u mv M ∧ IsRows u sv S) ∧ Below B w w'
/-- rows of small numbers, not many in a row -/
def RowsOk (S : List (List Int)) : Prop := ∀ r ∈ S, r.length ≤ 100 ∧ ∀ x ∈ r, -100000 ≤ x ∧ x ≤ 100000
theorem RowsOk.short {S : List (List Int)} (h : RowsOk S) : (∀ r ∈ S, Short r.length) ∧ ∀ r ∈ S, ∀ x ∈ r, I64 x :=
  ⟨fun r hr => by have := (h r hr).1; unfold Short; omega, fun r hr x hx => by have := (h r hr).2 x hx; unfold I64; omega⟩
theorem ok_snoc {S : List (List Int)} (h : RowsOk S) {X : List Int} (hn : X.length ≤ 100) (hX : ∀ x ∈ X, -1 ≤ x ∧ x ≤ 5) : RowsOk (S ++ [X]) := by
  intro x hx
  rcases List.mem_append.1 hx with h1 | h1
  · exact h x h1
  · rw [List.mem_singleton] at h1
    subst h1
    exact ⟨hn, fun y hy => by have := hX y hy; omega⟩
theorem TabOk.rows {M : List (List Int)} {n : Nat} (h : TabOk M n) (hn : n ≤ 100) : RowsOk M := by
  intro r hr
  obtain ⟨k, hk, rfl⟩ := mem_iff_row.1 hr
  have hk' : k < n := by rw [← h.1]; exact hk
  refine ⟨by rw [(h.2 k hk').1]; exact hn, fun x hx => ?_⟩
  obtain ⟨q, hq, rfl⟩ := mem_iff_nth.1 hx
  rw [(h.2 k hk').1] at hq
  exact (h.2 k hk').2 q hq

theorem CurAt.put {w : World} {B c : Nat} {vc : Value} {a : Int} {A R : List Row} {e1 e2 g l m : Nat} {v : Value} {vs : List Value} {M : List (List Int)} (h : CurAt w B c vc a (A ++ (rowsOf e1 e2 v vs M ++ R))) (hv : vs.length = M.length) {j : Nat} (hj : j < M.length) (hu : vs[j]? = some (.slice (some ⟨g, 0, none⟩) l m)) (hl : (row M j).length = l) (q : Nat) (x : Int) :
    CurAt (w.setCell ⟨g, q, none⟩ (.int .i64 x)) B c vc a (A ++ (rowsOf e1 e2 v vs (M.set j ((row M j).set q x)) ++ R)) ∧ B ≤ g := by
  obtain ⟨s, h⟩ := h
  have h1 := ow_front (A := curRow c vc a s :: A) h
  have h2 := rw_put h1 hv hj hu hl q x
  refine ⟨⟨s, ow_front (A := rowsOf _ _ _ _ _) (T := curRow c vc a s :: A) h2⟩, ?_⟩
  exact ((rw_row h1 hj hu).head.lt g rfl).1
theorem CurAt.tab {w : World} {B c : Nat} {vc : Value} {a : Int} {A R : List Row} {e1 e2 : Nat} {v : Value} {vs : List Value} {M : List (List Int)} (h : CurAt w B c vc a (A ++ (rowsOf e1 e2 v vs M ++ R))) : ∃ R', Own w B (rowsOf e1 e2 v vs M ++ R') := by
  obtain ⟨s, h⟩ := h
  exact ⟨_, ow_front (A := curRow c vc a s :: A) h⟩
theorem rw_addr {w : World} {B e1 e2 n m : Nat} {d : Option Addr} {vs : List Value} {M : List (List Int)} {R : List Row} (h : Own w B (rowsOf e1 e2 (.slice d n m) vs M ++ R)) (hn : vs.length = n) (h0 : 0 < n) : ∃ g, d = some ⟨g, 0, none⟩ := by
  subst hn
  have h1 : Own w B (⟨e1, 1, .slice d vs.length m, vs.length, vs⟩ :: (List.zipWith (intRowOf e2) vs M ++ R)) := h
  exact h1.at (j := 0) h0
theorem row_set_len {S : List (List Int)} {n k q : Nat} {x : Int} (h : ∀ r ∈ S, r.length = n) (hk : k < S.length) : ∀ r ∈ S.set k ((row S k).set q x), r.length = n := by
  intro r hr
  rcases List.mem_or_eq_of_mem_set hr with h1 | h1
  · exact h r h1
  · rw [h1, List.length_set]; exact h _ (row_mem hk)
theorem row_set_ok {S : List (List Int)} {k q : Nat} {x : Int} (h : RowsOk S) (hk : k < S.length) (hx : -100000 ≤ x ∧ x ≤ 100000) : RowsOk (S.set k ((row S k).set q x)) := by
  intro r hr
  rcases List.mem_or_eq_of_mem_set hr with h1 | h1
  · exact h r h1
  · have h2 := h _ (row_mem hk)
    rw [h1]
    refine ⟨by rw [List.length_set]; exact h2.1, fun y hy => ?_⟩
    rcases List.mem_or_eq_of_mem_set hy with h3 | h3
    · exact h2.2 y h3
    · rw [h3]; exact hx
theorem fieldDist (v : Value) (w : World) : (Instr.field 45 (.agg #[v]) 0).run Try.prog w = .ok v w := by kernel_rfl
theorem zr_norm {B n : Nat} {sd dq : Option Addr} {sm mq : Nat} {ws vq : List Value} {S M : List (List Int)} (hws : ws.length = S.length) (hS : S.length ≤ 100) (hSok : RowsOk S) (hvq : vq.length = n) (hM : TabOk M n) (hn : n ≤ 100) :
    ∀ u, Own u B (rowsOf 29 3 (.slice sd S.length sm) ws S ++ rowsOf 29 3 (.slice dq n mq) vq M) → IsRows u (.slice dq n mq) M ∧ IsRows u (.slice sd S.length sm) S := by
  intro u h
  have hMr := (hM.rows hn).short
  refine ⟨?_, Own.readsAll h hws (by unfold ShortRows; omega) hSok.short.1 hSok.short.2⟩
  have h2 : Own u B (rowsOf 29 3 (.slice dq n mq) vq M ++ []) := by rw [List.append_nil]; exact h.right
  exact Own.readsAll h2 (by rw [hvq, hM.1]) (by unfold ShortRows; rw [hM.1]; omega) hMr.1 hMr.2

set_option maxHeartbeats 6400000 in
set_option maxRecDepth 100000 in
theorem problem_any {w0 w : World} [Ext w0 w] {vc : Value} {nb : Nat} (hc : IsBytes w0 vc nb) {B c : Nat} {a : Int} {R : List Row} (own : CurAt w B c vc a R) (hwB : w0.heap.size ≤ B) (ha : 0 ≤ a) (ha2 : a ≤ 1000000) :
    Calls Try.prog 31 #[.pointer (some ⟨c, 0, none⟩)] w (ProbPost w B c vc a R) := by
  have hBw := own.size
  go_enter Try.func31, Try.ntmps31
  go_upto_region 1 with fail
  have own1 := own.box 26 2 #[.slice none 0 0, .slice none 0 0] hBw rfl
  have b1 : Below B w (w.alloc (.cells #[.slice none 0 0, .slice none 0 0] 26)) := (Below.refl B w).alloc hBw _
  obtain ⟨r, hr⟩ : ∃ r, r = w.heap.size := ⟨_, rfl⟩
  rw [← hr] at own1 ⊢
  replace hr := hid hr
  generalize w.alloc (.cells #[.slice none 0 0, .slice none 0 0] 26) = w1 at *
  have hE : ∀ u, Below B w u → Ext w0 u := fun u h => ⟨(‹Ext w0 w›).below.trans (h.mono hwB)⟩
  replace hE := hid hE
  have e1 : Ext w0 w1 := hE.out _ b1
  go_wp2_with fail
  refine (among_any (w0 := w0) hc (own1.lit [1, 2, 2, 3, 3, 4] own1.size rfl rfl (by decide)) hwB ha (by omega) (by decide) (by decide)).mono ?_
  rintro e w2 ⟨n, a2, rfl, hn, ha3, ha4, own2, b2⟩
  have own2' := own2.drop
  have b2' : Below B w w2 := b1.trans (((Below.refl B w1).alloc own1.size _).trans b2)
  have hn14 : 1 ≤ n ∧ n ≤ 4 := by simp at hn; omega
  obtain ⟨n, rfl⟩ := Int.eq_ofNat_of_zero_le (show 0 ≤ n by omega)
  clear own2 own1 b1 b2 e1 hn
  have e2 : Ext w0 w2 := hE.out _ b2'
  go_wp2_with fail
  refine (pick_any (w0 := w0) hc own2' hwB (by omega) (by omega)).mono ?_
  rintro e w3 ⟨x3, a3, rfl, h30, h31, h32, h33, h34, own3, b3⟩
  have b3' := b2'.trans b3
  have hx3 := h32 (by omega)
  clear own2' b2' e2 b3 h31 h32
  go_wp2_with fail
  refine (l6Uniform_any (n := n) (by omega) w3).mono ?_
  rintro e w4 ⟨d0, m0, vm, rfl, hvm, hown, he4⟩
  have own4 := own3.join hown own3.size
  have b4' : Below B w w4 := b3'.trans (he4.below.mono own3.size)
  have hM4 : TabOk (uniTab (fun x y => if x = y then 0 else (1 + x3)) n n) n := TabOk.uni (by omega)
  generalize uniTab (fun x y => if x = y then 0 else (1 + x3)) n n = M at *
  clear own3 hown he4 b3'
  have own5 := own4.box 45 1 #[.slice d0 n m0] own4.size rfl
  have b5' : Below B w (w4.alloc (.cells #[.slice d0 n m0] 45)) := b4'.alloc own4.size _
  obtain ⟨mb, hmb⟩ : ∃ r, r = w4.heap.size := ⟨_, rfl⟩
  go_upto_region 3 with fail
  generalize w4.alloc (.cells #[.slice d0 n m0] 45) = w5 at *
  rw [← hmb] at own5 ⊢
  replace hmb := hid hmb
  clear own4 b4'
  have e5 : Ext w0 w5 := hE.out _ b5'
  go_wp2_with fail
  refine (one_any (w0 := w0) hc own5 hwB (by omega) (by omega)).mono ?_
  rintro e w6 ⟨bq, a6, rfl, h61, h62, own6, b6⟩
  have b6' := b5'.trans b6
  clear own5 b5' b6 e5
  replace hvm := hid hvm
  replace hM4 := hid hM4
  go_upto_if 20 with fail
  go_cut [20] (fun q wx => ∃ aq dq mq vq Mq, aq ≤ a + 100 ∧ a ≤ aq ∧ TabOk Mq n ∧ vq.length = n ∧ Below B w wx ∧ CurAt wx B c vc aq (boxRow 45 1 mb [.slice dq n mq] :: (rowsOf 29 3 (.slice dq n mq) vq Mq ++ (boxRow 26 2 r [.slice none 0 0, .slice none 0 0] :: R))))
  case first =>
    cases bq with
    | false =>
      go_wp2_with fail
      go_meet
      case rel => exact ⟨a6, d0, m0, vm, M, by omega, by omega, hM4.out, hvm.out, b6', own6⟩
    | true =>
      have e6 : Ext w0 w6 := hE.out _ b6'
      go_wp2_with fail
      refine (pick_any (w0 := w0) hc own6 hwB (by omega) (by omega)).mono ?_
      rintro e w7 ⟨x7, a7, rfl, h70, h71, h72, h73, h74, own7, b7⟩
      have b7' := b6'.trans b7
      have e7 : Ext w0 w7 := hE.out _ b7'
      have hx7 := h72 (by omega)
      clear own6 b6' b7 e6 h71 h72
      go_wp2_with fail
      refine (pick_any (w0 := w0) hc own7 hwB (by omega) (by omega)).mono ?_
      rintro e w8 ⟨x8, a8, rfl, h80, h81, h82, h83, h84, own8, b8⟩
      have b8' := b7'.trans b8
      have e8 : Ext w0 w8 := hE.out _ b8'
      have hx8 := h82 (by omega)
      clear own7 b7' b8 e7 h81 h82
      go_wp2_with fail
      refine (pick_any (w0 := w0) hc own8 hwB (by omega) (by omega)).mono ?_
      rintro e w9 ⟨x9, a9, rfl, h90, h91, h92, h93, h94, own9, b9⟩
      have b9' := b8'.trans b9
      have hx9 := h92 (by omega)
      clear own8 b8' b9 e8 h91 h92
      have own10 := own9.lit (e := 3) (n := 4) (cs := #[.int .i64 x7, .int .i64 (2 + x8), .int .i64 5, .int .i64 (6 + x9)]) [x7, 2 + x8, 5, 6 + x9] own9.size rfl rfl (by simp)
      have hPI : IsInts (w9.alloc (.cells #[.int .i64 x7, .int .i64 (2 + x8), .int .i64 5, .int .i64 (6 + x9)] 3)) (.slice (some ⟨w9.heap.size, 0, none⟩) 4 4) [x7, 2 + x8, 5, 6 + x9] := own10.rows.reads (by unfold Short; simp) (by
        intro x hx
        simp at hx
        unfold I64
        omega)
      have hPT := hPI.take (k := n) (by simp; omega)
      have hPl : ([x7, 2 + x8, 5, 6 + x9].take n).length = n := by rw [List.length_take]; simp; omega
      have hPb : ∀ j, j < ([x7, 2 + x8, 5, 6 + x9].take n).length → 0 ≤ nth ([x7, 2 + x8, 5, 6 + x9].take n) j ∧ nth ([x7, 2 + x8, 5, 6 + x9].take n) j ≤ 100000 := by
        intro j hj
        have := List.mem_of_mem_take (nth_mem hj)
        simp at this
        omega
      generalize [x7, 2 + x8, 5, 6 + x9].take n = P at *
      have own10' := own10.drop
      have b10 : Below B w (w9.alloc (.cells #[.int .i64 x7, .int .i64 (2 + x8), .int .i64 5, .int .i64 (6 + x9)] 3)) := b9'.alloc own9.size _
      have hs10 := own10'.size
      clear own10 hPI own9
      replace hPl := hid hPl
      replace hPb := hid hPb
      go_wp2_with fail
      refine (l6Line_any (w0 := w9.alloc (.cells #[.int .i64 x7, .int .i64 (2 + x8), .int .i64 5, .int .i64 (6 + x9)] 3)) hPT (by rw [hPl.out]; omega) hPb.out).mono ?_
      rintro e w11 ⟨d1, m1, vs1, M1, rfl, hvs1, hM1, hown1, he1⟩
      rw [hPl.out] at hvs1 hM1 hown1
      rw [hPl.out]
      have own11 := own10'.join hown1 hs10
      have b11 := b10.trans (he1.below.mono hs10)
      have own12 : CurAt w11 B c vc a9 (boxRow 45 1 mb [.slice d0 n m0] :: (rowsOf 29 3 (.slice d1 n m1) vs1 M1 ++ (boxRow 26 2 r [.slice none 0 0, .slice none 0 0] :: R))) :=
        (own11.sub (List.Sublist.append_left ((List.sublist_append_right _ _).cons_cons _) _)).perm List.perm_middle.symm
      have hcm := own12.at (.head _) (j := 0) (by omega)
      have hcm1 : w11.cell? ⟨mb, 0, none⟩ = some (.slice d0 n m0) := hcm.1
      have hcm2 := hcm.2
      have own13 := CurAt.set (A := []) own12 0 (.slice d1 n m1)
      clear own10' own11 own12 hown1 he1 b10 hcm hPT
      go_wp2_with fail
      go_meet
      case rel => exact ⟨a9, d1, m1, vs1, M1, by omega, by omega, hM1, hvs1, b11.setCell own13.2 _, own13.1⟩
  case rest =>
    obtain ⟨aq, dq, mq, vq, Mq, haq1, haq2, hMq, hvq, bq', ownq⟩ := hcut
    clear own6 b6' hM4 hvm
    have hcm := ownq.at (.head _) (j := 0) (by omega)
    have hcm1 : wc.cell? ⟨mb, 0, none⟩ = some (.slice dq n mq) := hcm.1
    have ownp := (ownq.drop).box 26 2 #[.slice dq n mq, .slice none 0 0] ownq.size rfl
    have bp' : Below B w (wc.alloc (.cells #[.slice dq n mq, .slice none 0 0] 26)) := bq'.alloc ownq.size _
    obtain ⟨pb, hpb⟩ : ∃ r, r = wc.heap.size := ⟨_, rfl⟩
    clear hcm
    replace hMq := hid hMq
    replace hvq := hid hvq
    go_upto_region 6 with fail
    generalize wc.alloc (.cells #[.slice dq n mq, .slice none 0 0] 26) = w5 at *
    rw [← hpb] at ownp ⊢
    replace hpb := hid hpb
    clear ownq bq' hcm1
    have e5 : Ext w0 w5 := hE.out _ bp'
    go_wp2_with fail
    refine (among_any (w0 := w0) hc (ownp.lit [1, 2, 2, 3, 4] ownp.size rfl rfl (by decide)) hwB (by omega) (by omega) (by decide) (by decide)).mono ?_
    rintro e w6 ⟨cnt, a6, rfl, hcnt, h61, h62, own6, b6⟩
    have own6' := own6.drop
    have b6' : Below B w w6 := bp'.trans (((Below.refl B w5).alloc ownp.size _).trans b6)
    have hc14 : 1 ≤ cnt ∧ cnt ≤ 4 := by simp at hcnt; omega
    obtain ⟨cnt, rfl⟩ := Int.eq_ofNat_of_zero_le (show 0 ≤ cnt by omega)
    have own7 : CurAt w6 B c vc a6 (boxRow 26 2 pb [.slice dq n mq, .slice none 0 0] :: (rowsOf 29 3 (.slice none 0 0) [] [] ++ (rowsOf 29 3 (.slice dq n mq) vq Mq ++ (boxRow 26 2 r [.slice none 0 0, .slice none 0 0] :: R)))) := by
      obtain ⟨s, h⟩ := own6'
      refine ⟨s, (h.cons_nil 29 1).perm ?_⟩
      show (_ :: _ :: (⟨29, 1, .slice none 0 0, 0, []⟩ : Row) :: _).Perm (_ :: _ :: _ :: _)
      exact ((List.Perm.swap _ _ _).cons _).trans (List.Perm.swap _ _ _)
    clear own6 ownp bp' b6 e5 own6' hcnt
    replace hc14 := hid hc14
    go_wp2
    go_loopw [6] (fun q wr => ∃ t : Nat, t ≤ cnt ∧ q = .int .i64 t ∧ ∃ ax sd sm ws S, aq ≤ ax ∧ ax ≤ aq + 100 + 100 * S.length ∧ S.length + t = cnt ∧ ws.length = S.length ∧ (∀ x ∈ S, x.length = n) ∧ RowsOk S ∧ Below B w wr ∧
      CurAt wr B c vc ax (boxRow 26 2 pb [.slice dq n mq, .slice sd S.length sm] :: (rowsOf 29 3 (.slice sd S.length sm) ws S ++ (rowsOf 29 3 (.slice dq n mq) vq Mq ++ (boxRow 26 2 r [.slice none 0 0, .slice none 0 0] :: R))))) (fun q _ => (intOf q).toNat)
    case atStart => exact ⟨cnt, by omega, rfl, a6, none, 0, [], [], by omega, by simp; omega, by simp, rfl, by simp, by intro r hr; simp at hr, b6', own7⟩
    case round =>
      obtain ⟨t, ht, rfl, ax, sd, sm, ws, S, has1, has2, hSt, hws, hSn, hSok, bs, owns⟩ := hrel
      obtain ⟨ws', rfl⟩ : ∃ x : World, x = wr := ⟨_, rfl⟩
      by_cases ht0 : 0 < t
      · obtain ⟨t', ht'⟩ : ∃ y, t = y + 1 := ⟨t - 1, by omega⟩
        have hgt : (0 : Int) < (t : Int) := by omega
        have htid := hid ht'
        clear ht'
        have hSc : S.length ≤ 3 := by have := hc14.out; omega
        have ht4 : t ≤ 4 := by have := hc14.out; omega
        have own8 := owns.lit (e := 3) (n := 0) (cs := #[]) [] owns.size rfl rfl (by simp)
        have b8 : Below B w (ws'.alloc (.cells #[] 3)) := bs.alloc owns.size _
        go_upto_region 10 with fail
        generalize ws'.alloc (.cells #[] 3) = w8 at *
        clear owns bs
        go_wp2
        go_loopw [7, 8] (fun v q wr => ∃ s : Nat, s ≤ n ∧ q = .int .i64 s ∧ ∃ ay X, ax ≤ ay ∧ ay ≤ ax + 2 * s ∧ X.length = s ∧ (∀ x ∈ X, -1 ≤ x ∧ x ≤ 5) ∧ Below B w wr ∧
          CurAt wr B c vc ay (intRowOf 3 v X :: (boxRow 26 2 pb [.slice dq n mq, .slice sd S.length sm] :: (rowsOf 29 3 (.slice sd S.length sm) ws S ++ (rowsOf 29 3 (.slice dq n mq) vq Mq ++ (boxRow 26 2 r [.slice none 0 0, .slice none 0 0] :: R)))))) (fun _ q _ => n - (intOf q).toNat)
        case atStart => exact ⟨0, by omega, rfl, ax, [], by omega, by omega, rfl, by simp, b8, own8⟩
        case round =>
          obtain ⟨s, hs, rfl, ay, X, hay1, hay2, hXl, hXb, b9, own9⟩ := hrel
          obtain ⟨w9, rfl⟩ : ∃ x : World, x = wr := ⟨_, rfl⟩
          obtain ⟨vd, vm9, rfl⟩ := ow_ints own9.rows
          have hXs : X.length ≤ 4 := by omega
          replace hXl := hid hXl
          by_cases hlts : s < n
          · have e9 : Ext w0 w9 := hE.out _ b9
            go_wp2_with fail
            refine (among_any (w0 := w0) hc (own9.lit [0, 0, 1, 2, 3, -1, 5] own9.size rfl rfl (by decide)) hwB (by omega) (by omega) (by decide) (by decide)).mono ?_
            rintro e w10 ⟨x10, a10, rfl, hx10, h101, h102, own10, b10⟩
            have hx10' : -1 ≤ x10 ∧ x10 ≤ 5 := by simp at hx10; omega
            have b10' : Below B w w10 := b9.trans (((Below.refl B w9).alloc own9.size _).trans b10)
            obtain ⟨s10, h10⟩ := own10.drop
            have hB10 := own10.size
            have h10' := h10.perm (List.Perm.swap _ _ _)
            clear own10 own9 b9 b10 e9 h10 hx10
            go_wp2_with (at_builtin; refine wpList_append1 rfl _ _ _ rfl elemInt rfl h10' hB10 rfl rfl (by omega) (by omega) ?_; intro v1 w11 ho hb11)
            go_roundw
            case rel =>
              refine ⟨s + 1, by omega, by go_num, a10, X ++ [x10], by omega, by omega, by have := hXl.out; simp; omega, ?_, b10'.trans hb11, ⟨s10, (ow_snoc ho rfl).perm (List.Perm.swap _ _ _)⟩⟩
              intro x hx
              rcases List.mem_append.1 hx with h | h
              · exact hXb x h
              · rw [List.mem_singleton] at h; omega
            case measure => simp [intOf]; omega
          · have hsn : s = n := by omega
            rw [hsn] at hay2
            replace hXl := hid (hXl.out.trans hsn)
            replace hsn := hid hsn
            have hXI : IsInts w9 (.slice vd X.length vm9) X := own9.rows.reads (by unfold Short; omega) (fun x hx => by have := hXb x hx; unfold I64; omega)
            have e9 : Ext w0 w9 := hE.out _ b9
            have hX0 : 0 < X.length := by have := hXl.out; omega
            replace hws := hid hws
            go_wp2_with fail
            refine (l8Least_any (w0 := w9) hXI hX0).mono ?_
            rintro e w9' ⟨rfl, rfl⟩
            by_cases hneg : leastL X < 0
            · go_wp2_with fail
              refine (one_any (w0 := w0) hc own9 hwB (by omega) (by omega)).mono ?_
              rintro e w12 ⟨b12, a12, rfl, h121, h122, own12, b12x⟩
              have b12' := b9.trans b12x
              have e12 : Ext w0 w12 := hE.out _ b12'
              clear own9 b9 b12x hXI
              cases b12 with
              | true =>
                go_wp2_with fail
                refine (pick_any (w0 := w0) hc own12 hwB (by omega) (by omega)).mono ?_
                rintro e w13 ⟨x13, a13, rfl, h130, h131, h132, h133, h134, own13, b13⟩
                have b13' := b12'.trans b13
                obtain ⟨x13, rfl⟩ := Int.eq_ofNat_of_zero_le h130
                have hx13 : x13 < X.length := by have := h132 (by omega); have := hXl.out; omega
                obtain ⟨s13, ownS⟩ := own13
                obtain ⟨g13, rfl⟩ := ownS.tail.at (j := x13) hx13
                have tr3 : w13.cell? ⟨g13, x13, none⟩ = some (.int .i64 (nth X x13)) := by
                  rw [ownS.tail.cellAt (w' := w13) hx13]
                  simp [nth, hx13]
                have trf3 := ownS.tail.frozenAt x13
                have hos := (ownS.perm (List.Perm.swap _ _ _)).set x13 (.int .i64 0)
                have hgB := ownS.tail.lt.1
                rw [← List.map_set] at hos
                have eX : (⟨3, 1, .slice (some ⟨g13, 0, none⟩) X.length vm9, X.length, (X.set x13 0).map (Value.int .i64)⟩ : Row) = intRowOf 3 (.slice (some ⟨g13, 0, none⟩) X.length vm9) (X.set x13 0) := by unfold intRowOf; rw [List.length_set]
                rw [eX] at hos
                have own14 : CurAt (w13.setCell ⟨g13, x13, none⟩ (.int .i64 0)) B c vc a13 (intRowOf 3 (.slice (some ⟨g13, 0, none⟩) X.length vm9) (X.set x13 0) :: (boxRow 26 2 pb [.slice dq n mq, .slice sd S.length sm] :: (rowsOf 29 3 (.slice sd S.length sm) ws S ++ (rowsOf 29 3 (.slice dq n mq) vq Mq ++ (boxRow 26 2 r [.slice none 0 0, .slice none 0 0] :: R))))) := ⟨s13, hos.perm (List.Perm.swap _ _ _)⟩
                have b14 := b13'.setCell hgB (p := ⟨g13, x13, none⟩) (.int .i64 0)
                have hX2l := hid (show (X.set x13 0).length = n by rw [List.length_set]; exact hXl.out)
                have hX2s : (X.set x13 0).length ≤ 4 := by rw [List.length_set]; exact hXs
                have hX2b : ∀ x ∈ X.set x13 0, -1 ≤ x ∧ x ≤ 5 := by
                  intro x hx
                  rcases List.mem_or_eq_of_mem_set hx with h | h
                  · exact hXb x h
                  · omega
                obtain ⟨X2, hX2⟩ : ∃ y, y = X.set x13 0 := ⟨_, rfl⟩
                rw [← hX2] at own14 hX2l hX2b hX2s
                have hX2d := hid hX2
                clear hos ownS hX2 eX
                go_upto_region 16 with fail
                generalize w13.setCell ⟨g13, x13, none⟩ (.int .i64 0) = w14 at *
                clear tr3 trf3 b13' b13
                obtain ⟨sz, ownS⟩ := own14
                have hout := rw_out (A := [curRow c vc a13 sz, boxRow 26 2 pb [.slice dq n mq, .slice sd S.length sm]]) (ownS.perm (List.Perm.swap _ _ _))
                rw [hws.out] at hout
                have tb1 : w14.cell? ⟨pb, 1, none⟩ = some (.slice sd S.length sm) := ow_cell ownS (.tail _ (.tail _ (.head _))) (j := 1) (by omega)
                have hSl : S.length ≤ 4 := by have := hc14.out; omega
                have hbz := CurAt.size ⟨sz, ownS⟩
                clear ownS
                go_wp2_with (at_builtin; refine wpList_append1 rfl _ _ _ rfl elemInts rfl hout hbz rfl rfl (by omega) (by omega) ?_; intro v1 w15 ho hb15; obtain ⟨vd1, vm1, hv1⟩ := ho.form; (obtain rfl : v1 = .slice vd1 (S.length + 1) vm1 := hv1); (have tc : w15.cell? ⟨pb, 1, none⟩ = some (.slice sd S.length sm) := ow_cell ho (.tail _ (.tail _ (.tail _ (.head _)))) (j := 1) (by omega)); have tf := ow_frozen ho (.tail _ (.tail _ (.tail _ (.head _)))) 1)
                have hoS := ow_set (A := [_, _, _]) ho 1 (.slice vd1 (S.length + 1) vm1)
                have hbB := ((ho.1 _ (.tail _ (.tail _ (.tail _ (.head _))))).lt pb rfl).1
                rw [← hws.out] at hoS
                have hin := rw_in (A := [_, _]) hoS hws.out
                rw [hws.out] at hin
                have hlen : (S ++ [X2]).length = S.length + 1 := by simp
                have hrel2 := hid (show ∃ ax sd sm ws' S', aq ≤ ax ∧ ax ≤ aq + 100 + 100 * (S' : List (List Int)).length ∧ S'.length + t' = cnt ∧ (ws' : List Value).length = S'.length ∧ (∀ x ∈ S', x.length = n) ∧ RowsOk S' ∧ Below B w (w15.setCell ⟨pb, 1, none⟩ (.slice vd1 (S.length + 1) vm1)) ∧
                    CurAt (w15.setCell ⟨pb, 1, none⟩ (.slice vd1 (S.length + 1) vm1)) B c vc ax (boxRow 26 2 pb [.slice dq n mq, .slice sd S'.length sm] :: (rowsOf 29 3 (.slice sd S'.length sm) ws' S' ++ (rowsOf 29 3 (.slice dq n mq) vq Mq ++ (boxRow 26 2 r [.slice none 0 0, .slice none 0 0] :: R)))) from
                  ⟨a13, vd1, vm1, ws ++ [_], S ++ [X2], by omega, by rw [hlen]; omega, by rw [hlen]; have := htid.out; omega, by rw [List.length_append, hlen, hws.out]; rfl, rowsn_snoc hSn (hX2l).out, ok_snoc hSok (by omega) hX2b, (b14.trans hb15).setCell hbB _, ⟨sz, by rw [hlen]; exact hin⟩⟩)
                go_roundw
                case rel =>
                  exact ⟨t', by have := htid.out; omega, congrArg (Value.int .i64) (by have := htid.out; omega), hrel2.out⟩
                case measure => simp [intOf]; omega
              | false =>
                have hXI2 : IsInts w12 (.slice vd X.length vm9) X := own12.rows.reads (by unfold Short; omega) (fun x hx => by have := hXb x hx; unfold I64; omega)
                go_wp2_with fail
                refine (l8Request_any (w0 := w12) (n := (n : Int)) hXI2).mono ?_
                obtain ⟨qb, hqb⟩ : ∃ q, q = reqB (n : Int) X := ⟨_, rfl⟩
                rw [← hqb]
                clear hqb hXI2
                rintro e w12' ⟨rfl, rfl⟩
                cases qb with
                | true =>
                  obtain ⟨sz, ownS⟩ := own12
                  have hout := rw_out (A := [curRow c vc a12 sz, boxRow 26 2 pb [.slice dq n mq, .slice sd S.length sm]]) (ownS.perm (List.Perm.swap _ _ _))
                  rw [hws.out] at hout
                  have tb1 : w12.cell? ⟨pb, 1, none⟩ = some (.slice sd S.length sm) := ow_cell ownS (.tail _ (.tail _ (.head _))) (j := 1) (by omega)
                  have hSl : S.length ≤ 4 := by have := hc14.out; omega
                  have hbz := CurAt.size ⟨sz, ownS⟩
                  clear ownS
                  go_wp2_with (at_builtin; refine wpList_append1 rfl _ _ _ rfl elemInts rfl hout hbz rfl rfl (by omega) (by omega) ?_; intro v1 w15 ho hb15; obtain ⟨vd1, vm1, hv1⟩ := ho.form; (obtain rfl : v1 = .slice vd1 (S.length + 1) vm1 := hv1); (have tc : w15.cell? ⟨pb, 1, none⟩ = some (.slice sd S.length sm) := ow_cell ho (.tail _ (.tail _ (.tail _ (.head _)))) (j := 1) (by omega)); have tf := ow_frozen ho (.tail _ (.tail _ (.tail _ (.head _)))) 1)
                  have hoS := ow_set (A := [_, _, _]) ho 1 (.slice vd1 (S.length + 1) vm1)
                  have hbB := ((ho.1 _ (.tail _ (.tail _ (.tail _ (.head _))))).lt pb rfl).1
                  rw [← hws.out] at hoS
                  have hin := rw_in (A := [_, _]) hoS hws.out
                  rw [hws.out] at hin
                  have hlen : (S ++ [X]).length = S.length + 1 := by simp
                  have hrel2 := hid (show ∃ ax sd sm ws' S', aq ≤ ax ∧ ax ≤ aq + 100 + 100 * (S' : List (List Int)).length ∧ S'.length + t' = cnt ∧ (ws' : List Value).length = S'.length ∧ (∀ x ∈ S', x.length = n) ∧ RowsOk S' ∧ Below B w (w15.setCell ⟨pb, 1, none⟩ (.slice vd1 (S.length + 1) vm1)) ∧
                      CurAt (w15.setCell ⟨pb, 1, none⟩ (.slice vd1 (S.length + 1) vm1)) B c vc ax (boxRow 26 2 pb [.slice dq n mq, .slice sd S'.length sm] :: (rowsOf 29 3 (.slice sd S'.length sm) ws' S' ++ (rowsOf 29 3 (.slice dq n mq) vq Mq ++ (boxRow 26 2 r [.slice none 0 0, .slice none 0 0] :: R)))) from
                    ⟨a12, vd1, vm1, ws ++ [_], S ++ [X], by omega, by rw [hlen]; omega, by rw [hlen]; have := htid.out; omega, by rw [List.length_append, hlen, hws.out]; rfl, rowsn_snoc hSn (hXl).out, ok_snoc hSok (by omega) hXb, (b12'.trans hb15).setCell hbB _, ⟨sz, by rw [hlen]; exact hin⟩⟩)
                  go_roundw
                  case rel =>
                    exact ⟨t', by have := htid.out; omega, congrArg (Value.int .i64) (by have := htid.out; omega), hrel2.out⟩
                  case measure => simp [intOf]; omega
                | false =>
                  go_wp2_with fail
                  refine (pick_any (w0 := w0) hc own12 hwB (by omega) (by omega)).mono ?_
                  rintro e w13 ⟨x13, a13, rfl, h130, h131, h132, h133, h134, own13, b13⟩
                  have b13' := b12'.trans b13
                  obtain ⟨x13, rfl⟩ := Int.eq_ofNat_of_zero_le h130
                  have hx13 : x13 < X.length := by have := h132 (by omega); have := hXl.out; omega
                  obtain ⟨s13, ownS⟩ := own13
                  obtain ⟨g13, rfl⟩ := ownS.tail.at (j := x13) hx13
                  have tr3 : w13.cell? ⟨g13, x13, none⟩ = some (.int .i64 (nth X x13)) := by
                    rw [ownS.tail.cellAt (w' := w13) hx13]
                    simp [nth, hx13]
                  have trf3 := ownS.tail.frozenAt x13
                  have hos := (ownS.perm (List.Perm.swap _ _ _)).set x13 (.int .i64 0)
                  have hgB := ownS.tail.lt.1
                  rw [← List.map_set] at hos
                  have eX : (⟨3, 1, .slice (some ⟨g13, 0, none⟩) X.length vm9, X.length, (X.set x13 0).map (Value.int .i64)⟩ : Row) = intRowOf 3 (.slice (some ⟨g13, 0, none⟩) X.length vm9) (X.set x13 0) := by unfold intRowOf; rw [List.length_set]
                  rw [eX] at hos
                  have own14 : CurAt (w13.setCell ⟨g13, x13, none⟩ (.int .i64 0)) B c vc a13 (intRowOf 3 (.slice (some ⟨g13, 0, none⟩) X.length vm9) (X.set x13 0) :: (boxRow 26 2 pb [.slice dq n mq, .slice sd S.length sm] :: (rowsOf 29 3 (.slice sd S.length sm) ws S ++ (rowsOf 29 3 (.slice dq n mq) vq Mq ++ (boxRow 26 2 r [.slice none 0 0, .slice none 0 0] :: R))))) := ⟨s13, hos.perm (List.Perm.swap _ _ _)⟩
                  have b14 := b13'.setCell hgB (p := ⟨g13, x13, none⟩) (.int .i64 0)
                  have hX2l := hid (show (X.set x13 0).length = n by rw [List.length_set]; exact hXl.out)
                  have hX2s : (X.set x13 0).length ≤ 4 := by rw [List.length_set]; exact hXs
                  have hX2b : ∀ x ∈ X.set x13 0, -1 ≤ x ∧ x ≤ 5 := by
                    intro x hx
                    rcases List.mem_or_eq_of_mem_set hx with h | h
                    · exact hXb x h
                    · omega
                  obtain ⟨X2, hX2⟩ : ∃ y, y = X.set x13 0 := ⟨_, rfl⟩
                  rw [← hX2] at own14 hX2l hX2b hX2s
                  have hX2d := hid hX2
                  clear hos ownS hX2 eX
                  go_upto_region 16 with fail
                  generalize w13.setCell ⟨g13, x13, none⟩ (.int .i64 0) = w14 at *
                  clear tr3 trf3 b13' b13
                  obtain ⟨sz, ownS⟩ := own14
                  have hout := rw_out (A := [curRow c vc a13 sz, boxRow 26 2 pb [.slice dq n mq, .slice sd S.length sm]]) (ownS.perm (List.Perm.swap _ _ _))
                  rw [hws.out] at hout
                  have tb1 : w14.cell? ⟨pb, 1, none⟩ = some (.slice sd S.length sm) := ow_cell ownS (.tail _ (.tail _ (.head _))) (j := 1) (by omega)
                  have hSl : S.length ≤ 4 := by have := hc14.out; omega
                  have hbz := CurAt.size ⟨sz, ownS⟩
                  clear ownS
                  go_wp2_with (at_builtin; refine wpList_append1 rfl _ _ _ rfl elemInts rfl hout hbz rfl rfl (by omega) (by omega) ?_; intro v1 w15 ho hb15; obtain ⟨vd1, vm1, hv1⟩ := ho.form; (obtain rfl : v1 = .slice vd1 (S.length + 1) vm1 := hv1); (have tc : w15.cell? ⟨pb, 1, none⟩ = some (.slice sd S.length sm) := ow_cell ho (.tail _ (.tail _ (.tail _ (.head _)))) (j := 1) (by omega)); have tf := ow_frozen ho (.tail _ (.tail _ (.tail _ (.head _)))) 1)
                  have hoS := ow_set (A := [_, _, _]) ho 1 (.slice vd1 (S.length + 1) vm1)
                  have hbB := ((ho.1 _ (.tail _ (.tail _ (.tail _ (.head _))))).lt pb rfl).1
                  rw [← hws.out] at hoS
                  have hin := rw_in (A := [_, _]) hoS hws.out
                  rw [hws.out] at hin
                  have hlen : (S ++ [X2]).length = S.length + 1 := by simp
                  have hrel2 := hid (show ∃ ax sd sm ws' S', aq ≤ ax ∧ ax ≤ aq + 100 + 100 * (S' : List (List Int)).length ∧ S'.length + t' = cnt ∧ (ws' : List Value).length = S'.length ∧ (∀ x ∈ S', x.length = n) ∧ RowsOk S' ∧ Below B w (w15.setCell ⟨pb, 1, none⟩ (.slice vd1 (S.length + 1) vm1)) ∧
                      CurAt (w15.setCell ⟨pb, 1, none⟩ (.slice vd1 (S.length + 1) vm1)) B c vc ax (boxRow 26 2 pb [.slice dq n mq, .slice sd S'.length sm] :: (rowsOf 29 3 (.slice sd S'.length sm) ws' S' ++ (rowsOf 29 3 (.slice dq n mq) vq Mq ++ (boxRow 26 2 r [.slice none 0 0, .slice none 0 0] :: R)))) from
                    ⟨a13, vd1, vm1, ws ++ [_], S ++ [X2], by omega, by rw [hlen]; omega, by rw [hlen]; have := htid.out; omega, by rw [List.length_append, hlen, hws.out]; rfl, rowsn_snoc hSn (hX2l).out, ok_snoc hSok (by omega) hX2b, (b14.trans hb15).setCell hbB _, ⟨sz, by rw [hlen]; exact hin⟩⟩)
                  go_roundw
                  case rel =>
                    exact ⟨t', by have := htid.out; omega, congrArg (Value.int .i64) (by have := htid.out; omega), hrel2.out⟩
                  case measure => simp [intOf]; omega
            · go_wp2_with fail
              refine (l8Request_any (w0 := w9) (n := (n : Int)) hXI).mono ?_
              obtain ⟨qb, hqb⟩ : ∃ q, q = reqB (n : Int) X := ⟨_, rfl⟩
              rw [← hqb]
              clear hqb hXI
              rintro e w12' ⟨rfl, rfl⟩
              cases qb with
              | true =>
                obtain ⟨sz, ownS⟩ := own9
                have hout := rw_out (A := [curRow c vc ay sz, boxRow 26 2 pb [.slice dq n mq, .slice sd S.length sm]]) (ownS.perm (List.Perm.swap _ _ _))
                rw [hws.out] at hout
                have tb1 : w9.cell? ⟨pb, 1, none⟩ = some (.slice sd S.length sm) := ow_cell ownS (.tail _ (.tail _ (.head _))) (j := 1) (by omega)
                have hSl : S.length ≤ 4 := by have := hc14.out; omega
                have hbz := CurAt.size ⟨sz, ownS⟩
                clear ownS
                go_wp2_with (at_builtin; refine wpList_append1 rfl _ _ _ rfl elemInts rfl hout hbz rfl rfl (by omega) (by omega) ?_; intro v1 w15 ho hb15; obtain ⟨vd1, vm1, hv1⟩ := ho.form; (obtain rfl : v1 = .slice vd1 (S.length + 1) vm1 := hv1); (have tc : w15.cell? ⟨pb, 1, none⟩ = some (.slice sd S.length sm) := ow_cell ho (.tail _ (.tail _ (.tail _ (.head _)))) (j := 1) (by omega)); have tf := ow_frozen ho (.tail _ (.tail _ (.tail _ (.head _)))) 1)
                have hoS := ow_set (A := [_, _, _]) ho 1 (.slice vd1 (S.length + 1) vm1)
                have hbB := ((ho.1 _ (.tail _ (.tail _ (.tail _ (.head _))))).lt pb rfl).1
                rw [← hws.out] at hoS
                have hin := rw_in (A := [_, _]) hoS hws.out
                rw [hws.out] at hin
                have hlen : (S ++ [X]).length = S.length + 1 := by simp
                have hrel2 := hid (show ∃ ax sd sm ws' S', aq ≤ ax ∧ ax ≤ aq + 100 + 100 * (S' : List (List Int)).length ∧ S'.length + t' = cnt ∧ (ws' : List Value).length = S'.length ∧ (∀ x ∈ S', x.length = n) ∧ RowsOk S' ∧ Below B w (w15.setCell ⟨pb, 1, none⟩ (.slice vd1 (S.length + 1) vm1)) ∧
                    CurAt (w15.setCell ⟨pb, 1, none⟩ (.slice vd1 (S.length + 1) vm1)) B c vc ax (boxRow 26 2 pb [.slice dq n mq, .slice sd S'.length sm] :: (rowsOf 29 3 (.slice sd S'.length sm) ws' S' ++ (rowsOf 29 3 (.slice dq n mq) vq Mq ++ (boxRow 26 2 r [.slice none 0 0, .slice none 0 0] :: R)))) from
                  ⟨ay, vd1, vm1, ws ++ [_], S ++ [X], by omega, by rw [hlen]; omega, by rw [hlen]; have := htid.out; omega, by rw [List.length_append, hlen, hws.out]; rfl, rowsn_snoc hSn (hXl).out, ok_snoc hSok (by omega) hXb, (b9.trans hb15).setCell hbB _, ⟨sz, by rw [hlen]; exact hin⟩⟩)
                go_roundw
                case rel =>
                  exact ⟨t', by have := htid.out; omega, congrArg (Value.int .i64) (by have := htid.out; omega), hrel2.out⟩
                case measure => simp [intOf]; omega
              | false =>
                go_wp2_with fail
                refine (pick_any (w0 := w0) hc own9 hwB (by omega) (by omega)).mono ?_
                rintro e w13 ⟨x13, a13, rfl, h130, h131, h132, h133, h134, own13, b13⟩
                have b13' := b9.trans b13
                obtain ⟨x13, rfl⟩ := Int.eq_ofNat_of_zero_le h130
                have hx13 : x13 < X.length := by have := h132 (by omega); have := hXl.out; omega
                obtain ⟨s13, ownS⟩ := own13
                obtain ⟨g13, rfl⟩ := ownS.tail.at (j := x13) hx13
                have tr3 : w13.cell? ⟨g13, x13, none⟩ = some (.int .i64 (nth X x13)) := by
                  rw [ownS.tail.cellAt (w' := w13) hx13]
                  simp [nth, hx13]
                have trf3 := ownS.tail.frozenAt x13
                have hos := (ownS.perm (List.Perm.swap _ _ _)).set x13 (.int .i64 0)
                have hgB := ownS.tail.lt.1
                rw [← List.map_set] at hos
                have eX : (⟨3, 1, .slice (some ⟨g13, 0, none⟩) X.length vm9, X.length, (X.set x13 0).map (Value.int .i64)⟩ : Row) = intRowOf 3 (.slice (some ⟨g13, 0, none⟩) X.length vm9) (X.set x13 0) := by unfold intRowOf; rw [List.length_set]
                rw [eX] at hos
                have own14 : CurAt (w13.setCell ⟨g13, x13, none⟩ (.int .i64 0)) B c vc a13 (intRowOf 3 (.slice (some ⟨g13, 0, none⟩) X.length vm9) (X.set x13 0) :: (boxRow 26 2 pb [.slice dq n mq, .slice sd S.length sm] :: (rowsOf 29 3 (.slice sd S.length sm) ws S ++ (rowsOf 29 3 (.slice dq n mq) vq Mq ++ (boxRow 26 2 r [.slice none 0 0, .slice none 0 0] :: R))))) := ⟨s13, hos.perm (List.Perm.swap _ _ _)⟩
                have b14 := b13'.setCell hgB (p := ⟨g13, x13, none⟩) (.int .i64 0)
                have hX2l := hid (show (X.set x13 0).length = n by rw [List.length_set]; exact hXl.out)
                have hX2s : (X.set x13 0).length ≤ 4 := by rw [List.length_set]; exact hXs
                have hX2b : ∀ x ∈ X.set x13 0, -1 ≤ x ∧ x ≤ 5 := by
                  intro x hx
                  rcases List.mem_or_eq_of_mem_set hx with h | h
                  · exact hXb x h
                  · omega
                obtain ⟨X2, hX2⟩ : ∃ y, y = X.set x13 0 := ⟨_, rfl⟩
                rw [← hX2] at own14 hX2l hX2b hX2s
                have hX2d := hid hX2
                clear hos ownS hX2 eX
                go_upto_region 16 with fail
                generalize w13.setCell ⟨g13, x13, none⟩ (.int .i64 0) = w14 at *
                clear tr3 trf3 b13' b13
                obtain ⟨sz, ownS⟩ := own14
                have hout := rw_out (A := [curRow c vc a13 sz, boxRow 26 2 pb [.slice dq n mq, .slice sd S.length sm]]) (ownS.perm (List.Perm.swap _ _ _))
                rw [hws.out] at hout
                have tb1 : w14.cell? ⟨pb, 1, none⟩ = some (.slice sd S.length sm) := ow_cell ownS (.tail _ (.tail _ (.head _))) (j := 1) (by omega)
                have hSl : S.length ≤ 4 := by have := hc14.out; omega
                have hbz := CurAt.size ⟨sz, ownS⟩
                clear ownS
                go_wp2_with (at_builtin; refine wpList_append1 rfl _ _ _ rfl elemInts rfl hout hbz rfl rfl (by omega) (by omega) ?_; intro v1 w15 ho hb15; obtain ⟨vd1, vm1, hv1⟩ := ho.form; (obtain rfl : v1 = .slice vd1 (S.length + 1) vm1 := hv1); (have tc : w15.cell? ⟨pb, 1, none⟩ = some (.slice sd S.length sm) := ow_cell ho (.tail _ (.tail _ (.tail _ (.head _)))) (j := 1) (by omega)); have tf := ow_frozen ho (.tail _ (.tail _ (.tail _ (.head _)))) 1)
                have hoS := ow_set (A := [_, _, _]) ho 1 (.slice vd1 (S.length + 1) vm1)
                have hbB := ((ho.1 _ (.tail _ (.tail _ (.tail _ (.head _))))).lt pb rfl).1
                rw [← hws.out] at hoS
                have hin := rw_in (A := [_, _]) hoS hws.out
                rw [hws.out] at hin
                have hlen : (S ++ [X2]).length = S.length + 1 := by simp
                have hrel2 := hid (show ∃ ax sd sm ws' S', aq ≤ ax ∧ ax ≤ aq + 100 + 100 * (S' : List (List Int)).length ∧ S'.length + t' = cnt ∧ (ws' : List Value).length = S'.length ∧ (∀ x ∈ S', x.length = n) ∧ RowsOk S' ∧ Below B w (w15.setCell ⟨pb, 1, none⟩ (.slice vd1 (S.length + 1) vm1)) ∧
                    CurAt (w15.setCell ⟨pb, 1, none⟩ (.slice vd1 (S.length + 1) vm1)) B c vc ax (boxRow 26 2 pb [.slice dq n mq, .slice sd S'.length sm] :: (rowsOf 29 3 (.slice sd S'.length sm) ws' S' ++ (rowsOf 29 3 (.slice dq n mq) vq Mq ++ (boxRow 26 2 r [.slice none 0 0, .slice none 0 0] :: R)))) from
                  ⟨a13, vd1, vm1, ws ++ [_], S ++ [X2], by omega, by rw [hlen]; omega, by rw [hlen]; have := htid.out; omega, by rw [List.length_append, hlen, hws.out]; rfl, rowsn_snoc hSn (hX2l).out, ok_snoc hSok (by omega) hX2b, (b14.trans hb15).setCell hbB _, ⟨sz, by rw [hlen]; exact hin⟩⟩)
                go_roundw
                case rel =>
                  exact ⟨t', by have := htid.out; omega, congrArg (Value.int .i64) (by have := htid.out; omega), hrel2.out⟩
                case measure => simp [intOf]; omega
      · have ht0' : t = 0 := by omega
        have hS1 : 1 ≤ S.length ∧ S.length ≤ 4 := by have := hc14.out; omega
        replace ht0' := hid ht0'
        have c1 := (owns.at (.head _) (j := 1) (by omega)).1
        have c1' : ws'.cell? ⟨pb, 1, none⟩ = some (.slice sd S.length sm) := c1
        clear c1
        have es : Ext w0 ws' := hE.out _ bs
        go_wp2_with fail
        refine (pick_any (w0 := w0) hc owns hwB (by omega) (by omega)).mono ?_
        rintro e w7 ⟨k, a7, rfl, h70, h71, h72, h73, h74, own7', b7⟩
        have b7' := bs.trans b7
        have hk := h72 (by omega)
        obtain ⟨k, rfl⟩ := Int.eq_ofNat_of_zero_le h70
        have hkS : k < S.length := by omega
        clear owns bs b7 c1' es h71 h72 hk h70 own7
        have e7 : Ext w0 w7 := hE.out _ b7'
        go_wp2_with fail
        refine (pick_any (w0 := w0) hc own7' hwB (by omega) (by omega)).mono ?_
        rintro e w8 ⟨x, a8, rfl, h80, h81, h82, h83, h84, own8, b8⟩
        have b8' := b7'.trans b8
        clear own7' b7' b8 e7 h81 h82
        have hsd : ∃ gs, sd = some ⟨gs, 0, none⟩ := by
          obtain ⟨R', hT⟩ := CurAt.tab (A := [_]) own8
          exact rw_addr hT hws (by omega)
        obtain ⟨gs, rfl⟩ := hsd
        have hkn : (row S k).length = n := hSn _ (row_mem hkS)
        obtain ⟨gk, mk, hu⟩ : ∃ gk mk, ws[k]? = some (.slice (some ⟨gk, 0, none⟩) n mk) := by
          obtain ⟨R', hT⟩ := CurAt.tab (A := [_]) own8
          obtain ⟨gk, mk, hu, _⟩ := rw_form hT hws hkS (by rw [hkn]; omega)
          rw [hkn] at hu
          exact ⟨gk, mk, hu⟩
        have hfacts := hid (show ∀ u av S', S'.length = S.length → CurAt u B c vc av (boxRow 26 2 pb [.slice dq n mq, .slice (some ⟨gs, 0, none⟩) S.length sm] :: (rowsOf 29 3 (.slice (some ⟨gs, 0, none⟩) S.length sm) ws S' ++ (rowsOf 29 3 (.slice dq n mq) vq Mq ++ (boxRow 26 2 r [.slice none 0 0, .slice none 0 0] :: R)))) →
          u.cell? ⟨pb, 1, none⟩ = some (.slice (some ⟨gs, 0, none⟩) S.length sm) ∧ u.cell? ⟨gs, k, none⟩ = some (.slice (some ⟨gk, 0, none⟩) n mk) from fun u av S' hS' h => by
          have h1 : u.cell? ⟨pb, 1, none⟩ = some (.slice (some ⟨gs, 0, none⟩) S.length sm) := (h.at (.head _) (j := 1) (by omega)).1
          obtain ⟨R', hT⟩ := CurAt.tab (A := [_]) h
          exact ⟨h1, (rw_cell hT hws hu).1⟩)
        replace hu := hid hu
        replace hkn := hid hkn
        have h8x := hfacts.out _ _ S rfl own8
        by_cases hx0 : x = 0
        · go_upto_region 20 with fail
          have ed : Ext w8 w8.drew := inferInstance
          have own9 := own8.ext (w' := w8.drew)
          have b9 : Below B w w8.drew := b8'.drew
          have hf9 := hfacts.out _ _ S rfl own9
          clear own8 b8' h8x ed
          refine wp_region_held_drew (S := fun w' => w'.cell? ⟨pb, 1, none⟩ = some (.slice (some ⟨gs, 0, none⟩) S.length sm) ∧ w'.cell? ⟨gs, k, none⟩ = some (.slice (some ⟨gk, 0, none⟩) n mk)) (by kernel_rfl) hf9 (fun hHeld0 => ?_)
          generalize w8.drew = w9 at *
          clear hf9
          refine wpAnyH_take (i := 0) (v := .pointer (some ⟨pb, 1, none⟩)) rfl (by kernel_rfl) (by kernel_rfl) (by kernel_rfl) (fun _ _ _ h => h) (Or.inl ⟨by rfl, by intro wx hx; go_simp⟩) (by assumption) ?_
          try simp only [List.getElem_toArray, List.getElem_cons_zero, Act.put, List.setIfInBounds_toArray, List.set_cons_zero, List.set_cons_succ]
          refine wpAnyH_take (i := 1) (v := .slice (some ⟨gs, 0, none⟩) S.length sm) rfl (by kernel_rfl) (by kernel_rfl) (by kernel_rfl) (fun _ _ _ h => h) (Or.inl ⟨by rfl, by intro wx hx; obtain ⟨_, _⟩ := hx; go_simp⟩) (by assumption) ?_
          try simp only [List.getElem_toArray, List.getElem_cons_succ, List.getElem_cons_zero, Act.put, List.setIfInBounds_toArray, List.set_cons_zero, List.set_cons_succ]
          refine wpAnyH_take (i := 2) (v := .int .i64 k) rfl (by kernel_rfl) (by kernel_rfl) (by kernel_rfl) (fun _ _ _ h => h) (Or.inl ⟨by rfl, by intro wx hx; go_simp⟩) (by assumption) ?_
          try simp only [List.getElem_toArray, List.getElem_cons_succ, List.getElem_cons_zero, Act.put, List.setIfInBounds_toArray, List.set_cons_zero, List.set_cons_succ]
          refine wpAnyH_take (i := 3) (v := .pointer (some ⟨gs, k, none⟩)) rfl (by kernel_rfl) (by kernel_rfl) (by kernel_rfl) (fun _ _ _ h => h) (Or.inl ⟨by rfl, by intro wx hx; go_simp⟩) (by assumption) ?_
          try simp only [List.getElem_toArray, List.getElem_cons_succ, List.getElem_cons_zero, Act.put, List.setIfInBounds_toArray, List.set_cons_zero, List.set_cons_succ]
          refine wpAnyH_take (i := 4) (v := .slice (some ⟨gk, 0, none⟩) n mk) rfl (by kernel_rfl) (by kernel_rfl) (by kernel_rfl) (fun _ _ _ h => h) (Or.inl ⟨by rfl, by intro wx hx; obtain ⟨_, _⟩ := hx; go_simp⟩) (by assumption) ?_
          try simp only [List.getElem_toArray, List.getElem_cons_succ, List.getElem_cons_zero, Act.put, List.setIfInBounds_toArray, List.set_cons_zero, List.set_cons_succ]
          refine wpAnyH_take (i := 5) (v := .pointer (some ⟨c, 0, none⟩)) rfl (by kernel_rfl) (by kernel_rfl) (by kernel_rfl) (fun _ _ _ h => h) (Or.inl ⟨by rfl, by intro wx hx; go_simp⟩) (by assumption) ?_
          try simp only [List.getElem_toArray, List.getElem_cons_succ, List.getElem_cons_zero, Act.put, List.setIfInBounds_toArray, List.set_cons_zero, List.set_cons_succ]
          have own10 := own9.lit (e := 3) (n := 3) (cs := #[.int .i64 (-2), .int .i64 20, .int .i64 21]) [-2, 20, 21] own9.size rfl rfl (by decide)
          have b10 : Below B w (w9.alloc (.cells #[.int .i64 (-2), .int .i64 20, .int .i64 21] 3)) := b9.alloc own9.size _
          have hf10 := hfacts.out _ _ S rfl own10.drop
          refine wpAnyH_ready (rs := [6]) (by kernel_rfl) (by simp) ?_
          refine AllReadyH.cons rfl (fun K hK => ?_) AllReadyH.nil
          go_simp
          refine hK.out _ _ hf10 (fun _ => ?_)
          clear hK K
          try simp only [List.getElem_toArray, List.getElem_cons_succ, List.getElem_cons_zero, Act.put, List.setIfInBounds_toArray, List.set_cons_zero, List.set_cons_succ]
          have e10 : Ext w0 (w9.alloc (.cells #[.int .i64 (-2), .int .i64 20, .int .i64 21] 3)) := hE.out _ b10
          refine wpAnyH_ready (rs := [7]) (by kernel_rfl) (by simp) ?_
          refine AllReadyH.cons rfl (fun K hK => ?_) AllReadyH.nil
          go_simp
          go_at_call 34
          refine (among_any (w0 := w0) hc own10 hwB (by omega) (by omega) (by decide) (by decide)).mono ?_
          rintro e w11 ⟨x11, a11, rfl, hx11, h111, h112, own11, b11⟩
          have hx11' : -100000 ≤ x11 ∧ x11 ≤ 100000 := by simp at hx11; omega
          have own11' := own11.drop
          have b11' := b10.trans b11
          have hf11 := hfacts.out _ _ S rfl own11'
          have hput := CurAt.put (A := [_]) own11' hws hkS hu.out hkn.out 0 x11
          have hf12 := hfacts.out _ _ _ (by rw [List.length_set]) hput.1
          have hSn2 := row_set_len (q := 0) (x := x11) hSn hkS
          have hSok2 := row_set_ok (q := 0) hSok hkS hx11'
          have hgc : w11.cell? ⟨gk, 0, none⟩ = some (.int .i64 (nth (row S k) 0)) ∧ w11.frozen? ⟨gk, 0, none⟩ = false := by
            obtain ⟨R', hT⟩ := CurAt.tab (A := [_]) own11'
            exact rw_at hT hkS hu.out hkn.out (by omega)
          have hgc0 := hgc.1
          have hgc1 := hgc.2
          go_wp2_with fail
          refine hK.out _ _ hf11 (fun _ => ?_)
          clear hK K
          try simp only [List.getElem_toArray, List.getElem_cons_succ, List.getElem_cons_zero, Act.put, List.setIfInBounds_toArray, List.set_cons_zero, List.set_cons_succ]
          refine wpAnyH_take (i := 8) (v := .pointer (some ⟨gk, 0, none⟩)) rfl (by kernel_rfl) (by kernel_rfl) (by kernel_rfl) (fun _ _ _ h => h) (Or.inl ⟨by rfl, by intro wx hx; go_simp; intro hcc; omega⟩) (by assumption) ?_
          try simp only [List.getElem_toArray, List.getElem_cons_succ, List.getElem_cons_zero, Act.put, List.setIfInBounds_toArray, List.set_cons_zero, List.set_cons_succ]
          refine wpAnyH_ready (rs := [9]) (by kernel_rfl) (by simp) ?_
          refine AllReadyH.cons rfl (fun K hK => ?_) AllReadyH.nil
          go_simp
          refine hK.out _ _ hf12 (fun _ => ?_)
          clear hK K
          try simp only [List.getElem_toArray, List.getElem_cons_succ, List.getElem_cons_zero, Act.put, List.setIfInBounds_toArray, List.set_cons_zero, List.set_cons_succ]
          refine wpAnyH_done (by kernel_rfl) ?_ _
          have own13 := hput.1
          have b13 := b11'.setCell hput.2 (p := ⟨gk, 0, none⟩) (.int .i64 x11)
          have hSl2 : (S.set k ((row S k).set 0 x11)).length = S.length := by rw [List.length_set]
          generalize S.set k ((row S k).set 0 x11) = S2 at *
          generalize w11.setCell ⟨gk, 0, none⟩ (.int .i64 x11) = w13 at *
          clear own9 own10 own11 own11' b9 b10 b11 b11' hf10 hf11 hf12 hput hgc hgc0 hgc1 e10
          have own14 : CurAt w13 B c vc a11 (boxRow 26 2 pb [.slice dq n mq, .slice (some ⟨gs, 0, none⟩) S.length sm] :: ((rowsOf 29 3 (.slice (some ⟨gs, 0, none⟩) S.length sm) ws S2 ++ rowsOf 29 3 (.slice dq n mq) vq Mq) ++ (boxRow 26 2 r [.slice none 0 0, .slice none 0 0] :: R))) := by
            rw [List.append_assoc]; exact own13
          have hZR := hid (zr_norm (B := B) (sd := some ⟨gs, 0, none⟩) (sm := sm) (dq := dq) (mq := mq) (S := S2) (ws := ws) (by rw [hSl2]; exact hws) (by omega) hSok2 hvq.out hMq.out (by omega))
          rw [hSl2] at hZR
          have hMB : 1 ≤ Mq.length ∧ Mq.length ≤ 5 := by rw [hMq.out.1]; omega
          have hSB : 1 ≤ (S2).length ∧ (S2).length ≤ 16 := by omega
          clear own13
          go_upto_region 34 with fail
          have c0 := (own14.at (.head _) (j := 0) (by omega)).1
          have c1 := (own14.at (.head _) (j := 1) (by omega)).1
          have r0 := own14.at (e := 26) (z := 2) (b := r) (cs := [.slice none 0 0, .slice none 0 0]) (.tail _ (List.mem_append_right _ (.head _))) (j := 0) (by omega)
          have r1 := own14.at (e := 26) (z := 2) (b := r) (cs := [.slice none 0 0, .slice none 0 0]) (.tail _ (List.mem_append_right _ (.head _))) (j := 1) (by omega)
          have r00 := r0.1
          have r01 := r0.2
          have r10 := r1.1
          have r11 := r1.2
          simp only [List.getD_eq_getElem?_getD, List.getElem?_cons_zero, List.getElem?_cons_succ, Option.getD_some] at c0 c1 r00 r10
          have ownF := CurAt.fin (v0 := .slice dq n mq) (v1 := .slice (some ⟨gs, 0, none⟩) S.length sm) own14
          have q0 : ((w13.setCell ⟨r, 0, none⟩ (.slice dq n mq)).setCell ⟨r, 1, none⟩ (.slice (some ⟨gs, 0, none⟩) S.length sm)).cell? ⟨r, 0, none⟩ = some (.slice dq n mq) := by go_simp
          have q1 : ((w13.setCell ⟨r, 0, none⟩ (.slice dq n mq)).setCell ⟨r, 1, none⟩ (.slice (some ⟨gs, 0, none⟩) S.length sm)).cell? ⟨r, 1, none⟩ = some (.slice (some ⟨gs, 0, none⟩) S.length sm) := by go_simp
          clear r0 r1
          go_wp2
          refine bodyPost_ret (v := .agg #[.slice dq n mq, .slice (some ⟨gs, 0, none⟩) S.length sm]) (by simp [results, Try.results31, go_sem, q0, q1]) rfl ?_
          exact ⟨_, _, _, _, _, _, rfl, (hMB).1, (hMB).2, (hSB).1, (hSB).2, by omega, by omega, ownF.1, hZR.out, b13.trans ownF.2⟩
        · by_cases hx1 : x = 1
          · go_upto_region 22 with fail
            have ed : Ext w8 w8.drew := inferInstance
            have own9 := own8.ext (w' := w8.drew)
            have b9 : Below B w w8.drew := b8'.drew
            have hf9 := hfacts.out _ _ S rfl own9
            clear own8 b8' h8x ed
            refine wp_region_held_drew (S := fun w' => w'.cell? ⟨pb, 1, none⟩ = some (.slice (some ⟨gs, 0, none⟩) S.length sm) ∧ True) (by kernel_rfl) ⟨hf9.1, trivial⟩ (fun hHeld0 => ?_)
            generalize w8.drew = w9 at *
            refine wpAnyH_take (i := 0) (v := .pointer (some ⟨pb, 1, none⟩)) rfl (by kernel_rfl) (by kernel_rfl) (by kernel_rfl) (fun _ _ _ h => h) (Or.inl ⟨by rfl, by intro wx hx; go_simp⟩) (by assumption) ?_
            try simp only [List.getElem_toArray, List.getElem_cons_zero, Act.put, List.setIfInBounds_toArray, List.set_cons_zero, List.set_cons_succ]
            refine wpAnyH_take (i := 1) (v := .slice (some ⟨gs, 0, none⟩) S.length sm) rfl (by kernel_rfl) (by kernel_rfl) (by kernel_rfl) (fun _ _ _ h => h) (Or.inl ⟨by rfl, by intro wx hx; obtain ⟨_, _⟩ := hx; go_simp⟩) (by assumption) ?_
            try simp only [List.getElem_toArray, List.getElem_cons_succ, List.getElem_cons_zero, Act.put, List.setIfInBounds_toArray, List.set_cons_zero, List.set_cons_succ]
            refine wpAnyH_take (i := 2) (v := .int .i64 k) rfl (by kernel_rfl) (by kernel_rfl) (by kernel_rfl) (fun _ _ _ h => h) (Or.inl ⟨by rfl, by intro wx hx; go_simp⟩) (by assumption) ?_
            try simp only [List.getElem_toArray, List.getElem_cons_succ, List.getElem_cons_zero, Act.put, List.setIfInBounds_toArray, List.set_cons_zero, List.set_cons_succ]
            refine wpAnyH_take (i := 3) (v := .pointer (some ⟨pb, 1, none⟩)) rfl (by kernel_rfl) (by kernel_rfl) (by kernel_rfl) (fun _ _ _ h => h) (Or.inl ⟨by rfl, by intro wx hx; go_simp⟩) (by assumption) ?_
            try simp only [List.getElem_toArray, List.getElem_cons_succ, List.getElem_cons_zero, Act.put, List.setIfInBounds_toArray, List.set_cons_zero, List.set_cons_succ]
            refine wpAnyH_take (i := 4) (v := .slice (some ⟨gs, 0, none⟩) S.length sm) rfl (by kernel_rfl) (by kernel_rfl) (by kernel_rfl) (fun _ _ _ h => h) (Or.inl ⟨by rfl, by intro wx hx; obtain ⟨_, _⟩ := hx; go_simp⟩) (by assumption) ?_
            try simp only [List.getElem_toArray, List.getElem_cons_succ, List.getElem_cons_zero, Act.put, List.setIfInBounds_toArray, List.set_cons_zero, List.set_cons_succ]
            refine wpAnyH_take (i := 5) (v := .int .i64 k) rfl (by kernel_rfl) (by kernel_rfl) (by kernel_rfl) (fun _ _ _ h => h) (Or.inl ⟨by rfl, by intro wx hx; go_simp⟩) (by assumption) ?_
            try simp only [List.getElem_toArray, List.getElem_cons_succ, List.getElem_cons_zero, Act.put, List.setIfInBounds_toArray, List.set_cons_zero, List.set_cons_succ]
            refine wpAnyH_take (i := 6) (v := .pointer (some ⟨gs, k, none⟩)) rfl (by kernel_rfl) (by kernel_rfl) (by kernel_rfl) (fun _ _ _ h => h) (Or.inl ⟨by rfl, by intro wx hx; go_simp⟩) (by assumption) ?_
            try simp only [List.getElem_toArray, List.getElem_cons_succ, List.getElem_cons_zero, Act.put, List.setIfInBounds_toArray, List.set_cons_zero, List.set_cons_succ]
            have hf90 := hf9.1
            have hf91 := hf9.2
            have hB9 := own9.size
            obtain ⟨s9, h9⟩ := own9
            have h10 := ow_front (A := [curRow c vc a8 s9, boxRow 26 2 pb [.slice dq n mq, .slice (some ⟨gs, 0, none⟩) S.length sm]]) (T := rowsOf 29 3 (.slice (some ⟨gs, 0, none⟩) S.length sm) ws S) h9
            have hrow := rw_row h10 hkS hu.out
            have hro : Own w9 B (⟨3, 1, .slice (some ⟨gk, 0, none⟩) n mk, n, (row S k).map (Value.int .i64)⟩ :: (rowsOf 29 3 (.slice (some ⟨gs, 0, none⟩) S.length sm) ws S ++ ([curRow c vc a8 s9, boxRow 26 2 pb [.slice dq n mq, .slice (some ⟨gs, 0, none⟩) S.length sm]] ++ (rowsOf 29 3 (.slice dq n mq) vq Mq ++ (boxRow 26 2 r [.slice none 0 0, .slice none 0 0] :: R)))).eraseIdx (k + 1)) := by
              have e : (⟨3, 1, .slice (some ⟨gk, 0, none⟩) n mk, n, (row S k).map (Value.int .i64)⟩ : Row) = intRowOf 3 (.slice (some ⟨gk, 0, none⟩) n mk) (row S k) := by
                unfold intRowOf
                rw [hkn.out]
              rw [e]
              exact hrow
            have OWa := hro.ext (w' := w9.alloc (.cells #[.int .i64 0] 3))
            have ea : Ext w9 (w9.alloc (.cells #[.int .i64 0] 3)) := inferInstance
            have hBa : B ≤ (w9.alloc (.cells #[.int .i64 0] 3)).heap.size := Nat.le_trans hB9 ea.size
            have hba : Below B w (w9.alloc (.cells #[.int .i64 0] 3)) := b9.alloc hB9 _
            clear hrow h10 h9 hro
            have hfa0 := ea.cell hf9.1
            have hfa1 := ea.cell hf9.2
            refine wpAnyH_ready (rs := [7, 8]) (by kernel_rfl) (by simp) ?_
            refine AllReadyH.cons rfl (fun K hK => ?_) (AllReadyH.cons rfl (fun K hK => ?_) AllReadyH.nil)
            · go_simp
              refine hK.out _ _ ⟨hf90, trivial⟩ (fun _ => ?_)
              clear hK K
              try simp only [List.getElem_toArray, List.getElem_cons_succ, List.getElem_cons_zero, Act.put, List.setIfInBounds_toArray, List.set_cons_zero, List.set_cons_succ]
              refine wpAnyH_ready (rs := [8]) (by kernel_rfl) (by simp) ?_
              refine AllReadyH.cons rfl (fun K hK => ?_) AllReadyH.nil
              go_simp
              refine hK.out _ _ ⟨hfa0, trivial⟩ (fun _ => ?_)
              clear hK K
              try simp only [List.getElem_toArray, List.getElem_cons_succ, List.getElem_cons_zero, Act.put, List.setIfInBounds_toArray, List.set_cons_zero, List.set_cons_succ]
              refine wpAnyH_ready (rs := [9]) (by kernel_rfl) (by simp) ?_
              refine AllReadyH.cons rfl (fun K hK => ?_) AllReadyH.nil
              refine step_append1z rfl (.tmp 106) (.tmp 107) 29 rfl elemInt rfl OWa hBa (us := [.int .i64 0]) rfl rfl ?_ (by intro u hu; simp at hu; subst hu; rfl) (by omega) (by omega) ?_
              · intro jj u hj
                match jj, hj with
                | 0, hj => simp at hj; subst hj; go_simp
              intro v4 w4 ho4 hb4
              obtain ⟨vd, vm4, hv4⟩ := ho4.form
              have hv4' : v4 = .slice vd (n + 1) vm4 := hv4
              subst hv4'
              clear hv4
              have ho5 : Own w4 B (intRowOf 3 (.slice vd (n + 1) vm4) (row S k ++ [0]) :: (rowsOf 29 3 (.slice (some ⟨gs, 0, none⟩) S.length sm) ws S ++ ([curRow c vc a8 s9, boxRow 26 2 pb [.slice dq n mq, .slice (some ⟨gs, 0, none⟩) S.length sm]] ++ (rowsOf 29 3 (.slice dq n mq) vq Mq ++ (boxRow 26 2 r [.slice none 0 0, .slice none 0 0] :: R)))).eraseIdx (k + 1)) := by
                have e : intRowOf 3 (.slice vd (n + 1) vm4) (row S k ++ [0]) = (⟨3, 1, .slice vd (n + 1) vm4, n + 1, (row S k).map (Value.int .i64) ++ [.int .i64 0]⟩ : Row) := by
                  unfold intRowOf
                  rw [List.length_append, hkn.out, List.map_append]
                  rfl
                rw [e]
                exact ho4
              obtain ⟨gc1, gc2, go1, gm1, gB⟩ := rw_grow ho5 hws rfl hkS
              have hkw : ws.getD k undef = .slice (some ⟨gk, 0, none⟩) n mk := by rw [List.getD_eq_getElem?_getD, hu.out]; rfl
              rw [hkw] at gc1
              have hbx := (gm1 (boxRow 26 2 pb [.slice dq n mq, .slice (some ⟨gs, 0, none⟩) S.length sm]) (by simp)).cellAt 1 (by show 1 < 1 * 2; omega)
              have hbx1 : w4.cell? ⟨pb, 1, none⟩ = some (.slice (some ⟨gs, 0, none⟩) S.length sm) := hbx
              refine hK.out _ _ ⟨hbx1, trivial⟩ (fun _ => ?_)
              clear hK K
              try simp only [List.getElem_toArray, List.getElem_cons_succ, List.getElem_cons_zero, Act.put, List.setIfInBounds_toArray, List.set_cons_zero, List.set_cons_succ]
              refine wpAnyH_take (i := 10) (v := .pointer (some ⟨gs, k, none⟩)) rfl (by kernel_rfl) (by kernel_rfl) (by kernel_rfl) (fun _ _ _ h => h) (Or.inl ⟨by rfl, by intro wx hx; go_simp⟩) (by assumption) ?_
              try simp only [List.getElem_toArray, List.getElem_cons_succ, List.getElem_cons_zero, Act.put, List.setIfInBounds_toArray, List.set_cons_zero, List.set_cons_succ]
              have own13 : CurAt (w4.setCell ⟨gs, k, none⟩ (.slice vd (n + 1) vm4)) B c vc a8 (boxRow 26 2 pb [.slice dq n mq, .slice (some ⟨gs, 0, none⟩) S.length sm] :: (rowsOf 29 3 (.slice (some ⟨gs, 0, none⟩) S.length sm) (ws.set k (.slice vd (n + 1) vm4)) (S.set k (row S k ++ [0])) ++ (rowsOf 29 3 (.slice dq n mq) vq Mq ++ (boxRow 26 2 r [.slice none 0 0, .slice none 0 0] :: R)))) :=
                ⟨s9, ow_front (A := rowsOf 29 3 (.slice (some ⟨gs, 0, none⟩) S.length sm) (ws.set k (.slice vd (n + 1) vm4)) (S.set k (row S k ++ [0]))) (T := [curRow c vc a8 s9, boxRow 26 2 pb [.slice dq n mq, .slice (some ⟨gs, 0, none⟩) S.length sm]]) go1⟩
              have hws2 : (ws.set k (.slice vd (n + 1) vm4)).length = S.length := by rw [List.length_set]; exact hws
              have hSl2 : (S.set k (row S k ++ [0])).length = S.length := by rw [List.length_set]
              have hSok2 : RowsOk (S.set k (row S k ++ [0])) := by
                intro y hy
                rcases List.mem_or_eq_of_mem_set hy with h1 | h1
                · exact hSok y h1
                · have h2 := hSok _ (row_mem hkS)
                  rw [h1]
                  refine ⟨by rw [List.length_append, hkn.out]; simp; omega, fun z hz => ?_⟩
                  rcases List.mem_append.1 hz with h3 | h3
                  · exact h2.2 z h3
                  · rw [List.mem_singleton] at h3; omega
              have hcs2 : (ws.set k (.slice vd (n + 1) vm4))[k]? = some (.slice vd (n + 1) vm4) := List.getElem?_set_self (by omega)
              have b13 := (hba.trans hb4).setCell gB (p := ⟨gs, k, none⟩) (.slice vd (n + 1) vm4)
              generalize S.set k (row S k ++ [0]) = S2 at *
              generalize ws.set k (.slice vd (n + 1) vm4) = ws2 at *
              have hfin1 : (w4.setCell ⟨gs, k, none⟩ (.slice vd (n + 1) vm4)).cell? ⟨pb, 1, none⟩ = some (.slice (some ⟨gs, 0, none⟩) S.length sm) := (own13.at (.head _) (j := 1) (by omega)).1
              refine wpAnyH_ready (rs := [11]) (by kernel_rfl) (by simp) ?_
              refine AllReadyH.cons rfl (fun K hK => ?_) AllReadyH.nil
              go_simp
              refine hK.out _ _ ⟨hfin1, trivial⟩ (fun _ => ?_)
              clear hK K
              try simp only [List.getElem_toArray, List.getElem_cons_succ, List.getElem_cons_zero, Act.put, List.setIfInBounds_toArray, List.set_cons_zero, List.set_cons_succ]
              refine wpAnyH_done (by kernel_rfl) ?_ _
              generalize w4.setCell ⟨gs, k, none⟩ (.slice vd (n + 1) vm4) = w13 at *
              have own14 : CurAt w13 B c vc a8 (boxRow 26 2 pb [.slice dq n mq, .slice (some ⟨gs, 0, none⟩) S.length sm] :: ((rowsOf 29 3 (.slice (some ⟨gs, 0, none⟩) S.length sm) ws2 S2 ++ rowsOf 29 3 (.slice dq n mq) vq Mq) ++ (boxRow 26 2 r [.slice none 0 0, .slice none 0 0] :: R))) := by
                rw [List.append_assoc]; exact own13
              have hZR := hid (zr_norm (B := B) (sd := some ⟨gs, 0, none⟩) (sm := sm) (dq := dq) (mq := mq) (S := S2) (ws := ws2) (by rw [hSl2]; exact hws2) (by omega) hSok2 hvq.out hMq.out (by omega))
              rw [hSl2] at hZR
              have hMB : 1 ≤ Mq.length ∧ Mq.length ≤ 5 := by rw [hMq.out.1]; omega
              have hSB : 1 ≤ S2.length ∧ S2.length ≤ 16 := by omega
              clear own13 ho4 ho5 go1 gm1 gc1 gc2 hbx hbx1 hfin1 hba hBa OWa
              go_upto_region 34 with fail
              have c0 := (own14.at (.head _) (j := 0) (by omega)).1
              have c1 := (own14.at (.head _) (j := 1) (by omega)).1
              have r0 := own14.at (e := 26) (z := 2) (b := r) (cs := [.slice none 0 0, .slice none 0 0]) (.tail _ (List.mem_append_right _ (.head _))) (j := 0) (by omega)
              have r1 := own14.at (e := 26) (z := 2) (b := r) (cs := [.slice none 0 0, .slice none 0 0]) (.tail _ (List.mem_append_right _ (.head _))) (j := 1) (by omega)
              have r00 := r0.1
              have r01 := r0.2
              have r10 := r1.1
              have r11 := r1.2
              simp only [List.getD_eq_getElem?_getD, List.getElem?_cons_zero, List.getElem?_cons_succ, Option.getD_some] at c0 c1 r00 r10
              have ownF := CurAt.fin (v0 := .slice dq n mq) (v1 := .slice (some ⟨gs, 0, none⟩) S.length sm) own14
              have q0 : ((w13.setCell ⟨r, 0, none⟩ (.slice dq n mq)).setCell ⟨r, 1, none⟩ (.slice (some ⟨gs, 0, none⟩) S.length sm)).cell? ⟨r, 0, none⟩ = some (.slice dq n mq) := by go_simp
              have q1 : ((w13.setCell ⟨r, 0, none⟩ (.slice dq n mq)).setCell ⟨r, 1, none⟩ (.slice (some ⟨gs, 0, none⟩) S.length sm)).cell? ⟨r, 1, none⟩ = some (.slice (some ⟨gs, 0, none⟩) S.length sm) := by go_simp
              clear r0 r1
              go_wp2
              refine bodyPost_ret (v := .agg #[.slice dq n mq, .slice (some ⟨gs, 0, none⟩) S.length sm]) (by simp [results, Try.results31, go_sem, q0, q1]) rfl ?_
              exact ⟨_, _, _, _, _, _, rfl, (hMB).1, (hMB).2, (hSB).1, (hSB).2, by omega, by omega, ownF.1, hZR.out, b13.trans ownF.2⟩
            · go_simp
              refine hK.out _ _ ⟨hfa0, trivial⟩ (fun _ => ?_)
              clear hK K
              try simp only [List.getElem_toArray, List.getElem_cons_succ, List.getElem_cons_zero, Act.put, List.setIfInBounds_toArray, List.set_cons_zero, List.set_cons_succ]
              refine wpAnyH_ready (rs := [7]) (by kernel_rfl) (by simp) ?_
              refine AllReadyH.cons rfl (fun K hK => ?_) AllReadyH.nil
              go_simp
              refine hK.out _ _ ⟨hfa0, trivial⟩ (fun _ => ?_)
              clear hK K
              try simp only [List.getElem_toArray, List.getElem_cons_succ, List.getElem_cons_zero, Act.put, List.setIfInBounds_toArray, List.set_cons_zero, List.set_cons_succ]
              refine wpAnyH_ready (rs := [9]) (by kernel_rfl) (by simp) ?_
              refine AllReadyH.cons rfl (fun K hK => ?_) AllReadyH.nil
              refine step_append1z rfl (.tmp 106) (.tmp 107) 29 rfl elemInt rfl OWa hBa (us := [.int .i64 0]) rfl rfl ?_ (by intro u hu; simp at hu; subst hu; rfl) (by omega) (by omega) ?_
              · intro jj u hj
                match jj, hj with
                | 0, hj => simp at hj; subst hj; go_simp
              intro v4 w4 ho4 hb4
              obtain ⟨vd, vm4, hv4⟩ := ho4.form
              have hv4' : v4 = .slice vd (n + 1) vm4 := hv4
              subst hv4'
              clear hv4
              have ho5 : Own w4 B (intRowOf 3 (.slice vd (n + 1) vm4) (row S k ++ [0]) :: (rowsOf 29 3 (.slice (some ⟨gs, 0, none⟩) S.length sm) ws S ++ ([curRow c vc a8 s9, boxRow 26 2 pb [.slice dq n mq, .slice (some ⟨gs, 0, none⟩) S.length sm]] ++ (rowsOf 29 3 (.slice dq n mq) vq Mq ++ (boxRow 26 2 r [.slice none 0 0, .slice none 0 0] :: R)))).eraseIdx (k + 1)) := by
                have e : intRowOf 3 (.slice vd (n + 1) vm4) (row S k ++ [0]) = (⟨3, 1, .slice vd (n + 1) vm4, n + 1, (row S k).map (Value.int .i64) ++ [.int .i64 0]⟩ : Row) := by
                  unfold intRowOf
                  rw [List.length_append, hkn.out, List.map_append]
                  rfl
                rw [e]
                exact ho4
              obtain ⟨gc1, gc2, go1, gm1, gB⟩ := rw_grow ho5 hws rfl hkS
              have hkw : ws.getD k undef = .slice (some ⟨gk, 0, none⟩) n mk := by rw [List.getD_eq_getElem?_getD, hu.out]; rfl
              rw [hkw] at gc1
              have hbx := (gm1 (boxRow 26 2 pb [.slice dq n mq, .slice (some ⟨gs, 0, none⟩) S.length sm]) (by simp)).cellAt 1 (by show 1 < 1 * 2; omega)
              have hbx1 : w4.cell? ⟨pb, 1, none⟩ = some (.slice (some ⟨gs, 0, none⟩) S.length sm) := hbx
              refine hK.out _ _ ⟨hbx1, trivial⟩ (fun _ => ?_)
              clear hK K
              try simp only [List.getElem_toArray, List.getElem_cons_succ, List.getElem_cons_zero, Act.put, List.setIfInBounds_toArray, List.set_cons_zero, List.set_cons_succ]
              refine wpAnyH_take (i := 10) (v := .pointer (some ⟨gs, k, none⟩)) rfl (by kernel_rfl) (by kernel_rfl) (by kernel_rfl) (fun _ _ _ h => h) (Or.inl ⟨by rfl, by intro wx hx; go_simp⟩) (by assumption) ?_
              try simp only [List.getElem_toArray, List.getElem_cons_succ, List.getElem_cons_zero, Act.put, List.setIfInBounds_toArray, List.set_cons_zero, List.set_cons_succ]
              have own13 : CurAt (w4.setCell ⟨gs, k, none⟩ (.slice vd (n + 1) vm4)) B c vc a8 (boxRow 26 2 pb [.slice dq n mq, .slice (some ⟨gs, 0, none⟩) S.length sm] :: (rowsOf 29 3 (.slice (some ⟨gs, 0, none⟩) S.length sm) (ws.set k (.slice vd (n + 1) vm4)) (S.set k (row S k ++ [0])) ++ (rowsOf 29 3 (.slice dq n mq) vq Mq ++ (boxRow 26 2 r [.slice none 0 0, .slice none 0 0] :: R)))) :=
                ⟨s9, ow_front (A := rowsOf 29 3 (.slice (some ⟨gs, 0, none⟩) S.length sm) (ws.set k (.slice vd (n + 1) vm4)) (S.set k (row S k ++ [0]))) (T := [curRow c vc a8 s9, boxRow 26 2 pb [.slice dq n mq, .slice (some ⟨gs, 0, none⟩) S.length sm]]) go1⟩
              have hws2 : (ws.set k (.slice vd (n + 1) vm4)).length = S.length := by rw [List.length_set]; exact hws
              have hSl2 : (S.set k (row S k ++ [0])).length = S.length := by rw [List.length_set]
              have hSok2 : RowsOk (S.set k (row S k ++ [0])) := by
                intro y hy
                rcases List.mem_or_eq_of_mem_set hy with h1 | h1
                · exact hSok y h1
                · have h2 := hSok _ (row_mem hkS)
                  rw [h1]
                  refine ⟨by rw [List.length_append, hkn.out]; simp; omega, fun z hz => ?_⟩
                  rcases List.mem_append.1 hz with h3 | h3
                  · exact h2.2 z h3
                  · rw [List.mem_singleton] at h3; omega
              have hcs2 : (ws.set k (.slice vd (n + 1) vm4))[k]? = some (.slice vd (n + 1) vm4) := List.getElem?_set_self (by omega)
              have b13 := (hba.trans hb4).setCell gB (p := ⟨gs, k, none⟩) (.slice vd (n + 1) vm4)
              generalize S.set k (row S k ++ [0]) = S2 at *
              generalize ws.set k (.slice vd (n + 1) vm4) = ws2 at *
              have hfin1 : (w4.setCell ⟨gs, k, none⟩ (.slice vd (n + 1) vm4)).cell? ⟨pb, 1, none⟩ = some (.slice (some ⟨gs, 0, none⟩) S.length sm) := (own13.at (.head _) (j := 1) (by omega)).1
              refine wpAnyH_ready (rs := [11]) (by kernel_rfl) (by simp) ?_
              refine AllReadyH.cons rfl (fun K hK => ?_) AllReadyH.nil
              go_simp
              refine hK.out _ _ ⟨hfin1, trivial⟩ (fun _ => ?_)
              clear hK K
              try simp only [List.getElem_toArray, List.getElem_cons_succ, List.getElem_cons_zero, Act.put, List.setIfInBounds_toArray, List.set_cons_zero, List.set_cons_succ]
              refine wpAnyH_done (by kernel_rfl) ?_ _
              generalize w4.setCell ⟨gs, k, none⟩ (.slice vd (n + 1) vm4) = w13 at *
              have own14 : CurAt w13 B c vc a8 (boxRow 26 2 pb [.slice dq n mq, .slice (some ⟨gs, 0, none⟩) S.length sm] :: ((rowsOf 29 3 (.slice (some ⟨gs, 0, none⟩) S.length sm) ws2 S2 ++ rowsOf 29 3 (.slice dq n mq) vq Mq) ++ (boxRow 26 2 r [.slice none 0 0, .slice none 0 0] :: R))) := by
                rw [List.append_assoc]; exact own13
              have hZR := hid (zr_norm (B := B) (sd := some ⟨gs, 0, none⟩) (sm := sm) (dq := dq) (mq := mq) (S := S2) (ws := ws2) (by rw [hSl2]; exact hws2) (by omega) hSok2 hvq.out hMq.out (by omega))
              rw [hSl2] at hZR
              have hMB : 1 ≤ Mq.length ∧ Mq.length ≤ 5 := by rw [hMq.out.1]; omega
              have hSB : 1 ≤ S2.length ∧ S2.length ≤ 16 := by omega
              clear own13 ho4 ho5 go1 gm1 gc1 gc2 hbx hbx1 hfin1 hba hBa OWa
              go_upto_region 34 with fail
              have c0 := (own14.at (.head _) (j := 0) (by omega)).1
              have c1 := (own14.at (.head _) (j := 1) (by omega)).1
              have r0 := own14.at (e := 26) (z := 2) (b := r) (cs := [.slice none 0 0, .slice none 0 0]) (.tail _ (List.mem_append_right _ (.head _))) (j := 0) (by omega)
              have r1 := own14.at (e := 26) (z := 2) (b := r) (cs := [.slice none 0 0, .slice none 0 0]) (.tail _ (List.mem_append_right _ (.head _))) (j := 1) (by omega)
              have r00 := r0.1
              have r01 := r0.2
              have r10 := r1.1
              have r11 := r1.2
              simp only [List.getD_eq_getElem?_getD, List.getElem?_cons_zero, List.getElem?_cons_succ, Option.getD_some] at c0 c1 r00 r10
              have ownF := CurAt.fin (v0 := .slice dq n mq) (v1 := .slice (some ⟨gs, 0, none⟩) S.length sm) own14
              have q0 : ((w13.setCell ⟨r, 0, none⟩ (.slice dq n mq)).setCell ⟨r, 1, none⟩ (.slice (some ⟨gs, 0, none⟩) S.length sm)).cell? ⟨r, 0, none⟩ = some (.slice dq n mq) := by go_simp
              have q1 : ((w13.setCell ⟨r, 0, none⟩ (.slice dq n mq)).setCell ⟨r, 1, none⟩ (.slice (some ⟨gs, 0, none⟩) S.length sm)).cell? ⟨r, 1, none⟩ = some (.slice (some ⟨gs, 0, none⟩) S.length sm) := by go_simp
              clear r0 r1
              go_wp2
              refine bodyPost_ret (v := .agg #[.slice dq n mq, .slice (some ⟨gs, 0, none⟩) S.length sm]) (by simp [results, Try.results31, go_sem, q0, q1]) rfl ?_
              exact ⟨_, _, _, _, _, _, rfl, (hMB).1, (hMB).2, (hSB).1, (hSB).2, by omega, by omega, ownF.1, hZR.out, b13.trans ownF.2⟩
          · by_cases hx2 : x = 2
            · clear h8x
              go_wp2
              go_loopw [10] (fun q wr => ∃ s : Nat, s ≤ n ∧ q = .int .i64 s ∧ Below B w wr ∧ ∃ S2 : List (List Int), S2.length = S.length ∧ (∀ x ∈ S2, x.length = n) ∧ RowsOk S2 ∧
                CurAt wr B c vc a8 (boxRow 26 2 pb [.slice dq n mq, .slice (some ⟨gs, 0, none⟩) S.length sm] :: (rowsOf 29 3 (.slice (some ⟨gs, 0, none⟩) S.length sm) ws S2 ++ (rowsOf 29 3 (.slice dq n mq) vq Mq ++ (boxRow 26 2 r [.slice none 0 0, .slice none 0 0] :: R))))) (fun q _ => n - (intOf q).toNat)
              case atStart => exact ⟨0, by omega, rfl, b8', S, rfl, hSn, hSok, own8⟩
              case round =>
                obtain ⟨s, hs, rfl, b9, S2, hSl2, hSn2, hSok2, own9⟩ := hrel
                obtain ⟨w9, rfl⟩ : ∃ y : World, y = wr := ⟨_, rfl⟩
                by_cases hlts : s < n
                · have hf9 := hfacts.out _ _ S2 hSl2 own9
                  have hf90 := hf9.1
                  have hf91 := hf9.2
                  have hkS2 : k < S2.length := by omega
                  have hkn2 := hid (hSn2 _ (row_mem hkS2))
                  have hput := CurAt.put (A := [_]) own9 (by rw [hSl2]; exact hws) hkS2 hu.out hkn2.out s (-1)
                  have hgc : w9.cell? ⟨gk, s, none⟩ = some (.int .i64 (nth (row S2 k) s)) ∧ w9.frozen? ⟨gk, s, none⟩ = false := by
                    obtain ⟨R', hT⟩ := CurAt.tab (A := [_]) own9
                    exact rw_at hT hkS2 hu.out hkn2.out hlts
                  have hgc0 := hgc.1
                  have hgc1 := hgc.2
                  have hSn3 := row_set_len (q := s) (x := -1) hSn2 hkS2
                  have hSok3 := row_set_ok (q := s) (x := -1) hSok2 hkS2 (by omega)
                  have b13 := b9.setCell hput.2 (p := ⟨gk, s, none⟩) (.int .i64 (-1))
                  clear hf9 hgc own9 b9
                  go_wp2
                  go_roundw
                  case rel => exact ⟨s + 1, by omega, by go_num, b13, _, by rw [List.length_set]; exact hSl2, hSn3, hSok3, hput.1⟩
                  case measure => simp [intOf]; omega
                · have hsn : s = n := by omega
                  replace hsn := hid hsn
                  obtain ⟨w13, rfl⟩ : ∃ y : World, y = w9 := ⟨_, rfl⟩
                  have own14 : CurAt w13 B c vc a8 (boxRow 26 2 pb [.slice dq n mq, .slice (some ⟨gs, 0, none⟩) S.length sm] :: ((rowsOf 29 3 (.slice (some ⟨gs, 0, none⟩) S.length sm) ws S2 ++ rowsOf 29 3 (.slice dq n mq) vq Mq) ++ (boxRow 26 2 r [.slice none 0 0, .slice none 0 0] :: R))) := by
                    rw [List.append_assoc]; exact own9
                  have hZR := hid (zr_norm (B := B) (sd := some ⟨gs, 0, none⟩) (sm := sm) (dq := dq) (mq := mq) (S := S2) (ws := ws) (by rw [hSl2]; exact hws) (by omega) hSok2 hvq.out hMq.out (by omega))
                  rw [hSl2] at hZR
                  have hMB : 1 ≤ Mq.length ∧ Mq.length ≤ 5 := by rw [hMq.out.1]; omega
                  have hSB : 1 ≤ (S2).length ∧ (S2).length ≤ 16 := by omega
                  clear own9
                  go_upto_region 34 with fail
                  have c0 := (own14.at (.head _) (j := 0) (by omega)).1
                  have c1 := (own14.at (.head _) (j := 1) (by omega)).1
                  have r0 := own14.at (e := 26) (z := 2) (b := r) (cs := [.slice none 0 0, .slice none 0 0]) (.tail _ (List.mem_append_right _ (.head _))) (j := 0) (by omega)
                  have r1 := own14.at (e := 26) (z := 2) (b := r) (cs := [.slice none 0 0, .slice none 0 0]) (.tail _ (List.mem_append_right _ (.head _))) (j := 1) (by omega)
                  have r00 := r0.1
                  have r01 := r0.2
                  have r10 := r1.1
                  have r11 := r1.2
                  simp only [List.getD_eq_getElem?_getD, List.getElem?_cons_zero, List.getElem?_cons_succ, Option.getD_some] at c0 c1 r00 r10
                  have ownF := CurAt.fin (v0 := .slice dq n mq) (v1 := .slice (some ⟨gs, 0, none⟩) S.length sm) own14
                  have q0 : ((w13.setCell ⟨r, 0, none⟩ (.slice dq n mq)).setCell ⟨r, 1, none⟩ (.slice (some ⟨gs, 0, none⟩) S.length sm)).cell? ⟨r, 0, none⟩ = some (.slice dq n mq) := by go_simp
                  have q1 : ((w13.setCell ⟨r, 0, none⟩ (.slice dq n mq)).setCell ⟨r, 1, none⟩ (.slice (some ⟨gs, 0, none⟩) S.length sm)).cell? ⟨r, 1, none⟩ = some (.slice (some ⟨gs, 0, none⟩) S.length sm) := by go_simp
                  clear r0 r1
                  go_wp2
                  refine bodyPost_ret (v := .agg #[.slice dq n mq, .slice (some ⟨gs, 0, none⟩) S.length sm]) (by simp [results, Try.results31, go_sem, q0, q1]) rfl ?_
                  exact ⟨_, _, _, _, _, _, rfl, (hMB).1, (hMB).2, (hSB).1, (hSB).2, by omega, by omega, ownF.1, hZR.out, b9.trans ownF.2⟩
            · by_cases hx3 : x = 3
              · have hsm : ∃ gm, dq = some ⟨gm, 0, none⟩ := by
                  obtain ⟨R', hT⟩ := CurAt.tab (A := _ :: rowsOf _ _ _ _ _) own8
                  exact rw_addr hT hvq.out (by omega)
                obtain ⟨gm, rfl⟩ := hsm
                have h0n := hid ((hMq.out.2 0 (by omega)).1)
                have hM0 : 0 < Mq.length := by rw [hMq.out.1]; omega
                obtain ⟨gr, mr, hum⟩ : ∃ gk mk, vq[0]? = some (.slice (some ⟨gk, 0, none⟩) n mk) := by
                  obtain ⟨R', hT⟩ := CurAt.tab (A := _ :: rowsOf _ _ _ _ _) own8
                  obtain ⟨gk, mk, hu, _⟩ := rw_form hT (by rw [hvq.out, hMq.out.1]) hM0 (by rw [h0n.out]; omega)
                  rw [h0n.out] at hu
                  exact ⟨gk, mk, hu⟩
                have hfm := hid (show ∀ u av M', CurAt u B c vc av (boxRow 26 2 pb [.slice (some ⟨gm, 0, none⟩) n mq, .slice (some ⟨gs, 0, none⟩) S.length sm] :: (rowsOf 29 3 (.slice (some ⟨gs, 0, none⟩) S.length sm) ws S ++ (rowsOf 29 3 (.slice (some ⟨gm, 0, none⟩) n mq) vq M' ++ (boxRow 26 2 r [.slice none 0 0, .slice none 0 0] :: R)))) →
                  u.cell? ⟨pb, 0, none⟩ = some (.slice (some ⟨gm, 0, none⟩) n mq) ∧ u.cell? ⟨gm, 0, none⟩ = some (.slice (some ⟨gr, 0, none⟩) n mr) from fun u av M' h => by
                  have h1 : u.cell? ⟨pb, 0, none⟩ = some (.slice (some ⟨gm, 0, none⟩) n mq) := (h.at (.head _) (j := 0) (by omega)).1
                  obtain ⟨R', hT⟩ := CurAt.tab (A := _ :: rowsOf _ _ _ _ _) h
                  exact ⟨h1, (rw_cell hT hvq.out hum).1⟩)
                replace hum := hid hum
                clear h8x
                go_upto_region 29 with fail
                have ed : Ext w8 w8.drew := inferInstance
                have own9 := own8.ext (w' := w8.drew)
                have b9 : Below B w w8.drew := b8'.drew
                have hf9 := hfm.out _ _ _ own9
                clear own8 b8' ed
                refine wp_region_held_drew (S := fun w' => w'.cell? ⟨pb, 0, none⟩ = some (.slice (some ⟨gm, 0, none⟩) n mq) ∧ w'.cell? ⟨gm, 0, none⟩ = some (.slice (some ⟨gr, 0, none⟩) n mr)) (by kernel_rfl) hf9 (fun hHeld0 => ?_)
                generalize w8.drew = w9 at *
                clear hf9
                obtain ⟨q, hqn⟩ : ∃ q, n = q + 1 := ⟨n - 1, by omega⟩
                have hqi := hid (show (n : Int) - 1 = (q : Int) by omega)
                replace hqn := hid hqn
                refine wpAnyH_take (i := 0) (v := .pointer (some ⟨pb, 0, none⟩)) rfl (by kernel_rfl) (by kernel_rfl) (by kernel_rfl) (fun _ _ _ h => h) (Or.inl ⟨by rfl, by intro wx hx; go_simp⟩) (by assumption) ?_
                try simp only [List.getElem_toArray, List.getElem_cons_zero, Act.put, List.setIfInBounds_toArray, List.set_cons_zero, List.set_cons_succ]
                refine wpAnyH_take (i := 1) (v := .slice (some ⟨gm, 0, none⟩) n mq) rfl (by kernel_rfl) (by kernel_rfl) (by kernel_rfl) (fun _ _ _ h => h) (Or.inl ⟨by rfl, by intro wx hx; obtain ⟨_, _⟩ := hx; go_simp⟩) (by assumption) ?_
                try simp only [List.getElem_toArray, List.getElem_cons_succ, List.getElem_cons_zero, Act.put, List.setIfInBounds_toArray, List.set_cons_zero, List.set_cons_succ]
                refine wpAnyH_take (i := 2) (v := .pointer (some ⟨gm, 0, none⟩)) rfl (by kernel_rfl) (by kernel_rfl) (by kernel_rfl) (fun _ _ _ h => h) (Or.inl ⟨by rfl, by intro wx hx; go_simp; intro hcc; omega⟩) (by assumption) ?_
                try simp only [List.getElem_toArray, List.getElem_cons_succ, List.getElem_cons_zero, Act.put, List.setIfInBounds_toArray, List.set_cons_zero, List.set_cons_succ]
                refine wpAnyH_take (i := 3) (v := .slice (some ⟨gr, 0, none⟩) n mr) rfl (by kernel_rfl) (by kernel_rfl) (by kernel_rfl) (fun _ _ _ h => h) (Or.inl ⟨by rfl, by intro wx hx; obtain ⟨_, _⟩ := hx; go_simp⟩) (by assumption) ?_
                try simp only [List.getElem_toArray, List.getElem_cons_succ, List.getElem_cons_zero, Act.put, List.setIfInBounds_toArray, List.set_cons_zero, List.set_cons_succ]
                refine wpAnyH_take (i := 4) (v := .int .i64 n) rfl (by kernel_rfl) (by kernel_rfl) (by kernel_rfl) (fun _ _ _ h => h) (Or.inl ⟨by rfl, by intro wx hx; go_simp⟩) (by assumption) ?_
                try simp only [List.getElem_toArray, List.getElem_cons_succ, List.getElem_cons_zero, Act.put, List.setIfInBounds_toArray, List.set_cons_zero, List.set_cons_succ]
                refine wpAnyH_take (i := 5) (v := .int .i64 q) rfl (by kernel_rfl) (by kernel_rfl) (by kernel_rfl) (fun _ _ _ h => h) (Or.inl ⟨by rfl, by intro wx hx; go_simp; exact (IntWalk.i64_in _ (by omega)).trans hqi.out⟩) (by assumption) ?_
                try simp only [List.getElem_toArray, List.getElem_cons_succ, List.getElem_cons_zero, Act.put, List.setIfInBounds_toArray, List.set_cons_zero, List.set_cons_succ]
                refine wpAnyH_take (i := 6) (v := .pointer (some ⟨c, 0, none⟩)) rfl (by kernel_rfl) (by kernel_rfl) (by kernel_rfl) (fun _ _ _ h => h) (Or.inl ⟨by rfl, by intro wx hx; go_simp⟩) (by assumption) ?_
                try simp only [List.getElem_toArray, List.getElem_cons_succ, List.getElem_cons_zero, Act.put, List.setIfInBounds_toArray, List.set_cons_zero, List.set_cons_succ]
                have own10 := own9.lit (e := 3) (n := 3) (cs := #[.int .i64 0, .int .i64 99, .int .i64 (-1)]) [0, 99, -1] own9.size rfl rfl (by decide)
                have b10 : Below B w (w9.alloc (.cells #[.int .i64 0, .int .i64 99, .int .i64 (-1)] 3)) := b9.alloc own9.size _
                have hf10 := hfm.out _ _ _ own10.drop
                refine wpAnyH_ready (rs := [7]) (by kernel_rfl) (by simp) ?_
                refine AllReadyH.cons rfl (fun K hK => ?_) AllReadyH.nil
                go_simp
                refine hK.out _ _ hf10 (fun _ => ?_)
                clear hK K
                try simp only [List.getElem_toArray, List.getElem_cons_succ, List.getElem_cons_zero, Act.put, List.setIfInBounds_toArray, List.set_cons_zero, List.set_cons_succ]
                have e10 : Ext w0 (w9.alloc (.cells #[.int .i64 0, .int .i64 99, .int .i64 (-1)] 3)) := hE.out _ b10
                refine wpAnyH_ready (rs := [8]) (by kernel_rfl) (by simp) ?_
                refine AllReadyH.cons rfl (fun K hK => ?_) AllReadyH.nil
                go_simp
                go_at_call 34
                refine (among_any (w0 := w0) hc own10 hwB (by omega) (by omega) (by decide) (by decide)).mono ?_
                rintro e w11 ⟨x11, a11, rfl, hx11, h111, h112, own11, b11⟩
                have hx11' : -100000 ≤ x11 ∧ x11 ≤ 100000 := by simp at hx11; omega
                have own11' := own11.drop
                have b11' := b10.trans b11
                have hf11 := hfm.out _ _ _ own11'
                have hput := CurAt.put (A := _ :: rowsOf _ _ _ _ _) own11' (by rw [hvq.out, hMq.out.1]) hM0 hum.out h0n.out q x11
                have hf12 := hfm.out _ _ _ hput.1
                have hMq2 := hid (hMq.out.set q (j := 0) (x := x11) (by omega) hx11')
                have hgc : w11.cell? ⟨gr, q, none⟩ = some (.int .i64 (nth (row Mq 0) q)) ∧ w11.frozen? ⟨gr, q, none⟩ = false := by
                  obtain ⟨R', hT⟩ := CurAt.tab (A := _ :: rowsOf _ _ _ _ _) own11'
                  exact rw_at hT hM0 hum.out h0n.out (by have := hqn.out; omega)
                have hgc0 := hgc.1
                have hgc1 := hgc.2
                go_wp2_with fail
                refine hK.out _ _ hf11 (fun _ => ?_)
                clear hK K
                try simp only [List.getElem_toArray, List.getElem_cons_succ, List.getElem_cons_zero, Act.put, List.setIfInBounds_toArray, List.set_cons_zero, List.set_cons_succ]
                refine wpAnyH_take (i := 9) (v := .pointer (some ⟨gr, q, none⟩)) rfl (by kernel_rfl) (by kernel_rfl) (by kernel_rfl) (fun _ _ _ h => h) (Or.inl ⟨by rfl, by intro wx hx; go_simp; have := hqn.out; intro hcc; omega⟩) (by assumption) ?_
                try simp only [List.getElem_toArray, List.getElem_cons_succ, List.getElem_cons_zero, Act.put, List.setIfInBounds_toArray, List.set_cons_zero, List.set_cons_succ]
                refine wpAnyH_ready (rs := [10]) (by kernel_rfl) (by simp) ?_
                refine AllReadyH.cons rfl (fun K hK => ?_) AllReadyH.nil
                go_simp
                refine hK.out _ _ hf12 (fun _ => ?_)
                clear hK K
                try simp only [List.getElem_toArray, List.getElem_cons_succ, List.getElem_cons_zero, Act.put, List.setIfInBounds_toArray, List.set_cons_zero, List.set_cons_succ]
                refine wpAnyH_done (by kernel_rfl) ?_ _
                have own13 := hput.1
                have b13 := b11'.setCell hput.2 (p := ⟨gr, q, none⟩) (.int .i64 x11)
                generalize Mq.set 0 ((row Mq 0).set q x11) = M2 at *
                generalize w11.setCell ⟨gr, q, none⟩ (.int .i64 x11) = w13 at *
                clear own9 own10 own11 own11' b9 b10 b11 b11' hf10 hf11 hf12 hput hgc hgc0 hgc1 e10
                have own14 : CurAt w13 B c vc a11 (boxRow 26 2 pb [.slice (some ⟨gm, 0, none⟩) n mq, .slice (some ⟨gs, 0, none⟩) S.length sm] :: ((rowsOf 29 3 (.slice (some ⟨gs, 0, none⟩) S.length sm) ws S ++ rowsOf 29 3 (.slice (some ⟨gm, 0, none⟩) n mq) vq M2) ++ (boxRow 26 2 r [.slice none 0 0, .slice none 0 0] :: R))) := by
                  rw [List.append_assoc]; exact own13
                have hZR := hid (zr_norm (B := B) (sd := some ⟨gs, 0, none⟩) (sm := sm) (dq := some ⟨gm, 0, none⟩) (mq := mq) (S := S) (ws := ws) hws (by omega) hSok hvq.out hMq2.out (by omega))
                have hMB : 1 ≤ M2.length ∧ M2.length ≤ 5 := by rw [hMq2.out.1]; omega
                have hSB : 1 ≤ S.length ∧ S.length ≤ 16 := by omega
                clear own13
                go_upto_region 34 with fail
                have c0 := (own14.at (.head _) (j := 0) (by omega)).1
                have c1 := (own14.at (.head _) (j := 1) (by omega)).1
                have r0 := own14.at (e := 26) (z := 2) (b := r) (cs := [.slice none 0 0, .slice none 0 0]) (.tail _ (List.mem_append_right _ (.head _))) (j := 0) (by omega)
                have r1 := own14.at (e := 26) (z := 2) (b := r) (cs := [.slice none 0 0, .slice none 0 0]) (.tail _ (List.mem_append_right _ (.head _))) (j := 1) (by omega)
                have r00 := r0.1
                have r01 := r0.2
                have r10 := r1.1
                have r11 := r1.2
                simp only [List.getD_eq_getElem?_getD, List.getElem?_cons_zero, List.getElem?_cons_succ, Option.getD_some] at c0 c1 r00 r10
                have ownF := CurAt.fin (v0 := .slice (some ⟨gm, 0, none⟩) n mq) (v1 := .slice (some ⟨gs, 0, none⟩) S.length sm) own14
                have q0 : ((w13.setCell ⟨r, 0, none⟩ (.slice (some ⟨gm, 0, none⟩) n mq)).setCell ⟨r, 1, none⟩ (.slice (some ⟨gs, 0, none⟩) S.length sm)).cell? ⟨r, 0, none⟩ = some (.slice (some ⟨gm, 0, none⟩) n mq) := by go_simp
                have q1 : ((w13.setCell ⟨r, 0, none⟩ (.slice (some ⟨gm, 0, none⟩) n mq)).setCell ⟨r, 1, none⟩ (.slice (some ⟨gs, 0, none⟩) S.length sm)).cell? ⟨r, 1, none⟩ = some (.slice (some ⟨gs, 0, none⟩) S.length sm) := by go_simp
                clear r0 r1
                go_wp2
                refine bodyPost_ret (v := .agg #[.slice (some ⟨gm, 0, none⟩) n mq, .slice (some ⟨gs, 0, none⟩) S.length sm]) (by simp [results, Try.results31, go_sem, q0, q1]) rfl ?_
                exact ⟨_, _, _, _, _, _, rfl, (hMB).1, (hMB).2, (hSB).1, (hSB).2, by omega, by omega, ownF.1, hZR.out, b13.trans ownF.2⟩
              · by_cases hx4 : x = 4
                · go_upto_region 31 with fail
                  have ed : Ext w8 w8.drew := inferInstance
                  have own9 := own8.ext (w' := w8.drew)
                  have b9 : Below B w w8.drew := b8'.drew
                  have hf9 := hfacts.out _ _ S rfl own9
                  clear own8 b8' h8x ed
                  refine wp_region_E_drew (X := fun i => i == 12) (S := fun w' => w'.cell? ⟨pb, 1, none⟩ = some (.slice (some ⟨gs, 0, none⟩) S.length sm) ∧ True) (by kernel_rfl) ⟨hf9.1, trivial⟩ (fun hHeld0 => ?_)
                  generalize w8.drew = w9 at *
                  have hB9 := own9.size
                  obtain ⟨s9, h9⟩ := own9
                  have h10 := ow_front (A := [curRow c vc a8 s9, boxRow 26 2 pb [.slice dq n mq, .slice (some ⟨gs, 0, none⟩) S.length sm]]) (T := rowsOf 29 3 (.slice (some ⟨gs, 0, none⟩) S.length sm) ws S) h9
                  have h1c := hid (rows_one h10 hws)
                  have hEach := fun u (hu : Own u B (rowsOf 29 3 (.slice (some ⟨gs, 0, none⟩) S.length sm) ws S ++ [])) => EachInts.of hu hws hSok.short.1 hSok.short.2
                  have h11 : Own w9 B (⟨29, 1, .slice (some ⟨gs, 0, none⟩) S.length sm, S.length, ws⟩ :: (List.zipWith (intRowOf 3) ws S ++ ([curRow c vc a8 s9, boxRow 26 2 pb [.slice dq n mq, .slice (some ⟨gs, 0, none⟩) S.length sm]] ++ (rowsOf 29 3 (.slice dq n mq) vq Mq ++ (boxRow 26 2 r [.slice none 0 0, .slice none 0 0] :: R))))) := by
                    have h := h10
                    unfold rowsOf valRowOf at h
                    rw [hws] at h
                    exact h
                  have hk9 : Keeps w9 gs ws (.slice (some ⟨gs, 0, none⟩) S.length sm) ws := by
                    refine ⟨fun j u hu => ?_, (h11.lt).2, fun _ j u hu => hu⟩
                    have hj : j < S.length := by rw [← hws]; exact (List.getElem?_eq_some_iff.1 hu).1
                    rw [h11.cellAt (w' := w9) hj, List.getD_eq_getElem?_getD, hu]; rfl
                  clear h10 h9
                  replace hEach := hid hEach
                  have hq4 : S.length ≤ 4 := hS1.2
                  refine wpAnyE_take (i := 0) (v := .pointer (some ⟨pb, 1, none⟩)) rfl (by kernel_rfl) (by kernel_rfl) (by kernel_rfl) (fun _ _ _ h => h) (Or.inl ⟨by rfl, by intro wx hx; go_simp⟩) (by assumption) ?_
                  try simp only [List.getElem_toArray, List.getElem_cons_zero, Act.put, List.setIfInBounds_toArray, List.set_cons_zero, List.set_cons_succ]
                  refine wpAnyE_take (i := 1) (v := .slice (some ⟨gs, 0, none⟩) S.length sm) rfl (by kernel_rfl) (by kernel_rfl) (by kernel_rfl) (fun _ _ _ h => h) (Or.inl ⟨by rfl, by intro wx hx; obtain ⟨_, _⟩ := hx; go_simp⟩) (by assumption) ?_
                  try simp only [List.getElem_toArray, List.getElem_cons_succ, List.getElem_cons_zero, Act.put, List.setIfInBounds_toArray, List.set_cons_zero, List.set_cons_succ]
                  refine wpAnyE_take (i := 2) (v := .pointer (some ⟨pb, 1, none⟩)) rfl (by kernel_rfl) (by kernel_rfl) (by kernel_rfl) (fun _ _ _ h => h) (Or.inl ⟨by rfl, by intro wx hx; go_simp⟩) (by assumption) ?_
                  try simp only [List.getElem_toArray, List.getElem_cons_succ, List.getElem_cons_zero, Act.put, List.setIfInBounds_toArray, List.set_cons_zero, List.set_cons_succ]
                  refine wpAnyE_take (i := 3) (v := .slice (some ⟨gs, 0, none⟩) S.length sm) rfl (by kernel_rfl) (by kernel_rfl) (by kernel_rfl) (fun _ _ _ h => h) (Or.inl ⟨by rfl, by intro wx hx; obtain ⟨_, _⟩ := hx; go_simp⟩) (by assumption) ?_
                  try simp only [List.getElem_toArray, List.getElem_cons_succ, List.getElem_cons_zero, Act.put, List.setIfInBounds_toArray, List.set_cons_zero, List.set_cons_succ]
                  refine wpAnyE_take (i := 5) (v := .pointer (some ⟨pb, 1, none⟩)) rfl (by kernel_rfl) (by kernel_rfl) (by kernel_rfl) (fun _ _ _ h => h) (Or.inl ⟨by rfl, by intro wx hx; go_simp⟩) (by assumption) ?_
                  try simp only [List.getElem_toArray, List.getElem_cons_succ, List.getElem_cons_zero, Act.put, List.setIfInBounds_toArray, List.set_cons_zero, List.set_cons_succ]
                  refine wpAnyE_take (i := 6) (v := .slice (some ⟨gs, 0, none⟩) S.length sm) rfl (by kernel_rfl) (by kernel_rfl) (by kernel_rfl) (fun _ _ _ h => h) (Or.inl ⟨by rfl, by intro wx hx; obtain ⟨_, _⟩ := hx; go_simp⟩) (by assumption) ?_
                  try simp only [List.getElem_toArray, List.getElem_cons_succ, List.getElem_cons_zero, Act.put, List.setIfInBounds_toArray, List.set_cons_zero, List.set_cons_succ]
                  refine wpAnyE_take (i := 8) (v := .pointer (some ⟨pb, 1, none⟩)) rfl (by kernel_rfl) (by kernel_rfl) (by kernel_rfl) (fun _ _ _ h => h) (Or.inl ⟨by rfl, by intro wx hx; go_simp⟩) (by assumption) ?_
                  try simp only [List.getElem_toArray, List.getElem_cons_succ, List.getElem_cons_zero, Act.put, List.setIfInBounds_toArray, List.set_cons_zero, List.set_cons_succ]
                  refine wpAnyE_take (i := 9) (v := .slice (some ⟨gs, 0, none⟩) S.length sm) rfl (by kernel_rfl) (by kernel_rfl) (by kernel_rfl) (fun _ _ _ h => h) (Or.inl ⟨by rfl, by intro wx hx; obtain ⟨_, _⟩ := hx; go_simp⟩) (by assumption) ?_
                  try simp only [List.getElem_toArray, List.getElem_cons_succ, List.getElem_cons_zero, Act.put, List.setIfInBounds_toArray, List.set_cons_zero, List.set_cons_succ]
                  refine wpAnyE_ready (rs := [4]) (by kernel_rfl) (by simp) ?_
                  refine AllReadyE.cons rfl (fun K hK => ?_) AllReadyE.nil
                  refine step_appendN rfl (.tmp 139) (.tmp 141) 24 rfl elemInts rfl h11 hB9 (news := ws) hws rfl hk9.1 h1c.out (by omega) (by omega) ?_
                  intro v1 w10 ho1 hb1 hg1 hd1
                  have hk10 := hk9.next ho1 hg1 hd1
                  have hbx1 : w10.cell? ⟨pb, 1, none⟩ = some (.slice (some ⟨gs, 0, none⟩) S.length sm) := ow_cell ho1 (List.mem_cons_of_mem _ (List.mem_append_right _ (.tail _ (.head _)))) (j := 1) (by omega)
                  have hB10 : B ≤ w10.heap.size := Nat.le_trans hB9 hb1.size
                  have hs10 : w10.cell? ⟨pb, 1, none⟩ = some (.slice (some ⟨gs, 0, none⟩) S.length sm) ∧ True := ⟨hbx1, trivial⟩
                  refine hK.out _ _ (.inr hs10) (fun _ => ?_)
                  clear hK K
                  try simp only [List.getElem_toArray, List.getElem_cons_succ, List.getElem_cons_zero, Act.put, List.setIfInBounds_toArray, List.set_cons_zero, List.set_cons_succ]
                  refine wpAnyE_ready (rs := [7]) (by kernel_rfl) (by simp) ?_
                  refine AllReadyE.cons rfl (fun K hK => ?_) AllReadyE.nil
                  refine step_appendN rfl (.tmp 142) (.tmp 144) 24 rfl elemInts rfl ho1 hB10 (news := ws) hws rfl hk10.1 h1c.out (by omega) (by omega) ?_
                  intro v2 w11 ho2 hb2 hg2 hd2
                  have hk11 := hk10.next ho2 hg2 hd2
                  have hbx2 : w11.cell? ⟨pb, 1, none⟩ = some (.slice (some ⟨gs, 0, none⟩) S.length sm) := ow_cell ho2 (List.mem_cons_of_mem _ (List.mem_append_right _ (.tail _ (.head _)))) (j := 1) (by omega)
                  have hB11 : B ≤ w11.heap.size := Nat.le_trans hB10 hb2.size
                  have hs11 : w11.cell? ⟨pb, 1, none⟩ = some (.slice (some ⟨gs, 0, none⟩) S.length sm) ∧ True := ⟨hbx2, trivial⟩
                  refine hK.out _ _ (.inr hs11) (fun _ => ?_)
                  clear hK K
                  try simp only [List.getElem_toArray, List.getElem_cons_succ, List.getElem_cons_zero, Act.put, List.setIfInBounds_toArray, List.set_cons_zero, List.set_cons_succ]
                  refine wpAnyE_ready (rs := [10]) (by kernel_rfl) (by simp) ?_
                  refine AllReadyE.cons rfl (fun K hK => ?_) AllReadyE.nil
                  refine step_appendN rfl (.tmp 145) (.tmp 147) 24 rfl elemInts rfl ho2 hB11 (news := ws) hws rfl hk11.1 h1c.out (by omega) (by omega) ?_
                  intro v3 w12 ho3 hb3 hg3 hd3
                  obtain ⟨d3, m3, hv3⟩ := ho3.form
                  have hv3' : v3 = .slice d3 (S.length + S.length + S.length + S.length) m3 := hv3
                  subst hv3'
                  clear hv3
                  have hbx3 : w12.cell? ⟨pb, 1, none⟩ = some (.slice (some ⟨gs, 0, none⟩) S.length sm) := ow_cell ho3 (List.mem_cons_of_mem _ (List.mem_append_right _ (.tail _ (.head _)))) (j := 1) (by omega)
                  have hbx3f := ow_frozen ho3 (e := 26) (z := 2) (g := pb) (n := 1) (c := 1) (cs := [.slice dq n mq, .slice (some ⟨gs, 0, none⟩) S.length sm]) (List.mem_cons_of_mem _ (List.mem_append_right _ (.tail _ (.head _)))) 1
                  have hs12 : w12.cell? ⟨pb, 1, none⟩ = some (.slice (some ⟨gs, 0, none⟩) S.length sm) ∧ True := ⟨hbx3, trivial⟩
                  refine hK.out _ _ (.inr hs12) (fun _ => ?_)
                  clear hK K
                  try simp only [List.getElem_toArray, List.getElem_cons_succ, List.getElem_cons_zero, Act.put, List.setIfInBounds_toArray, List.set_cons_zero, List.set_cons_succ]
                  refine wpAnyE_take (i := 11) (v := .pointer (some ⟨pb, 1, none⟩)) rfl (by kernel_rfl) (by kernel_rfl) (by kernel_rfl) (fun _ _ _ h => h) (Or.inl ⟨by rfl, by intro wx hx; go_simp⟩) (by assumption) ?_
                  try simp only [List.getElem_toArray, List.getElem_cons_succ, List.getElem_cons_zero, Act.put, List.setIfInBounds_toArray, List.set_cons_zero, List.set_cons_succ]
                  have hcu : CurAt w12 B c vc a8 (boxRow 26 2 pb [.slice dq n mq, .slice (some ⟨gs, 0, none⟩) S.length sm] :: (((⟨29, 1, .slice d3 (S.length + S.length + S.length + S.length) m3, S.length + S.length + S.length + S.length, ws ++ ws ++ ws ++ ws⟩ : Row) :: List.zipWith (intRowOf 3) ws S) ++ (rowsOf 29 3 (.slice dq n mq) vq Mq ++ (boxRow 26 2 r [.slice none 0 0, .slice none 0 0] :: R)))) :=
                    ⟨s9, ow_front (A := (⟨29, 1, .slice d3 (S.length + S.length + S.length + S.length) m3, S.length + S.length + S.length + S.length, ws ++ ws ++ ws ++ ws⟩ : Row) :: List.zipWith (intRowOf 3) ws S) (T := [curRow c vc a8 s9, boxRow 26 2 pb [.slice dq n mq, .slice (some ⟨gs, 0, none⟩) S.length sm]]) (R := (rowsOf 29 3 (.slice dq n mq) vq Mq ++ (boxRow 26 2 r [.slice none 0 0, .slice none 0 0] :: R))) ho3⟩
                  have hset4 := CurAt.set (A := []) hcu 1 (.slice d3 (S.length + S.length + S.length + S.length) m3)
                  have hcu4 : CurAt (w12.setCell ⟨pb, 1, none⟩ (.slice d3 (S.length + S.length + S.length + S.length) m3)) B c vc a8 (boxRow 26 2 pb [.slice dq n mq, .slice d3 (S.length + S.length + S.length + S.length) m3] :: ((((⟨29, 1, .slice d3 (S.length + S.length + S.length + S.length) m3, S.length + S.length + S.length + S.length, ws ++ ws ++ ws ++ ws⟩ : Row) :: List.zipWith (intRowOf 3) ws S) ++ rowsOf 29 3 (.slice dq n mq) vq Mq) ++ (boxRow 26 2 r [.slice none 0 0, .slice none 0 0] :: R))) := by
                    rw [List.append_assoc]; exact hset4.1
                  have b13 := (((b9.trans hb1).trans hb2).trans hb3).setCell hset4.2 (p := ⟨pb, 1, none⟩) (.slice d3 (S.length + S.length + S.length + S.length) m3)
                  have hl4 : (S ++ S ++ S ++ S).length = S.length + S.length + S.length + S.length := by simp only [List.length_append]
                  have hw4 : (ws ++ ws ++ ws ++ ws).length = S.length + S.length + S.length + S.length := by simp only [List.length_append, hws]
                  have hZR := hid (show ∀ u, Own u B (((⟨29, 1, .slice d3 (S.length + S.length + S.length + S.length) m3, S.length + S.length + S.length + S.length, ws ++ ws ++ ws ++ ws⟩ : Row) :: List.zipWith (intRowOf 3) ws S) ++ rowsOf 29 3 (.slice dq n mq) vq Mq) → IsRows u (.slice dq n mq) Mq ∧ IsRows u (.slice d3 (S.length + S.length + S.length + S.length) m3) (S ++ S ++ S ++ S) from fun u hu => by
                    have hMr := (hMq.out.rows (by omega)).short
                    have hE1 : EachInts u ws S := by
                      refine ⟨hws, fun j hj => ?_⟩
                      obtain ⟨uu, huu⟩ : ∃ u, ws[j]? = some u := ⟨_, List.getElem?_eq_getElem (by omega)⟩
                      have e : ws.getD j undef = uu := by rw [List.getD_eq_getElem?_getD, huu]; rfl
                      rw [e]
                      have hz : (List.zipWith (intRowOf 3) ws S)[j]? = some (intRowOf 3 uu (row S j)) := by
                        have hj' : j < ws.length := by omega
                        rw [List.getElem?_zipWith, huu]
                        simp [row, hj]
                      have hz2 : ((List.zipWith (intRowOf 3) ws S) ++ rowsOf 29 3 (.slice dq n mq) vq Mq)[j]? = some (intRowOf 3 uu (row S j)) := by
                        rw [List.getElem?_append_left (by rw [List.length_zipWith]; omega)]
                        exact hz
                      have h3 : Own u B ((List.zipWith (intRowOf 3) ws S) ++ rowsOf 29 3 (.slice dq n mq) vq Mq) := hu.tail
                      exact (h3.pick hz2).reads (hSok.short.1 _ (row_mem hj)) (hSok.short.2 _ (row_mem hj))
                    have hE4 := ((hE1.app hE1).app hE1).app hE1
                    have h2 : Own u B (rowsOf 29 3 (.slice dq n mq) vq Mq ++ []) := by rw [List.append_nil]; exact hu.right
                    refine ⟨Own.readsAll h2 (by rw [hvq.out, hMq.out.1]) (by unfold ShortRows; rw [hMq.out.1]; omega) hMr.1 hMr.2, ?_⟩
                    refine Own.readsRows (B := B) (e := 29) (vs := ws ++ ws ++ ws ++ ws) (R := List.zipWith (intRowOf 3) ws S ++ rowsOf 29 3 (.slice dq n mq) vq Mq) ?_ (by unfold ShortRows; rw [hl4]; omega) hE4.1 hE4.2
                    have h5 : Own u B ((⟨29, 1, .slice d3 (S.length + S.length + S.length + S.length) m3, S.length + S.length + S.length + S.length, ws ++ ws ++ ws ++ ws⟩ : Row) :: (List.zipWith (intRowOf 3) ws S ++ rowsOf 29 3 (.slice dq n mq) vq Mq)) := hu
                    unfold valRowOf
                    rw [hw4]
                    exact h5)
                  have hfin1 : (w12.setCell ⟨pb, 1, none⟩ (.slice d3 (S.length + S.length + S.length + S.length) m3)).cell? ⟨pb, 1, none⟩ = some (.slice (some ⟨gs, 0, none⟩) S.length sm) ∨ True := .inr trivial
                  clear hfin1 hcu hset4
                  have hMB : 1 ≤ Mq.length ∧ Mq.length ≤ 5 := by rw [hMq.out.1]; omega
                  have hSB : 1 ≤ (S ++ S ++ S ++ S).length ∧ (S ++ S ++ S ++ S).length ≤ 16 := by rw [hl4]; omega
                  refine wpAnyE_ready (rs := [12]) (by kernel_rfl) (by simp) ?_
                  refine AllReadyE.cons rfl (fun K hK => ?_) AllReadyE.nil
                  go_simp
                  refine hK.out _ _ (.inl rfl) (fun _ => ?_)
                  clear hK K
                  try simp only [List.getElem_toArray, List.getElem_cons_succ, List.getElem_cons_zero, Act.put, List.setIfInBounds_toArray, List.set_cons_zero, List.set_cons_succ]
                  refine wpAnyE_done (by kernel_rfl) ?_ _
                  generalize w12.setCell ⟨pb, 1, none⟩ (.slice d3 (S.length + S.length + S.length + S.length) m3) = w13 at *
                  clear ho1 ho2 ho3 hb1 hb2 hb3 hg1 hg2 hg3 hd1 hd2 hd3 hk9 hk10 hk11 hbx1 hbx2 hbx3 hbx3f hs10 hs11 hs12 h11 b9
                  go_upto_region 34 with fail
                  have c0 := (hcu4.at (.head _) (j := 0) (by omega)).1
                  have c1 := (hcu4.at (.head _) (j := 1) (by omega)).1
                  have r0 := hcu4.at (e := 26) (z := 2) (b := r) (cs := [.slice none 0 0, .slice none 0 0]) (.tail _ (List.mem_append_right _ (.head _))) (j := 0) (by omega)
                  have r1 := hcu4.at (e := 26) (z := 2) (b := r) (cs := [.slice none 0 0, .slice none 0 0]) (.tail _ (List.mem_append_right _ (.head _))) (j := 1) (by omega)
                  have r00 := r0.1
                  have r01 := r0.2
                  have r10 := r1.1
                  have r11 := r1.2
                  simp only [List.getD_eq_getElem?_getD, List.getElem?_cons_zero, List.getElem?_cons_succ, Option.getD_some] at c0 c1 r00 r10
                  have ownF := CurAt.fin (v0 := .slice dq n mq) (v1 := .slice d3 (S.length + S.length + S.length + S.length) m3) hcu4
                  have q0 : ((w13.setCell ⟨r, 0, none⟩ (.slice dq n mq)).setCell ⟨r, 1, none⟩ (.slice d3 (S.length + S.length + S.length + S.length) m3)).cell? ⟨r, 0, none⟩ = some (.slice dq n mq) := by go_simp
                  have q1 : ((w13.setCell ⟨r, 0, none⟩ (.slice dq n mq)).setCell ⟨r, 1, none⟩ (.slice d3 (S.length + S.length + S.length + S.length) m3)).cell? ⟨r, 1, none⟩ = some (.slice d3 (S.length + S.length + S.length + S.length) m3) := by go_simp
                  clear r0 r1
                  go_wp2
                  refine bodyPost_ret (v := .agg #[.slice dq n mq, .slice d3 (S.length + S.length + S.length + S.length) m3]) (by simp [results, Try.results31, go_sem, q0, q1]) rfl ?_
                  exact ⟨_, _, _, _, _, _, rfl, (hMB).1, (hMB).2, (hSB).1, (hSB).2, by omega, by omega, ownF.1, hZR.out, b13.trans ownF.2⟩
                · by_cases hx5 : x = 5
                  · have hfld := fieldDist
                    go_wp2_with fail
                    refine (l6Uniform_any (n := 5) (d := 1) (by omega) w8).mono ?_
                    rintro e w9 ⟨d5, m5, v5, rfl, hv5, hown5, he5⟩
                    have hM5 : TabOk (uniTab (fun x y => if x = y then 0 else (1 : Int)) 5 5) 5 := TabOk.uni (by omega)
                    generalize uniTab (fun x y => if x = y then 0 else (1 : Int)) 5 5 = M5 at *
                    have own9 := own8.join hown5 own8.size
                    have b9 : Below B w w9 := b8'.trans (he5.below.mono own8.size)
                    have own10 : CurAt w9 B c vc a8 (boxRow 26 2 pb [.slice dq n mq, .slice (some ⟨gs, 0, none⟩) S.length sm] :: ((rowsOf 29 3 (.slice (some ⟨gs, 0, none⟩) S.length sm) ws S ++ rowsOf 29 3 (.slice d5 5 m5) v5 M5) ++ (boxRow 26 2 r [.slice none 0 0, .slice none 0 0] :: R))) := by
                      refine (own9.sub (List.Sublist.append_left (((List.sublist_append_right (rowsOf 29 3 (.slice dq n mq) vq Mq) _).append_left _).cons_cons _) _)).perm ?_
                      refine List.Perm.trans ?_ List.perm_middle.symm
                      refine List.Perm.cons _ ?_
                      rw [List.append_assoc, ← List.append_assoc, ← List.append_assoc]
                      exact List.perm_append_comm.append_right _
                    have p0 := own10.at (.head _) (j := 0) (by omega)
                    have p00 : w9.cell? ⟨pb, 0, none⟩ = some (.slice dq n mq) := p0.1
                    have p01 := p0.2
                    have own11 := CurAt.set (A := []) own10 0 (.slice d5 5 m5)
                    have b11 := b9.setCell own11.2 (p := ⟨pb, 0, none⟩) (.slice d5 5 m5)
                    clear own8 b8' own9 own10 hown5 he5 p0
                    go_upto_region 34 with fail
                    generalize w9.setCell ⟨pb, 0, none⟩ (.slice d5 5 m5) = w11 at *
                    have hZR := hid (zr_norm (B := B) (sd := some ⟨gs, 0, none⟩) (sm := sm) (dq := d5) (mq := m5) hws (by omega) hSok hv5 hM5 (by omega))
                    have hMB : 1 ≤ M5.length ∧ M5.length ≤ 5 := by rw [hM5.1]; omega
                    have hSB : 1 ≤ S.length ∧ S.length ≤ 16 := by omega
                    have own12 : CurAt w11 B c vc a8 (boxRow 26 2 pb [.slice d5 5 m5, .slice (some ⟨gs, 0, none⟩) S.length sm] :: ((rowsOf 29 3 (.slice (some ⟨gs, 0, none⟩) S.length sm) ws S ++ rowsOf 29 3 (.slice d5 5 m5) v5 M5) ++ (boxRow 26 2 r [.slice none 0 0, .slice none 0 0] :: R))) := own11.1
                    clear p00 p01 own11 b9
                    have c0 := (own12.at (.head _) (j := 0) (by omega)).1
                    have c1 := (own12.at (.head _) (j := 1) (by omega)).1
                    have r0 := own12.at (e := 26) (z := 2) (b := r) (cs := [.slice none 0 0, .slice none 0 0]) (.tail _ (List.mem_append_right _ (.head _))) (j := 0) (by omega)
                    have r1 := own12.at (e := 26) (z := 2) (b := r) (cs := [.slice none 0 0, .slice none 0 0]) (.tail _ (List.mem_append_right _ (.head _))) (j := 1) (by omega)
                    have r00 := r0.1
                    have r01 := r0.2
                    have r10 := r1.1
                    have r11 := r1.2
                    simp only [List.getD_eq_getElem?_getD, List.getElem?_cons_zero, List.getElem?_cons_succ, Option.getD_some] at c0 c1 r00 r10
                    have ownF := CurAt.fin (v0 := .slice d5 5 m5) (v1 := .slice (some ⟨gs, 0, none⟩) S.length sm) own12
                    have q0 : ((w11.setCell ⟨r, 0, none⟩ (.slice d5 5 m5)).setCell ⟨r, 1, none⟩ (.slice (some ⟨gs, 0, none⟩) S.length sm)).cell? ⟨r, 0, none⟩ = some (.slice d5 5 m5) := by go_simp
                    have q1 : ((w11.setCell ⟨r, 0, none⟩ (.slice d5 5 m5)).setCell ⟨r, 1, none⟩ (.slice (some ⟨gs, 0, none⟩) S.length sm)).cell? ⟨r, 1, none⟩ = some (.slice (some ⟨gs, 0, none⟩) S.length sm) := by go_simp
                    clear r0 r1
                    go_wp2
                    refine bodyPost_ret (v := .agg #[.slice d5 5 m5, .slice (some ⟨gs, 0, none⟩) S.length sm]) (by simp [results, Try.results31, go_sem, q0, q1]) rfl ?_
                    exact ⟨_, _, _, _, _, _, rfl, (hMB).1, (hMB).2, (hSB).1, (hSB).2, by omega, by omega, ownF.1, hZR.out, b11.trans ownF.2⟩
                  · go_upto_region 34 with fail
                    have own9 : CurAt w8 B c vc a8 (boxRow 26 2 pb [.slice dq n mq, .slice (some ⟨gs, 0, none⟩) S.length sm] :: ((rowsOf 29 3 (.slice (some ⟨gs, 0, none⟩) S.length sm) ws S ++ rowsOf 29 3 (.slice dq n mq) vq Mq) ++ (boxRow 26 2 r [.slice none 0 0, .slice none 0 0] :: R))) := by
                      rw [List.append_assoc]; exact own8
                    have hZR := hid (zr_norm (B := B) (sd := some ⟨gs, 0, none⟩) (sm := sm) (dq := dq) (mq := mq) hws (by omega) hSok hvq.out hMq.out (by omega))
                    have hMB : 1 ≤ Mq.length ∧ Mq.length ≤ 5 := by rw [hMq.out.1]; omega
                    have hSB : 1 ≤ S.length ∧ S.length ≤ 16 := by omega
                    have c0 := (own9.at (.head _) (j := 0) (by omega)).1
                    have c1 := (own9.at (.head _) (j := 1) (by omega)).1
                    have r0 := own9.at (e := 26) (z := 2) (b := r) (cs := [.slice none 0 0, .slice none 0 0]) (.tail _ (List.mem_append_right _ (.head _))) (j := 0) (by omega)
                    have r1 := own9.at (e := 26) (z := 2) (b := r) (cs := [.slice none 0 0, .slice none 0 0]) (.tail _ (List.mem_append_right _ (.head _))) (j := 1) (by omega)
                    have r00 := r0.1
                    have r01 := r0.2
                    have r10 := r1.1
                    have r11 := r1.2
                    simp only [List.getD_eq_getElem?_getD, List.getElem?_cons_zero, List.getElem?_cons_succ, Option.getD_some] at c0 c1 r00 r10
                    have ownF := CurAt.fin (v0 := .slice dq n mq) (v1 := .slice (some ⟨gs, 0, none⟩) S.length sm) own9
                    have q0 : ((w8.setCell ⟨r, 0, none⟩ (.slice dq n mq)).setCell ⟨r, 1, none⟩ (.slice (some ⟨gs, 0, none⟩) S.length sm)).cell? ⟨r, 0, none⟩ = some (.slice dq n mq) := by go_simp
                    have q1 : ((w8.setCell ⟨r, 0, none⟩ (.slice dq n mq)).setCell ⟨r, 1, none⟩ (.slice (some ⟨gs, 0, none⟩) S.length sm)).cell? ⟨r, 1, none⟩ = some (.slice (some ⟨gs, 0, none⟩) S.length sm) := by go_simp
                    clear r0 r1
                    go_wp2
                    refine bodyPost_ret (v := .agg #[.slice dq n mq, .slice (some ⟨gs, 0, none⟩) S.length sm]) (by simp [results, Try.results31, go_sem, q0, q1]) rfl ?_
                    exact ⟨_, _, _, _, _, _, rfl, (hMB).1, (hMB).2, (hSB).1, (hSB).2, by omega, by omega, ownF.1, hZR.out, b8'.trans ownF.2⟩
end Go.Proofs.Ytkniohcmhdgbeaa
