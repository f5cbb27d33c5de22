/- The draw of a tree's lists: DrawTreeMetric. -/
import Derived.Test.YtnlbjbnjjkilhaaMtD
import Derived.Test.YtnlbjbnjjkilhaaSrs
import Derived.Deep.DeepCutAuto
namespace Go.Proofs.Ytnlbjbnjjkilhaa
open Go.RowKit

/-- the cursor at its start (as in the draws of problems) -/
theorem CurAt.startT {w : World} {B : Nat} {vc : Value} {R : List Row} (h : Own w B R) (hB : B ≤ w.heap.size) : CurAt (w.alloc (.cells #[vc, .int .i64 0, .int .u64 0] 50)) B w.heap.size vc 0 R :=
  ⟨0, h.lit 50 3 1 #[vc, .int .i64 0, .int .u64 0] hB (by unfold maxLen; omega) rfl⟩

/-- small numbers in a drawn list -/
def SmQ (L : List Int) : Prop := ∀ x ∈ L, -1 ≤ x ∧ x ≤ 100
theorem SmQ.nil : SmQ [] := fun x hx => by simp at hx
theorem SmQ.snoc {L : List Int} {x : Int} (h : SmQ L) (hx : -1 ≤ x ∧ x ≤ 100) : SmQ (L ++ [x]) := fun y hy => by
  rcases List.mem_append.1 hy with h1 | h1
  · exact h y h1
  · rw [List.mem_singleton.1 h1]; exact hx
theorem SmQ.set {L : List Int} (h : SmQ L) {j : Nat} {x : Int} (hx : -1 ≤ x ∧ x ≤ 100) : SmQ (L.set j x) := fun y hy => by
  rcases List.mem_or_eq_of_mem_set hy with h1 | h1
  · exact h y h1
  · rw [h1]; exact hx
/-- a list of ints of one's own, its slice of any form -/
abbrev lsQ (d : Option Addr) (n cp : Nat) (L : List Int) : Row := ⟨3, 1, .slice d n cp, n, L.map (Value.int .i64)⟩
theorem lsQ_row {d : Option Addr} {n cp : Nat} {L : List Int} (h : L.length = n) : lsQ d n cp L = intRowOf 3 (.slice d n cp) L := by
  unfold intRowOf
  rw [h]
theorem lsQ_reads {w : World} {B n cp : Nat} {d : Option Addr} {L : List Int} {R : List Row} (h : Own w B (lsQ d n cp L :: R)) (hn : L.length = n) (hl : n ≤ 1000) (hs : SmQ L) : IsInts w (.slice d n cp) L := by
  rw [lsQ_row hn] at h
  exact h.reads (by unfold Short; omega) (fun y hy => by have := hs y hy; unfold I64; omega)
theorem CurAt.qAt {w : World} {B c n cp : Nat} {d : Option Addr} {vc : Value} {a : Int} {L : List Int} {R : List Row} (h : CurAt w B c vc a (lsQ d n cp L :: R)) (hn : L.length = n) {j : Nat} (hj : j < n) :
    ∃ g, d = some ⟨g, 0, none⟩ ∧ (w.cell? ⟨g, j, none⟩ = some (.int .i64 (nth L j)) ∧ w.frozen? ⟨g, j, none⟩ = false) ∧ (∀ x, CurAt (w.setCell ⟨g, j, none⟩ (.int .i64 x)) B c vc a (lsQ d n cp (L.set j x) :: R)) ∧ B ≤ g := by
  obtain ⟨g, rfl⟩ := h.rows.at hj
  refine ⟨g, rfl, ?_⟩
  obtain ⟨s, h⟩ := h
  have h1 := h.perm (List.Perm.swap _ _ _)
  refine ⟨⟨?_, h1.frozenAt j⟩, fun x => ⟨s, ?_⟩, h1.lt.1⟩
  · rw [h1.cellAt (w' := w) hj]
    simp [nth, show j < L.length by omega]
  · have h2 := h1.set j (.int .i64 x)
    rw [← List.map_set] at h2
    exact h2.perm (List.Perm.swap _ _ _)
/-- what a draw of a tree gives -/
def DTPost (w : World) (e : Ending) (w' : World) : Prop :=
  ∃ pv lv P L, e = .returned (.tuple #[pv, lv]) ∧ (P : List Int).length ≤ 6 ∧ (L : List Int).length ≤ 6 ∧ IsInts w' pv P ∧ IsInts w' lv L ∧ Ext w w'
theorem perm_cab {a b c : Row} : [c, a, b].Perm [a, b, c] := List.perm_append_comm (l₁ := [c]) (l₂ := [a, b])
theorem perm_bca {a b c : Row} : [b, c, a].Perm [a, b, c] := List.perm_append_comm (l₁ := [b, c]) (l₂ := [a])
set_option maxHeartbeats 6400000 in
set_option maxRecDepth 100000 in
theorem drawTM_any {w0 w : World} [Ext w0 w] {vc : Value} {nb : Nat} (hc : IsBytes w0 vc nb) :
    Calls Try.prog 5 #[vc] w (DTPost w) := by
  obtain ⟨ac, cc, rfl⟩ := hc.form
  obtain ⟨PO, hPO⟩ : ∃ P, P = DTPost w := ⟨_, rfl⟩
  rw [← hPO]
  go_enter Try.func5, Try.ntmps5
  go_upto_region 2 with fail
  have hsz : w0.heap.size ≤ w.heap.size := (‹Ext w0 w›).size
  have own1 := CurAt.startT (vc := .slice ac nb cc) (Own.nil w w.heap.size) (Nat.le_refl _)
  have e1 : Ext w (w.alloc (.cells #[.slice ac nb cc, .int .i64 0, .int .u64 0] 50)) := inferInstance
  obtain ⟨c, hcd⟩ : ∃ c, c = w.heap.size := ⟨_, rfl⟩
  obtain ⟨B, hBd⟩ : ∃ B, B = w.heap.size := ⟨_, rfl⟩
  have own1' : CurAt (w.alloc (.cells #[.slice ac nb cc, .int .i64 0, .int .u64 0] 50)) B c (.slice ac nb cc) 0 [] := by
    rw [hBd, hcd]; exact own1
  have hwB : w0.heap.size ≤ B := by omega
  have b1 : Below B w (w.alloc (.cells #[.slice ac nb cc, .int .i64 0, .int .u64 0] 50)) := by rw [hBd]; exact e1.below
  rw [← hcd]
  generalize w.alloc (.cells #[.slice ac nb cc, .int .i64 0, .int .u64 0] 50) = w1 at *
  replace hcd := hid hcd
  have hBs := hid (show ∀ u, Below B w u → B ≤ u.heap.size from fun u h => by rw [hBd]; exact h.size)
  have hEw := hid (show ∀ u, Below B w u → Ext w u from fun u h => ⟨by rw [← hBd]; exact h⟩)
  replace hBd := hid hBd
  have hE : ∀ u, Below B w u → Ext w0 u := fun u h => ⟨(‹Ext w0 w›).below.trans (h.mono hwB)⟩
  replace hE := hid hE
  clear own1 e1
  have hfin := hid (show ∀ pv lv P L e u, e = .returned (.tuple #[pv, lv]) → (P : List Int).length ≤ 6 → (L : List Int).length ≤ 6 → IsInts u pv P → IsInts u lv L → Below B w u → PO e u from fun pv lv P L e u h1 h2 h3 h4 h5 h6 => by
    rw [hPO]; exact ⟨pv, lv, P, L, h1, h2, h3, h4, h5, hEw.out _ h6⟩)
  replace hPO := hid hPO
  have hB1 := hBs.out _ b1
  have own2 := CurAt.lit (e := 3) (n := 0) (cs := #[]) own1' [] hB1 rfl rfl (by simp)
  have b2 := b1.alloc hB1 (.cells #[] 3)
  clear own1' b1
  go_upto_region 3 with fail
  have hB2 := hBs.out _ b2
  have own3 := CurAt.lit (e := 3) (n := 0) (cs := #[]) own2 [] hB2 rfl rfl (by simp)
  have b3 := b2.alloc hB2 (.cells #[] 3)
  rw [show (w1.alloc (.cells #[] 3)).heap.size = w1.heap.size + 1 by simp] at own3
  generalize w1.heap.size = g1 at *
  generalize (w1.alloc (.cells #[] 3)).alloc (.cells #[] 3) = w3 at *
  have hB3 := hBs.out _ b3
  have own4 := CurAt.lit (e := 3) (n := 7) (cs := #[.int .i64 0, .int .i64 1, .int .i64 2, .int .i64 3, .int .i64 4, .int .i64 5, .int .i64 6]) own3 [0, 1, 2, 3, 4, 5, 6] hB3 rfl rfl (by simp)
  have b4 := b3.alloc hB3 (.cells #[.int .i64 0, .int .i64 1, .int .i64 2, .int .i64 3, .int .i64 4, .int .i64 5, .int .i64 6] 3)
  have e04 := hE.out _ b4
  clear own2 own3 b2 b3 hB1 hB2
  go_wp2_with fail
  with_reducible refine (among_any (w0 := w0) hc own4 hwB (by omega) (by omega) (by simp) (by simp)).mono ?_
  rintro e w5 ⟨y, a5, rfl, hy, h51, h52, own5, b5⟩
  have b5' := b4.trans b5
  have own6 := own5.drop
  have own7 : CurAt w5 B c (.slice ac nb cc) a5 [lsQ (some ⟨g1, 0, none⟩) 0 0 [], lsQ (some ⟨g1 + 1, 0, none⟩) 0 0 []] := own6.perm (List.Perm.swap _ _ _)
  have hyb : ∃ n : Nat, y = n ∧ n ≤ 6 := ⟨y.toNat, by simp only [List.mem_cons, List.not_mem_nil, or_false] at hy; omega⟩
  obtain ⟨n, rfl, hn6⟩ := hyb
  clear own4 b4 e04 own5 b5 own6 hy hB3
  have hS0 := hid SmQ.nil
  go_wp2_with fail
  go_loopw [5, 6, 7] (fun pv lv xv wr => ∃ (i : Nat) (dA : Option Addr) (pA : Nat) (P : List Int) (dB : Option Addr) (pB : Nat) (L : List Int) (a' : Int), pv = .slice dA i pA ∧ lv = .slice dB i pB ∧ xv = .int .i64 ((i : Int) + 1) ∧ i ≤ n ∧ Hid (P.length = i) ∧ Hid (SmQ P) ∧ Hid (L.length = i) ∧ Hid (SmQ L) ∧ 0 ≤ a' ∧ a' ≤ 2 + 4 * (i : Int) ∧ CurAt wr B c (.slice ac nb cc) a' [lsQ dA i pA P, lsQ dB i pB L] ∧ Below B w wr) (fun _ _ xv _ => n + 1 - (intOf xv).toNat)
  case atStart => exact ⟨0, _, _, [], _, _, [], a5, rfl, rfl, rfl, by omega, hid rfl, hS0, hid rfl, hS0, by omega, by omega, own7, b5'⟩
  case round =>
    clear own7 b5' h51 h52 hS0
    obtain ⟨i, dA, pA, P, dB, pB, L, a6, rfl, rfl, rfl, hin, hPl, hPs, hLl, hLs, h61, h62, own, hb⟩ := hrel
    obtain ⟨wo, rfl⟩ : ∃ y : World, y = wr := ⟨_, rfl⟩
    by_cases hlt : i < n
    · have e0o := hE.out _ hb
      go_wp2_with fail
      with_reducible refine (pick_any (w0 := w0) hc own hwB (by omega) (by omega)).mono ?_
      rintro e w7 ⟨x, a7, rfl, hx0, _, hx2, h71, h72, own7, b7⟩
      have hx3 := hx2 (by omega)
      have b7' := hb.trans b7
      have hB7 := hBs.out _ b7'
      clear own hb e0o b7 hx2
      obtain ⟨s7, o7⟩ := own7
      have o7' : Own w7 B (lsQ dA i pA P :: curRow c (.slice ac nb cc) a7 s7 :: [lsQ dB i pB L]) := o7.perm (List.Perm.swap _ _ _)
      clear o7
      go_wp2_with (at_builtin; refine wpList_append1 rfl _ _ _ rfl elemInt rfl o7' hB7 rfl rfl (by omega) (by omega) ?_; intro v8 w8 ho8 hb8; obtain ⟨d8, m8, hf8⟩ := ho8.form; (obtain rfl : v8 = .slice d8 (i + 1) m8 := hf8))
      have own8 : CurAt w8 B c (.slice ac nb cc) a7 [lsQ d8 (i + 1) m8 (P ++ [x]), lsQ dB i pB L] := ⟨s7, by
        have h := ho8.perm (List.Perm.swap _ _ _)
        unfold lsQ
        rw [List.map_append]
        exact h⟩
      have b8' := b7'.trans hb8
      have hPl2 := hid (show (P ++ [x]).length = i + 1 by rw [List.length_append, hPl.out]; rfl)
      have hPs2 := hid (show SmQ (P ++ [x]) from hPs.out.snoc ⟨by omega, by omega⟩)
      have hB8 := hBs.out _ b8'
      have own9 := CurAt.lit (e := 3) (n := 6) (cs := #[.int .i64 1, .int .i64 2, .int .i64 3, .int .i64 5, .int .i64 20, .int .i64 60]) own8 [1, 2, 3, 5, 20, 60] hB8 rfl rfl (by simp)
      have b9 := b8'.alloc hB8 (.cells #[.int .i64 1, .int .i64 2, .int .i64 3, .int .i64 5, .int .i64 20, .int .i64 60] 3)
      have e09 := hE.out _ b9
      clear o7' ho8 hb8 own8 b7' b8' hB7
      with_reducible refine (among_any (w0 := w0) hc own9 hwB (by omega) (by omega) (by simp) (by simp)).mono ?_
      rintro e w10 ⟨y, a10, rfl, hy, h101, h102, own10, b10⟩
      have b10' := b9.trans b10
      have hyb : -1 ≤ y ∧ y ≤ 100 := by
        simp only [List.mem_cons, List.not_mem_nil, or_false] at hy
        omega
      obtain ⟨s10, o10⟩ := own10.drop
      have hB10 := hBs.out _ b10'
      have o10' : Own w10 B (lsQ dB i pB L :: curRow c (.slice ac nb cc) a10 s10 :: [lsQ d8 (i + 1) m8 (P ++ [x])]) := o10.perm perm_cab
      clear own9 b9 e09 own10 b10 o10 hy hB8
      go_wp2_with (at_builtin; refine wpList_append1 rfl _ _ _ rfl elemInt rfl o10' hB10 rfl rfl (by omega) (by omega) ?_; intro v8 w8 ho8 hb8; obtain ⟨dC, mC, hf8⟩ := ho8.form; (obtain rfl : v8 = .slice dC (i + 1) mC := hf8))
      have own11 : CurAt w8 B c (.slice ac nb cc) a10 [lsQ d8 (i + 1) m8 (P ++ [x]), lsQ dC (i + 1) mC (L ++ [y])] := ⟨s10, by
        have h := ho8.perm perm_bca
        unfold lsQ at h ⊢
        rw [List.map_append (l₁ := L)]
        exact h⟩
      have hLl2 := hid (show (L ++ [y]).length = i + 1 by rw [List.length_append, hLl.out]; rfl)
      have hLs2 := hid (show SmQ (L ++ [y]) from hLs.out.snoc hyb)
      go_roundw
      case rel => exact ⟨i + 1, d8, m8, _, dC, mC, _, a10, rfl, rfl, by go_num, by omega, hPl2, hPs2, hLl2, hLs2, by omega, by omega, own11, b10'.trans hb8⟩
      case measure => simp [intOf]; omega
    · have hni : i = n := by omega
      subst hni
      by_cases hz : 0 < i
      · have hz' : (i : Int) > 0 := by omega
        have e0o := hE.out _ hb
        go_wp2_with fail
        with_reducible refine (pick_any (w0 := w0) hc own hwB (by omega) (by omega)).mono ?_
        rintro e w7 ⟨k0, a7, rfl, hk0, _, hk2, h71, h72, own7, b7⟩
        have hk3 := hk2 (by omega)
        obtain ⟨k, rfl⟩ := Int.eq_ofNat_of_zero_le hk0
        have hki : k < i := by omega
        have b7' := hb.trans b7
        have e07 := hE.out _ b7'
        clear own hb e0o b7 hk2 hk0
        go_wp2_with fail
        with_reducible refine (pick_any (w0 := w0) hc own7 hwB (by omega) (by omega)).mono ?_
        rintro e w8 ⟨x, a8, rfl, hx0, _, hx2, h81, h82, own8, b8⟩
        have b8' := b7'.trans b8
        have hB8 := hBs.out _ b8'
        have e08 := hE.out _ b8'
        clear own7 b7' e07 b8 hx2
        by_cases hx0' : x = 0
        · subst hx0'
          have own9 := CurAt.lit (e := 3) (n := 3) (cs := #[.int .i64 (-1), .int .i64 ((k : Int) + 1), .int .i64 6]) own8 [-1, (k : Int) + 1, 6] hB8 rfl rfl (by simp)
          have b9 := b8'.alloc hB8 (.cells #[.int .i64 (-1), .int .i64 ((k : Int) + 1), .int .i64 6] 3)
          have e09 := hE.out _ b9
          clear own8 b8' e08
          go_wp2_with fail
          with_reducible refine (among_any (w0 := w0) hc own9 hwB (by omega) (by omega) (by simp) (by simp)).mono ?_
          rintro e w10 ⟨y, a10, rfl, hy, h101, h102, own10, b10⟩
          have b10' := b9.trans b10
          have hyb : -1 ≤ y ∧ y ≤ 100 := by
            simp only [List.mem_cons, List.not_mem_nil, or_false] at hy
            omega
          obtain ⟨g, rfl, ⟨c10, f10⟩, hset, hBg⟩ := own10.drop.qAt hPl.out hki
          have own11 := hset y
          have b11 := b10'.setCell hBg (p := ⟨g, k, none⟩) (.int .i64 y)
          have hrP := hid (lsQ_reads own11.rows (by rw [List.length_set]; exact hPl.out) (by omega) (hPs.out.set hyb))
          have hrL := hid (lsQ_reads own11.rows.tail hLl.out (by omega) hLs.out)
          clear own9 b9 e09 own10 b10 hset own11
          go_wp2_with fail
          exact hfin.out (.slice (some ⟨g, 0, none⟩) i pA) (.slice dB i pB) _ _ _ _ rfl (by rw [List.length_set, hPl.out]; omega) (by rw [hLl.out]; omega) hrP.out hrL.out b11
        · by_cases hx1' : x = 1
          · subst hx1'
            have own9 := CurAt.lit (e := 3) (n := 3) (cs := #[.int .i64 0, .int .i64 99, .int .i64 100]) own8 [0, 99, 100] hB8 rfl rfl (by simp)
            have b9 := b8'.alloc hB8 (.cells #[.int .i64 0, .int .i64 99, .int .i64 100] 3)
            have e09 := hE.out _ b9
            clear own8 b8' e08
            go_wp2_with fail
            with_reducible refine (among_any (w0 := w0) hc own9 hwB (by omega) (by omega) (by simp) (by simp)).mono ?_
            rintro e w10 ⟨y, a10, rfl, hy, h101, h102, own10, b10⟩
            have b10' := b9.trans b10
            have hyb : -1 ≤ y ∧ y ≤ 100 := by
              simp only [List.mem_cons, List.not_mem_nil, or_false] at hy
              omega
            have own12 : CurAt w10 B c (.slice ac nb cc) a10 [lsQ dB i pB L, lsQ dA i pA P] := own10.drop.perm (List.Perm.swap _ _ _)
            obtain ⟨g, rfl, ⟨c10, f10⟩, hset, hBg⟩ := own12.qAt hLl.out hki
            have own11 := hset y
            have b11 := b10'.setCell hBg (p := ⟨g, k, none⟩) (.int .i64 y)
            have hrL := hid (lsQ_reads own11.rows (by rw [List.length_set]; exact hLl.out) (by omega) (hLs.out.set hyb))
            have hrP := hid (lsQ_reads own11.rows.tail hPl.out (by omega) hPs.out)
            clear own9 b9 e09 own10 b10 hset own11 own12
            go_wp2_with fail
            exact hfin.out (.slice dA i pA) (.slice (some ⟨g, 0, none⟩) i pB) _ _ _ _ rfl (by rw [hPl.out]; omega) (by rw [List.length_set, hLl.out]; omega) hrP.out hrL.out b11
          · have hrP := hid (lsQ_reads own8.rows hPl.out (by omega) hPs.out)
            have hrL := hid (lsQ_reads own8.rows.tail hLl.out (by omega) hLs.out)
            have own12 : CurAt w8 B c (.slice ac nb cc) a8 [lsQ dB i pB L, lsQ dA i pA P] := own8.perm (List.Perm.swap _ _ _)
            obtain ⟨g, rfl, -, -, -⟩ := own12.qAt hLl.out (j := 0) hz
            have hcap := hrL.out.cap
            rw [hLl.out] at hcap
            clear own8 own12
            by_cases hx2' : x = 2
            · subst hx2'
              have hrT := hid (hrL.out.tailAt (k := 1) (by rw [hLl.out]; omega))
              have hTl := hid (show (L.drop 1).length = i - 1 by rw [List.length_drop, hLl.out])
              replace hrL := hid hrL
              by_cases hp1 : pB = 1
              · have hi1 : i = 1 := by omega
                subst hp1
                subst hi1
                have hrL := hid (ints_zero w8 (some ⟨g, 0, none⟩) 0)
                go_wp2_with fail
                exact hfin.out (.slice dA 1 pA) (.slice (some ⟨g, 0, none⟩) 0 0) _ _ _ _ rfl (by rw [hPl.out]; omega) (by simp) hrP.out hrL.out b8'
              · have hcp1 : ¬ pB < 1 := by omega
                have hcp2 : ¬ i < 1 := by omega
                go_wp2_with fail
                exact hfin.out (.slice dA i pA) (.slice (some ⟨g, 1, none⟩) (i - 1) (pB - 1)) _ _ _ _ rfl (by rw [hPl.out]; omega) (by rw [hTl.out]; omega) hrP.out hrT.out b8'
            · go_wp2_with fail
              exact hfin.out (.slice dA i pA) (.slice (some ⟨g, 0, none⟩) i pB) _ _ _ _ rfl (by rw [hPl.out]; omega) (by rw [hLl.out]; omega) hrP.out hrL.out b8'
      · have hz' : ¬ (i : Int) > 0 := by omega
        have hrP := hid (lsQ_reads own.rows hPl.out (by omega) hPs.out)
        have hrL := hid (lsQ_reads own.rows.tail hLl.out (by omega) hLs.out)
        go_wp2_with fail
        exact hfin.out (.slice dA i pA) (.slice dB i pB) _ _ _ _ rfl (by rw [hPl.out]; omega) (by rw [hLl.out]; omega) hrP.out hrL.out hb
end Go.Proofs.Ytnlbjbnjjkilhaa
