/- States and sequences that draws make for a problem. -/
import Derived.Test.YtkdbgobhgnjoaabProb
namespace Go.Proofs.Ytkdbgobhgnjoaab
open Go.RowKit

set_option maxHeartbeats 1600000 in
set_option maxRecDepth 100000 in
theorem state8_any {w0 w : World} [Ext w0 w] {vc : Value} {nb : Nat} (hc : IsBytes w0 vc nb) {B c : Nat} {a : Int} {R : List Row} (own : CurAt w B c vc a R) (hwB : w0.heap.size ≤ B) (ha : 0 ≤ a) (ha2 : a ≤ 2000000) {dm ds : Option Addr} {n mm q ms : Nat} (hn : 1 ≤ n) (hn2 : n ≤ 100) :
    Calls Try.prog 43 #[.pointer (some ⟨c, 0, none⟩), .agg #[.slice dm n mm, .slice ds q ms]] w fun e w' => ∃ x a' : Int, e = .returned (.int .i64 x) ∧ -10 ≤ x ∧ x ≤ 1000000 ∧ a ≤ a' ∧ a' ≤ a + 10 ∧ CurAt w' B c vc a' R ∧ Below B w w' := by
  have hBw := own.size
  have hn0 : ((n : Int) == 0) = false := by simp; omega
  go_enter Try.func43, Try.ntmps43
  go_upto_region 1 with fail
  have own1 := own.box 26 2 #[.slice dm n mm, .slice ds q ms] hBw rfl
  have b1 : Below B w (w.alloc (.cells #[.slice dm n mm, .slice ds q ms] 26)) := (Below.refl B w).alloc hBw _
  obtain ⟨r, hr⟩ : ∃ r, r = w.heap.size := ⟨_, rfl⟩
  rw [← hr] at own1 ⊢
  replace hr := hid hr
  generalize w.alloc (.cells #[.slice dm n mm, .slice ds q ms] 26) = w1 at *
  have hE : ∀ u, Below B w u → Ext w0 u := fun u h => ⟨(‹Ext w0 w›).below.trans (h.mono hwB)⟩
  replace hE := hid hE
  have e1 : Ext w0 w1 := hE.out _ b1
  have c1 : w1.cell? ⟨r, 0, none⟩ = some (.slice dm n mm) := (own1.at (.head _) (j := 0) (by omega)).1
  go_wp2_with fail
  refine (one_any (w0 := w0) hc own1 hwB (by omega) (by omega)).mono ?_
  rintro e w2 ⟨bq, a2, rfl, h21, h22, own2, b2⟩
  have b2' := b1.trans b2
  have e2 : Ext w0 w2 := hE.out _ b2'
  have c2 : w2.cell? ⟨r, 0, none⟩ = some (.slice dm n mm) := (own2.at (.head _) (j := 0) (by omega)).1
  clear own1 b1 b2 c1 e1
  cases bq with
  | true =>
    go_wp2_with fail
    refine (among_any (w0 := w0) hc (own2.lit [-1, (n : Int)] own2.size rfl rfl (by simp)) hwB (by omega) (by omega) (by simp) (by simp)).mono ?_
    rintro e w3 ⟨x, a3, rfl, hx, h31, h32, own3, b3⟩
    have hx' : -10 ≤ x ∧ x ≤ 1000000 := by simp at hx; omega
    go_wp2_with fail
    go_ret
    exact ⟨x, a3, rfl, hx'.1, hx'.2, by omega, by omega, own3.drop.drop, b2'.trans (((Below.refl B w2).alloc own2.size _).trans b3)⟩
  | false =>
    go_wp2_with fail
    refine (pick_any (w0 := w0) hc own2 hwB (by omega) (by omega)).mono ?_
    rintro e w3 ⟨x, a3, rfl, hx0, hx1, hx2, h31, h32, own3, b3⟩
    go_wp2_with fail
    go_ret
    exact ⟨x, a3, rfl, by omega, by omega, by omega, by omega, own3.drop, b2'.trans b3⟩

set_option maxHeartbeats 3200000 in
set_option maxRecDepth 100000 in
theorem reqs8_any {w0 w : World} [Ext w0 w] {vc : Value} {nb : Nat} (hc : IsBytes w0 vc nb) {B c : Nat} {a : Int} {R : List Row} (own : CurAt w B c vc a R) (hwB : w0.heap.size ≤ B) (ha : 0 ≤ a) (ha2 : a ≤ 2000000) {dm ds : Option Addr} {n mm q ms : Nat} (hq : 1 ≤ q) (hq2 : q ≤ 100) :
    Calls Try.prog 59 #[.pointer (some ⟨c, 0, none⟩), .agg #[.slice dm n mm, .slice ds q ms]] w fun e w' => ∃ v X a', e = .returned v ∧ X.length ≤ 100 ∧ (∀ x ∈ X, -10 ≤ x ∧ x ≤ 1000000) ∧ a ≤ a' ∧ a' ≤ a + 1000 ∧ CurAt w' B c vc a' (intRowOf 3 v X :: R) ∧ Below B w w' := by
  have hBw := own.size
  go_enter Try.func59, Try.ntmps59
  go_upto_region 1 with fail
  have own1 := own.box 26 2 #[.slice dm n mm, .slice ds q ms] hBw rfl
  have b1 : Below B w (w.alloc (.cells #[.slice dm n mm, .slice ds q ms] 26)) := (Below.refl B w).alloc hBw _
  obtain ⟨r, hr⟩ : ∃ r, r = w.heap.size := ⟨_, rfl⟩
  rw [← hr] at own1 ⊢
  replace hr := hid hr
  generalize w.alloc (.cells #[.slice dm n mm, .slice ds q ms] 26) = w1 at *
  have hE : ∀ u, Below B w u → Ext w0 u := fun u h => ⟨(‹Ext w0 w›).below.trans (h.mono hwB)⟩
  replace hE := hid hE
  go_upto_region 2 with fail
  have own2 := own1.lit (e := 3) (n := 0) (cs := #[]) [] own1.size rfl rfl (by simp)
  have b2 : Below B w (w1.alloc (.cells #[] 3)) := b1.alloc own1.size _
  generalize w1.alloc (.cells #[] 3) = w2 at *
  clear own1 b1
  have e2 : Ext w0 w2 := hE.out _ b2
  go_wp2_with fail
  refine (among_any (w0 := w0) hc (own2.lit [0, 1, 2, 3, 4, 5, 7, 9] own2.size rfl rfl (by decide)) hwB (by omega) (by omega) (by decide) (by decide)).mono ?_
  rintro e w3 ⟨cnt, a3, rfl, hcnt, h31, h32, own3, b3⟩
  have own3' := own3.drop
  have b3' : Below B w w3 := b2.trans (((Below.refl B w2).alloc own2.size _).trans b3)
  have hc9 : 0 ≤ cnt ∧ cnt ≤ 9 := by simp at hcnt; omega
  obtain ⟨cnt, rfl⟩ := Int.eq_ofNat_of_zero_le hc9.1
  clear own3 own2 b2 b3 e2 hcnt
  go_wp2
  go_loopw [5, 6] (fun v t wr => ∃ k : Nat, k ≤ cnt ∧ t = .int .i64 k ∧ ∃ X ax, X.length + k = cnt ∧ (∀ x ∈ X, -10 ≤ x ∧ x ≤ 1000000) ∧ a ≤ ax ∧ ax ≤ a + 2 + 2 * X.length ∧ Below B w wr ∧ CurAt wr B c vc ax (intRowOf 3 v X :: (boxRow 26 2 r [.slice dm n mm, .slice ds q ms] :: R))) (fun _ t _ => (intOf t).toNat)
  case atStart => exact ⟨cnt, by omega, rfl, [], a3, by simp, by simp, by omega, by simp; omega, b3', own3'⟩
  case round =>
    obtain ⟨k, hk, rfl, X, ax, hXl, hXb, hax1, hax2, b4, own4⟩ := hrel
    obtain ⟨w4, rfl⟩ : ∃ y : World, y = wr := ⟨_, rfl⟩
    obtain ⟨vd, vm, rfl⟩ := ow_ints own4.rows
    have hX10 : X.length ≤ 9 := by omega
    have e4 : Ext w0 w4 := hE.out _ b4
    have c4 : w4.cell? ⟨r, 1, none⟩ = some (.slice ds q ms) := (own4.at (.tail _ (.head _)) (j := 1) (by omega)).1
    by_cases hk0 : 0 < k
    · obtain ⟨k', hk'⟩ : ∃ y, k = y + 1 := ⟨k - 1, by omega⟩
      have hgt : (0 : Int) < (k : Int) := by omega
      have hk9 : k ≤ 9 := by omega
      have hkid := hid hk'
      clear hk'
      replace hXl := hid hXl
      have hmx := hid (show max (q : Int) 1 = (q : Int) by omega)
      go_wp2_with fail
      refine (l1Most_any (q : Int) 1 _).mono ?_
      rw [hmx.out]
      rintro e w4' ⟨rfl, rfl⟩
      go_wp2_with fail
      refine (pick_any (w0 := w0) hc own4 hwB (by omega) (by omega)).mono ?_
      rintro e w5 ⟨x, a5, rfl, hx0, hx1, hx2, h51, h52, own5, b5⟩
      have hxq := hx2 (by omega)
      have b5' := b4.trans b5
      obtain ⟨s5, h5⟩ := own5
      have hB5 := CurAt.size ⟨s5, h5⟩
      have h5' := h5.perm (List.Perm.swap _ _ _)
      clear own4 b4 b5 e4 c4 h5 hx1 hx2
      go_wp2_with (at_builtin; refine wpList_append1 rfl _ _ _ rfl elemInt rfl h5' hB5 rfl rfl (by omega) (by omega) ?_; intro v1 w6 ho hb6)
      go_roundw
      case rel =>
        refine ⟨k', by have := hkid.out; omega, congrArg (Value.int .i64) (by have := hkid.out; omega), X ++ [x], a5, by have := hXl.out; have := hkid.out; simp; omega, ?_, by omega, by simp; omega, b5'.trans hb6, ⟨s5, (ow_snoc ho rfl).perm (List.Perm.swap _ _ _)⟩⟩
        intro y hy
        rcases List.mem_append.1 hy with h | h
        · exact hXb y h
        · rw [List.mem_singleton] at h; omega
      case measure => have := hkid.out; simp [intOf]; omega
    · have hk00 : k = 0 := by omega
      replace hk00 := hid hk00
      go_wp2_with fail
      refine (pick_any (w0 := w0) hc own4 hwB (by omega) (by omega)).mono ?_
      rintro e w5 ⟨x, a5, rfl, hx0, hx1, hx2, h51, h52, own5, b5⟩
      have b5' := b4.trans b5
      have c5 : w5.cell? ⟨r, 1, none⟩ = some (.slice ds q ms) := (own5.at (.tail _ (.head _)) (j := 1) (by omega)).1
      have e5 : Ext w0 w5 := hE.out _ b5'
      clear own4 b4 b5 e4 c4 hx1 hx2
      replace hXl := hid hXl
      by_cases hx00 : x = 0
      · go_wp2_with fail
        refine (among_any (w0 := w0) hc (own5.lit [-1, (q : Int)] own5.size rfl rfl (by simp)) hwB (by omega) (by omega) (by simp) (by simp)).mono ?_
        rintro e w6 ⟨y, a6, rfl, hy, h61, h62, own6, b6⟩
        have hy' : -10 ≤ y ∧ y ≤ 1000000 := by simp at hy; omega
        have b6' : Below B w w6 := b5'.trans (((Below.refl B w5).alloc own5.size _).trans b6)
        obtain ⟨s6, h6⟩ := own6.drop
        have hB6 := CurAt.size ⟨s6, h6⟩
        have h6' := h6.perm (List.Perm.swap _ _ _)
        clear own5 own6 b6 h6 c5
        go_wp2_with (at_builtin; refine wpList_append1 rfl _ _ _ rfl elemInt rfl h6' hB6 rfl rfl (by omega) (by omega) ?_; intro v1 w7 ho hb7)
        go_ret
        refine ⟨v1, X ++ [y], a6, rfl, by simp; omega, ?_, by omega, by omega, ⟨s6, ((ow_snoc ho rfl).perm (List.Perm.swap _ _ _)).sub (((List.sublist_cons_self _ _).cons_cons _).cons_cons _)⟩, b6'.trans hb7⟩
        intro z hz
        rcases List.mem_append.1 hz with h | h
        · exact hXb z h
        · rw [List.mem_singleton] at h; omega
      · by_cases hx11 : x = 1
        · go_wp2_with fail
          refine (pick_any (w0 := w0) hc own5 hwB (by omega) (by omega)).mono ?_
          rintro e w6 ⟨y, a6, rfl, hy0, hy1, hy2, h61, h62, own6, b6⟩
          have hy3 := hy2 (by omega)
          have b6' := b5'.trans b6
          clear own5 b6 b5' hy1 hy2 c5 e5
          go_wp2
          go_loopw [5] (fun v wr => ∃ X', X'.length ≤ 61 ∧ (∀ x ∈ X', -10 ≤ x ∧ x ≤ 1000000) ∧ Below B w wr ∧ CurAt wr B c vc a6 (intRowOf 3 v X' :: (boxRow 26 2 r [.slice dm n mm, .slice ds q ms] :: R))) (fun v _ => 100 - (match v with | .slice _ n _ => n | _ => 0))
          case atStart => exact ⟨X, by omega, hXb, b6', own6⟩
          case round =>
            obtain ⟨X', hXl', hXb', b7, own7⟩ := hrel
            obtain ⟨w7, rfl⟩ : ∃ y : World, y = wr := ⟨_, rfl⟩
            obtain ⟨vd', vm', rfl⟩ := ow_ints own7.rows
            by_cases hlt : (X'.length : Int) < 59 + y
            · obtain ⟨s7, h7⟩ := own7
              have hB7 := CurAt.size ⟨s7, h7⟩
              have h7' := h7.perm (List.Perm.swap _ _ _)
              clear h7
              go_wp2_with (at_builtin; refine wpList_append1 rfl _ _ _ rfl elemInt rfl h7' hB7 rfl rfl (by omega) (by omega) ?_; intro v1 w8 ho hb8; obtain ⟨vd1, vm1, hv1⟩ := ho.form; (obtain rfl : v1 = .slice vd1 (X'.length + 1) vm1 := hv1))
              go_roundw
              case rel =>
                refine ⟨X' ++ [0], by simp; omega, ?_, b7.trans hb8, ⟨s7, (ow_snoc ho rfl).perm (List.Perm.swap _ _ _)⟩⟩
                intro z hz
                rcases List.mem_append.1 hz with h | h
                · exact hXb' z h
                · rw [List.mem_singleton] at h; omega
              case measure => simp; omega
            · go_wp2
              go_ret
              exact ⟨_, rfl, X', by omega, hXb', a6, by omega, by omega, own7.sub ((List.sublist_cons_self _ _).cons_cons _), b7⟩
        · go_wp2
          go_ret
          exact ⟨_, X, a5, rfl, by omega, hXb, by omega, by omega, own5.sub ((List.sublist_cons_self _ _).cons_cons _), b5'⟩

/-- the cursor at its start -/
theorem CurAt.start {w : World} {B : Nat} {vc : Value} {R : List Row} (h : Own w B R) (hB : B ≤ w.heap.size) : CurAt (w.alloc (.cells #[vc, .int .i64 0, .int .u64 0] 60)) B w.heap.size vc 0 R :=
  ⟨0, h.lit 60 3 1 #[vc, .int .i64 0, .int .u64 0] hB (by unfold maxLen; omega) rfl⟩

def LCPost (w : World) (e : Ending) (w' : World) : Prop := ∃ pv s rv M S X, e = .returned (.tuple #[pv, .int .i64 s, rv]) ∧ IsProb w' pv M S ∧ I64 s ∧ IsInts w' rv X ∧ X.length ≤ 100 ∧ Ext w w'

set_option maxHeartbeats 3200000 in
set_option maxRecDepth 100000 in
theorem drawLC_any {w0 w : World} [Ext w0 w] {vc : Value} {nb : Nat} (hc : IsBytes w0 vc nb) :
    Calls Try.prog 15 #[vc] w (LCPost w) := by
  obtain ⟨ac, cc, rfl⟩ := hc.form
  go_enter Try.func15, Try.ntmps15
  go_upto_region 2 with fail
  have hsz : w0.heap.size ≤ w.heap.size := (‹Ext w0 w›).size
  have own1 := CurAt.start (vc := .slice ac nb cc) (((Own.nil w w.heap.size).lit 26 2 1 #[.slice none 0 0, .slice none 0 0] (Nat.le_refl _) (by unfold maxLen; omega) rfl)) (by simp)
  have e1 : Ext w ((w.alloc (.cells #[.slice none 0 0, .slice none 0 0] 26)).alloc (.cells #[.slice ac nb cc, .int .i64 0, .int .u64 0] 60)) := inferInstance
  have hcs : (w.alloc (.cells #[.slice none 0 0, .slice none 0 0] 26)).heap.size = w.heap.size + 1 := by simp
  rw [hcs] at own1
  obtain ⟨r, hr⟩ : ∃ r, r = w.heap.size := ⟨_, rfl⟩
  obtain ⟨c, hcd⟩ : ∃ c, c = w.heap.size + 1 := ⟨_, rfl⟩
  obtain ⟨B, hBd⟩ : ∃ B, B = w.heap.size := ⟨_, rfl⟩
  have own1' : CurAt ((w.alloc (.cells #[.slice none 0 0, .slice none 0 0] 26)).alloc (.cells #[.slice ac nb cc, .int .i64 0, .int .u64 0] 60)) B c (.slice ac nb cc) 0 [boxRow 26 2 r [.slice none 0 0, .slice none 0 0]] := by
    rw [hBd, hcd, hr]; exact own1
  have hwB : w0.heap.size ≤ B := by omega
  have b1 : Below B w ((w.alloc (.cells #[.slice none 0 0, .slice none 0 0] 26)).alloc (.cells #[.slice ac nb cc, .int .i64 0, .int .u64 0] 60)) := by rw [hBd]; exact e1.below
  rw [← hcd, ← hr]
  generalize (w.alloc (.cells #[.slice none 0 0, .slice none 0 0] 26)).alloc (.cells #[.slice ac nb cc, .int .i64 0, .int .u64 0] 60) = w1 at *
  replace hr := hid hr
  replace hcd := hid hcd
  replace hBd := hid hBd
  have hE : ∀ u, Below B w u → Ext w0 u := fun u h => ⟨(‹Ext w0 w›).below.trans (h.mono hwB)⟩
  replace hE := hid hE
  clear own1 e1 hcs
  have e1 : Ext w0 w1 := hE.out _ b1
  go_wp2_with fail
  refine (problem_any (w0 := w0) hc own1' hwB (by omega) (by omega)).mono ?_
  rintro e w2 ⟨mv, sv, M, S, Z, a2, rfl, hM1, hM2, hS1, hS2, ha1, ha2, own2, hZ, b2⟩
  obtain ⟨dm, mm, rfl, lm⟩ := (hZ w2 own2.rows.left).1.form
  obtain ⟨ds, ms, rfl, ls⟩ := (hZ w2 own2.rows.left).2.form
  replace hZ := hid hZ
  have b2' := b1.trans b2
  have own3 := own2.box 26 2 #[.slice dm M.length mm, .slice ds S.length ms] own2.size rfl
  have b3 : Below B w (w2.alloc (.cells #[.slice dm M.length mm, .slice ds S.length ms] 26)) := b2'.alloc own2.size _
  obtain ⟨pb, hpb⟩ : ∃ r, r = w2.heap.size := ⟨_, rfl⟩
  go_upto_region 3 with fail
  generalize w2.alloc (.cells #[.slice dm M.length mm, .slice ds S.length ms] 26) = w3 at *
  rw [← hpb] at own3 ⊢
  replace hpb := hid hpb
  clear own1' own2 b1 b2 b2' e1
  have own4 := own3.ext (w' := w3.drew)
  have b4 : Below B w w3.drew := b3.drew
  generalize hw4 : w3.drew = w4 at *
  have p0 : w4.cell? ⟨pb, 0, none⟩ = some (.slice dm M.length mm) := (own4.at (.head _) (j := 0) (by omega)).1
  have p1 : w4.cell? ⟨pb, 1, none⟩ = some (.slice ds S.length ms) := (own4.at (.head _) (j := 1) (by omega)).1
  subst hw4
  refine wp_region_held_drew (S := fun w' => w'.cell? ⟨pb, 0, none⟩ = some (.slice dm M.length mm) ∧ w'.cell? ⟨pb, 1, none⟩ = some (.slice ds S.length ms)) (by kernel_rfl) ⟨p0, p1⟩ (fun hHeld0 => ?_)
  generalize w3.drew = w4 at *
  clear own3 b3 p0 p1
  refine wpAnyH_take (i := 0) (v := .agg #[.slice dm M.length mm, .slice ds S.length ms]) rfl (by kernel_rfl) (by kernel_rfl) (by kernel_rfl) (fun _ _ _ h => h) (Or.inl ⟨by rfl, by intro wx hx; obtain ⟨_, _⟩ := hx; go_simp⟩) (by assumption) ?_
  try simp only [List.getElem_toArray, List.getElem_cons_zero, Act.put, List.setIfInBounds_toArray, List.set_cons_zero, List.set_cons_succ]
  refine wpAnyH_take (i := 1) (v := .pointer (some ⟨c, 0, none⟩)) rfl (by kernel_rfl) (by kernel_rfl) (by kernel_rfl) (fun _ _ _ h => h) (Or.inl ⟨by rfl, by intro wx hx; go_simp⟩) (by assumption) ?_
  try simp only [List.getElem_toArray, List.getElem_cons_succ, List.getElem_cons_zero, Act.put, List.setIfInBounds_toArray, List.set_cons_zero, List.set_cons_succ]
  refine wpAnyH_take (i := 2) (v := .agg #[.slice dm M.length mm, .slice ds S.length ms]) rfl (by kernel_rfl) (by kernel_rfl) (by kernel_rfl) (fun _ _ _ h => h) (Or.inl ⟨by rfl, by intro wx hx; obtain ⟨_, _⟩ := hx; go_simp⟩) (by assumption) ?_
  try simp only [List.getElem_toArray, List.getElem_cons_succ, List.getElem_cons_zero, Act.put, List.setIfInBounds_toArray, List.set_cons_zero, List.set_cons_succ]
  refine wpAnyH_take (i := 4) (v := .pointer (some ⟨c, 0, none⟩)) rfl (by kernel_rfl) (by kernel_rfl) (by kernel_rfl) (fun _ _ _ h => h) (Or.inl ⟨by rfl, by intro wx hx; go_simp⟩) (by assumption) ?_
  try simp only [List.getElem_toArray, List.getElem_cons_succ, List.getElem_cons_zero, Act.put, List.setIfInBounds_toArray, List.set_cons_zero, List.set_cons_succ]
  refine wpAnyH_take (i := 5) (v := .agg #[.slice dm M.length mm, .slice ds S.length ms]) rfl (by kernel_rfl) (by kernel_rfl) (by kernel_rfl) (fun _ _ _ h => h) (Or.inl ⟨by rfl, by intro wx hx; obtain ⟨_, _⟩ := hx; go_simp⟩) (by assumption) ?_
  try simp only [List.getElem_toArray, List.getElem_cons_succ, List.getElem_cons_zero, Act.put, List.setIfInBounds_toArray, List.set_cons_zero, List.set_cons_succ]
  have e4 : Ext w0 w4 := hE.out _ b4
  refine wpAnyH_ready (rs := [3]) (by kernel_rfl) (by simp) ?_
  refine AllReadyH.cons rfl (fun K hK => ?_) AllReadyH.nil
  go_simp
  go_at_call 43
  refine (state8_any (w0 := w0) hc own4 hwB (by omega) (by omega) hM1 (by omega)).mono ?_
  rintro e w5 ⟨x, a5, rfl, hx1, hx2, h51, h52, own5, b5⟩
  have b5' := b4.trans b5
  have p0 : w5.cell? ⟨pb, 0, none⟩ = some (.slice dm M.length mm) := (own5.at (.head _) (j := 0) (by omega)).1
  have p1 : w5.cell? ⟨pb, 1, none⟩ = some (.slice ds S.length ms) := (own5.at (.head _) (j := 1) (by omega)).1
  have e5 : Ext w0 w5 := hE.out _ b5'
  clear own4 b4 b5 e4
  go_wp2_with fail
  refine hK.out _ _ ⟨p0, p1⟩ (fun _ => ?_)
  clear hK K
  try simp only [List.getElem_toArray, List.getElem_cons_succ, List.getElem_cons_zero, Act.put, List.setIfInBounds_toArray, List.set_cons_zero, List.set_cons_succ]
  refine wpAnyH_ready (rs := [6]) (by kernel_rfl) (by simp) ?_
  refine AllReadyH.cons rfl (fun K hK => ?_) AllReadyH.nil
  go_simp
  go_at_call 59
  refine (reqs8_any (w0 := w0) hc own5 hwB (by omega) (by omega) hS1 (by omega)).mono ?_
  rintro e w6 ⟨v, X, a6, rfl, hX1, hX2, h61, h62, own6, b6⟩
  have b6' := b5'.trans b6
  have q0 : w6.cell? ⟨pb, 0, none⟩ = some (.slice dm M.length mm) := (own6.at (.tail _ (.head _)) (j := 0) (by omega)).1
  have q1 : w6.cell? ⟨pb, 1, none⟩ = some (.slice ds S.length ms) := (own6.at (.tail _ (.head _)) (j := 1) (by omega)).1
  have hqq : w6.cell? ⟨pb, 0, none⟩ = some (.slice dm M.length mm) ∧ w6.cell? ⟨pb, 1, none⟩ = some (.slice ds S.length ms) := ⟨q0, q1⟩
  have hrm : boxRow 26 2 r [.slice none 0 0, .slice none 0 0] ∈ intRowOf 3 v X :: boxRow 26 2 pb (#[.slice dm M.length mm, .slice ds S.length ms] : Array Value).toList :: (Z ++ [boxRow 26 2 r [.slice none 0 0, .slice none 0 0]]) := by simp
  have r00 : w6.cell? ⟨r, 0, none⟩ = some (.slice none 0 0) := (own6.at hrm (j := 0) (by omega)).1
  have r10 : w6.cell? ⟨r, 1, none⟩ = some (.slice none 0 0) := (own6.at hrm (j := 1) (by omega)).1
  have r01 := (own6.at hrm (j := 0) (by omega)).2
  have r11 := (own6.at hrm (j := 1) (by omega)).2
  clear own5 b5' b6 e5 p0 p1
  go_wp2_with fail
  refine hK.out _ _ hqq (fun _ => ?_)
  clear hK K
  try simp only [List.getElem_toArray, List.getElem_cons_succ, List.getElem_cons_zero, Act.put, List.setIfInBounds_toArray, List.set_cons_zero, List.set_cons_succ]
  have s1 := CurAt.set (A := intRowOf 3 v X :: boxRow 26 2 pb (#[.slice dm M.length mm, .slice ds S.length ms] : Array Value).toList :: Z) (L := []) own6 0 (.slice dm M.length mm)
  have s2 := CurAt.set (A := intRowOf 3 v X :: boxRow 26 2 pb (#[.slice dm M.length mm, .slice ds S.length ms] : Array Value).toList :: Z) (L := []) s1.1 1 (.slice ds S.length ms)
  have own7 := s2.1
  have b7 := (b6'.setCell s1.2 (p := ⟨r, 0, none⟩) (.slice dm M.length mm)).setCell s1.2 (p := ⟨r, 1, none⟩) (.slice ds S.length ms)
  have t0 : ((w6.setCell ⟨r, 0, none⟩ (.slice dm M.length mm)).setCell ⟨r, 1, none⟩ (.slice ds S.length ms)).cell? ⟨pb, 0, none⟩ = some (.slice dm M.length mm) := (own7.at (.tail _ (.head _)) (j := 0) (by omega)).1
  have t1 : ((w6.setCell ⟨r, 0, none⟩ (.slice dm M.length mm)).setCell ⟨r, 1, none⟩ (.slice ds S.length ms)).cell? ⟨pb, 1, none⟩ = some (.slice ds S.length ms) := (own7.at (.tail _ (.head _)) (j := 1) (by omega)).1
  have htt := And.intro t0 t1
  have y0 : ((w6.setCell ⟨r, 0, none⟩ (.slice dm M.length mm)).setCell ⟨r, 1, none⟩ (.slice ds S.length ms)).cell? ⟨r, 0, none⟩ = some (.slice dm M.length mm) := by go_simp
  have y1 : ((w6.setCell ⟨r, 0, none⟩ (.slice dm M.length mm)).setCell ⟨r, 1, none⟩ (.slice ds S.length ms)).cell? ⟨r, 1, none⟩ = some (.slice ds S.length ms) := by go_simp
  clear t0 t1 s1 s2
  refine wpAnyH_ready (rs := [7]) (by kernel_rfl) (by simp) ?_
  refine AllReadyH.cons rfl (fun K hK => ?_) AllReadyH.nil
  go_simp
  refine hK.out _ _ htt (fun _ => ?_)
  clear hK K
  try simp only [List.getElem_toArray, List.getElem_cons_succ, List.getElem_cons_zero, Act.put, List.setIfInBounds_toArray, List.set_cons_zero, List.set_cons_succ]
  generalize (w6.setCell ⟨r, 0, none⟩ (.slice dm M.length mm)).setCell ⟨r, 1, none⟩ (.slice ds S.length ms) = w7 at *
  refine wpAnyH_take (i := 8) (v := .int .i64 x) rfl (by kernel_rfl) (by kernel_rfl) (by kernel_rfl) (fun _ _ _ h => h) (Or.inl ⟨by rfl, by intro wx hx; go_simp⟩) (by assumption) ?_
  try simp only [List.getElem_toArray, List.getElem_cons_succ, List.getElem_cons_zero, Act.put, List.setIfInBounds_toArray, List.set_cons_zero, List.set_cons_succ]
  refine wpAnyH_take (i := 9) (v := v) rfl (by kernel_rfl) (by kernel_rfl) (by kernel_rfl) (fun _ _ _ h => h) (Or.inl ⟨by rfl, by intro wx hx; go_simp⟩) (by assumption) ?_
  try simp only [List.getElem_toArray, List.getElem_cons_succ, List.getElem_cons_zero, Act.put, List.setIfInBounds_toArray, List.set_cons_zero, List.set_cons_succ]
  refine wpAnyH_done (by kernel_rfl) ?_ _
  go_wp2_with fail
  refine bodyPost_ret (v := .tuple #[.agg #[.slice dm M.length mm, .slice ds S.length ms], .int .i64 x, v]) (by simp [results, Try.results15, go_sem, y0, y1]) rfl ?_
  have hrows := own7.rows
  have hZu : Own w7 B Z := (hrows.tail.tail).left
  refine ⟨_, x, v, M, S, X, rfl, ⟨_, _, rfl, (hZ.out _ hZu).1, (hZ.out _ hZu).2⟩, by unfold I64; omega, hrows.reads (by unfold Short; omega) (fun y hy => by have := hX2 y hy; unfold I64; omega), hX1, ?_⟩
  refine ⟨?_⟩
  rw [← hBd.out]
  exact b7
end Go.Proofs.Ytkdbgobhgnjoaab
