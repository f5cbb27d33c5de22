/- States and sequences that draws make for a problem. -/
import Derived.Test.YtkniohcmhdgbeaaProb
namespace Go.Proofs.Ytkniohcmhdgbeaa
open Go.RowKit

set_option maxHeartbeats 1600000 in
set_option maxRecDepth 100000 in
theorem state8_any {w0 w : World} [Ext w0 w] {vc : Value} {nb : Nat} (hc : IsBytes w0 vc nb) {B c : Nat} {a : Int} {R : List Row} (own : CurAt w B c vc a R) (hwB : w0.heap.size ≤ B) (ha : 0 ≤ a) (ha2 : a ≤ 2000000) {dm ds : Option Addr} {n mm q ms : Nat} (hn : 1 ≤ n) (hn2 : n ≤ 100) :
    Calls Try.prog 33 #[.pointer (some ⟨c, 0, none⟩), .agg #[.slice dm n mm, .slice ds q ms]] w fun e w' => ∃ x a' : Int, e = .returned (.int .i64 x) ∧ -10 ≤ x ∧ x ≤ 1000000 ∧ a ≤ a' ∧ a' ≤ a + 10 ∧ CurAt w' B c vc a' R ∧ Below B w w' := by
  have hBw := own.size
  have hn0 : ((n : Int) == 0) = false := by simp; omega
  go_enter Try.func33, Try.ntmps33
  go_upto_region 1 with fail
  have own1 := own.box 26 2 #[.slice dm n mm, .slice ds q ms] hBw rfl
  have b1 : Below B w (w.alloc (.cells #[.slice dm n mm, .slice ds q ms] 26)) := (Below.refl B w).alloc hBw _
  obtain ⟨r, hr⟩ : ∃ r, r = w.heap.size := ⟨_, rfl⟩
  rw [← hr] at own1 ⊢
  replace hr := hid hr
  generalize w.alloc (.cells #[.slice dm n mm, .slice ds q ms] 26) = w1 at *
  have hE : ∀ u, Below B w u → Ext w0 u := fun u h => ⟨(‹Ext w0 w›).below.trans (h.mono hwB)⟩
  replace hE := hid hE
  have e1 : Ext w0 w1 := hE.out _ b1
  have c1 : w1.cell? ⟨r, 0, none⟩ = some (.slice dm n mm) := (own1.at (.head _) (j := 0) (by omega)).1
  go_wp2_with fail
  refine (one_any (w0 := w0) hc own1 hwB (by omega) (by omega)).mono ?_
  rintro e w2 ⟨bq, a2, rfl, h21, h22, own2, b2⟩
  have b2' := b1.trans b2
  have e2 : Ext w0 w2 := hE.out _ b2'
  have c2 : w2.cell? ⟨r, 0, none⟩ = some (.slice dm n mm) := (own2.at (.head _) (j := 0) (by omega)).1
  clear own1 b1 b2 c1 e1
  cases bq with
  | true =>
    go_wp2_with fail
    refine (among_any (w0 := w0) hc (own2.lit [-1, (n : Int)] own2.size rfl rfl (by simp)) hwB (by omega) (by omega) (by simp) (by simp)).mono ?_
    rintro e w3 ⟨x, a3, rfl, hx, h31, h32, own3, b3⟩
    have hx' : -10 ≤ x ∧ x ≤ 1000000 := by simp at hx; omega
    go_wp2_with fail
    go_ret
    exact ⟨x, a3, rfl, hx'.1, hx'.2, by omega, by omega, own3.drop.drop, b2'.trans (((Below.refl B w2).alloc own2.size _).trans b3)⟩
  | false =>
    go_wp2_with fail
    refine (pick_any (w0 := w0) hc own2 hwB (by omega) (by omega)).mono ?_
    rintro e w3 ⟨x, a3, rfl, hx0, hx1, hx2, h31, h32, own3, b3⟩
    go_wp2_with fail
    go_ret
    exact ⟨x, a3, rfl, by omega, by omega, by omega, by omega, own3.drop, b2'.trans b3⟩

set_option maxHeartbeats 3200000 in
set_option maxRecDepth 100000 in
theorem reqs8_any {w0 w : World} [Ext w0 w] {vc : Value} {nb : Nat} (hc : IsBytes w0 vc nb) {B c : Nat} {a : Int} {R : List Row} (own : CurAt w B c vc a R) (hwB : w0.heap.size ≤ B) (ha : 0 ≤ a) (ha2 : a ≤ 2000000) {dm ds : Option Addr} {n mm q ms : Nat} (hq : 1 ≤ q) (hq2 : q ≤ 100) :
    Calls Try.prog 49 #[.pointer (some ⟨c, 0, none⟩), .agg #[.slice dm n mm, .slice ds q ms]] w fun e w' => ∃ v X a', e = .returned v ∧ X.length ≤ 100 ∧ (∀ x ∈ X, -10 ≤ x ∧ x ≤ 1000000) ∧ a ≤ a' ∧ a' ≤ a + 1000 ∧ CurAt w' B c vc a' (intRowOf 3 v X :: R) ∧ Below B w w' := by
  have hBw := own.size
  go_enter Try.func49, Try.ntmps49
  go_upto_region 1 with fail
  have own1 := own.box 26 2 #[.slice dm n mm, .slice ds q ms] hBw rfl
  have b1 : Below B w (w.alloc (.cells #[.slice dm n mm, .slice ds q ms] 26)) := (Below.refl B w).alloc hBw _
  obtain ⟨r, hr⟩ : ∃ r, r = w.heap.size := ⟨_, rfl⟩
  rw [← hr] at own1 ⊢
  replace hr := hid hr
  generalize w.alloc (.cells #[.slice dm n mm, .slice ds q ms] 26) = w1 at *
  have hE : ∀ u, Below B w u → Ext w0 u := fun u h => ⟨(‹Ext w0 w›).below.trans (h.mono hwB)⟩
  replace hE := hid hE
  go_upto_region 2 with fail
  have own2 := own1.lit (e := 3) (n := 0) (cs := #[]) [] own1.size rfl rfl (by simp)
  have b2 : Below B w (w1.alloc (.cells #[] 3)) := b1.alloc own1.size _
  generalize w1.alloc (.cells #[] 3) = w2 at *
  clear own1 b1
  have e2 : Ext w0 w2 := hE.out _ b2
  go_wp2_with fail
  refine (among_any (w0 := w0) hc (own2.lit [0, 1, 2, 3, 4, 5, 7, 9] own2.size rfl rfl (by decide)) hwB (by omega) (by omega) (by decide) (by decide)).mono ?_
  rintro e w3 ⟨cnt, a3, rfl, hcnt, h31, h32, own3, b3⟩
  have own3' := own3.drop
  have b3' : Below B w w3 := b2.trans (((Below.refl B w2).alloc own2.size _).trans b3)
  have hc9 : 0 ≤ cnt ∧ cnt ≤ 9 := by simp at hcnt; omega
  obtain ⟨cnt, rfl⟩ := Int.eq_ofNat_of_zero_le hc9.1
  clear own3 own2 b2 b3 e2 hcnt
  go_wp2
  go_loopw [5, 6] (fun v t wr => ∃ k : Nat, k ≤ cnt ∧ t = .int .i64 k ∧ ∃ X ax, X.length + k = cnt ∧ (∀ x ∈ X, -10 ≤ x ∧ x ≤ 1000000) ∧ a ≤ ax ∧ ax ≤ a + 2 + 2 * X.length ∧ Below B w wr ∧ CurAt wr B c vc ax (intRowOf 3 v X :: (boxRow 26 2 r [.slice dm n mm, .slice ds q ms] :: R))) (fun _ t _ => (intOf t).toNat)
  case atStart => exact ⟨cnt, by omega, rfl, [], a3, by simp, by simp, by omega, by simp; omega, b3', own3'⟩
  case round =>
    obtain ⟨k, hk, rfl, X, ax, hXl, hXb, hax1, hax2, b4, own4⟩ := hrel
    obtain ⟨w4, rfl⟩ : ∃ y : World, y = wr := ⟨_, rfl⟩
    obtain ⟨vd, vm, rfl⟩ := ow_ints own4.rows
    have hX10 : X.length ≤ 9 := by omega
    have e4 : Ext w0 w4 := hE.out _ b4
    have c4 : w4.cell? ⟨r, 1, none⟩ = some (.slice ds q ms) := (own4.at (.tail _ (.head _)) (j := 1) (by omega)).1
    by_cases hk0 : 0 < k
    · obtain ⟨k', hk'⟩ : ∃ y, k = y + 1 := ⟨k - 1, by omega⟩
      have hgt : (0 : Int) < (k : Int) := by omega
      have hk9 : k ≤ 9 := by omega
      have hkid := hid hk'
      clear hk'
      replace hXl := hid hXl
      have hmx := hid (show max (q : Int) 1 = (q : Int) by omega)
      go_wp2_with fail
      refine (l1Most_any (q : Int) 1 _).mono ?_
      rw [hmx.out]
      rintro e w4' ⟨rfl, rfl⟩
      go_wp2_with fail
      refine (pick_any (w0 := w0) hc own4 hwB (by omega) (by omega)).mono ?_
      rintro e w5 ⟨x, a5, rfl, hx0, hx1, hx2, h51, h52, own5, b5⟩
      have hxq := hx2 (by omega)
      have b5' := b4.trans b5
      obtain ⟨s5, h5⟩ := own5
      have hB5 := CurAt.size ⟨s5, h5⟩
      have h5' := h5.perm (List.Perm.swap _ _ _)
      clear own4 b4 b5 e4 c4 h5 hx1 hx2
      go_wp2_with (at_builtin; refine wpList_append1 rfl _ _ _ rfl elemInt rfl h5' hB5 rfl rfl (by omega) (by omega) ?_; intro v1 w6 ho hb6)
      go_roundw
      case rel =>
        refine ⟨k', by have := hkid.out; omega, congrArg (Value.int .i64) (by have := hkid.out; omega), X ++ [x], a5, by have := hXl.out; have := hkid.out; simp; omega, ?_, by omega, by simp; omega, b5'.trans hb6, ⟨s5, (ow_snoc ho rfl).perm (List.Perm.swap _ _ _)⟩⟩
        intro y hy
        rcases List.mem_append.1 hy with h | h
        · exact hXb y h
        · rw [List.mem_singleton] at h; omega
      case measure => have := hkid.out; simp [intOf]; omega
    · have hk00 : k = 0 := by omega
      replace hk00 := hid hk00
      go_wp2_with fail
      refine (pick_any (w0 := w0) hc own4 hwB (by omega) (by omega)).mono ?_
      rintro e w5 ⟨x, a5, rfl, hx0, hx1, hx2, h51, h52, own5, b5⟩
      have b5' := b4.trans b5
      have c5 : w5.cell? ⟨r, 1, none⟩ = some (.slice ds q ms) := (own5.at (.tail _ (.head _)) (j := 1) (by omega)).1
      have e5 : Ext w0 w5 := hE.out _ b5'
      clear own4 b4 b5 e4 c4 hx1 hx2
      replace hXl := hid hXl
      by_cases hx00 : x = 0
      · go_wp2_with fail
        refine (among_any (w0 := w0) hc (own5.lit [-1, (q : Int)] own5.size rfl rfl (by simp)) hwB (by omega) (by omega) (by simp) (by simp)).mono ?_
        rintro e w6 ⟨y, a6, rfl, hy, h61, h62, own6, b6⟩
        have hy' : -10 ≤ y ∧ y ≤ 1000000 := by simp at hy; omega
        have b6' : Below B w w6 := b5'.trans (((Below.refl B w5).alloc own5.size _).trans b6)
        obtain ⟨s6, h6⟩ := own6.drop
        have hB6 := CurAt.size ⟨s6, h6⟩
        have h6' := h6.perm (List.Perm.swap _ _ _)
        clear own5 own6 b6 h6 c5
        go_wp2_with (at_builtin; refine wpList_append1 rfl _ _ _ rfl elemInt rfl h6' hB6 rfl rfl (by omega) (by omega) ?_; intro v1 w7 ho hb7)
        go_ret
        refine ⟨v1, X ++ [y], a6, rfl, by simp; omega, ?_, by omega, by omega, ⟨s6, ((ow_snoc ho rfl).perm (List.Perm.swap _ _ _)).sub (((List.sublist_cons_self _ _).cons_cons _).cons_cons _)⟩, b6'.trans hb7⟩
        intro z hz
        rcases List.mem_append.1 hz with h | h
        · exact hXb z h
        · rw [List.mem_singleton] at h; omega
      · by_cases hx11 : x = 1
        · go_wp2_with fail
          refine (pick_any (w0 := w0) hc own5 hwB (by omega) (by omega)).mono ?_
          rintro e w6 ⟨y, a6, rfl, hy0, hy1, hy2, h61, h62, own6, b6⟩
          have hy3 := hy2 (by omega)
          have b6' := b5'.trans b6
          clear own5 b6 b5' hy1 hy2 c5 e5
          go_wp2
          go_loopw [5] (fun v wr => ∃ X', X'.length ≤ 61 ∧ (∀ x ∈ X', -10 ≤ x ∧ x ≤ 1000000) ∧ Below B w wr ∧ CurAt wr B c vc a6 (intRowOf 3 v X' :: (boxRow 26 2 r [.slice dm n mm, .slice ds q ms] :: R))) (fun v _ => 100 - (match v with | .slice _ n _ => n | _ => 0))
          case atStart => exact ⟨X, by omega, hXb, b6', own6⟩
          case round =>
            obtain ⟨X', hXl', hXb', b7, own7⟩ := hrel
            obtain ⟨w7, rfl⟩ : ∃ y : World, y = wr := ⟨_, rfl⟩
            obtain ⟨vd', vm', rfl⟩ := ow_ints own7.rows
            by_cases hlt : (X'.length : Int) < 59 + y
            · obtain ⟨s7, h7⟩ := own7
              have hB7 := CurAt.size ⟨s7, h7⟩
              have h7' := h7.perm (List.Perm.swap _ _ _)
              clear h7
              go_wp2_with (at_builtin; refine wpList_append1 rfl _ _ _ rfl elemInt rfl h7' hB7 rfl rfl (by omega) (by omega) ?_; intro v1 w8 ho hb8; obtain ⟨vd1, vm1, hv1⟩ := ho.form; (obtain rfl : v1 = .slice vd1 (X'.length + 1) vm1 := hv1))
              go_roundw
              case rel =>
                refine ⟨X' ++ [0], by simp; omega, ?_, b7.trans hb8, ⟨s7, (ow_snoc ho rfl).perm (List.Perm.swap _ _ _)⟩⟩
                intro z hz
                rcases List.mem_append.1 hz with h | h
                · exact hXb' z h
                · rw [List.mem_singleton] at h; omega
              case measure => simp; omega
            · go_wp2
              go_ret
              exact ⟨_, rfl, X', by omega, hXb', a6, by omega, by omega, own7.sub ((List.sublist_cons_self _ _).cons_cons _), b7⟩
        · go_wp2
          go_ret
          exact ⟨_, X, a5, rfl, by omega, hXb, by omega, by omega, own5.sub ((List.sublist_cons_self _ _).cons_cons _), b5'⟩

/-- the cursor at its start -/
theorem CurAt.start {w : World} {B : Nat} {vc : Value} {R : List Row} (h : Own w B R) (hB : B ≤ w.heap.size) : CurAt (w.alloc (.cells #[vc, .int .i64 0, .int .u64 0] 56)) B w.heap.size vc 0 R :=
  ⟨0, h.lit 56 3 1 #[vc, .int .i64 0, .int .u64 0] hB (by unfold maxLen; omega) rfl⟩

def LCPost (w : World) (e : Ending) (w' : World) : Prop := ∃ pv s rv M S X, e = .returned (.tuple #[pv, .int .i64 s, rv]) ∧ IsProb w' pv M S ∧ I64 s ∧ IsInts w' rv X ∧ X.length ≤ 100 ∧ Ext w w'

end Go.Proofs.Ytkniohcmhdgbeaa
