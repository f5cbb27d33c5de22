/- Several texts in one: MtG MtH Vlaw. -/
import Derived.Test.YtcfhmbmagkoekaaGrL
import Derived.Test.YtcfhmbmagkoekaaGrK
import Derived.Test.YtcfhmbmagkoekaaGrD
/- A metric, a configuration and a sequence that draws make. -/
namespace Go.Proofs.Ytcfhmbmagkoekaa
open Go.RowKit

set_option maxHeartbeats 3200000 in
set_option maxRecDepth 100000 in
theorem reqs6_any {w0 w : World} [Ext w0 w] {vc : Value} {nb : Nat} (hc : IsBytes w0 vc nb) {B c : Nat} {a : Int} {R : List Row} (own : CurAt w B c vc a R) (hwB : w0.heap.size ≤ B) (ha : 0 ≤ a) (ha2 : a ≤ 2000000) {n : Int} (hn : 0 ≤ n ∧ n ≤ 1000) :
    Calls Try.prog 88 #[.pointer (some ⟨c, 0, none⟩), .int .i64 n] w fun e w' => ∃ v X a', e = .returned v ∧ X.length ≤ 100 ∧ (∀ x ∈ X, -1 ≤ x ∧ x ≤ 65535) ∧ a ≤ a' ∧ a' ≤ a + 100 ∧ CurAt w' B c vc a' (intRowOf 3 v X :: R) ∧ Below B w w' := by
  have hBw := own.size
  have hE : ∀ u, Below B w u → Ext w0 u := fun u h => ⟨(‹Ext w0 w›).below.trans (h.mono hwB)⟩
  replace hE := hid hE
  go_enter Try.func88, Try.ntmps88
  go_upto_region 2 with fail
  have own2 := own.lit (e := 3) (n := 0) (cs := #[]) [] own.size rfl rfl (by simp)
  have b2 : Below B w (w.alloc (.cells #[] 3)) := (Below.refl B w).alloc hBw _
  generalize w.alloc (.cells #[] 3) = w2 at *
  generalize w.heap.size = gl at *
  clear own
  have e2 : Ext w0 w2 := hE.out _ b2
  go_wp2_with fail
  refine (among_any (w0 := w0) hc (own2.lit [0, 1, 2, 3, 4, 6, 8] own2.size rfl rfl (by decide)) hwB (by omega) (by omega) (by decide) (by decide)).mono ?_
  rintro e w3 ⟨cnt, a3, rfl, hcnt, h31, h32, own3, b3⟩
  have own3' := own3.drop
  have b3' : Below B w w3 := b2.trans (((Below.refl B w2).alloc own2.size _).trans b3)
  have hc9 : 0 ≤ cnt ∧ cnt ≤ 8 := by simp at hcnt; omega
  obtain ⟨cnt, rfl⟩ := Int.eq_ofNat_of_zero_le hc9.1
  clear own3 own2 b2 b3 e2 hcnt
  go_wp2
  go_loopw [5, 6] (fun v t wr => ∃ k : Nat, k ≤ cnt ∧ t = .int .i64 k ∧ ∃ X ax, Hid (X.length + k = cnt) ∧ (∀ x ∈ X, -1 ≤ x ∧ x ≤ 65535) ∧ a ≤ ax ∧ ax ≤ a + 2 + 2 * X.length ∧ Below B w wr ∧ CurAt wr B c vc ax (intRowOf 3 v X :: R)) (fun _ t _ => (intOf t).toNat)
  case atStart => exact ⟨cnt, by omega, rfl, [], a3, hid (by simp), by simp, by omega, by simp; omega, b3', own3'⟩
  case round =>
    obtain ⟨k, hk, rfl, X, ax, hXl, hXb, hax1, hax2, b4, own4⟩ := hrel
    obtain ⟨w4, rfl⟩ : ∃ y : World, y = wr := ⟨_, rfl⟩
    obtain ⟨vd, vm, rfl⟩ := ow_ints own4.rows
    have hX10 : X.length ≤ 8 := by have := hXl.out; omega
    have e4 : Ext w0 w4 := hE.out _ b4
    clear own3' b3'
    by_cases hk0 : 0 < k
    · obtain ⟨k', hk'⟩ : ∃ y, k = y + 1 := ⟨k - 1, by omega⟩
      have hgt : (0 : Int) < (k : Int) := by omega
      have hk9 : k ≤ 8 := by omega
      have hkid := hid hk'
      clear hk'
      go_wp2_with fail
      refine (pick_any (w0 := w0) hc own4 hwB (by omega) (by omega)).mono ?_
      rintro e w5 ⟨x, a5, rfl, hx0, hx1, hx2, h51, h52, own5, b5⟩
      have b5' := b4.trans b5
      obtain ⟨s5, h5⟩ := own5
      have hB5 := CurAt.size ⟨s5, h5⟩
      have h5' := h5.perm (List.Perm.swap _ _ _)
      clear own4 b4 b5 e4 h5 hx2
      go_wp2_with (at_builtin; refine wpList_append1 rfl _ _ _ rfl elemInt rfl h5' hB5 rfl rfl (by omega) (by omega) ?_; intro v1 w6 ho hb6)
      go_roundw
      case rel =>
        exact ⟨k', by have := hkid.out; omega, congrArg (Value.int .i64) (by have := hkid.out; omega), X ++ [x], a5, hid (by have := hXl.out; have := hkid.out; simp; omega), app_i64 hXb (by omega), by omega, by simp; omega, b5'.trans hb6, ⟨s5, (ow_snoc ho rfl).perm (List.Perm.swap _ _ _)⟩⟩
      case measure => have := hkid.out; simp [intOf]; omega
    · have hk00 : k = 0 := by omega
      replace hk00 := hid hk00
      go_wp2_with fail
      refine (one_any (w0 := w0) hc own4 hwB (by omega) (by omega)).mono ?_
      rintro e w5 ⟨q5, a5, rfl, h51, h52, own5, b5⟩
      have b5' := b4.trans b5
      have e5 : Ext w0 w5 := hE.out _ b5'
      clear own4 b4 b5 e4
      cases q5 with
      | true =>
        go_wp2_with fail
        refine (among_any (w0 := w0) hc (own5.lit [-1, n] own5.size rfl rfl (by simp)) hwB (by omega) (by omega) (by simp) (by simp)).mono ?_
        rintro e w6 ⟨y, a6, rfl, hy, h61, h62, own6, b6⟩
        have hy' : -1 ≤ y ∧ y ≤ 65535 := by simp at hy; omega
        have b6' : Below B w w6 := b5'.trans (((Below.refl B w5).alloc own5.size _).trans b6)
        obtain ⟨s6, h6⟩ := own6.drop
        have hB6 := CurAt.size ⟨s6, h6⟩
        have h6' := h6.perm (List.Perm.swap _ _ _)
        clear own5 own6 b6 h6
        go_wp2_with (at_builtin; refine wpList_append1 rfl _ _ _ rfl elemInt rfl h6' hB6 rfl rfl (by omega) (by omega) ?_; intro v1 w7 ho hb7)
        go_ret
        exact ⟨v1, X ++ [y], a6, rfl, by simp; omega, app_i64 hXb hy', by omega, by omega, ⟨s6, (ow_snoc ho rfl).perm (List.Perm.swap _ _ _)⟩, b6'.trans hb7⟩
      | false =>
        go_wp2_with fail
        refine (one_any (w0 := w0) hc own5 hwB (by omega) (by omega)).mono ?_
        rintro e w6 ⟨q6, a6, rfl, h61, h62, own6, b6⟩
        have b6' := b5'.trans b6
        have e6 : Ext w0 w6 := hE.out _ b6'
        clear own5 b5' b6 e5
        cases q6 with
        | true =>
          go_wp2_with fail
          refine (pick_any (w0 := w0) hc own6 hwB (by omega) (by omega)).mono ?_
          rintro e w7 ⟨y, a7, rfl, hy0, hy1, hy2, h71, h72, own7, b7⟩
          have hy3 := hy2 (by omega)
          have b7' := b6'.trans b7
          clear own6 b6' b7 hy1 hy2 e6
          go_wp2
          go_loopw [5] (fun v wr => ∃ X', X'.length ≤ 61 ∧ (∀ x ∈ X', -1 ≤ x ∧ x ≤ 65535) ∧ Below B w wr ∧ CurAt wr B c vc a7 (intRowOf 3 v X' :: R)) (fun v _ => 100 - (match v with | .slice _ n _ => n | _ => 0))
          case atStart => exact ⟨X, by omega, hXb, b7', own7⟩
          case round =>
            obtain ⟨X', hXl', hXb', b8, own8⟩ := hrel
            obtain ⟨w8, rfl⟩ : ∃ y : World, y = wr := ⟨_, rfl⟩
            obtain ⟨vd', vm', rfl⟩ := ow_ints own8.rows
            by_cases hlt : (X'.length : Int) < 59 + y
            · obtain ⟨s8, h8⟩ := own8
              have hB8 := CurAt.size ⟨s8, h8⟩
              have h8' := h8.perm (List.Perm.swap _ _ _)
              clear h8
              go_wp2_with (at_builtin; refine wpList_append1 rfl _ _ _ rfl elemInt rfl h8' hB8 rfl rfl (by omega) (by omega) ?_; intro v1 w9 ho hb9; obtain ⟨vd1, vm1, hv1⟩ := ho.form; (obtain rfl : v1 = .slice vd1 (X'.length + 1) vm1 := hv1))
              go_roundw
              case rel =>
                exact ⟨X' ++ [0], by simp; omega, app_i64 hXb' (by omega), b8.trans hb9, ⟨s8, (ow_snoc ho rfl).perm (List.Perm.swap _ _ _)⟩⟩
              case measure => simp; omega
            · go_wp2
              go_ret
              exact ⟨_, rfl, X', by omega, hXb', a7, by omega, by omega, own8, b8⟩
        | false =>
          go_wp2
          go_ret
          exact ⟨_, X, a6, rfl, by omega, hXb, by omega, by omega, own6, b6'⟩

/-- what a draw of a metric, a configuration and a sequence gives -/
def SVPost (w : World) (B c : Nat) (vc : Value) (a : Int) (R : List Row) (e : Ending) (w' : World) : Prop :=
  ∃ d m av rv M A X Z a', e = .returned (.tuple #[.agg #[.slice d (M : List (List Int)).length m], av, rv]) ∧ MOk M ∧ (A : List Int).length ≤ 20 ∧ (X : List Int).length ≤ 100 ∧ a ≤ a' ∧ a' ≤ a + 1000 ∧ CurAt w' B c vc a' (Z ++ R) ∧ Hid (∀ u B', Own u B' Z → IsMet u (.agg #[.slice d M.length m]) M ∧ IsInts u av A ∧ IsInts u rv X) ∧ Below B w w'

set_option maxHeartbeats 3200000 in
set_option maxRecDepth 100000 in
theorem server7_any {w0 w : World} [Ext w0 w] {vc : Value} {nb : Nat} (hc : IsBytes w0 vc nb) {B c : Nat} {a : Int} {R : List Row} (own : CurAt w B c vc a R) (hwB : w0.heap.size ≤ B) (ha : 0 ≤ a) (ha2 : a ≤ 1000000) :
    Calls Try.prog 55 #[.pointer (some ⟨c, 0, none⟩)] w (SVPost w B c vc a R) := by
  have hBw := own.size
  have hE : ∀ u, Below B w u → Ext w0 u := fun u h => ⟨(‹Ext w0 w›).below.trans (h.mono hwB)⟩
  replace hE := hid hE
  go_enter Try.func55, Try.ntmps55
  go_upto_region 1 with fail
  have own1 := own.box 29 1 #[.slice none 0 0] hBw rfl
  have b1 : Below B w (w.alloc (.cells #[.slice none 0 0] 29)) := (Below.refl B w).alloc hBw _
  obtain ⟨r, hr⟩ : ∃ r, r = w.heap.size := ⟨_, rfl⟩
  rw [← hr] at own1 ⊢
  replace hr := hid hr
  generalize w.alloc (.cells #[.slice none 0 0] 29) = w1 at *
  have e1 : Ext w0 w1 := hE.out _ b1
  clear own
  go_wp2_with fail
  refine (metricD_any (w0 := w0) hc own1 hwB (by omega) (by omega)).mono ?_
  rintro e w2 ⟨dm, mm, vs, M, a2, rfl, hvs, hM, ha1, ha2', own2, b2⟩
  have b2' := b1.trans b2
  clear own1 b1 b2 e1
  have hn7 := hM.1
  replace hM := hid hM
  replace hvs := hid hvs
  have own4 := own2.box 29 1 #[.slice dm M.length mm] own2.size rfl
  have b4' : Below B w (w2.alloc (.cells #[.slice dm M.length mm] 29)) := b2'.alloc own2.size _
  obtain ⟨mb, hmb⟩ : ∃ r, r = w2.heap.size := ⟨_, rfl⟩
  go_upto_region 2 with fail
  generalize w2.alloc (.cells #[.slice dm M.length mm] 29) = w4 at *
  rw [← hmb] at own4 ⊢
  replace hmb := hid hmb
  clear own2 b2'
  have ownd := own4.ext (w' := w4.drew)
  have bd : Below B w w4.drew := b4'.drew
  have p0 : w4.drew.cell? ⟨mb, 0, none⟩ = some (.slice dm M.length mm) := (ownd.at (.head _) (j := 0) (by omega)).1
  clear own4 b4'
  refine wp_region_held_drew (S := fun w' => w'.cell? ⟨mb, 0, none⟩ = some (.slice dm M.length mm) ∧ True) (by kernel_rfl) ⟨p0, trivial⟩ (fun hHeld0 => ?_)
  generalize w4.drew = wd at *
  have ed : Ext w0 wd := hE.out _ bd
  refine wpAnyH_take (i := 0) (v := .pointer (some ⟨c, 0, none⟩)) rfl (by kernel_rfl) (by kernel_rfl) (by kernel_rfl) (fun _ _ _ h => h) (Or.inl ⟨by rfl, by intro wx hx; go_simp⟩) (by assumption) ?_
  try simp only [List.getElem_toArray, List.getElem_cons_zero, Act.put, List.setIfInBounds_toArray, List.set_cons_zero, List.set_cons_succ]
  refine wpAnyH_take (i := 1) (v := .pointer (some ⟨mb, 0, none⟩)) rfl (by kernel_rfl) (by kernel_rfl) (by kernel_rfl) (fun _ _ _ h => h) (Or.inl ⟨by rfl, by intro wx hx; go_simp⟩) (by assumption) ?_
  try simp only [List.getElem_toArray, List.getElem_cons_succ, List.getElem_cons_zero, Act.put, List.setIfInBounds_toArray, List.set_cons_zero, List.set_cons_succ]
  refine wpAnyH_take (i := 2) (v := .slice dm M.length mm) rfl (by kernel_rfl) (by kernel_rfl) (by kernel_rfl) (fun _ _ _ h => h) (Or.inl ⟨by rfl, by intro wx hx; obtain ⟨_, _⟩ := hx; go_simp⟩) (by assumption) ?_
  try simp only [List.getElem_toArray, List.getElem_cons_succ, List.getElem_cons_zero, Act.put, List.setIfInBounds_toArray, List.set_cons_zero, List.set_cons_succ]
  refine wpAnyH_take (i := 3) (v := .int .i64 M.length) rfl (by kernel_rfl) (by kernel_rfl) (by kernel_rfl) (fun _ _ _ h => h) (Or.inl ⟨by rfl, by intro wx hx; go_simp⟩) (by assumption) ?_
  try simp only [List.getElem_toArray, List.getElem_cons_succ, List.getElem_cons_zero, Act.put, List.setIfInBounds_toArray, List.set_cons_zero, List.set_cons_succ]
  refine wpAnyH_take (i := 4) (v := .pointer (some ⟨c, 0, none⟩)) rfl (by kernel_rfl) (by kernel_rfl) (by kernel_rfl) (fun _ _ _ h => h) (Or.inl ⟨by rfl, by intro wx hx; go_simp⟩) (by assumption) ?_
  try simp only [List.getElem_toArray, List.getElem_cons_succ, List.getElem_cons_zero, Act.put, List.setIfInBounds_toArray, List.set_cons_zero, List.set_cons_succ]
  refine wpAnyH_ready (rs := [5]) (by kernel_rfl) (by simp) ?_
  refine AllReadyH.cons rfl (fun K hK => ?_) AllReadyH.nil
  go_simp
  go_at_call 31
  refine (pick_any (w0 := w0) hc ownd hwB (by omega) (by omega)).mono ?_
  rintro e w5 ⟨x5, a5, rfl, h50, h51, h52, h53, h54, own5, b5⟩
  have b5' := bd.trans b5
  have hx5 := h52 (by omega)
  have p5 : w5.cell? ⟨mb, 0, none⟩ = some (.slice dm M.length mm) := (own5.at (.head _) (j := 0) (by omega)).1
  have e5 : Ext w0 w5 := hE.out _ b5'
  obtain ⟨k, hk⟩ : ∃ k : Nat, (k : Int) = 1 + x5 := ⟨(1 + x5).toNat, by omega⟩
  have hk10 : k ≤ 10 := by omega
  clear ownd bd ed p0 b5 h51 h52
  go_wp2_with fail
  refine hK.out _ _ ⟨p5, trivial⟩ (fun _ => ?_)
  clear hK K
  try simp only [List.getElem_toArray, List.getElem_cons_succ, List.getElem_cons_zero, Act.put, List.setIfInBounds_toArray, List.set_cons_zero, List.set_cons_succ]
  refine wpAnyH_take (i := 6) (v := .int .i64 (1 + x5)) rfl (by kernel_rfl) (by kernel_rfl) (by kernel_rfl) (fun _ _ _ h => h) (Or.inl ⟨by rfl, by intro wx hx; go_simp; exact IntWalk.i64_in _ (by omega)⟩) (by assumption) ?_
  try simp only [List.getElem_toArray, List.getElem_cons_succ, List.getElem_cons_zero, Act.put, List.setIfInBounds_toArray, List.set_cons_zero, List.set_cons_succ]
  rw [← hk]
  replace hk := hid hk
  refine wpAnyH_ready (rs := [7]) (by kernel_rfl) (by simp) ?_
  refine AllReadyH.cons rfl (fun K hK => ?_) AllReadyH.nil
  go_simp
  go_at_call 87
  refine (config_any (w0 := w0) hc own5 hwB (by omega) (by omega) (n := M.length) (k := k) (by omega) hk10).mono ?_
  rintro e w6 ⟨av, A, a6, rfl, hAl, hAb, h61, h62, own6, b6⟩
  have b6' := b5'.trans b6
  have p6 : w6.cell? ⟨mb, 0, none⟩ = some (.slice dm M.length mm) := (own6.at (.tail _ (.head _)) (j := 0) (by omega)).1
  clear own5 b5' b6 e5 p5
  go_wp2_with fail
  refine hK.out _ _ ⟨p6, trivial⟩ (fun _ => ?_)
  clear hK K
  try simp only [List.getElem_toArray, List.getElem_cons_succ, List.getElem_cons_zero, Act.put, List.setIfInBounds_toArray, List.set_cons_zero, List.set_cons_succ]
  refine wpAnyH_take (i := 8) (v := av) rfl (by kernel_rfl) (by kernel_rfl) (by kernel_rfl) (fun _ _ _ h => h) (Or.inl ⟨by rfl, by intro wx hx; go_simp⟩) (by assumption) ?_
  try simp only [List.getElem_toArray, List.getElem_cons_succ, List.getElem_cons_zero, Act.put, List.setIfInBounds_toArray, List.set_cons_zero, List.set_cons_succ]
  refine wpAnyH_done (by kernel_rfl) ?_ _
  go_upto_region 3 with fail
  have ownd := own6.ext (w' := w6.drew)
  have bd : Below B w w6.drew := b6'.drew
  have p0 : w6.drew.cell? ⟨mb, 0, none⟩ = some (.slice dm M.length mm) := (ownd.at (.tail _ (.head _)) (j := 0) (by omega)).1
  clear own6 b6' p6
  refine wp_region_held_drew (S := fun w' => w'.cell? ⟨mb, 0, none⟩ = some (.slice dm M.length mm) ∧ True) (by kernel_rfl) ⟨p0, trivial⟩ (fun hHeld0 => ?_)
  generalize w6.drew = wd at *
  have ed : Ext w0 wd := hE.out _ bd
  refine wpAnyH_take (i := 0) (v := .agg #[.slice dm M.length mm]) rfl (by kernel_rfl) (by kernel_rfl) (by kernel_rfl) (fun _ _ _ h => h) (Or.inl ⟨by rfl, by intro wx hx; obtain ⟨_, _⟩ := hx; go_simp⟩) (by assumption) ?_
  try simp only [List.getElem_toArray, List.getElem_cons_zero, Act.put, List.setIfInBounds_toArray, List.set_cons_zero, List.set_cons_succ]
  refine wpAnyH_take (i := 1) (v := av) rfl (by kernel_rfl) (by kernel_rfl) (by kernel_rfl) (fun _ _ _ h => h) (Or.inl ⟨by rfl, by intro wx hx; go_simp⟩) (by assumption) ?_
  try simp only [List.getElem_toArray, List.getElem_cons_succ, List.getElem_cons_zero, Act.put, List.setIfInBounds_toArray, List.set_cons_zero, List.set_cons_succ]
  refine wpAnyH_take (i := 2) (v := .pointer (some ⟨c, 0, none⟩)) rfl (by kernel_rfl) (by kernel_rfl) (by kernel_rfl) (fun _ _ _ h => h) (Or.inl ⟨by rfl, by intro wx hx; go_simp⟩) (by assumption) ?_
  try simp only [List.getElem_toArray, List.getElem_cons_succ, List.getElem_cons_zero, Act.put, List.setIfInBounds_toArray, List.set_cons_zero, List.set_cons_succ]
  refine wpAnyH_take (i := 3) (v := .pointer (some ⟨mb, 0, none⟩)) rfl (by kernel_rfl) (by kernel_rfl) (by kernel_rfl) (fun _ _ _ h => h) (Or.inl ⟨by rfl, by intro wx hx; go_simp⟩) (by assumption) ?_
  try simp only [List.getElem_toArray, List.getElem_cons_succ, List.getElem_cons_zero, Act.put, List.setIfInBounds_toArray, List.set_cons_zero, List.set_cons_succ]
  refine wpAnyH_take (i := 4) (v := .slice dm M.length mm) rfl (by kernel_rfl) (by kernel_rfl) (by kernel_rfl) (fun _ _ _ h => h) (Or.inl ⟨by rfl, by intro wx hx; obtain ⟨_, _⟩ := hx; go_simp⟩) (by assumption) ?_
  try simp only [List.getElem_toArray, List.getElem_cons_succ, List.getElem_cons_zero, Act.put, List.setIfInBounds_toArray, List.set_cons_zero, List.set_cons_succ]
  refine wpAnyH_take (i := 5) (v := .int .i64 M.length) rfl (by kernel_rfl) (by kernel_rfl) (by kernel_rfl) (fun _ _ _ h => h) (Or.inl ⟨by rfl, by intro wx hx; go_simp⟩) (by assumption) ?_
  try simp only [List.getElem_toArray, List.getElem_cons_succ, List.getElem_cons_zero, Act.put, List.setIfInBounds_toArray, List.set_cons_zero, List.set_cons_succ]
  refine wpAnyH_ready (rs := [6]) (by kernel_rfl) (by simp) ?_
  refine AllReadyH.cons rfl (fun K hK => ?_) AllReadyH.nil
  go_simp
  go_at_call 88
  refine (reqs6_any (w0 := w0) hc ownd hwB (by omega) (by omega) (n := M.length) (by omega)).mono ?_
  rintro e w9 ⟨rv, X, a9, rfl, hXl, hXb, h91, h92, own9, b9⟩
  have b9' := bd.trans b9
  have p9 : w9.cell? ⟨mb, 0, none⟩ = some (.slice dm M.length mm) := (own9.at (.tail _ (.tail _ (.head _))) (j := 0) (by omega)).1
  have hrm : boxRow 29 1 r [.slice none 0 0] ∈ intRowOf 3 rv X :: intRowOf 3 av A :: boxRow 29 1 mb (#[.slice dm M.length mm] : Array Value).toList :: (rowsOf 24 3 (.slice dm M.length mm) vs M ++ (boxRow 29 1 r [.slice none 0 0] :: R)) := by simp
  have r00 : w9.cell? ⟨r, 0, none⟩ = some (.slice none 0 0) := (own9.at hrm (j := 0) (by omega)).1
  have r01 := (own9.at hrm (j := 0) (by omega)).2
  clear ownd bd ed p0 b9
  go_wp2_with fail
  refine hK.out _ _ ⟨p9, trivial⟩ (fun _ => ?_)
  clear hK K
  try simp only [List.getElem_toArray, List.getElem_cons_succ, List.getElem_cons_zero, Act.put, List.setIfInBounds_toArray, List.set_cons_zero, List.set_cons_succ]
  have s1 := CurAt.set (A := intRowOf 3 rv X :: intRowOf 3 av A :: boxRow 29 1 mb (#[.slice dm M.length mm] : Array Value).toList :: rowsOf 24 3 (.slice dm M.length mm) vs M) (L := R) own9 0 (.slice dm M.length mm)
  have own10 := s1.1
  have b10 := b9'.setCell s1.2 (p := ⟨r, 0, none⟩) (.slice dm M.length mm)
  have t0 : (w9.setCell ⟨r, 0, none⟩ (.slice dm M.length mm)).cell? ⟨mb, 0, none⟩ = some (.slice dm M.length mm) := (own10.at (.tail _ (.tail _ (.head _))) (j := 0) (by omega)).1
  have y0 : (w9.setCell ⟨r, 0, none⟩ (.slice dm M.length mm)).cell? ⟨r, 0, none⟩ = some (.slice dm M.length mm) := by go_simp
  clear s1
  refine wpAnyH_ready (rs := [7]) (by kernel_rfl) (by simp) ?_
  refine AllReadyH.cons rfl (fun K hK => ?_) AllReadyH.nil
  go_simp
  refine hK.out _ _ ⟨t0, trivial⟩ (fun _ => ?_)
  clear hK K
  try simp only [List.getElem_toArray, List.getElem_cons_succ, List.getElem_cons_zero, Act.put, List.setIfInBounds_toArray, List.set_cons_zero, List.set_cons_succ]
  generalize w9.setCell ⟨r, 0, none⟩ (.slice dm M.length mm) = w10 at *
  refine wpAnyH_take (i := 8) (v := av) rfl (by kernel_rfl) (by kernel_rfl) (by kernel_rfl) (fun _ _ _ h => h) (Or.inl ⟨by rfl, by intro wx hx; go_simp⟩) (by assumption) ?_
  try simp only [List.getElem_toArray, List.getElem_cons_succ, List.getElem_cons_zero, Act.put, List.setIfInBounds_toArray, List.set_cons_zero, List.set_cons_succ]
  refine wpAnyH_take (i := 9) (v := rv) rfl (by kernel_rfl) (by kernel_rfl) (by kernel_rfl) (fun _ _ _ h => h) (Or.inl ⟨by rfl, by intro wx hx; go_simp⟩) (by assumption) ?_
  try simp only [List.getElem_toArray, List.getElem_cons_succ, List.getElem_cons_zero, Act.put, List.setIfInBounds_toArray, List.set_cons_zero, List.set_cons_succ]
  refine wpAnyH_done (by kernel_rfl) ?_ _
  go_wp2_with fail
  refine bodyPost_ret (v := .tuple #[.agg #[.slice dm M.length mm], av, rv]) (by simp [results, Try.results55, go_sem, y0]) rfl ?_
  refine ⟨_, _, av, rv, M, A, X, intRowOf 3 rv X :: intRowOf 3 av A :: (rowsOf 24 3 (.slice dm M.length mm) vs M ++ []), a9, rfl, hM.out, hAl, by omega, by omega, by omega, ?_, hid (fun u _ hu => ⟨met_own hu.tail.tail hvs.out hM.out, hu.tail.reads (by unfold Short; omega) (small_i64 hAb), hu.reads (by unfold Short; omega) (small_i64 hXb)⟩), b10⟩
  refine own10.sub ?_
  rw [List.append_nil]
  exact ((List.Sublist.append_left (List.sublist_cons_self _ _) _).trans (List.sublist_cons_self _ _)).cons_cons _ |>.cons_cons _
end Go.Proofs.Ytcfhmbmagkoekaa

/- Draws of a metric, a configuration and a sequence or a number. -/
namespace Go.Proofs.Ytcfhmbmagkoekaa
open Go.RowKit

/-- what such a draw gives: lists of its own that read as a metric and two lists -/
def DPost (w : World) (e : Ending) (w' : World) : Prop :=
  ∃ d m av rv M A X Z, e = .returned (.tuple #[.agg #[.slice d (M : List (List Int)).length m], av, rv]) ∧ MOk M ∧ (A : List Int).length ≤ 20 ∧ (X : List Int).length ≤ 100 ∧ Own w' w.heap.size Z ∧ Hid (∀ u B', Own u B' Z → IsMet u (.agg #[.slice d M.length m]) M ∧ IsInts u av A ∧ IsInts u rv X) ∧ Ext w w'

def CRPost (w : World) (e : Ending) (w' : World) : Prop :=
  ∃ d m av n M A Z, e = .returned (.tuple #[.agg #[.slice d (M : List (List Int)).length m], av, .int .i64 n]) ∧ MOk M ∧ (A : List Int).length ≤ 20 ∧ (-1 ≤ n ∧ n ≤ 100) ∧ Own w' w.heap.size Z ∧ Hid (∀ u B', Own u B' Z → IsMet u (.agg #[.slice d M.length m]) M ∧ IsInts u av A) ∧ Ext w w'
end Go.Proofs.Ytcfhmbmagkoekaa

/- What the laws compare with: lists with both answers, tables where both sides are equal. Written by vlaw.py. -/
namespace Go.Proofs.Ytcfhmbmagkoekaa
open Go.RowKit


set_option maxHeartbeats 800000 in
set_option maxRecDepth 100000 in
theorem rInts_any {v1 v2 : Value} {xs ys : List Int} {w0 w : World} [Ext w0 w] (hx : IsInts w0 v1 xs) (hy : IsInts w0 v2 ys) :
    Calls Try.prog 52 #[v1, v2] w fun e w' => e = .returned (.bool (decide (xs = ys))) ∧ Ext w w' := by
  obtain ⟨a, ca, rfl, la⟩ := hx.form
  obtain ⟨b, cb, rfl, lb⟩ := hy.form
  by_cases hn : xs.length = ys.length
  · have hne : ((xs.length : Int) != ys.length) = false := by simp [hn]
    replace hn := hid hn
    go_enter Try.func52, Try.ntmps52
    go_wp2
    go_loopw [5] (fun i wr => ∃ k : Nat, k ≤ xs.length ∧ i = .int .i64 k ∧ Hid (∀ j, j < k → nth xs j = nth ys j) ∧ Drew w wr) (fun i _ => xs.length - (intOf i).toNat)
    case atStart => exact ⟨0, by omega, rfl, by intro j hj; omega, Drew.refl _⟩
    case round =>
      obtain ⟨k, hk, rfl, heq, hd⟩ := hrel
      have ed : Ext w wr := hd.ext
      have e0 : Ext w0 wr := Ext.trans ‹Ext w0 w› ed
      by_cases hlt : k < xs.length
      · have hlt2 : k < ys.length := by have := hn.out; omega
        have hlt2' : (k : Int) < (ys.length : Int) := by omega
        obtain ⟨b1, o1, rfl, hc1⟩ := hx.at (w' := wr) hlt
        obtain ⟨b2, o2, rfl, hc2⟩ := hy.at (w' := wr) hlt2
        by_cases hc : nth xs k = nth ys k
        · have hc' : (nth xs k != nth ys k) = false := by simp [hc]
          replace hc := hid hc
          go_wp2_with (go_quiet (fail))
          go_roundw
          case rel =>
            refine ⟨k + 1, by omega, by go_num, ?_, hd.step _⟩
            intro j hj
            by_cases hjk : j = k
            · subst hjk; exact hc.out
            · exact heq.out j (by omega)
          case measure => simp [intOf]; omega
        · have hc' : (nth xs k != nth ys k) = true := by simpa using hc
          have hfin := hid (show decide (xs = ys) = false from decide_eq_false (fun h => hc (by rw [h])))
          replace hc := hid hc
          go_wp2_with (go_quiet (fail))
          go_ret
          exact ⟨ret_bool hfin.out.symm, Ext.trans ed inferInstance⟩
      · have hfin := hid (show decide (xs = ys) = true from decide_eq_true (eq_of_nth hn.out (fun j hj => heq.out j (by omega))))
        go_wp2
        go_ret
        exact ⟨ret_bool hfin.out.symm, ed⟩
  · have hne : ((xs.length : Int) != ys.length) = true := by simp; omega
    have hfin := hid (show decide (xs = ys) = false from decide_eq_false (fun h => hn (by rw [h])))
    replace hn := hid hn
    go_enter Try.func52, Try.ntmps52
    go_wp2
    go_ret
    exact ⟨ret_bool hfin.out.symm, Ext.refl _⟩

theorem rInts_same {v u : Value} {X : List Int} {w0 w : World} [Ext w0 w] (hv : IsInts w0 v X) (hu : IsInts w0 u X) :
    Calls Try.prog 52 #[v, u] w fun e w' => e = .returned (.bool true) ∧ Ext w w' := by
  refine (rInts_any hv hu).mono ?_
  rintro e w' ⟨rfl, e1⟩
  exact ⟨by rw [decide_eq_true rfl], e1⟩

set_option maxHeartbeats 400000 in
set_option maxRecDepth 100000 in
theorem rHas_any {v : Value} {xs : List Int} {x : Int} {w0 w : World} [Ext w0 w] (hx : IsInts w0 v xs) :
    Calls Try.prog 21 #[v, .int .i64 x] w fun e w' => e = .returned (.bool (hasB xs x)) ∧ w = w' := by
  obtain ⟨a, c, rfl, la⟩ := hx.form
  go_enter Try.func21, Try.ntmps21
  go_wp2
  go_loop [5] (fun i => ∃ k : Nat, k ≤ xs.length ∧ i = .int .i64 k ∧ Hid (∀ j, j < k → nth xs j ≠ x)) (fun i => xs.length - (intOf i).toNat)
  case atStart => exact ⟨0, by omega, rfl, by intro j hj; omega⟩
  case round =>
    obtain ⟨k, hk, rfl, hno⟩ := hrel
    by_cases hlt : k < xs.length
    · obtain ⟨b, o, rfl, hc⟩ := hx.at (w' := w) hlt
      by_cases he : nth xs k = x
      · have hr := hid (show hasB xs x = true from hasB_true.2 (mem_iff_nth.2 ⟨k, hlt, he⟩))
        have hb : (nth xs k == x) = true := by simp [he]
        replace he := hid he
        go_wp2
        go_ret
        exact ⟨ret_bool hr.out.symm, rfl⟩
      · have hb : (nth xs k == x) = false := by simpa using he
        replace he := hid he
        go_wp2
        go_round
        case rel =>
          refine ⟨k + 1, by omega, by go_num, fun j hj => ?_⟩
          by_cases e : j = k
          · rw [e]; exact he.out
          · exact hno.out j (by omega)
        case measure => simp [intOf]; omega
    · have hr := hid (show hasB xs x = false from hasB_false.2 fun h => by
        obtain ⟨j, hj, e⟩ := mem_iff_nth.1 h
        exact hno.out j (by omega) e)
      go_wp2
      go_ret
      exact ⟨ret_bool hr.out.symm, rfl⟩

set_option maxHeartbeats 400000 in
theorem rBig_l {v : Value} {n : Nat} {w : World} (hv : IsBytes w v n) :
    Calls Try.prog 5 #[v] w fun e w' => e = .returned (.bool (decide (65536 < n))) ∧ w = w' := by
  obtain ⟨a, c, rfl⟩ := hv.form
  by_cases h : 65536 < n
  · go_enter Try.func5, Try.ntmps5
    go_wp2
    go_ret
    exact ⟨ret_bool (decide_eq_decide.2 (by omega)), rfl⟩
  · go_enter Try.func5, Try.ntmps5
    go_wp2
    go_ret
    exact ⟨ret_bool (decide_eq_decide.2 (by omega)), rfl⟩

set_option maxHeartbeats 1600000 in
set_option maxRecDepth 100000 in
theorem rTable_l {v u : Value} {M : List (List Int)} {w0 w : World} [Ext w0 w] (hv : IsRows w0 v M) (hu : IsRows w0 u M) :
    Calls Try.prog 19 #[v, u] w fun e w' => e = .returned (.bool true) ∧ Ext w w' := by
  obtain ⟨a1, c1, rfl, l1⟩ := hv.form
  obtain ⟨a2, c2, rfl, l2⟩ := hu.form
  go_enter Try.func19, Try.ntmps19
  go_wp2
  go_loopw [5] (fun i wr => ∃ k : Nat, k ≤ M.length ∧ i = .int .i64 k ∧ Ext w wr) (fun i _ => M.length - (intOf i).toNat)
  case atStart => exact ⟨0, by omega, rfl, Ext.refl _⟩
  case round =>
    obtain ⟨k, hk, rfl, e2⟩ := hrel
    obtain ⟨wq, rfl⟩ : ∃ y : World, y = wr := ⟨_, rfl⟩
    have e0 : Ext w0 wq := Ext.trans ‹Ext w0 w› e2
    by_cases hlt : k < M.length
    · obtain ⟨b1, o1, d1, m1, rfl, hc1, hr1, _⟩ := hv.at (w' := wq) hlt
      obtain ⟨b2, o2, d2, m2, rfl, hc2, hr2, _⟩ := hu.at (w' := wq) hlt
      go_upto_region 6 with fail
      have ed : Ext wq (wq).drew := inferInstance
      refine wp_region_held_drew (S := fun w' => Ext wq w' ∧ w'.cell? ⟨b1, o1 + k, none⟩ = some (.slice d1 (row M k).length m1) ∧ w'.cell? ⟨b2, o2 + k, none⟩ = some (.slice d2 (row M k).length m2)) (by kernel_rfl) ⟨ed, ed.cell hc1, ed.cell hc2⟩ (fun hHeld0 => ?_)
      refine wpAnyH_take (i := 0) (v := .slice (some ⟨b1, o1, none⟩) M.length c1) rfl (by kernel_rfl) (by kernel_rfl) (by kernel_rfl) (fun _ _ _ h => h) (Or.inl ⟨by rfl, by intro wx hx; go_simp⟩) (by assumption) ?_
      try simp only [List.getElem_toArray, List.getElem_cons_zero, Act.put, List.setIfInBounds_toArray, List.set_cons_zero, List.set_cons_succ]
      refine wpAnyH_take (i := 1) (v := .int .i64 k) rfl (by kernel_rfl) (by kernel_rfl) (by kernel_rfl) (fun _ _ _ h => h) (Or.inl ⟨by rfl, by intro wx hx; go_simp⟩) (by assumption) ?_
      try simp only [List.getElem_toArray, List.getElem_cons_succ, List.getElem_cons_zero, Act.put, List.setIfInBounds_toArray, List.set_cons_zero, List.set_cons_succ]
      refine wpAnyH_take (i := 2) (v := .pointer (some ⟨b1, o1 + k, none⟩)) rfl (by kernel_rfl) (by kernel_rfl) (by kernel_rfl) (fun _ _ _ h => h) (Or.inl ⟨by rfl, by intro wx hx; go_simp⟩) (by assumption) ?_
      try simp only [List.getElem_toArray, List.getElem_cons_succ, List.getElem_cons_zero, Act.put, List.setIfInBounds_toArray, List.set_cons_zero, List.set_cons_succ]
      refine wpAnyH_take (i := 3) (v := .slice d1 (row M k).length m1) rfl (by kernel_rfl) (by kernel_rfl) (by kernel_rfl) (fun _ _ _ h => h) (Or.inl ⟨by rfl, by intro wx hx; obtain ⟨_, _, _⟩ := hx; go_simp⟩) (by assumption) ?_
      try simp only [List.getElem_toArray, List.getElem_cons_succ, List.getElem_cons_zero, Act.put, List.setIfInBounds_toArray, List.set_cons_zero, List.set_cons_succ]
      refine wpAnyH_take (i := 4) (v := .slice (some ⟨b2, o2, none⟩) M.length c2) rfl (by kernel_rfl) (by kernel_rfl) (by kernel_rfl) (fun _ _ _ h => h) (Or.inl ⟨by rfl, by intro wx hx; go_simp⟩) (by assumption) ?_
      try simp only [List.getElem_toArray, List.getElem_cons_succ, List.getElem_cons_zero, Act.put, List.setIfInBounds_toArray, List.set_cons_zero, List.set_cons_succ]
      refine wpAnyH_take (i := 5) (v := .int .i64 k) rfl (by kernel_rfl) (by kernel_rfl) (by kernel_rfl) (fun _ _ _ h => h) (Or.inl ⟨by rfl, by intro wx hx; go_simp⟩) (by assumption) ?_
      try simp only [List.getElem_toArray, List.getElem_cons_succ, List.getElem_cons_zero, Act.put, List.setIfInBounds_toArray, List.set_cons_zero, List.set_cons_succ]
      refine wpAnyH_take (i := 6) (v := .pointer (some ⟨b2, o2 + k, none⟩)) rfl (by kernel_rfl) (by kernel_rfl) (by kernel_rfl) (fun _ _ _ h => h) (Or.inl ⟨by rfl, by intro wx hx; go_simp⟩) (by assumption) ?_
      try simp only [List.getElem_toArray, List.getElem_cons_succ, List.getElem_cons_zero, Act.put, List.setIfInBounds_toArray, List.set_cons_zero, List.set_cons_succ]
      refine wpAnyH_take (i := 7) (v := .slice d2 (row M k).length m2) rfl (by kernel_rfl) (by kernel_rfl) (by kernel_rfl) (fun _ _ _ h => h) (Or.inl ⟨by rfl, by intro wx hx; obtain ⟨_, _, _⟩ := hx; go_simp⟩) (by assumption) ?_
      try simp only [List.getElem_toArray, List.getElem_cons_succ, List.getElem_cons_zero, Act.put, List.setIfInBounds_toArray, List.set_cons_zero, List.set_cons_succ]
      refine wpAnyH_ready (rs := [8]) (by kernel_rfl) (by simp) ?_
      refine AllReadyH.cons rfl (fun K hK => ?_) AllReadyH.nil
      go_simp
      go_at_call 52
      have e0d : Ext w0 wq.drew := Ext.trans e0 ed
      refine (rInts_same (w0 := w0) (w := wq.drew) hr1 hr2).mono ?_
      rintro e w5 ⟨rfl, hb5⟩
      go_wp2_with fail
      have er1 : Ext wq w5 := Ext.trans ed hb5
      refine hK.out _ _ ⟨er1, er1.cell hc1, er1.cell hc2⟩ (fun hHeld1 => ?_)
      clear hK K hHeld0
      try simp only [List.getElem_toArray, List.getElem_cons_succ, List.getElem_cons_zero, Act.put, List.setIfInBounds_toArray, List.set_cons_zero, List.set_cons_succ]
      refine wpAnyH_take (i := 9) (v := .bool false) rfl (by kernel_rfl) (by kernel_rfl) (by kernel_rfl) (fun _ _ _ h => h) (Or.inl ⟨by rfl, by intro wx hx; go_simp⟩) (by assumption) ?_
      try simp only [List.getElem_toArray, List.getElem_cons_succ, List.getElem_cons_zero, Act.put, List.setIfInBounds_toArray, List.set_cons_zero, List.set_cons_succ]
      refine wpAnyH_done (by kernel_rfl) ?_ _
      go_wp2_with fail
      go_roundw
      case rel => exact ⟨k + 1, by omega, by go_num, Ext.trans e2 er1⟩
      case measure => simp [intOf]; omega
    · go_wp2
      go_ret
      exact ⟨rfl, e2⟩

set_option maxHeartbeats 800000 in
set_option maxRecDepth 100000 in
theorem vInts_any {v1 v2 : Value} {xs ys : List Int} {w0 w : World} [Ext w0 w] (hx : IsInts w0 v1 xs) (hy : IsInts w0 v2 ys) :
    Calls Try.prog 28 #[v1, v2] w fun e w' => e = .returned (.bool (decide (xs = ys))) ∧ Ext w w' := by
  obtain ⟨a, ca, rfl, la⟩ := hx.form
  obtain ⟨b, cb, rfl, lb⟩ := hy.form
  by_cases hn : xs.length = ys.length
  · have hne : ((xs.length : Int) != ys.length) = false := by simp [hn]
    replace hn := hid hn
    go_enter Try.func28, Try.ntmps28
    go_wp2
    go_loopw [5] (fun i wr => ∃ k : Nat, k ≤ xs.length ∧ i = .int .i64 k ∧ Hid (∀ j, j < k → nth xs j = nth ys j) ∧ Drew w wr) (fun i _ => xs.length - (intOf i).toNat)
    case atStart => exact ⟨0, by omega, rfl, by intro j hj; omega, Drew.refl _⟩
    case round =>
      obtain ⟨k, hk, rfl, heq, hd⟩ := hrel
      have ed : Ext w wr := hd.ext
      have e0 : Ext w0 wr := Ext.trans ‹Ext w0 w› ed
      by_cases hlt : k < xs.length
      · have hlt2 : k < ys.length := by have := hn.out; omega
        have hlt2' : (k : Int) < (ys.length : Int) := by omega
        obtain ⟨b1, o1, rfl, hc1⟩ := hx.at (w' := wr) hlt
        obtain ⟨b2, o2, rfl, hc2⟩ := hy.at (w' := wr) hlt2
        by_cases hc : nth xs k = nth ys k
        · have hc' : (nth xs k != nth ys k) = false := by simp [hc]
          replace hc := hid hc
          go_wp2_with (go_quiet (fail))
          go_roundw
          case rel =>
            refine ⟨k + 1, by omega, by go_num, ?_, hd.step _⟩
            intro j hj
            by_cases hjk : j = k
            · subst hjk; exact hc.out
            · exact heq.out j (by omega)
          case measure => simp [intOf]; omega
        · have hc' : (nth xs k != nth ys k) = true := by simpa using hc
          have hfin := hid (show decide (xs = ys) = false from decide_eq_false (fun h => hc (by rw [h])))
          replace hc := hid hc
          go_wp2_with (go_quiet (fail))
          go_ret
          exact ⟨ret_bool hfin.out.symm, Ext.trans ed inferInstance⟩
      · have hfin := hid (show decide (xs = ys) = true from decide_eq_true (eq_of_nth hn.out (fun j hj => heq.out j (by omega))))
        go_wp2
        go_ret
        exact ⟨ret_bool hfin.out.symm, ed⟩
  · have hne : ((xs.length : Int) != ys.length) = true := by simp; omega
    have hfin := hid (show decide (xs = ys) = false from decide_eq_false (fun h => hn (by rw [h])))
    replace hn := hid hn
    go_enter Try.func28, Try.ntmps28
    go_wp2
    go_ret
    exact ⟨ret_bool hfin.out.symm, Ext.refl _⟩

theorem vInts_same {v u : Value} {X : List Int} {w0 w : World} [Ext w0 w] (hv : IsInts w0 v X) (hu : IsInts w0 u X) :
    Calls Try.prog 28 #[v, u] w fun e w' => e = .returned (.bool true) ∧ Ext w w' := by
  refine (vInts_any hv hu).mono ?_
  rintro e w' ⟨rfl, e1⟩
  exact ⟨by rw [decide_eq_true rfl], e1⟩

set_option maxHeartbeats 400000 in
theorem vBig_l {v : Value} {n : Nat} {w : World} (hv : IsBytes w v n) :
    Calls Try.prog 22 #[v] w fun e w' => e = .returned (.bool (decide (65536 < n))) ∧ w = w' := by
  obtain ⟨a, c, rfl⟩ := hv.form
  by_cases h : 65536 < n
  · go_enter Try.func22, Try.ntmps22
    go_wp2
    go_ret
    exact ⟨ret_bool (decide_eq_decide.2 (by omega)), rfl⟩
  · go_enter Try.func22, Try.ntmps22
    go_wp2
    go_ret
    exact ⟨ret_bool (decide_eq_decide.2 (by omega)), rfl⟩

end Go.Proofs.Ytcfhmbmagkoekaa

