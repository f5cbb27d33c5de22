/- slices.Delete and slices.DeleteFunc on a list of one's own; the rising list as a list of one's own. -/
import Derived.Test.YtmabejallkjjmaaRis
import Derived.Test.YtmabejallkjjmaaGrB
import Derived.Test.YtmabejallkjjmaaShelf2
import Derived.Lib.SliceRun
namespace Go.Proofs.Ytmabejallkjjmaa
open Go.RowKit

def putAt : List Value → Nat → List Value → List Value
  | cs, _, [] => cs
  | cs, o, v :: vs => putAt (cs.set o v) (o + 1) vs
theorem putAt_len : ∀ (vs cs : List Value) (o : Nat), (putAt cs o vs).length = cs.length
  | [], _, _ => rfl
  | v :: vs, cs, o => by rw [putAt, putAt_len]; simp
theorem putAt_take : ∀ (vs cs : List Value) (o k : Nat), k ≤ o → (putAt cs o vs).take k = cs.take k
  | [], _, _, _, _ => rfl
  | v :: vs, cs, o, k, h => by
    rw [putAt, putAt_take vs _ _ _ (by omega)]
    apply List.ext_getElem?
    intro j
    rw [List.getElem?_take, List.getElem?_take]
    by_cases hj : j < k
    · rw [if_pos hj, if_pos hj, List.getElem?_set_ne (by omega)]
    · rw [if_neg hj, if_neg hj]
theorem putAt_all : ∀ (vs cs : List Value) (o : Nat), o + vs.length = cs.length → putAt cs o vs = cs.take o ++ vs
  | [], cs, o, h => by
    have : cs.length ≤ o := by simp at h; omega
    rw [putAt, List.take_of_length_le this, List.append_nil]
  | v :: vs, cs, o, h => by
    have h' : o + 1 + vs.length = cs.length := by simp at h; omega
    rw [putAt, putAt_all vs _ _ (by rw [List.length_set]; exact h')]
    have hlt : o < (cs.set o v).length := by rw [List.length_set]; omega
    rw [List.take_add_one, List.getElem?_eq_getElem hlt, List.getElem_set_self]
    have : (cs.set o v).take o = cs.take o := by
      have := putAt_take [v] cs o o (Nat.le_refl _)
      simpa [putAt] using this
    rw [this]
    simp
theorem Own.setCells {B e g n c : Nat} {R : List Row} : ∀ (vs : List Value) (o : Nat) (cs : List Value) (w : World), Own w B (⟨e, 1, .slice (some ⟨g, 0, none⟩) n c, n, cs⟩ :: R) →
    Own (w.setCells g o vs) B (⟨e, 1, .slice (some ⟨g, 0, none⟩) n c, n, putAt cs o vs⟩ :: R) ∧ Below B w (w.setCells g o vs)
  | [], _, _, w, h => ⟨h, Below.refl _ _⟩
  | v :: vs, o, cs, w, h => by
    have h1 := h.set o v
    have b1 : Below B w (w.setCell ⟨g, o, none⟩ v) := (Below.refl B w).setCell h.lt.1 _
    obtain ⟨h2, b2⟩ := Own.setCells vs (o + 1) _ _ h1
    exact ⟨h2, b1.trans b2⟩
theorem Own.cut {w : World} {B e g n cp : Nat} {cs : List Value} {R : List Row} (h : Own w B (⟨e, 1, .slice (some ⟨g, 0, none⟩) n cp, n, cs⟩ :: R)) {k : Nat} (hk : k ≤ n) :
    Own w B (⟨e, 1, .slice (some ⟨g, 0, none⟩) k cp, k, cs.take k⟩ :: R) := by
  refine ⟨fun y hy => ?_, ?_⟩
  · rcases List.mem_cons.1 hy with rfl | hy
    · have h1 := h.head
      have hcs : cs.length = n := by have h0 : cs.length = n * 1 := h1.1; omega
      refine ⟨by show (cs.take k).length = k * 1; rw [List.length_take]; omega, .inr ?_⟩
      rcases h1.2 with ⟨h2, _⟩ | ⟨g', cap, cur, h2, h3, h4, h5, h6, h7, h8⟩
      · cases h2
      · simp only [Value.slice.injEq, Option.some.injEq, Addr.mk.injEq, and_true, true_and] at h2
        obtain ⟨rfl, rfl⟩ := h2
        refine ⟨g, cp, cur, rfl, h3, h4, by have h5' : n ≤ cp := h5; show k ≤ cp; omega, h6, h7, ?_⟩
        have h8' : cur.toList.take (n * 1) = cs := h8
        show cur.toList.take (k * 1) = cs.take k
        rw [← h8', List.take_take]
        congr 1
        omega
    · exact h.1 _ (.tail _ hy)
  · have h2 := h.2
    rw [List.pairwise_cons] at h2 ⊢
    exact h2

theorem take_erase (xs : List Int) {i : Nat} (hi : i < xs.length) : (xs.take i ++ xs.drop (i + 1) ++ List.replicate 1 0).take (xs.length - 1) = xs.eraseIdx i := by
  rw [List.eraseIdx_eq_take_drop_succ, List.take_left']
  rw [List.length_append, List.length_take, List.length_drop]
  omega
set_option maxHeartbeats 400000 in
theorem delete_any {w : World} {B : Nat} {v : Value} {xs : List Int} {R : List Row} (own : Own w B (intRowOf 3 v xs :: R)) {i : Nat} (hi : i < xs.length) (hB : B ≤ w.heap.size) :
    Calls Try.prog 151 #[v, .int .i64 i, .int .i64 ((i : Int) + 1)] w fun ee w' => ∃ u, ee = .returned u ∧ Own w' B (intRowOf 3 u (xs.eraseIdx i) :: R) ∧ Below B w w' := by
  obtain ⟨d, c, hv⟩ := own.form
  have hv' : v = .slice d xs.length c := hv
  subst hv'
  obtain ⟨g, rfl⟩ := own.at (j := i) hi
  have hcap : xs.length ≤ c ∧ c ≤ maxLen := by
    rcases own.head.2 with ⟨h2, _⟩ | ⟨g', cap, cur, h2, h3, h4, h5, h6, h7, h8⟩
    · cases h2
    · simp only [Value.slice.injEq, Option.some.injEq, Addr.mk.injEq, and_true, true_and] at h2
      obtain ⟨rfl, rfl⟩ := h2
      exact ⟨h5, h6⟩
  have h := Try.slices_Delete_int_cells g 0 xs.length c i (i + 1) xs w (Nat.le_refl _) hcap.1 (by have := hcap.2; unfold maxLen at this; omega) (by omega) (by omega)
    (fun j hj => by
      rw [Nat.zero_add, own.cellAt (w' := w) hj]
      simp [hj])
    (fun j hj => by rw [Nat.zero_add]; exact own.frozenAt j)
  refine h.mono ?_
  rintro ee w' ⟨rfl, q, rfl⟩
  rw [List.take_of_length_le (Nat.le_refl _), show i + 1 - i = 1 by omega]
  have e1 : Ext w (w.drewN q) := inferInstance
  have own1 : Own (w.drewN q) B (intRowOf 3 (.slice (some ⟨g, 0, none⟩) xs.length c) xs :: R) := own.ext
  obtain ⟨own2, b2⟩ := Own.setCells ((xs.take i ++ xs.drop (i + 1) ++ List.replicate 1 0).map (Value.int .i64)) 0 _ _ own1
  have hlen : (xs.take i ++ xs.drop (i + 1) ++ List.replicate 1 0).length = xs.length := by
    rw [List.length_append, List.length_append, List.length_take, List.length_drop, List.length_replicate]
    omega
  rw [putAt_all _ _ _ (by rw [List.length_map, List.length_map, hlen]; omega), List.take_zero, List.nil_append] at own2
  have own3 := own2.cut (k := xs.length - 1) (by omega)
  rw [← List.map_take, take_erase xs hi] at own3
  have hl : (xs.eraseIdx i).length = xs.length - 1 := by rw [List.length_eraseIdx, if_pos hi]
  refine ⟨_, rfl, ?_, (e1.below.mono hB).trans b2⟩
  unfold intRowOf
  rw [hl]
  exact own3

set_option maxHeartbeats 400000 in
set_option maxRecDepth 100000 in
/-- slices.IndexFunc: the first place. -/
theorem indexFuncAt_any {v : Value} {xs : List Int} {w0 w : World} [Ext w0 w] (hx : IsInts w0 v xs) (id : Nat) (caps : Array Value) (p : Int → Bool)
    (hcall : ∀ xa W, (callFunc id xa).run Try.prog W = .ok (.enter id xa) W)
    (hf : ∀ (W : World), Ext w W → ∀ k, k < xs.length → Calls Try.prog id (#[.int .i64 (nth xs k)] ++ caps) W fun e w' => e = .returned (.bool (p (nth xs k))) ∧ W = w') :
    Calls Try.prog 133 #[v, .func (.func id) #[] caps] w fun e w' => ∃ r : Int, e = .returned (.int .i64 r) ∧ ((r = -1 ∧ ∀ j, j < xs.length → p (nth xs j) = false) ∨ ∃ k : Nat, r = k ∧ k < xs.length ∧ p (nth xs k) = true ∧ ∀ j, j < k → p (nth xs j) = false) ∧ w = w' := by
  obtain ⟨a, c, rfl, la⟩ := hx.form
  go_enter Try.func133, Try.ntmps133
  replace hf := hid hf
  go_wp2
  go_loopw [5, 8] (fun _ i wr => ∃ k : Nat, k ≤ xs.length ∧ i = .int .i64 k ∧ Hid (∀ j, j < k → p (nth xs j) = false) ∧ wr = w) (fun _ i _ => xs.length - (intOf i).toNat)
  case atStart => exact ⟨0, by omega, rfl, by intro x hx; omega, rfl⟩
  case round =>
    obtain ⟨k, hk, rfl, hno, rfl⟩ := hrel
    by_cases hlt : k < xs.length
    · obtain ⟨b, o, rfl, hc⟩ := hx.at (w' := wr) hlt
      cases hp : p (nth xs k) with
      | true =>
        replace hp := hid hp
        go_wp2_with fail
        refine (hf.out wr inferInstance k hlt).mono ?_
        rw [hp.out]
        rintro e w1 ⟨rfl, rfl⟩
        go_wp2_with fail
        go_ret
        exact ⟨_, rfl, .inr ⟨k, rfl, hlt, hp.out, fun j hj => hno.out j hj⟩, rfl⟩
      | false =>
        replace hp := hid hp
        go_wp2_with fail
        refine (hf.out wr inferInstance k hlt).mono ?_
        rw [hp.out]
        rintro e w1 ⟨rfl, rfl⟩
        go_wp2_with fail
        go_roundw
        case rel =>
          refine ⟨k + 1, by omega, by go_num, ?_, trivial⟩
          intro j hj
          by_cases hjk : j = k
          · subst hjk; exact hp.out
          · exact hno.out j (by omega)
        case measure => simp [intOf]; omega
    · go_wp2
      go_ret
      exact ⟨_, rfl, .inl ⟨rfl, fun j hj => hno.out j (by omega)⟩, rfl⟩

/-- what has been kept of the first j places -/
structure Kept (p : Int → Bool) (xs ys : List Int) (i j : Nat) : Prop where
  len : ys.length = xs.length
  lt : i < j
  le : j ≤ xs.length
  low : ys.take i = (xs.take j).filter fun x => !p x
  high : ∀ l, j ≤ l → nth ys l = nth xs l
theorem Kept.start {p : Int → Bool} {xs : List Int} {k : Nat} (hk : k < xs.length) (hp : p (nth xs k) = true) (hno : ∀ j, j < k → p (nth xs j) = false) : Kept p xs xs k (k + 1) := by
  refine ⟨rfl, by omega, by omega, ?_, fun _ _ => rfl⟩
  rw [List.take_add_one, List.getElem?_eq_getElem hk, List.filter_append]
  have e1 : xs[k] = nth xs k := by simp [nth, hk]
  have h1 : (xs.take k).filter (fun x => !p x) = xs.take k := List.filter_eq_self.2 fun x hx => by
    obtain ⟨j, hj, rfl⟩ := List.getElem_of_mem hx
    rw [List.length_take] at hj
    have := hno j (by omega)
    rw [List.getElem_take]
    simp only [nth, List.getD_eq_getElem?_getD, List.getElem?_eq_getElem (show j < xs.length by omega), Option.getD_some] at this
    simp [this]
  rw [h1, e1]
  simp [hp]
theorem Kept.keep {p : Int → Bool} {xs ys : List Int} {i j : Nat} (h : Kept p xs ys i j) (hj : j < xs.length) (hp : p (nth xs j) = false) : Kept p xs (ys.set i (nth xs j)) (i + 1) (j + 1) := by
  have hi := h.lt
  have hl := h.len
  refine ⟨by rw [List.length_set]; exact hl, by omega, by omega, ?_, fun l hl2 => ?_⟩
  · have e1 : xs[j] = nth xs j := by simp [nth, hj]
    rw [List.take_add_one, List.take_add_one, List.getElem?_eq_getElem hj, List.filter_append, ← h.low, List.getElem?_set_self (by omega), e1]
    have : (ys.set i (nth xs j)).take i = ys.take i := by
      apply List.ext_getElem?
      intro q
      rw [List.getElem?_take, List.getElem?_take]
      by_cases hq : q < i
      · rw [if_pos hq, if_pos hq, List.getElem?_set_ne (by omega)]
      · rw [if_neg hq, if_neg hq]
    rw [this]
    simp [hp]
  · rw [← h.high l (by omega)]
    unfold nth
    rw [List.getD_eq_getElem?_getD, List.getElem?_set_ne (by omega), ← List.getD_eq_getElem?_getD]
theorem Kept.skip {p : Int → Bool} {xs ys : List Int} {i j : Nat} (h : Kept p xs ys i j) (hj : j < xs.length) (hp : p (nth xs j) = true) : Kept p xs ys i (j + 1) := by
  refine ⟨h.len, by have := h.lt; omega, by omega, ?_, fun l hl => h.high l (by omega)⟩
  have e1 : xs[j] = nth xs j := by simp [nth, hj]
  rw [List.take_add_one, List.getElem?_eq_getElem hj, List.filter_append, ← h.low, e1]
  simp [hp]

set_option maxHeartbeats 800000 in
set_option maxRecDepth 100000 in
theorem deleteFunc_any {w : World} {B : Nat} {v : Value} {xs : List Int} {R : List Row} (own : Own w B (intRowOf 3 v xs :: R)) (hB : B ≤ w.heap.size) (hl : xs.length ≤ 1000000) (hi64 : ∀ x ∈ xs, I64 x) (id : Nat) (caps : Array Value) (p : Int → Bool)
    (hcall : ∀ xa W, (callFunc id xa).run Try.prog W = .ok (.enter id xa) W)
    (hf : ∀ (W : World), Below B w W → Own W B R → ∀ k, k < xs.length → Calls Try.prog id (#[.int .i64 (nth xs k)] ++ caps) W fun e w' => e = .returned (.bool (p (nth xs k))) ∧ W = w') :
    Calls Try.prog 86 #[v, .func (.func id) #[] caps] w fun ee w' => ∃ u, ee = .returned u ∧ Own w' B (intRowOf 3 u (xs.filter fun x => !p x) :: R) ∧ Below B w w' := by
  obtain ⟨d, c, hv⟩ := own.form
  have hv' : v = .slice d xs.length c := hv
  subst hv'
  have hx : IsInts w (.slice d xs.length c) xs := own.reads (by unfold Short; omega) hi64
  have hf2 := hid hf
  have hidx := indexFuncAt_any (w0 := w) hx id caps p hcall (fun W hW k hk => hf W (hW.below.mono hB) (own.tail.ext (w' := W)) k hk)
  replace hi64 := hid hi64
  clear hf
  go_enter Try.func86, Try.ntmps86
  go_wp2_with fail
  refine hidx.mono ?_
  rintro e w1 ⟨r, rfl, hr, rfl⟩
  clear hidx
  rcases hr with ⟨rfl, hno⟩ | ⟨k, rfl, hk, hpk, hno⟩
  · have hall : xs.filter (fun x => !p x) = xs := List.filter_eq_self.2 fun x hx => by
      obtain ⟨j, hj, rfl⟩ := mem_iff_nth.1 hx
      simp [hno j hj]
    replace hall := hid hall
    clear hno hx
    go_wp2_with fail
    go_ret
    rw [hall.out]
    exact ⟨_, rfl, own, Below.refl _ _⟩
  · obtain ⟨g, rfl⟩ := own.at (j := k) hk
    have hc := own.head
    have hcap : xs.length ≤ c ∧ c ≤ maxLen := by
      rcases own.head.2 with ⟨h2, _⟩ | ⟨g', cap, cur, h2, h3, h4, h5, h6, h7, h8⟩
      · cases h2
      · simp only [Value.slice.injEq, Option.some.injEq, Addr.mk.injEq, and_true, true_and] at h2
        obtain ⟨rfl, rfl⟩ := h2
        exact ⟨h5, h6⟩
    have hkept := hid (Kept.start hk hpk hno)
    have hne : ((k : Int) == -1) = false := beq_eq_false_iff_ne.2 (by omega)
    clear hpk hno hc hx
    go_wp2_with fail
    go_loopw [5, 6, 7] (fun iv jv _ wr => ∃ (i j : Nat) (ys : List Int), iv = .int .i64 i ∧ jv = .int .i64 j ∧ j ≤ xs.length ∧ i < j ∧ ys.length = xs.length ∧ Hid (Kept p xs ys i j) ∧ Own wr B (⟨3, 1, .slice (some ⟨g, 0, none⟩) xs.length c, xs.length, ys.map (Value.int .i64)⟩ :: R) ∧ Below B w wr) (fun _ jv _ _ => xs.length - (intOf jv).toNat)
    case atStart => exact ⟨k, k + 1, xs, rfl, by go_num, by omega, by omega, rfl, hkept, own, Below.refl _ _⟩
    case round =>
      clear own hkept
      obtain ⟨i, j, ys, rfl, rfl, hj, hij, hyl, hK, own, hb⟩ := hrel
      obtain ⟨wo, rfl⟩ : ∃ y : World, y = wr := ⟨_, rfl⟩
      by_cases hlt : j < xs.length
      · have cj : wo.cell? ⟨g, j, none⟩ = some (.int .i64 (nth xs j)) := by
          rw [own.cellAt (w' := wo) hlt, ← hK.out.high j (Nat.le_refl _)]
          simp [nth, show j < ys.length by omega]
        have ci : wo.cell? ⟨g, i, none⟩ = some (.int .i64 (nth ys i)) := by
          rw [own.cellAt (w' := wo) (show i < xs.length by omega)]
          simp [nth, show i < ys.length by omega]
        have fi := own.frozenAt i
        have hzi : I64 (nth xs j) := hi64.out _ (nth_mem hlt)
        have hcl0 := hf2.out wo hb own.tail j hlt
        have hkp := hid (fun h : p (nth xs j) = false => hK.out.keep hlt h)
        have hsk := hid (fun h : p (nth xs j) = true => hK.out.skip hlt h)
        have own2 := own.set i (.int .i64 (nth xs j))
        rw [← List.map_set] at own2
        have hb2 : Below B w (wo.setCell ⟨g, i, none⟩ (.int .i64 (nth xs j))) := hb.setCell own.lt.1 _
        have hyl2 : (ys.set i (nth xs j)).length = xs.length := by rw [List.length_set]; exact hyl
        obtain ⟨z, hz⟩ : ∃ z, z = nth xs j := ⟨_, rfl⟩
        rw [← hz] at cj hzi hcl0 own2 hb2 hyl2
        obtain ⟨old, ho⟩ : ∃ old, old = nth ys i := ⟨_, rfl⟩
        rw [← ho] at ci
        obtain ⟨ys2, hy2⟩ : ∃ ys2, ys2 = ys.set i z := ⟨_, rfl⟩
        rw [← hy2] at own2 hyl2
        replace hkp := hid (fun h : p (nth xs j) = false => show Kept p xs ys2 (i + 1) (j + 1) from by have := hkp.out h; rw [← hz, ← hy2] at this; exact this)
        obtain ⟨b, hbq⟩ : ∃ b, b = p z := ⟨_, rfl⟩
        rw [← hbq] at hcl0
        have hpz := hid (show p (nth xs j) = b by rw [← hz, hbq])
        clear hz ho hy2 hbq hK
        cases b with
        | false =>
          have hK2 := hid (hkp.out hpz.out)
          go_wp2_with fail
          refine hcl0.mono ?_
          rintro e w3 ⟨rfl, rfl⟩
          clear hcl0 own hb
          go_wp2_with fail
          go_roundw
          case rel => exact ⟨i + 1, j + 1, ys2, by go_num, by go_num, by omega, by omega, hyl2, hK2, own2, hb2⟩
          case measure => simp [intOf]; omega
        | true =>
          have hK2 := hid (hsk.out hpz.out)
          clear own2 hb2 hyl2 hkp
          go_wp2_with fail
          refine hcl0.mono ?_
          rintro e w3 ⟨rfl, rfl⟩
          clear hcl0
          go_wp2_with fail
          go_roundw
          case rel => exact ⟨i, j + 1, ys, rfl, by go_num, by omega, by omega, hyl, hK2, own, hb⟩
          case measure => simp [intOf]; omega
      · have hjl : j = xs.length := by omega
        have hcl : ∀ ty, (Builtin.clear_ #[27] ty #[.slice (some ⟨g, i, none⟩) (xs.length - i) (c - i)]).run Try.prog wo = .ok (.tuple #[]) (wo.setCells g i (List.replicate (xs.length - i) (.int .i64 0))) :=
          fun ty => Go.Lib.run_clear_slice wo _ 3 ty (.int .i64 0) (by rfl) (by intro w; rfl) rfl rfl g i _ _ (by omega)
            (fun t ht => by rw [own.cellAt (w' := wo) (show i + t < xs.length by omega)]; simp [show i + t < ys.length by omega]) (fun t ht => own.frozenAt _)
        obtain ⟨own2, b2⟩ := Own.setCells (List.replicate (xs.length - i) (.int .i64 0)) i _ _ own
        have own3 := own2.cut (k := i) (by omega)
        rw [putAt_take _ _ _ _ (Nat.le_refl _), ← List.map_take, hK.out.low, hjl, List.take_of_length_le (Nat.le_refl _)] at own3
        have hll : (xs.filter fun x => !p x).length = i := by
          have := congrArg List.length hK.out.low
          rw [List.length_take, hjl, List.take_of_length_le (Nat.le_refl _)] at this
          omega
        replace hll := hid hll
        replace hjl := hid hjl
        replace own3 := hid own3
        clear own own2 hK
        go_wp2_with fail
        go_ret
        refine ⟨_, rfl, ?_, hb.trans b2⟩
        unfold intRowOf
        rw [hll.out]
        exact own3.out

set_option maxHeartbeats 800000 in
theorem risingO_any {v : Value} {xs : List Int} {w0 w : World} [Ext w0 w] (hx : IsInts w0 v xs) :
    Calls Try.prog 95 #[v] w fun e w' => ∃ d m, e = .returned (.slice d (difL xs).length m) ∧ Own w' w.heap.size [intRowOf 3 (.slice d (difL xs).length m) (difL xs)] ∧ Ext w w' := by
  have hx' := hx
  obtain ⟨a, c, rfl, la⟩ := hx.form
  go_enter Try.func95, Try.ntmps95
  go_wp2_with fail
  with_reducible refine (cloneInts_any (w0 := w0) hx').mono ?_
  rintro e w1 ⟨d, m, rfl, own1, e1⟩
  have hB1 := e1.size
  go_wp2_with fail
  with_reducible refine (sort_any own1 hB1 la).mono ?_
  rintro e w2 ⟨rfl, own2, b2⟩
  go_wp2_with fail
  with_reducible refine (compact_any own2 (by rw [sortL_len]; exact la)).mono ?_
  rintro e w3 ⟨u, rfl, own3, b3⟩
  rw [compact_sortL] at own3
  obtain ⟨d3, m3, h3⟩ := own3.form
  have h3' : u = .slice d3 (difL xs).length m3 := h3
  subst h3'
  go_wp2_with fail
  go_ret
  exact ⟨_, _, rfl, own3, ⟨e1.below.trans (b2.trans b3)⟩⟩
end Go.Proofs.Ytmabejallkjjmaa
