/- slices.Repeat of one int, up to a thousand times. -/
import Derived.Test.YtnlbjbnjjkilhaaPackA
namespace Go.Proofs.Ytnlbjbnjjkilhaa
open Go.RowKit

theorem mulN_any {n : Nat} (h : n ≤ 1000) (w : World) :
    Calls Try.prog 47 #[.int .u64 1, .int .u64 n] w fun e w' => e = .returned (.tuple #[.int .u64 0, .int .u64 n]) ∧ w = w' := by
  refine (Try.bits_Mul 1 n (by decide) (by omega) w).mono ?_
  rintro e w' ⟨h1, h2⟩
  refine ⟨?_, h2.symm⟩
  rw [h1, Nat.one_mul, Nat.div_eq_of_lt (by omega), Nat.mod_eq_of_lt (by omega)]
  rfl
theorem repN_own {w : World} {B g n : Nat} {c : Int} {t : TypeId} (h : w.heap[g]? = some (.cells (repL c n n).toArray t (0, 0))) (hB : B ≤ g) (hn : n ≤ 1000) : Own w B [intRowOf t (.slice (some ⟨g, 0, none⟩) (List.replicate n c).length n) (List.replicate n c)] := by
  refine ⟨fun r hr => ?_, List.pairwise_singleton _ _⟩
  rw [List.mem_singleton.1 hr]
  have e : repL c n n = (List.replicate n c).map (Value.int .i64) := by simp [repL]
  refine ⟨by simp, .inr ⟨g, n, (repL c n n).toArray, rfl, hB, h, by simp, by unfold maxLen; omega, by simp [repL_length], by simp [e]⟩⟩
set_option maxHeartbeats 800000 in
set_option maxRecDepth 100000 in
theorem sRepeatN_any {v : Value} {c : Int} {n : Nat} {w0 w : World} [Ext w0 w] (hx : IsInts w0 v [c]) (h1 : 1 ≤ n) (h4 : n ≤ 1000) :
    Calls Try.prog 23 #[v, .int .i64 n] w fun e w' => ∃ d m, e = .returned (.slice d (List.replicate n c).length m) ∧ Own w' w.heap.size [intRowOf 3 (.slice d (List.replicate n c).length m) (List.replicate n c)] ∧ Ext w w' := by
  obtain ⟨a, cc, rfl, _⟩ := hx.form
  obtain ⟨b, o, rfl, hc⟩ := hx.at (w' := w) (k := 0) (by simp)
  rw [Nat.add_zero] at hc
  have hl1 : ([c] : List Int).length = 1 := rfl
  rw [hl1]
  have hmk := hid (rep_make w c n 3)
  have hsz := hid (show (Try.prog.info? 3).map (·.size) = some 1 by kernel_rfl)
  have hc' : w.cell? ⟨b, o, none⟩ = some (.int .i64 c) := hc
  clear hc
  go_enter Try.func23, Try.ntmps23
  go_wp2_with fail
  refine (mulN_any h4 _).mono ?_
  rintro e w1 ⟨rfl, rfl⟩
  go_upto_region 7 with (at_make; refine wpList_makeOwn rfl _ _ _ rfl elemInt n rfl rfl (by omega) (by omega) rfl ?_; intro hown)
  have eM : Ext w (w.alloc (.cells (Array.replicate n (.int .i64 0)) 3)) := inferInstance
  have hcM := eM.cell hc'
  have hblt : b < w.heap.size := World.block_lt_of_cell? w _ hc'
  have hgs : (w.alloc (.cells (Array.replicate n (.int .i64 0)) 3)).heap.size = w.heap.size + 1 := by simp
  generalize w.alloc (.cells (Array.replicate n (.int .i64 0)) 3) = wM at *
  clear hown
  have hs1 := hid (show ∀ j v, ([.int .i64 c] : List Value)[j]? = some v → wM.cell? ((⟨b, o, none⟩ : Addr).add j) = some v by
    intro j v hj
    match j, hj with
    | 0, hj => simp at hj; subst hj; simpa [Addr.add] using hcM)
  have hbM : Below w.heap.size w wM := eM.below
  have hn1 := hid (show ([.int .i64 c] : List Value).length = Nat.min 1 n from (Nat.min_eq_left h1).symm)
  have hpos := hid (show 0 < ([.int .i64 c] : List Value).length → (some ⟨w.heap.size, 0, none⟩ : Option Addr) = some ⟨w.heap.size, 0, none⟩ ∧ ∃ ad, (some ⟨b, o, none⟩ : Option Addr) = some ad ∧ ∀ j v, ([.int .i64 c] : List Value)[j]? = some v → wM.cell? (ad.add j) = some v from fun _ => ⟨rfl, _, rfl, hs1.out⟩)
  have hfit := hid (show 0 + ([.int .i64 c] : List Value).length ≤ (repL c n 0).length by rw [repL_length (Nat.zero_le _)]; exact h1)
  have hone := hid (show ∀ v ∈ ([.int .i64 c] : List Value), v.oneCell' = true by intro v hv; simp at hv; subst hv; rfl)
  go_upto_region 8 with (with_reducible refine wpList_copy_splice rfl (.tmp 31) (.tmp 32) 24 24 rfl 3 Try.underlying24 hsz.out _ _ _ _ _ _ rfl rfl w.heap.size 0 (repL c n 0) 3 hmk.out [.int .i64 c] hn1.out hpos.out hfit.out hone.out w.heap.size w hbM (Nat.le_refl _) ?_; intro w2 hg2 hb2)
  rw [show (splice (repL c n 0) 0 [Value.int .i64 c]) = repL c n 1 from rep_splice (m := 1) (by omega)] at hg2
  go_loopw [8] (fun q wr => ∃ k : Nat, 1 ≤ k ∧ k ≤ n ∧ q = .int .i64 k ∧ Hid (wr.heap[w.heap.size]? = some (.cells (repL c n k).toArray 3 (0, 0))) ∧ Below w.heap.size w wr) (fun q _ => n - (intOf q).toNat)
  case atStart => exact ⟨1, by omega, by omega, rfl, hg2, hb2⟩
  case round =>
    obtain ⟨k, hk1, hkn, rfl, hg, hb⟩ := hrel
    by_cases hlt : k < n
    · obtain ⟨m, hm⟩ : ∃ m, m = Nat.min k (n - k) := ⟨_, rfl⟩
      have hm2 : m ≤ k ∧ m ≤ n - k ∧ 1 ≤ m := by
        have h5 : m ≤ k := hm ▸ Nat.min_le_left k (n - k)
        have h6 : m ≤ n - k := hm ▸ Nat.min_le_right k (n - k)
        have h7 : 1 ≤ m := hm ▸ Nat.le_min.2 ⟨hk1, by omega⟩
        exact ⟨h5, h6, h7⟩
      have hgd : Hid (wr.drew.heap[w.heap.size]? = some (.cells (repL c n k).toArray 3 (0, 0))) := hg
      have hbd : Below w.heap.size w wr.drew := hb.drew
      have hs2 := hid (show ∀ j v, (List.replicate m (Value.int .i64 c))[j]? = some v → wr.drew.cell? ((⟨w.heap.size, 0, none⟩ : Addr).add j) = some v by
        intro j v hj
        obtain ⟨h8, h9⟩ := List.getElem?_eq_some_iff.1 hj
        rw [List.length_replicate] at h8
        rw [List.getElem_replicate] at h9
        subst h9
        have := rep_cell hgd.out (j := j) (by omega) hkn
        rw [← this]
        congr 1
        unfold Addr.add
        split <;> simp_all)
      have hn2 := hid (show (List.replicate m (Value.int .i64 c)).length = Nat.min k (n - k) by rw [List.length_replicate]; exact hm)
      have hpos2 := hid (show 0 < (List.replicate m (Value.int .i64 c)).length → (some ⟨w.heap.size, k, none⟩ : Option Addr) = some ⟨w.heap.size, k, none⟩ ∧ ∃ ad, (some ⟨w.heap.size, 0, none⟩ : Option Addr) = some ad ∧ ∀ j v, (List.replicate m (Value.int .i64 c))[j]? = some v → wr.drew.cell? (ad.add j) = some v from fun _ => ⟨rfl, _, rfl, hs2.out⟩)
      have hfit2 := hid (show k + (List.replicate m (Value.int .i64 c)).length ≤ (repL c n k).length by rw [repL_length hkn, List.length_replicate]; omega)
      have hone2 := hid (show ∀ v ∈ (List.replicate m (Value.int .i64 c)), v.oneCell' = true by intro v hv; rw [List.eq_of_mem_replicate hv]; rfl)
      have hlen2 := hid (show (List.replicate m (Value.int .i64 c)).length = m from List.length_replicate)
      have hsp := hid (rep_splice (c := c) (n := n) (k := k) (m := m) (by omega))
      generalize List.replicate m (Value.int .i64 c) = cs at *
      replace hm := hid hm
      go_upto_region 9 with fail
      refine wp_region_held_drew (S := fun w' => Below w.heap.size w w') (by kernel_rfl) hbd (fun hHeld => ?_)
      refine wpAnyH_take (i := 0) (v := .int .i64 k) rfl (by kernel_rfl) (by kernel_rfl) (by kernel_rfl) (fun _ _ _ h => h) (Or.inl ⟨by rfl, by intro wx hx; go_simp⟩) (by assumption) ?_
      try simp only [List.getElem_toArray, List.getElem_cons_zero, Act.put, List.setIfInBounds_toArray, List.set_cons_zero, List.set_cons_succ]
      refine wpAnyH_take (i := 1) (v := .slice (some ⟨w.heap.size, 0, none⟩) n n) rfl (by kernel_rfl) (by kernel_rfl) (by kernel_rfl) (fun _ _ _ h => h) (Or.inl ⟨by rfl, by intro wx hx; go_simp⟩) (by assumption) ?_
      try simp only [List.getElem_toArray, List.getElem_cons_succ, List.getElem_cons_zero, Act.put, List.setIfInBounds_toArray, List.set_cons_zero, List.set_cons_succ]
      refine wpAnyH_take (i := 2) (v := .int .i64 k) rfl (by kernel_rfl) (by kernel_rfl) (by kernel_rfl) (fun _ _ _ h => h) (Or.inl ⟨by rfl, by intro wx hx; go_simp⟩) (by assumption) ?_
      try simp only [List.getElem_toArray, List.getElem_cons_succ, List.getElem_cons_zero, Act.put, List.setIfInBounds_toArray, List.set_cons_zero, List.set_cons_succ]
      refine wpAnyH_take (i := 3) (v := .slice (some ⟨w.heap.size, k, none⟩) (n - k) (n - k)) rfl (by kernel_rfl) (by kernel_rfl) (by kernel_rfl) (fun _ _ _ h => h) (Or.inl ⟨by rfl, by intro wx hx; go_simp; omega⟩) (by assumption) ?_
      try simp only [List.getElem_toArray, List.getElem_cons_succ, List.getElem_cons_zero, Act.put, List.setIfInBounds_toArray, List.set_cons_zero, List.set_cons_succ]
      refine wpAnyH_take (i := 4) (v := .slice (some ⟨w.heap.size, 0, none⟩) n n) rfl (by kernel_rfl) (by kernel_rfl) (by kernel_rfl) (fun _ _ _ h => h) (Or.inl ⟨by rfl, by intro wx hx; go_simp⟩) (by assumption) ?_
      try simp only [List.getElem_toArray, List.getElem_cons_succ, List.getElem_cons_zero, Act.put, List.setIfInBounds_toArray, List.set_cons_zero, List.set_cons_succ]
      refine wpAnyH_take (i := 5) (v := .int .i64 k) rfl (by kernel_rfl) (by kernel_rfl) (by kernel_rfl) (fun _ _ _ h => h) (Or.inl ⟨by rfl, by intro wx hx; go_simp⟩) (by assumption) ?_
      try simp only [List.getElem_toArray, List.getElem_cons_succ, List.getElem_cons_zero, Act.put, List.setIfInBounds_toArray, List.set_cons_zero, List.set_cons_succ]
      refine wpAnyH_take (i := 6) (v := .slice (some ⟨w.heap.size, 0, none⟩) k n) rfl (by kernel_rfl) (by kernel_rfl) (by kernel_rfl) (fun _ _ _ h => h) (Or.inl ⟨by rfl, by intro wx hx; go_simp⟩) (by assumption) ?_
      try simp only [List.getElem_toArray, List.getElem_cons_succ, List.getElem_cons_zero, Act.put, List.setIfInBounds_toArray, List.set_cons_zero, List.set_cons_succ]
      refine wpAnyH_ready (rs := [7]) (by kernel_rfl) (by simp) ?_
      refine AllReadyH.cons rfl (fun K hK => ?_) AllReadyH.nil
      refine step_copy_splice rfl (.tmp 41) (.tmp 44) 24 24 rfl 3 Try.underlying24 hsz.out _ _ _ _ _ _ rfl rfl w.heap.size k (repL c n k) 3 hgd.out cs hn2.out hpos2.out hfit2.out hone2.out w.heap.size w hbd (Nat.le_refl _) ?_
      intro w4 hg4 hb4
      rw [hsp.out] at hg4
      rw [hlen2.out]
      refine hK.out _ _ hb4 (fun hHeld2 => ?_)
      clear hK K hHeld
      try simp only [List.getElem_toArray, List.getElem_cons_succ, List.getElem_cons_zero, Act.put, List.setIfInBounds_toArray, List.set_cons_zero, List.set_cons_succ]
      refine wpAnyH_take (i := 8) (v := .int .i64 ((k : Int) + (m : Int))) rfl (by kernel_rfl) (by kernel_rfl) (by kernel_rfl) (fun _ _ _ h => h) (Or.inl ⟨by rfl, by intro wx hx; go_simp; exact IntWalk.i64_in _ (by omega)⟩) (by assumption) ?_
      try simp only [List.getElem_toArray, List.getElem_cons_succ, List.getElem_cons_zero, Act.put, List.setIfInBounds_toArray, List.set_cons_zero, List.set_cons_succ]
      refine wpAnyH_take (i := 9) (v := .int .i64 ((k : Int) + (m : Int))) rfl (by kernel_rfl) (by kernel_rfl) (by kernel_rfl) (fun _ _ _ h => h) (Or.inl ⟨by rfl, by intro wx hx; go_simp⟩) (by assumption) ?_
      try simp only [List.getElem_toArray, List.getElem_cons_succ, List.getElem_cons_zero, Act.put, List.setIfInBounds_toArray, List.set_cons_zero, List.set_cons_succ]
      refine wpAnyH_done (by kernel_rfl) ?_ _
      go_wp2_with fail
      go_roundw
      case rel => exact ⟨k + m, by omega, by omega, by go_num, hg4, hb4⟩
      case measure => simp [intOf]; omega
    · have : k = n := by omega
      subst this
      go_wp2
      go_ret
      exact ⟨some ⟨w.heap.size, 0, none⟩, k, by rw [List.length_replicate]; rfl, repN_own hg.out (Nat.le_refl _) h4, ⟨hb⟩⟩
end Go.Proofs.Ytnlbjbnjjkilhaa
