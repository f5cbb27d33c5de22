/- All sequences, as the program calls a function with them; the worst one of the program. -/
import Derived.Test.YtkniohcmhdgbeaaWorstS
import Derived.Deep.LoopGhost
namespace Go.Proofs.Ytkniohcmhdgbeaa
open Go.RowKit

/-- the k-th sequence when p digits at its end are set to zero -/
def zerL (m len k p : Nat) : List Int := (List.range len).map fun i => if len ≤ i + p then 0 else (digP m k (len - 1 - i) : Int)
theorem zerL_length (m len k p : Nat) : (zerL m len k p).length = len := by simp [zerL]
theorem nth_zerL {m len k p i : Nat} (h : i < len) : nth (zerL m len k p) i = if len ≤ i + p then 0 else (digP m k (len - 1 - i) : Int) := by simp [zerL, nth, h]
theorem zerL_zero (m len k : Nat) : zerL m len k 0 = seqOf m len k := by
  refine eq_of_nth (by rw [zerL_length, seqOf_length]) fun i hi => ?_
  rw [zerL_length] at hi
  rw [nth_zerL hi, if_neg (by omega), nth_seqOf hi]
theorem zerL_set {m len k p : Nat} (hp : p < len) : ((zerL m len k p).map (Value.int .i64)).set (len - 1 - p) (.int .i64 0) = (zerL m len k (p + 1)).map (Value.int .i64) := by
  rw [← List.map_set]
  congr 1
  refine eq_of_nth (by rw [List.length_set, zerL_length, zerL_length]) fun i hi => ?_
  rw [List.length_set, zerL_length] at hi
  rw [nth_zerL hi]
  by_cases h : i = len - 1 - p
  · subst h
    rw [if_pos (by omega)]
    simp [nth, zerL_length, hi]
  · have e : nth ((zerL m len k p).set (len - 1 - p) 0) i = nth (zerL m len k p) i := by
      simp [nth, Ne.symm h]
    rw [e, nth_zerL hi]
    by_cases h2 : len ≤ i + p
    · rw [if_pos h2, if_pos (by omega)]
    · rw [if_neg h2, if_neg (by omega)]
theorem zerL_next {m len k p : Nat} (hm : 0 < m) (hp : p < len) (ht : (k + 1) % m ^ p = 0) (hd : digP m k p ≠ m - 1) :
    ((zerL m len k p).map (Value.int .i64)).set (len - 1 - p) (.int .i64 ((digP m k p : Int) + 1)) = (seqOf m len (k + 1)).map (Value.int .i64) := by
  obtain ⟨h1, h2, h3⟩ := dig_succ hm ht hd
  rw [← List.map_set]
  congr 1
  refine eq_of_nth (by rw [List.length_set, zerL_length, seqOf_length]) fun i hi => ?_
  rw [List.length_set, zerL_length] at hi
  rw [nth_seqOf hi]
  by_cases h : i = len - 1 - p
  · subst h
    have : len - 1 - (len - 1 - p) = p := by omega
    rw [this, h2]
    simp [nth, zerL_length, hi]
  · have e : nth ((zerL m len k p).set (len - 1 - p) ((digP m k p : Int) + 1)) i = nth (zerL m len k p) i := by
      simp [nth, Ne.symm h]
    rw [e, nth_zerL hi]
    by_cases h4 : len ≤ i + p
    · rw [if_pos h4, h1 _ (by omega)]; rfl
    · rw [if_neg h4, h3 _ (by omega)]
theorem own1_same {w w' : World} {g e z n c : Nat} {cs : List Value} (h : Own w g [⟨e, z, .slice (some ⟨g, 0, none⟩) n c, n, cs⟩]) (hs : w'.heap[g]? = w.heap[g]?) : Own w' g [⟨e, z, .slice (some ⟨g, 0, none⟩) n c, n, cs⟩] :=
  ⟨fun r hr => by
    rw [List.mem_singleton.1 hr]
    exact ownsRow_same h.head (fun k hk => by
      have : k = g := by simpa [Value.ownBlock] using hk.symm
      rw [this]; exact hs), h.2⟩

set_option maxHeartbeats 1600000 in
set_option maxRecDepth 100000 in
theorem sequences_any {m len id : Nat} {caps : Array Value} {w : World} (hm1 : 1 ≤ m) (hm4 : m ≤ 4) (hl5 : len ≤ 5) (Inv : Nat → World → Prop)
    (hcall : ∀ xa W, (callFunc id xa).run Try.prog W = .ok (.enter id xa) W)
    (h0 : Inv 0 (w.alloc (.cells (Array.replicate len (.int .i64 0)) 3)))
    (hset : ∀ k W j u, Inv k W → Inv k (W.setCell ⟨w.heap.size, j, none⟩ u))
    (hf : ∀ k W, k < m ^ len → Inv k W → IsInts W (.slice (some ⟨w.heap.size, 0, none⟩) len len) (seqOf m len k) →
      Calls Try.prog id (#[.slice (some ⟨w.heap.size, 0, none⟩) len len] ++ caps) W fun e w' => e = .returned (.tuple #[]) ∧ Inv (k + 1) w' ∧ w'.heap[w.heap.size]? = W.heap[w.heap.size]?) :
    Calls Try.prog 39 #[.int .i64 m, .int .i64 len, .func (.func id) #[] caps] w fun e w' => e = .returned (.tuple #[]) ∧ Inv (m ^ len) w' := by
  replace hset := hid hset
  replace hf := hid hf
  replace h0 := hid h0
  obtain ⟨all, hall⟩ : ∃ all, all = m ^ len := ⟨_, rfl⟩
  have hall1 : 1 ≤ all := by rw [hall]; exact Nat.pow_pos (by omega)
  rw [← hall] at hf ⊢
  replace hall := hid hall
  go_enter Try.func39, Try.ntmps39
  go_upto_region 1 with (at_make; refine wpList_makeOwn rfl _ _ _ rfl elemInt len rfl rfl (by omega) (by omega) rfl ?_; intro hown)
  generalize w.alloc (.cells (Array.replicate len (.int .i64 0)) 3) = wm at *
  obtain ⟨g, hg⟩ : ∃ g, g = w.heap.size := ⟨_, rfl⟩
  rw [← hg] at hown hset hf ⊢
  replace hg := hid hg
  have hown0 : Own wm g [⟨3, 1, .slice (some ⟨g, 0, none⟩) len len, len, (seqOf m len 0).map (Value.int .i64)⟩] := by
    rw [seqOf_zero (by omega), List.map_replicate]; exact hown
  clear hown
  go_loopg [7] all (fun gk q wi => ∃ k : Nat, k < all ∧ gk = all - k ∧ Own wi g [⟨3, 1, .slice (some ⟨g, 0, none⟩) len len, len, (seqOf m len k).map (Value.int .i64)⟩] ∧ Hid (Inv k wi))
  case atStart => exact ⟨0, by omega, by omega, hown0, h0.out⟩
  case round =>
    obtain ⟨k, hk, hgk, hown, hinv⟩ := hrel
    replace hgk := hid hgk
    obtain ⟨wo, rfl⟩ : ∃ x : World, x = wr := ⟨_, rfl⟩
    have hown' : Own wo g [intRowOf 3 (.slice (some ⟨g, 0, none⟩) (seqOf m len k).length len) (seqOf m len k)] := by
      unfold intRowOf
      rw [seqOf_length]
      exact hown
    have hseq0 := hown'.reads (by rw [seqOf_length]; unfold Short; omega) (seqOf_i64 (by omega) (by omega))
    have hseq : IsInts wo (.slice (some ⟨g, 0, none⟩) len len) (seqOf m len k) := by rw [seqOf_length] at hseq0; exact hseq0
    clear hown' hseq0
    go_upto_region 2 with (refine (hf.out k wo hk hinv.out hseq).mono ?_; rintro e wp ⟨rfl, hinv2, hsame⟩)
    replace hown := own1_same hown hsame
    rw [← zerL_zero] at hown
    replace hinv2 := hid hinv2
    clear hsame hseq hinv
    go_upto_region 3 with fail
    go_loopw [7] (fun i wi => ∃ p : Nat, p ≤ len ∧ i = .int .i64 ((len : Int) - 1 - p) ∧ Own wi g [⟨3, 1, .slice (some ⟨g, 0, none⟩) len len, len, (zerL m len k p).map (Value.int .i64)⟩] ∧ Hid (Inv (k + 1) wi) ∧ Hid ((k + 1) % m ^ p = 0)) (fun i _ => (intOf i + 1).toNat)
    case atStart => exact ⟨0, by omega, by go_num, hown, hinv2.out, by rw [Nat.pow_zero]; exact Nat.mod_one _⟩
    case round =>
      obtain ⟨p, hp, rfl, hown2, hinv3, htail⟩ := hrel
      by_cases hltp : p < len
      · obtain ⟨pp, hpp⟩ : ∃ pp : Nat, pp = len - 1 - p := ⟨_, rfl⟩
        have hi : (len : Int) - 1 - p = (pp : Int) := by omega
        have hpl : pp < len := by omega
        have hc := hown2.cellAt (w' := wr) hpl
        have hf2 := hown2.frozenAt pp
        have hcv : ((zerL m len k p).map (Value.int .i64)).getD pp undef = .int .i64 ((digP m k p : Nat) : Int) := by
          have e := nth_zerL (m := m) (len := len) (k := k) (p := p) hpl
          rw [if_neg (by omega), show len - 1 - pp = p by omega] at e
          rw [← e]
          simp [nth, zerL_length, hpl]
        rw [hcv] at hc
        clear hcv
        have hzs := hid (zerL_set (m := m) (k := k) hltp)
        rw [← hpp] at hzs
        have hdlt : digP m k p < m := Nat.mod_lt _ (by omega)
        rw [hi]
        replace hi := hid hi
        have hpp' := hid hpp
        clear hpp
        by_cases hd : digP m k p = m - 1
        · have hd' : (((digP m k p : Nat) : Int) == (m : Int) - 1) = true := by rw [hd]; simp; omega
          have htl := hid (tail_succ (by omega) htail.out hd)
          replace hd := hid hd
          generalize digP m k p = dg at *
          go_wp2
          go_roundw
          case rel =>
            refine ⟨p + 1, by omega, by have := hi.out; congr 1; omega, ?_, hset.out _ _ _ _ hinv3.out, htl.out⟩
            have h := hown2.set pp (.int .i64 0)
            rw [hzs.out] at h
            exact h
          case measure => simp [intOf] <;> omega
        · have hd' : (((digP m k p : Nat) : Int) == (m : Int) - 1) = false := by simp; omega
          have hnx := hid (zerL_next (m := m) (len := len) (by omega) hltp htail.out hd)
          rw [← hpp'.out] at hnx
          have hk1 : k + 1 < all := by
            by_cases h : k + 1 < all
            · exact h
            · exfalso
              have hka : k + 1 = m ^ len := by have := hall.out; omega
              have hpw : m ^ p * m ^ (len - p - 1) * m = m ^ len := by
                rw [← Nat.pow_add, ← Nat.pow_succ]; congr 1; omega
              apply hd
              have h1 : k = m ^ p * (m ^ (len - p - 1) * m - 1) + (m ^ p - 1) := by
                have hq : 0 < m ^ (len - p - 1) * m := Nat.mul_pos (Nat.pow_pos (by omega)) (by omega)
                have hr : 0 < m ^ p := Nat.pow_pos (by omega)
                rw [Nat.mul_sub, Nat.mul_one, ← Nat.mul_assoc, hpw]
                have : m ^ p ≤ m ^ len := Nat.pow_le_pow_right (by omega) hp
                omega
              have h2 : k / m ^ p = m ^ (len - p - 1) * m - 1 := by
                have hr : 0 < m ^ p := Nat.pow_pos (by omega)
                rw [h1, Nat.mul_add_div hr, Nat.div_eq_of_lt (by omega)]
                omega
              have h3 : m ^ (len - p - 1) * m - 1 = (m ^ (len - p - 1) - 1) * m + (m - 1) := by
                have hq : 0 < m ^ (len - p - 1) := Nat.pow_pos (by omega)
                rw [Nat.sub_mul, Nat.one_mul]
                have : m ≤ m ^ (len - p - 1) * m := Nat.le_mul_of_pos_left m hq
                omega
              rw [digP, h2, h3, Nat.mul_comm, Nat.mul_add_mod]
              exact Nat.mod_eq_of_lt (by omega)
          replace hd := hid hd
          generalize digP m k p = dg at *
          go_wp2
          go_roundg (all - (k + 1))
          case measure => have := hgk.out; omega
          case rel =>
            refine ⟨k + 1, hk1, rfl, ?_, hset.out _ _ _ _ hinv3.out⟩
            have h := hown2.set pp (.int .i64 ((dg : Int) + 1))
            rw [hnx.out] at h
            exact h
      · have hpe : p = len := by omega
        have hlast := hid (last_code (m := m) (k := k) (p := len) (by rw [← hpe]; exact htail.out) (by have := hall.out; omega))
        have hneg : ¬ 0 ≤ (len : Int) - 1 - p := by omega
        go_wp2
        refine bodyPost_ret (v := .tuple #[]) (by simp [results, Try.results39, go_sem]) rfl ⟨rfl, ?_⟩
        have h := hinv3.out
        rw [hlast.out, ← hall.out] at h
        exact h

end Go.Proofs.Ytkniohcmhdgbeaa
