/- The different numbers of a list in ascending order, as the program makes them; whether a list is rising. -/
import Derived.Test.YtnlbjbnjjkilhaaSrt
import Derived.Test.YtnlbjbnjjkilhaaDif
import Derived.Test.YtnlbjbnjjkilhaaPackA
import Derived.Lib.OwnBridge
namespace Go.Proofs.Ytnlbjbnjjkilhaa
open Go.RowKit

set_option maxHeartbeats 400000 in
theorem compact_any {w : World} {B e : Nat} {v : Value} {xs : List Int} (own : Own w B [intRowOf e v xs]) (hl : xs.length ≤ 17592186044415) :
    Calls Try.prog 88 #[v] w fun ee w' => ∃ u, ee = .returned u ∧ Own w' B [intRowOf e u (Go.Lib.compact xs)] ∧ Below B w w' := by
  have hk : (Go.Lib.compact xs).length ≤ xs.length := by
    unfold Go.Lib.compact Go.Lib.compactUpTo
    rw [List.length_map]
    exact Nat.le_trans (List.length_filter_le _ _) (by simp)
  by_cases hv : v = .slice none 0 0
  · subst hv
    obtain ⟨a, c, h⟩ := own.form
    have h0 : xs.length = 0 := by
      have h' : Value.slice none 0 0 = .slice a xs.length c := h
      injection h' with _ h2 _
      exact h2.symm
    have hx := List.eq_nil_of_length_eq_zero h0
    subst hx
    refine (Try.slices_Compact_int_empty none 0 w).mono ?_
    rintro ee w' ⟨rfl, rfl⟩
    exact ⟨_, rfl, own, Below.refl _ _⟩
  · obtain ⟨g, cap, hv', hb, hg, hn, hm, hz, hH⟩ := Go.Lib.holds_of_ownsRow (zs := xs) own.head hv
    have hv2 : v = .slice (some ⟨g, 0, none⟩) xs.length cap := hv'
    subst hv2
    refine (Try.slices_Compact_int g 0 cap xs w hH (by omega) hn).mono ?_
    rintro ee w' ⟨rfl, q, rfl⟩
    have ho := Go.Lib.ownsRow_putRow (q := q) (k := (Go.Lib.compact xs).length) (ys := Go.Lib.compact xs ++ List.replicate (xs.length - (Go.Lib.compact xs).length) 0) own.head (by rw [List.length_append, List.length_replicate]; show _ = xs.length; omega) hk
    rw [List.take_left' rfl] at ho
    exact ⟨_, rfl, ⟨fun r hr => by rw [List.mem_singleton.1 hr]; exact ho, List.pairwise_singleton _ _⟩, Go.Lib.below_putRow (Below.refl _ _) hb⟩
theorem mem_sortL {xs : List Int} {y : Int} : y ∈ sortL xs ↔ y ∈ xs := (sortL_perm xs).mem_iff
theorem compact_sortL (xs : List Int) : Go.Lib.compact (sortL xs) = difL xs := compact_sorted (sortL_asc xs) fun _ => mem_sortL
set_option maxHeartbeats 800000 in
theorem rising_any {v : Value} {xs : List Int} {w0 w : World} [Ext w0 w] (hx : IsInts w0 v xs) :
    Calls Try.prog 60 #[v] w fun e w' => ∃ d m, e = .returned (.slice d (difL xs).length m) ∧ IsInts w' (.slice d (difL xs).length m) (difL xs) ∧ Ext w w' := by
  have hx' := hx
  obtain ⟨a, c, rfl, la⟩ := hx.form
  go_enter Try.func60, Try.ntmps60
  go_wp2_with fail
  with_reducible refine (cloneInts_any (w0 := w0) hx').mono ?_
  rintro e w1 ⟨d, m, rfl, own1, e1⟩
  have hB1 := e1.size
  go_wp2_with fail
  with_reducible refine (sort_any own1 hB1 la).mono ?_
  rintro e w2 ⟨rfl, own2, b2⟩
  go_wp2_with fail
  with_reducible refine (compact_any own2 (by rw [sortL_len]; exact la)).mono ?_
  rintro e w3 ⟨u, rfl, own3, b3⟩
  rw [compact_sortL] at own3
  obtain ⟨d3, m3, h3⟩ := own3.form
  have h3' : u = .slice d3 (difL xs).length m3 := h3
  subst h3'
  have hs : (difL xs).length ≤ xs.length := difL_len xs
  have hr := own3.reads (by unfold Short; omega) (fun x hx => hx'.all.2 x (mem_difL.1 hx))
  go_wp2_with fail
  go_ret
  exact ⟨_, _, rfl, hr, ⟨e1.below.trans (b2.trans b3)⟩⟩
end Go.Proofs.Ytnlbjbnjjkilhaa
