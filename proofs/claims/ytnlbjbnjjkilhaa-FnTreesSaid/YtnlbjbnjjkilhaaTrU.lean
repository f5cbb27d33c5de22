/- Tables of functions; the table of a tree's edges; the least sums of ways in the program's and the reference's tables; in plain words. -/
import Derived.Test.YtnlbjbnjjkilhaaTrQ
namespace Go.Proofs.Ytnlbjbnjjkilhaa
open Go.RowKit

/-- the table of a function -/
structure TbF (N : List (List Int)) (n : Nat) (g : Nat → Nat → Int) : Prop where
  len : N.length = n
  rows : ∀ u, u < n → (row N u).length = n
  at_ : ∀ u v, u < n → v < n → nth (row N u) v = g u v
theorem cell_put {N : List (List Int)} {x z : Nat} {d : Int} (hx : x < N.length) (hz : z < (row N x).length) (u v : Nat) :
    nth (row (N.set x ((row N x).set z d)) u) v = if u = x ∧ v = z then d else nth (row N u) v := by
  by_cases e : u = x
  · subst e
    have : row (N.set u ((row N u).set z d)) u = (row N u).set z d := by simp [row, hx]
    rw [this]
    by_cases e2 : v = z
    · subst e2
      rw [if_pos ⟨rfl, rfl⟩]
      simp [nth, hz]
    · rw [if_neg (fun h => e2 h.2)]
      unfold nth
      rw [List.getD_eq_getElem?_getD, List.getElem?_set_ne (by omega), ← List.getD_eq_getElem?_getD]
  · rw [if_neg (fun h => e h.1)]
    have : row (N.set x ((row N x).set z d)) u = row N u := by
      unfold row
      rw [List.getD_eq_getElem?_getD, List.getElem?_set_ne (by omega), ← List.getD_eq_getElem?_getD]
    rw [this]
theorem row_put {N : List (List Int)} {x z : Nat} {d : Int} (hx : x < N.length) (u : Nat) : (row (N.set x ((row N x).set z d)) u).length = (row N u).length := by
  by_cases e : u = x
  · subst e
    have : row (N.set u ((row N u).set z d)) u = (row N u).set z d := by simp [row, hx]
    rw [this, List.length_set]
  · have : row (N.set x ((row N x).set z d)) u = row N u := by
      unfold row
      rw [List.getD_eq_getElem?_getD, List.getElem?_set_ne (by omega), ← List.getD_eq_getElem?_getD]
    rw [this]
theorem TbF.put {N : List (List Int)} {n : Nat} {g : Nat → Nat → Int} (h : TbF N n g) {x z : Nat} (hx : x < n) (hz : z < n) (d : Int) {g' : Nat → Nat → Int} (hg : ∀ u v, u < n → v < n → g' u v = if u = x ∧ v = z then d else g u v) : TbF (N.set x ((row N x).set z d)) n g' := by
  refine ⟨by rw [List.length_set, h.len], fun u hu => by rw [row_put (by rw [h.len]; exact hx), h.rows u hu], fun u v hu hv => ?_⟩
  rw [cell_put (by rw [h.len]; exact hx) (by rw [h.rows x hx]; exact hz), h.at_ u v hu hv, hg u v hu hv]
theorem TbF.congr {N : List (List Int)} {n : Nat} {g g' : Nat → Nat → Int} (h : TbF N n g) (hg : ∀ u v, u < n → v < n → g' u v = g u v) : TbF N n g' := ⟨h.len, h.rows, fun u v hu hv => by rw [h.at_ u v hu hv, hg u v hu hv]⟩
theorem TbF.trT {N : List (List Int)} {n : Nat} {pa : Nat → Nat} {le : Nat → Int} (h : TbF N n (trD pa le n)) : N = trT pa le n := trT_uniq h.len h.rows h.at_
/-- the table of the edges of the points below k, zero between a point below kd and itself, else f -/
def edV (pa : Nat → Nat) (le : Nat → Int) (kd k : Nat) (f : Int) (u v : Nat) : Int :=
  if u = v then (if u < kd then 0 else f) else if v < u ∧ u < k ∧ pa u = v then le u else if u < v ∧ v < k ∧ pa v = u then le v else f
/-- an edge more -/
theorem edV_step {pa : Nat → Nat} {le : Nat → Int} {kd k : Nat} {f : Int} {u v : Nat} (hp : pa k < k) :
    edV pa le kd (k + 1) f u v = if u = pa k ∧ v = k then le k else if u = k ∧ v = pa k then le k else edV pa le kd k f u v := by
  unfold edV
  by_cases c1 : u = pa k ∧ v = k
  · obtain ⟨rfl, rfl⟩ := c1
    rw [if_pos (⟨rfl, rfl⟩ : pa v = pa v ∧ v = v), if_neg (show ¬ pa v = v by omega), if_neg (show ¬ (v < pa v ∧ pa v < v + 1 ∧ pa (pa v) = v) by omega), if_pos (show pa v < v ∧ v < v + 1 ∧ pa v = pa v from ⟨hp, by omega, rfl⟩)]
  · rw [if_neg c1]
    by_cases c2 : u = k ∧ v = pa k
    · obtain ⟨rfl, rfl⟩ := c2
      rw [if_pos (⟨rfl, rfl⟩ : u = u ∧ pa u = pa u), if_neg (show ¬ u = pa u by omega), if_pos (show pa u < u ∧ u < u + 1 ∧ pa u = pa u from ⟨hp, by omega, rfl⟩)]
    · rw [if_neg c2]
      by_cases e : u = v
      · rw [if_pos e, if_pos e]
      · rw [if_neg e, if_neg e]
        by_cases c3 : v < u ∧ u < k ∧ pa u = v
        · rw [if_pos c3, if_pos ⟨c3.1, by omega, c3.2.2⟩]
        · rw [if_neg c3, if_neg (by
            rintro ⟨h1, h2, h3⟩
            by_cases q : u = k
            · subst q; exact c2 ⟨rfl, h3.symm⟩
            · exact c3 ⟨h1, by omega, h3⟩)]
          by_cases c4 : u < v ∧ v < k ∧ pa v = u
          · rw [if_pos c4, if_pos ⟨c4.1, by omega, c4.2.2⟩]
          · rw [if_neg c4, if_neg (by
              rintro ⟨h1, h2, h3⟩
              by_cases q : v = k
              · subst q; exact c1 ⟨h3.symm, rfl⟩
              · exact c4 ⟨h1, by omega, h3⟩)]
theorem edV_none {pa : Nat → Nat} {le : Nat → Int} {kd k : Nat} {f : Int} {u v : Nat} (hk : k ≤ 1) : edV pa le kd k f u v = if u = v then (if u < kd then 0 else f) else f := by
  unfold edV
  by_cases e : u = v
  · rw [if_pos e, if_pos e]
  · rw [if_neg e, if_neg e, if_neg (by omega), if_neg (by omega)]
/-- the state of the program's sums -/
structure FJ (T : Nat → Nat → Int) (n : Nat) (far : Int) (y x z : Nat) (N : List (List Int)) : Prop where
  len : N.length = n
  rows : ∀ u, u < n → (row N u).length = n
  bnd : ∀ u v, u < n → v < n → 0 ≤ nth (row N u) v ∧ nth (row N u) v ≤ far
  fw : FW T n y x z (fun u v => nth (row N u) v)
section
variable {T : Nat → Nat → Int} {n y x z : Nat} {far : Int} {N : List (List Int)}
theorem FJ.step (hT : MtD T n) (h : FJ T n far y x z N) (hy : y < n) (hx : x < n) (hz : z < n) {d : Int} (hd : d = min (nth (row N x) z) (nth (row N x) y + nth (row N y) z)) : FJ T n far y x (z + 1) (N.set x ((row N x).set z d)) := by
  have hc := cell_put (N := N) (x := x) (z := z) (d := d) (by rw [h.len]; exact hx) (by rw [h.rows x hx]; exact hz)
  refine ⟨by rw [List.length_set, h.len], fun u hu => by rw [row_put (by rw [h.len]; exact hx), h.rows u hu], fun u v hu hv => ?_, ?_⟩
  · rw [hc u v]
    split
    · have h1 := h.bnd x z hx hz
      have h2 := h.bnd x y hx hy
      have h3 := h.bnd y z hy hz
      omega
    · exact h.bnd u v hu hv
  · refine h.fw.step hT hx hy hz ?_ ?_
    · rw [hc x z, if_pos ⟨rfl, rfl⟩, hd]
    · intro u v hne
      rw [hc u v, if_neg hne]
theorem FJ.row (h : FJ T n far y x n N) : FJ T n far y (x + 1) 0 N := ⟨h.len, h.rows, h.bnd, h.fw.row⟩
theorem FJ.next (h : FJ T n far y n 0 N) : FJ T n far (y + 1) 0 0 N := ⟨h.len, h.rows, h.bnd, h.fw.next⟩
theorem FJ.fin (h : FJ T n far n 0 0 N) : TbF N n T := ⟨h.len, h.rows, h.fw.fin⟩
theorem FJ.begin {pa : Nat → Nat} {le : Nat → Int} (h : TrOk pa le n) (hl : ∀ k, k < n → le k ≤ 99) (hf : 99 * (n : Int) ≤ far) (hN : TbF N n (edV pa le n n far)) : FJ (trD pa le n) n far 0 0 0 N := by
  have hfw : FW (trD pa le n) n 0 0 0 (edV pa le n n far) := FW.tree h (far := far) (fun u v hu hv => Int.le_trans (trD_le_far h hl u v hu hv) hf) fun u v hu hv => by
    unfold edV
    by_cases e : u = v
    · rw [if_pos e, if_pos e, if_pos hu]
    · rw [if_neg e, if_neg e]
      by_cases c : v < u ∧ pa u = v
      · rw [if_pos c, if_pos ⟨c.1, hu, c.2⟩]
      · rw [if_neg c, if_neg (fun q => c ⟨q.1, q.2.2⟩)]
        by_cases c2 : u < v ∧ pa v = u
        · rw [if_pos c2, if_pos ⟨c2.1, hv, c2.2⟩]
        · rw [if_neg c2, if_neg (fun q => c2 ⟨q.1, q.2.2⟩)]
  refine ⟨hN.len, hN.rows, fun u v hu hv => ?_, ⟨fun u v hu hv => ?_, fun u v hu hv hb => ?_, fun u v hu hv hc => by omega⟩⟩
  · rw [hN.at_ u v hu hv]
    unfold edV
    split
    · omega
    · split
      · rename_i q
        have h1 := h u (by omega) hu
        have h2 := hl u hu
        omega
      · split
        · rename_i q
          have h1 := h v (by omega) hv
          have h2 := hl v hv
          omega
        · omega
  · show _ ≤ nth (Go.Proofs.Ytnlbjbnjjkilhaa.row N u) v
    rw [hN.at_ u v hu hv]; exact hfw.low u v hu hv
  · show nth (Go.Proofs.Ytnlbjbnjjkilhaa.row N u) v ≤ _
    rw [hN.at_ u v hu hv]; exact hfw.up u v hu hv hb
end
def farC : Int := 1073741824
def lf (v : Int) : Int := if v < 0 then farC else v
/-- the state of the reference's sums -/
structure GJ (T : Nat → Nat → Int) (n : Nat) (B : Int) (y x z : Nat) (N : List (List Int)) : Prop where
  len : N.length = n
  rows : ∀ u, u < n → (row N u).length = n
  hi : ∀ u v, u < n → v < n → nth (row N u) v ≤ 2 * B
  col : ∀ u, u < n → y < n → nth (row N u) y ≤ B ∧ nth (row N y) u ≤ B
  diag : ∀ u, u < n → nth (row N u) u = 0
  fw : FW T n y x z (fun u v => lf (nth (row N u) v))
section
variable {T : Nat → Nat → Int} {n y x z : Nat} {B : Int} {N : List (List Int)}
theorem GJ.row (h : GJ T n B y x n N) : GJ T n B y (x + 1) 0 N := ⟨h.len, h.rows, h.hi, h.col, h.diag, h.fw.row⟩
theorem GJ.next (h : GJ T n B y n 0 N) (hB : 0 ≤ B) : GJ T n (2 * B) (y + 1) 0 0 N := ⟨h.len, h.rows, fun u v hu hv => by have := h.hi u v hu hv; omega, fun u hu hy => ⟨h.hi u (y + 1) hu hy, h.hi (y + 1) u hy hu⟩, h.diag, h.fw.next⟩
/-- what stays -/
theorem GJ.keep (hT : MtD T n) (h : GJ T n B y x z N) (hy : y < n) (hx : x < n) (hz : z < n) (hk : lf (nth (Go.Proofs.Ytnlbjbnjjkilhaa.row N x) z) ≤ lf (nth (Go.Proofs.Ytnlbjbnjjkilhaa.row N x) y) + lf (nth (Go.Proofs.Ytnlbjbnjjkilhaa.row N y) z)) : GJ T n B y x (z + 1) N :=
  ⟨h.len, h.rows, h.hi, h.col, h.diag, h.fw.step hT hx hy hz (by omega) fun _ _ _ => rfl⟩
theorem GJ.begin {pa : Nat → Nat} {le : Nat → Int} (h : TrOk pa le n) (hl : ∀ k, k < n → le k ≤ 99) (hn : n ≤ 6) (hN : TbF N n (edV pa le n n (-1))) : GJ (trD pa le n) n 99 0 0 0 N := by
  have hv2 : ∀ u v, u < n → v < n → lf (nth (Go.Proofs.Ytnlbjbnjjkilhaa.row N u) v) = edV pa le n n farC u v ∧ nth (Go.Proofs.Ytnlbjbnjjkilhaa.row N u) v ≤ 99 := by
    intro u v hu hv
    rw [hN.at_ u v hu hv]
    unfold edV
    split
    · exact ⟨by unfold lf; rw [if_neg (by omega)], by omega⟩
    · split
      · rename_i q
        have h1 := h u (by omega) hu
        have h2 := hl u hu
        exact ⟨by unfold lf; rw [if_neg (by omega)], by omega⟩
      · split
        · rename_i q
          have h1 := h v (by omega) hv
          have h2 := hl v hv
          exact ⟨by unfold lf; rw [if_neg (by omega)], by omega⟩
        · exact ⟨rfl, by omega⟩
  have hfw : FW (trD pa le n) n 0 0 0 (edV pa le n n farC) := FW.tree h (far := farC) (fun u v hu hv => Int.le_trans (trD_le_far h hl u v hu hv) (by unfold farC; omega)) fun u v hu hv => by
    unfold edV
    by_cases e : u = v
    · rw [if_pos e, if_pos e, if_pos hu]
    · rw [if_neg e, if_neg e]
      by_cases c : v < u ∧ pa u = v
      · rw [if_pos c, if_pos ⟨c.1, hu, c.2⟩]
      · rw [if_neg c, if_neg (fun q => c ⟨q.1, q.2.2⟩)]
        by_cases c2 : u < v ∧ pa v = u
        · rw [if_pos c2, if_pos ⟨c2.1, hv, c2.2⟩]
        · rw [if_neg c2, if_neg (fun q => c2 ⟨q.1, q.2.2⟩)]
  refine ⟨hN.len, hN.rows, fun u v hu hv => by have := (hv2 u v hu hv).2; omega, fun u hu hy => ⟨(hv2 u 0 hu hy).2, (hv2 0 u hy hu).2⟩, fun u hu => ?_, ⟨fun u v hu hv => ?_, fun u v hu hv hb => ?_, fun u v hu hv hc => by omega⟩⟩
  · rw [hN.at_ u u hu hu]
    unfold edV
    rw [if_pos rfl, if_pos hu]
  · show _ ≤ lf (nth (Go.Proofs.Ytnlbjbnjjkilhaa.row N u) v)
    rw [(hv2 u v hu hv).1]; exact hfw.low u v hu hv
  · show lf (nth (Go.Proofs.Ytnlbjbnjjkilhaa.row N u) v) ≤ _
    rw [(hv2 u v hu hv).1]; exact hfw.up u v hu hv hb
theorem lf_nn (v : Int) : 0 ≤ lf v := by unfold lf farC; split <;> omega
theorem lf_le {v : Int} (h : v ≤ farC) : lf v ≤ farC := by unfold lf; split <;> omega
/-- one step -/
theorem GJ.step (hT : MtD T n) (h : GJ T n B y x z N) (h0 : 0 ≤ B) (hB : B ≤ 100000) (hy : y < n) (hx : x < n) (hz : z < n) (C : List (List Int)) (hC : C = if nth (Go.Proofs.Ytnlbjbnjjkilhaa.row N x) y < 0 ∨ nth (Go.Proofs.Ytnlbjbnjjkilhaa.row N y) z < 0 then N
    else if nth (Go.Proofs.Ytnlbjbnjjkilhaa.row N x) z < 0 ∨ wrap64 (nth (Go.Proofs.Ytnlbjbnjjkilhaa.row N x) y + nth (Go.Proofs.Ytnlbjbnjjkilhaa.row N y) z) < nth (Go.Proofs.Ytnlbjbnjjkilhaa.row N x) z then N.set x ((Go.Proofs.Ytnlbjbnjjkilhaa.row N x).set z (wrap64 (nth (Go.Proofs.Ytnlbjbnjjkilhaa.row N x) y + nth (Go.Proofs.Ytnlbjbnjjkilhaa.row N y) z))) else N) : GJ T n B y x (z + 1) C := by
  have a1 := h.hi x y hx hy
  have a2 := h.hi y z hy hz
  have a3 := h.hi x z hx hz
  have c1 := (h.col x hx hy).1
  have c2 := (h.col z hz hy).2
  have hw : 0 ≤ nth (Go.Proofs.Ytnlbjbnjjkilhaa.row N x) y → 0 ≤ nth (Go.Proofs.Ytnlbjbnjjkilhaa.row N y) z → wrap64 (nth (Go.Proofs.Ytnlbjbnjjkilhaa.row N x) y + nth (Go.Proofs.Ytnlbjbnjjkilhaa.row N y) z) = nth (Go.Proofs.Ytnlbjbnjjkilhaa.row N x) y + nth (Go.Proofs.Ytnlbjbnjjkilhaa.row N y) z := fun q1 q2 => (by unfold wrap64; omega)
  by_cases e1 : nth (Go.Proofs.Ytnlbjbnjjkilhaa.row N x) y < 0 ∨ nth (Go.Proofs.Ytnlbjbnjjkilhaa.row N y) z < 0
  · rw [if_pos e1] at hC
    rw [hC]
    refine h.keep hT hy hx hz ?_
    have f1 := lf_le (v := nth (Go.Proofs.Ytnlbjbnjjkilhaa.row N x) z) (by unfold farC; omega)
    have f2 := lf_nn (nth (Go.Proofs.Ytnlbjbnjjkilhaa.row N x) y)
    have f3 := lf_nn (nth (Go.Proofs.Ytnlbjbnjjkilhaa.row N y) z)
    rcases e1 with e1 | e1
    · have : lf (nth (Go.Proofs.Ytnlbjbnjjkilhaa.row N x) y) = farC := if_pos e1
      omega
    · have : lf (nth (Go.Proofs.Ytnlbjbnjjkilhaa.row N y) z) = farC := if_pos e1
      omega
  · rw [if_neg e1] at hC
    have e2 : 0 ≤ nth (Go.Proofs.Ytnlbjbnjjkilhaa.row N x) y := by omega
    have e3 : 0 ≤ nth (Go.Proofs.Ytnlbjbnjjkilhaa.row N y) z := by omega
    have f2 : lf (nth (Go.Proofs.Ytnlbjbnjjkilhaa.row N x) y) = nth (Go.Proofs.Ytnlbjbnjjkilhaa.row N x) y := if_neg (by omega)
    have f3 : lf (nth (Go.Proofs.Ytnlbjbnjjkilhaa.row N y) z) = nth (Go.Proofs.Ytnlbjbnjjkilhaa.row N y) z := if_neg (by omega)
    rw [hw e2 e3] at hC
    by_cases e4 : nth (Go.Proofs.Ytnlbjbnjjkilhaa.row N x) z < 0 ∨ nth (Go.Proofs.Ytnlbjbnjjkilhaa.row N x) y + nth (Go.Proofs.Ytnlbjbnjjkilhaa.row N y) z < nth (Go.Proofs.Ytnlbjbnjjkilhaa.row N x) z
    · rw [if_pos e4] at hC
      rw [hC]
      have hxy : x ≠ y := fun q => by
        subst q
        rw [h.diag x hx] at e4
        omega
      have hzy : z ≠ y := fun q => by
        subst q
        rw [h.diag z hz] at e4
        omega
      have hxz : x ≠ z := fun q => by
        subst q
        rw [h.diag x hx] at e4
        omega
      obtain ⟨d, hd⟩ : ∃ d, d = nth (Go.Proofs.Ytnlbjbnjjkilhaa.row N x) y + nth (Go.Proofs.Ytnlbjbnjjkilhaa.row N y) z := ⟨_, rfl⟩
      rw [← hd] at e4 ⊢
      have hc := cell_put (N := N) (x := x) (z := z) (d := d) (by rw [h.len]; exact hx) (by rw [h.rows x hx]; exact hz)
      refine ⟨by rw [List.length_set, h.len], fun u hu => by rw [row_put (by rw [h.len]; exact hx), h.rows u hu], fun u v hu hv => ?_, fun u hu _ => ⟨?_, ?_⟩, fun u hu => ?_, ?_⟩
      · rw [hc u v]
        split
        · omega
        · exact h.hi u v hu hv
      · rw [hc u y, if_neg (fun q => hzy q.2.symm)]; exact (h.col u hu hy).1
      · rw [hc y u, if_neg (fun q => hxy q.1.symm)]; exact (h.col u hu hy).2
      · rw [hc u u, if_neg (fun q => hxz (q.1.symm.trans q.2))]; exact h.diag u hu
      · refine h.fw.step hT hx hy hz ?_ ?_
        · rw [hc x z, if_pos ⟨rfl, rfl⟩, f2, f3, ← hd]
          have f4 : lf d = d := if_neg (by omega)
          rw [f4]
          unfold lf
          split
          · unfold farC; omega
          · omega
        · intro u v hne
          rw [hc u v, if_neg hne]
    · rw [if_neg e4] at hC
      rw [hC]
      refine h.keep hT hy hx hz ?_
      have f1 : lf (nth (Go.Proofs.Ytnlbjbnjjkilhaa.row N x) z) = nth (Go.Proofs.Ytnlbjbnjjkilhaa.row N x) z := if_neg (by omega)
      omega
theorem GJ.fin (hT : ∀ u v, u < n → v < n → T u v ≤ 600) (h : GJ T n B n 0 0 N) : TbF N n T := ⟨h.len, h.rows, fun u v hu hv => by
  have h1 := h.fw.fin u v hu hv
  have h2 := hT u v hu hv
  have h3 : lf (nth (Go.Proofs.Ytnlbjbnjjkilhaa.row N u) v) = T u v := h1
  unfold lf farC at h3
  split at h3 <;> omega⟩
end
end Go.Proofs.Ytnlbjbnjjkilhaa
