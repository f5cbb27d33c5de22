/- Work lists after sequences are quasi-convex: points of two configurations can always be exchanged. -/
import Derived.Test.YtmgcfnciejfpbaaGreatQGrI
namespace Go.Proofs.YtmgcfnciejfpbaaGreat
open Go.RowKit

--PURE
/-- the value of a work list at the configuration of some points -/
def qW (P : List (List Int)) (ws x : List Int) : Int := nth ws (atR P (sortL x))
theorem sort_eq {x y : List Int} (p : x.Perm y) : sortL x = sortL y := asc_uniq (sortL_asc x) (sortL_asc y) (((sortL_perm x).trans p).trans (sortL_perm y).symm)
theorem qW_perm {P : List (List Int)} {ws x y : List Int} (p : x.Perm y) : qW P ws x = qW P ws y := by rw [qW, qW, sort_eq p]
/-- the two mixes of pairs by marks -/
def mxA (t : Bool × Int × Int) : Int := if t.1 then t.2.1 else t.2.2
def mxB (t : Bool × Int × Int) : Int := if t.1 then t.2.2 else t.2.1
/-- pairs whose exchanges never raise the sum of the values -/
def QC (P : List (List Int)) (ws : List Int) (L : List (Int × Int)) : Prop := ∀ T : List (Bool × Int × Int), T.map Prod.snd = L → qW P ws (T.map mxA) + qW P ws (T.map mxB) ≤ qW P ws (L.map Prod.fst) + qW P ws (L.map Prod.snd)
theorem QC.perm {P : List (List Int)} {ws : List Int} {L K : List (Int × Int)} (h : QC P ws L) (p : L.Perm K) : QC P ws K := by
  intro T hT
  obtain ⟨T', hp, hT'⟩ := map_perm_inv Prod.snd p T hT.symm
  have h1 := h T' hT'.symm
  rw [qW_perm (hp.map mxA), qW_perm (hp.map mxB), qW_perm (p.map Prod.fst), qW_perm (p.map Prod.snd)] at h1
  exact h1
theorem mem_perm {α : Type} {x : α} {l : List α} (h : x ∈ l) : ∃ l', l.Perm (x :: l') := by
  obtain ⟨a, b, rfl⟩ := List.append_of_mem h
  exact ⟨a ++ b, List.perm_middle⟩
theorem QC.meet {P : List (List Int)} {ws : List Int} {L : List (Int × Int)} (h : QC P ws L) {r : Int} (h1 : r ∈ L.map Prod.fst) (h2 : r ∈ L.map Prod.snd) :
    ∃ K : List (Int × Int), QC P ws ((r, r) :: K) ∧ (((r, r) :: K).map Prod.fst).Perm (L.map Prod.fst) ∧ (((r, r) :: K).map Prod.snd).Perm (L.map Prod.snd) := by
  obtain ⟨⟨r1, u⟩, hm, e⟩ := List.mem_map.1 h1
  have e' : r1 = r := e
  subst e'
  obtain ⟨L1, hL1⟩ := mem_perm hm
  have h' := h.perm hL1
  by_cases hu : u = r1
  · subst hu
    exact ⟨L1, h', (hL1.map Prod.fst).symm, (hL1.map Prod.snd).symm⟩
  · have h2' := (hL1.map Prod.snd).mem_iff.1 h2
    rw [List.map_cons] at h2'
    rcases List.mem_cons.1 h2' with h3 | h3
    · exact absurd h3.symm hu
    · obtain ⟨⟨z, r2⟩, hm2, e2⟩ := List.mem_map.1 h3
      have e2' : r2 = r1 := e2
      subst e2'
      obtain ⟨L2, hL2⟩ := mem_perm hm2
      have hp : L.Perm ((r2, u) :: (z, r2) :: L2) := hL1.trans (hL2.cons _)
      have h'' := h.perm hp
      refine ⟨(z, u) :: L2, ?_, ?_, ?_⟩
      · intro T hT
        match T, hT with
        | (b1, p1) :: (b, p2) :: T0, hT =>
          simp only [List.map_cons, List.cons.injEq] at hT
          obtain ⟨hp1, hp2, hT0⟩ := hT
          subst hp1
          subst hp2
          have h3 := h'' ((b, r2, u) :: (b, z, r2) :: T0) (by simp [hT0])
          have e1 : qW P ws (((b1, r2, r2) :: (b, z, u) :: T0).map mxA) = qW P ws (((b, r2, u) :: (b, z, r2) :: T0).map mxA) := by
            cases b <;> cases b1 <;> simp only [List.map_cons, mxA, if_true, Bool.false_eq_true, if_false]
            · exact qW_perm (List.Perm.swap _ _ _)
            · exact qW_perm (List.Perm.swap _ _ _)
          have e2 : qW P ws (((b1, r2, r2) :: (b, z, u) :: T0).map mxB) = qW P ws (((b, r2, u) :: (b, z, r2) :: T0).map mxB) := by
            cases b <;> cases b1 <;> simp only [List.map_cons, mxB, if_true, Bool.false_eq_true, if_false]
            · exact qW_perm (List.Perm.swap _ _ _)
            · exact qW_perm (List.Perm.swap _ _ _)
          have e3 : qW P ws (((r2, r2) :: (z, u) :: L2).map Prod.snd) = qW P ws (((r2, u) :: (z, r2) :: L2).map Prod.snd) := qW_perm (List.Perm.swap _ _ _)
          rw [e1, e2, e3]
          exact h3
      · exact (hp.map Prod.fst).symm
      · exact (List.Perm.swap _ _ _).trans (hp.map Prod.snd).symm
/-- the costs of four lists that are read from one -/
theorem cost_four {M : List (List Int)} {α : Type} (f g f' g' x y x' y' : α → Int) (h : ∀ t, cell M (f t).toNat (x t).toNat + cell M (g t).toNat (y t).toNat = cell M (f' t).toNat (x' t).toNat + cell M (g' t).toNat (y' t).toNat) :
    ∀ G : List α, costL M (G.map f) (G.map x) + costL M (G.map g) (G.map y) = costL M (G.map f') (G.map x') + costL M (G.map g') (G.map y')
  | [] => rfl
  | t :: G => by
    have h1 := cost_four (M := M) f g f' g' x y x' y' h G
    have h2 := h t
    simp only [List.map_cons, costL]
    omega
/-- values that are those of a configuration and a way -/
def Stp (M P : List (List Int)) (n k : Nat) (r : Int) (ws ws' : List Int) : Prop :=
  (∀ x z : List Int, x.length = k → z.length = k → Pts n x → Pts n z → r ∈ z → qW P ws' x ≤ qW P ws z + mvC M z x) ∧
  ∀ x : List Int, x.length = k → Pts n x → ∃ z : List Int, z.length = k ∧ Pts n z ∧ r ∈ z ∧ qW P ws' x = qW P ws z + mvC M z x
/-- pairs for each two configurations -/
def Qx (P : List (List Int)) (n k : Nat) (ws : List Int) : Prop := ∀ x y : List Int, x.length = k → y.length = k → Pts n x → Pts n y → ∃ L, QC P ws L ∧ (L.map Prod.fst).Perm x ∧ (L.map Prod.snd).Perm y
theorem zip_fst {α β : Type} {x : List α} {y : List β} (h : x.length = y.length) : (x.zip y).map Prod.fst = x := List.map_fst_zip (by omega)
theorem zip_snd {α β : Type} {x : List α} {y : List β} (h : x.length = y.length) : (x.zip y).map Prod.snd = y := List.map_snd_zip (by omega)
theorem Pts.mix {n : Nat} {T : List (Bool × Int × Int)} {x y : List Int} (hx : Pts n x) (hy : Pts n y) (h1 : ((T.map Prod.snd).map Prod.fst).Perm x) (h2 : ((T.map Prod.snd).map Prod.snd).Perm y) : Pts n (T.map mxA) ∧ Pts n (T.map mxB) := by
  have g1 : ∀ t ∈ T, 0 ≤ t.2.1 ∧ t.2.1 < (n : Int) := fun t ht => hx _ (h1.mem_iff.1 (List.mem_map_of_mem (List.mem_map_of_mem ht)))
  have g2 : ∀ t ∈ T, 0 ≤ t.2.2 ∧ t.2.2 < (n : Int) := fun t ht => hy _ (h2.mem_iff.1 (List.mem_map_of_mem (List.mem_map_of_mem ht)))
  constructor
  · intro q hq
    obtain ⟨t, ht, rfl⟩ := List.mem_map.1 hq
    rw [mxA]
    split
    · exact g1 t ht
    · exact g2 t ht
  · intro q hq
    obtain ⟨t, ht, rfl⟩ := List.mem_map.1 hq
    rw [mxB]
    split
    · exact g2 t ht
    · exact g1 t ht
theorem qc_step {M P : List (List Int)} {n k : Nat} {r : Int} {ws ws' : List Int} (hd : Dst M n) (hk : k ≤ 1000) (hS : Stp M P n k r ws ws') (hq : Qx P n k ws) : Qx P n k ws' := by
  intro x y hxl hyl hx hy
  obtain ⟨z, hzl, hz, hrz, ez⟩ := hS.2 x hxl hx
  obtain ⟨u, hul, hu, hru, eu⟩ := hS.2 y hyl hy
  obtain ⟨L, hL, p1, p2⟩ := hq z u hzl hul hz hu
  obtain ⟨K, hK, q1, q2⟩ := hL.meet (p1.mem_iff.2 hrz) (p2.mem_iff.2 hru)
  obtain ⟨K', hK'⟩ : ∃ K', K' = (r, r) :: K := ⟨_, rfl⟩
  have hrK : (r, r) ∈ K' := by rw [hK']; exact .head _
  rw [← hK'] at hK q1 q2
  have pz := q1.trans p1
  have pu := q2.trans p2
  have hKl : K'.length = k := by rw [← hzl, ← pz.length_eq, List.length_map]
  obtain ⟨x', px, ex⟩ := costL_perm (M := M) pz.symm ((mvC_min hd hz hx (by omega) (by omega)).1.choose) (by
    have := (mvC_min hd hz hx (by omega) (by omega)).1.choose_spec.1.length_eq
    omega)
  obtain ⟨gx, ex2⟩ := (mvC_min hd hz hx (by omega) (by omega)).1.choose_spec
  obtain ⟨y', py, ey⟩ := costL_perm (M := M) pu.symm ((mvC_min hd hu hy (by omega) (by omega)).1.choose) (by
    have := (mvC_min hd hu hy (by omega) (by omega)).1.choose_spec.1.length_eq
    omega)
  obtain ⟨gy, ey2⟩ := (mvC_min hd hu hy (by omega) (by omega)).1.choose_spec
  have pX : x'.Perm x := px.trans gx
  have pY : y'.Perm y := py.trans gy
  rw [← ex2] at ex
  rw [← ey2] at ey
  clear px py gx gy ex2 ey2
  have hx'l : x'.length = k := by rw [pX.length_eq, hxl]
  have hy'l : y'.length = k := by rw [pY.length_eq, hyl]
  have z1 : (x'.zip y').map Prod.fst = x' := zip_fst (by omega)
  have z2 : (x'.zip y').map Prod.snd = y' := zip_snd (by omega)
  refine ⟨x'.zip y', ?_, by rw [z1]; exact pX, by rw [z2]; exact pY⟩
  intro T hT
  have hzl2 : (x'.zip y').length = k := by rw [List.length_zip, hx'l, hy'l, Nat.min_self]
  have hTl : T.length = k := by rw [← hzl2, ← hT, List.length_map]
  have gK : (T.zip K').map Prod.snd = K' := zip_snd (by omega)
  have gT : (T.zip K').map Prod.fst = T := zip_fst (by omega)
  have hQ := hK ((T.zip K').map fun t => (t.1.1, t.2)) (by rw [List.map_map]; exact gK)
  rw [z1, z2, qW_perm pX, qW_perm pY, ez, eu]
  rw [qW_perm pz, qW_perm pu] at hQ
  have hTX : T.map (fun t => t.2.1) = x' := by
    have : (T.map Prod.snd).map Prod.fst = x' := by rw [hT, z1]
    rw [List.map_map] at this
    exact this
  have hTY : T.map (fun t => t.2.2) = y' := by
    have : (T.map Prod.snd).map Prod.snd = y' := by rw [hT, z2]
    rw [List.map_map] at this
    exact this
  have c4 := cost_four (M := M) (α := (Bool × Int × Int) × Int × Int) (fun t => mxA (t.1.1, t.2)) (fun t => mxB (t.1.1, t.2)) (fun t => t.2.1) (fun t => t.2.2) (fun t => mxA t.1) (fun t => mxB t.1) (fun t => t.1.2.1) (fun t => t.1.2.2) (by
    rintro ⟨⟨b, p, q⟩, p', q'⟩
    cases b
    · simp only [mxA, mxB, Bool.false_eq_true, if_false]; omega
    · simp only [mxA, mxB, if_true]) (T.zip K')
  have a1 : (T.zip K').map (fun t => t.2.1) = K'.map Prod.fst := by
    have : ((T.zip K').map Prod.snd).map Prod.fst = K'.map Prod.fst := by rw [gK]
    rw [List.map_map] at this
    exact this
  have a2 : (T.zip K').map (fun t => t.2.2) = K'.map Prod.snd := by
    have : ((T.zip K').map Prod.snd).map Prod.snd = K'.map Prod.snd := by rw [gK]
    rw [List.map_map] at this
    exact this
  have a3 : (T.zip K').map (fun t => t.1.2.1) = x' := by
    have : ((T.zip K').map Prod.fst).map (fun t => t.2.1) = x' := by rw [gT, hTX]
    rw [List.map_map] at this
    exact this
  have a4 : (T.zip K').map (fun t => t.1.2.2) = y' := by
    have : ((T.zip K').map Prod.fst).map (fun t => t.2.2) = y' := by rw [gT, hTY]
    rw [List.map_map] at this
    exact this
  have a5 : (T.zip K').map (fun t => mxA t.1) = T.map mxA := by
    have : ((T.zip K').map Prod.fst).map mxA = T.map mxA := by rw [gT]
    rw [List.map_map] at this
    exact this
  have a6 : (T.zip K').map (fun t => mxB t.1) = T.map mxB := by
    have : ((T.zip K').map Prod.fst).map mxB = T.map mxB := by rw [gT]
    rw [List.map_map] at this
    exact this
  rw [a1, a2, a3, a4, a5, a6, ex, ey] at c4
  obtain ⟨G, hG⟩ : ∃ G, G = (T.zip K').map fun t => (t.1.1, t.2) := ⟨_, rfl⟩
  have hGA : (T.zip K').map (fun t => mxA (t.1.1, t.2)) = G.map mxA := by rw [hG, List.map_map]; rfl
  have hGB : (T.zip K').map (fun t => mxB (t.1.1, t.2)) = G.map mxB := by rw [hG, List.map_map]; rfl
  have hGs : G.map Prod.snd = K' := by rw [hG, List.map_map]; exact gK
  rw [hGA, hGB] at c4
  rw [← hG] at hQ
  have hGl : G.length = k := by rw [← hKl, ← hGs, List.length_map]
  obtain ⟨m1, m2⟩ := Pts.mix (T := T) hx hy (by rw [hT, z1]; exact pX) (by rw [hT, z2]; exact pY)
  obtain ⟨m3, m4⟩ := Pts.mix (T := G) hz hu (by rw [hGs]; exact pz) (by rw [hGs]; exact pu)
  have hrG : ∃ b, (b, r, r) ∈ G := by
    rw [← hGs] at hrK
    obtain ⟨⟨b, p⟩, hm, e⟩ := List.mem_map.1 hrK
    have e' : p = (r, r) := e
    subst e'
    exact ⟨b, hm⟩
  obtain ⟨b, hb⟩ := hrG
  have r1 : r ∈ G.map mxA := by
    have := List.mem_map_of_mem (f := mxA) hb
    rw [show mxA (b, r, r) = r by cases b <;> rfl] at this
    exact this
  have r2 : r ∈ G.map mxB := by
    have := List.mem_map_of_mem (f := mxB) hb
    rw [show mxB (b, r, r) = r by cases b <;> rfl] at this
    exact this
  have s1 := hS.1 (T.map mxA) (G.map mxA) (by rw [List.length_map, hTl]) (by rw [List.length_map, hGl]) m1 m3 r1
  have s2 := hS.1 (T.map mxB) (G.map mxB) (by rw [List.length_map, hTl]) (by rw [List.length_map, hGl]) m2 m4 r2
  have t1 := (mvC_min hd m3 m1 (by simp [hTl, hGl]) (by simp [hGl]; omega)).2.1 _ (List.Perm.refl _)
  have t2 := (mvC_min hd m4 m2 (by simp [hTl, hGl]) (by simp [hGl]; omega)).2.1 _ (List.Perm.refl _)
  omega
theorem qc_start {M P : List (List Int)} {n k : Nat} {a ws : List Int} (hd : Dst M n) (hk : k ≤ 1000) (ha : Pts n a) (hal : a.length = k) (hw : ∀ x : List Int, x.length = k → Pts n x → qW P ws x = mvC M a x) : Qx P n k ws := by
  intro x y hxl hyl hx hy
  obtain ⟨x', pX, ex⟩ := (mvC_min hd ha hx (by omega) (by omega)).1
  obtain ⟨y', pY, ey⟩ := (mvC_min hd ha hy (by omega) (by omega)).1
  have hx'l : x'.length = k := by rw [pX.length_eq, hxl]
  have hy'l : y'.length = k := by rw [pY.length_eq, hyl]
  have z1 : (x'.zip y').map Prod.fst = x' := zip_fst (by omega)
  have z2 : (x'.zip y').map Prod.snd = y' := zip_snd (by omega)
  refine ⟨x'.zip y', ?_, by rw [z1]; exact pX, by rw [z2]; exact pY⟩
  intro T hT
  have hzl2 : (x'.zip y').length = k := by rw [List.length_zip, hx'l, hy'l, Nat.min_self]
  have hTl : T.length = k := by rw [← hzl2, ← hT, List.length_map]
  obtain ⟨m1, m2⟩ := Pts.mix (T := T) hx hy (by rw [hT, z1]; exact pX) (by rw [hT, z2]; exact pY)
  rw [z1, z2, qW_perm pX, qW_perm pY, hw x hxl hx, hw y hyl hy, hw _ (by rw [List.length_map, hTl]) m1, hw _ (by rw [List.length_map, hTl]) m2]
  have t1 := (mvC_min hd ha m1 (by simp [hTl, hal]) (by omega)).2.1 _ (List.Perm.refl _)
  have t2 := (mvC_min hd ha m2 (by simp [hTl, hal]) (by omega)).2.1 _ (List.Perm.refl _)
  have gT : (T.zip a).map Prod.fst = T := zip_fst (by omega)
  have ga : (T.zip a).map Prod.snd = a := zip_snd (by omega)
  have c4 := cost_four (M := M) (α := (Bool × Int × Int) × Int) (fun t => t.2) (fun t => t.2) (fun t => t.2) (fun t => t.2) (fun t => mxA t.1) (fun t => mxB t.1) (fun t => t.1.2.1) (fun t => t.1.2.2) (by
    rintro ⟨⟨b, p, q⟩, p'⟩
    cases b
    · simp only [mxA, mxB, Bool.false_eq_true, if_false]; omega
    · simp only [mxA, mxB, if_true]) (T.zip a)
  have a1 : (T.zip a).map (fun t => t.2) = a := ga
  have a3 : (T.zip a).map (fun t => t.1.2.1) = x' := by
    have : (((T.zip a).map Prod.fst).map Prod.snd).map Prod.fst = x' := by rw [gT, hT, z1]
    rw [List.map_map, List.map_map] at this
    exact this
  have a4 : (T.zip a).map (fun t => t.1.2.2) = y' := by
    have : (((T.zip a).map Prod.fst).map Prod.snd).map Prod.snd = y' := by rw [gT, hT, z2]
    rw [List.map_map, List.map_map] at this
    exact this
  have a5 : (T.zip a).map (fun t => mxA t.1) = T.map mxA := by
    have : ((T.zip a).map Prod.fst).map mxA = T.map mxA := by rw [gT]
    rw [List.map_map] at this
    exact this
  have a6 : (T.zip a).map (fun t => mxB t.1) = T.map mxB := by
    have : ((T.zip a).map Prod.fst).map mxB = T.map mxB := by rw [gT]
    rw [List.map_map] at this
    exact this
  rw [a1, a3, a4, a5, a6, ← ex, ← ey] at c4
  omega
theorem sort_conf {n k : Nat} {x : List Int} (hl : x.length = k) (hx : Pts n x) : sortL x ∈ confs n k 0 :=
  confs_iff.2 ⟨by rw [sortL_len, hl], sortL_asc x, fun q hq => by have := hx q ((sortL_perm x).mem_iff.1 hq); omega⟩
theorem stp_next {M : List (List Int)} {n k : Nat} {r L : Int} {ws : List Int} (hd : Dst M n) (h1 : 1 ≤ k) (hk : k ≤ 3) (hg : GoodW M (confs n k 0) ws L) (hL : L ≤ 1000000) (hr : 0 ≤ r ∧ r < (n : Int)) : Stp M (confs n k 0) n k r ws (wnxL M (confs n k 0) ws r) := by
  have hlen := hg.1.1
  constructor
  · intro x z hxl hzl hx hz hrz
    obtain ⟨ix, ex⟩ := atR_lt (sort_conf hxl hx)
    obtain ⟨iz, ez⟩ := atR_lt (sort_conf hzl hz)
    have h5 := (wnx_way hd h1 hk hg hL ix hr).1 _ iz (by rw [ez]; exact (sortL_perm z).mem_iff.2 hrz)
    rw [← wnx_at (by omega), viS, ex, ez] at h5
    rw [mvC_permL hd (sortL_perm z).symm hz (Pts.perm hx (sortL_perm x)) (by rw [sortL_len]; omega) (by omega), mvC_permR hd (sortL_perm x).symm hz hx (by omega) (by omega)] at h5
    exact h5
  · intro x hxl hx
    obtain ⟨ix, ex⟩ := atR_lt (sort_conf hxl hx)
    obtain ⟨_, t, ht, hrt, h6⟩ := wnx_way hd h1 hk hg hL ix hr
    obtain ⟨g1, g2, g3⟩ := row_conf ht
    refine ⟨row (confs n k 0) t, g1, g2, hrt, ?_⟩
    rw [← wnx_at (by omega), viS, ex, mvC_permR hd (sortL_perm x).symm g2 hx (by omega) (by omega)] at h6
    rw [qW, h6, qW, sortL_of_asc g3, atR_row ht]
theorem qx_at {M : List (List Int)} {n k : Nat} {a X : List Int} (hd : Dst M n) (h1 : 1 ≤ k) (hk : k ≤ 3) (ha : a ∈ confs n k 0) (hX : ∀ j, j < X.length → 0 ≤ nth X j ∧ nth X j < (n : Int)) (hl : X.length ≤ 1000) :
    ∀ i, i ≤ X.length → Qx (confs n k 0) n k (wlAt M (confs n k 0) a X i) := by
  intro i
  induction i with
  | zero =>
    intro _
    obtain ⟨g1, g2, g3⟩ := confs_iff.1 ha
    refine qc_start hd (by omega) (fun q hq => by have := g3 q hq; omega) g1 fun x hxl hx => ?_
    obtain ⟨ix, ex⟩ := atR_lt (sort_conf hxl hx)
    have : nth (wst M (confs n k 0) a) (atR (confs n k 0) (sortL x)) = mvC M a (sortL x) := by
      have h := congrArg (mvC M a) ex
      simp only [row, List.getD_eq_getElem?_getD, List.getElem?_eq_getElem ix, Option.getD_some] at h
      simp [wst, nth, ix, h]
    rw [qW, wlAt, this, mvC_permR hd (sortL_perm x).symm (fun q hq => by have := g3 q hq; omega) hx (by omega) (by omega)]
  | succ i ih =>
    intro hi
    have hg := (wl_good hd h1 hk ha hX hl i (by omega))
    exact qc_step hd (by omega) (stp_next hd h1 hk hg (by omega) (hX i (by omega))) (ih (by omega))
theorem set_perm {x : List Int} {s : Nat} {q : Int} {K : List Int} (hs : s < x.length) (p : x.Perm (nth x s :: K)) : (x.set s q).Perm (q :: K) := by
  have e : x = x.take s ++ nth x s :: x.drop (s + 1) := by
    rw [show nth x s = x[s] by simp [nth, hs]]
    rw [List.getElem_cons_drop, List.take_append_drop]
  have e2 : x.set s q = x.take s ++ q :: x.drop (s + 1) := by
    rw [List.set_eq_take_append_cons_drop, if_pos hs]
  have p1 : (nth x s :: (x.take s ++ x.drop (s + 1))).Perm (nth x s :: K) := by
    refine (List.perm_middle.symm).trans ?_
    rw [← e]
    exact p
  rw [e2]
  exact List.perm_middle.trans (((List.perm_cons _).1 p1).cons _)
theorem ex_ok {n k : Nat} {ws : List Int} (hq : Qx (confs n k 0) n k ws) {i j s : Nat} (hi : i < (confs n k 0).length) (hj : j < (confs n k 0).length) (hs : s < k) : exOk (confs n k 0) ws (row (confs n k 0) i) (row (confs n k 0) j) s = true := by
  obtain ⟨x1, x2, x3⟩ := row_conf hi
  obtain ⟨y1, y2, y3⟩ := row_conf hj
  obtain ⟨L, hL, p1, p2⟩ := hq _ _ x1 y1 x2 y2
  have hm : nth (row (confs n k 0) i) s ∈ L.map Prod.fst := p1.mem_iff.2 (nth_mem (by omega))
  obtain ⟨⟨p, q⟩, hpm, e⟩ := List.mem_map.1 hm
  have e' : p = nth (row (confs n k 0) i) s := e
  subst e'
  obtain ⟨K, hK⟩ := mem_perm hpm
  have hL' := hL.perm hK
  have px := p1.symm.trans (hK.map Prod.fst)
  have py := p2.symm.trans (hK.map Prod.snd)
  simp only [List.map_cons] at px py
  obtain ⟨t, ht, et⟩ := mem_iff_nth.1 (py.mem_iff.2 (.head _))
  refine exOk_yes (t := t) ht ?_
  have h := hL' ((false, nth (row (confs n k 0) i) s, q) :: K.map fun p => (true, p)) (by simp [List.map_map, Function.comp_def])
  have m1 : ((false, nth (row (confs n k 0) i) s, q) :: K.map fun p => (true, p)).map mxA = q :: K.map Prod.fst := by
    simp [mxA, List.map_map, Function.comp_def]
  have m2 : ((false, nth (row (confs n k 0) i) s, q) :: K.map fun p => (true, p)).map mxB = nth (row (confs n k 0) i) s :: K.map Prod.snd := by
    simp [mxB, List.map_map, Function.comp_def]
  rw [m1, m2] at h
  simp only [List.map_cons] at h
  rw [← qW_perm px, ← qW_perm py] at h
  have s1 := set_perm (q := q) (by omega) px
  have s2 := set_perm (x := row (confs n k 0) j) (s := t) (q := nth (row (confs n k 0) i) s) (K := K.map Prod.snd) ht (by rw [et]; exact py)
  rw [← qW_perm s1, ← qW_perm s2] at h
  rw [exS, svX, svX, et]
  simp only [qW] at h
  rw [sortL_of_asc x3, sortL_of_asc y3] at h
  exact h
theorem ex_none {M : List (List Int)} {n k : Nat} {a X : List Int} (hd : Dst M n) (h1 : 1 ≤ k) (hk : k ≤ 3) (ha : a ∈ confs n k 0) (hX : ∀ j, j < X.length → 0 ≤ nth X j ∧ nth X j < (n : Int)) (hl : X.length ≤ 1000) {i : Nat} (hi : i ≤ X.length) : exR (confs n k 0) (wlAt M (confs n k 0) a X i) k = none :=
  exR_miss fun _ hq => fst_none fun _ hj => fst_none fun _ hs => exS3_ok (ex_ok (qx_at hd h1 hk ha hX hl i hi) hq hj hs)
end Go.Proofs.YtmgcfnciejfpbaaGreat
