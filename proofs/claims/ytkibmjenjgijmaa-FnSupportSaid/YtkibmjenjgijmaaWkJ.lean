/- The value of a work list at a configuration, the first work list: program and reference. -/
import Derived.Test.YtkibmjenjgijmaaWkI
import Derived.Test.YtkibmjenjgijmaaGrN
namespace Go.Proofs.Ytkibmjenjgijmaa
open Go.RowKit

def woB (M : List (List Int)) (k : Int) (ws c : List Int) : Bool := iwB M k ws && (cfgB M.length c && decide ((c.length : Int) = k))
def woR (M : List (List Int)) (k : Int) (ws c : List Int) : Int := if woB M k ws c then nth ws (atR (confs M.length k.toNat 0) c) else 0
theorem wo_no {M : List (List Int)} {k : Int} {ws c : List Int} (h : woB M k ws c = false) : woR M k ws c = 0 := by rw [woR, h]; rfl
theorem wo_mem {M : List (List Int)} {k : Nat} {c : List Int} (h1 : cfgB M.length c = true) (h2 : (c.length : Int) = k) : c ∈ confs M.length k 0 := by
  have e : c.length = k := by omega
  rw [← e]
  exact cfg_confs h1
theorem giv_iw {M : List (List Int)} {k : Int} {ws : List Int} : givB M k ws 0 = iwB M k ws := by
  cases h : metB M with
  | false => simp [givB, iwB, askB, h]
  | true =>
    have := met_len h
    have : inB 0 0 ((M.length : Int) - 1) = true := inB_true.2 (by omega)
    simp [givB, iwB, this]

set_option maxHeartbeats 1600000 in
set_option maxRecDepth 100000 in
theorem implWorkOf_any {v vw vx : Value} {M : List (List Int)} {ws c : List Int} {k : Int} {w0 w : World} [Ext w0 w] (hm : IsMet w0 v M) (hw : IsInts w0 vw ws) (hx : IsInts w0 vx c) :
    Calls Try.prog 17 #[v, .int .i64 k, vw, vx] w fun e w' => e = .returned (.tuple #[.int .i64 (woR M k ws c), .bool (woB M k ws c)]) ∧ Ext w w' := by
  have hm' := hm
  obtain ⟨v1, rfl, hR⟩ := hm
  obtain ⟨a1, c1, rfl, l1⟩ := hR.form
  have hw' := hw
  obtain ⟨dw, mw, rfl, lw⟩ := hw.form
  have hx' := hx
  obtain ⟨dx, mx, rfl, lx⟩ := hx.form
  have x0 : (w.alloc (.cells #[.slice a1 M.length c1] 26)).cell? ⟨w.heap.size, 0, none⟩ = some (.slice a1 M.length c1) := by go_simp
  cases hq : iwB M k ws with
  | false =>
    have hr := hid (show woB M k ws c = false by rw [woB, hq]; rfl)
    have hr2 := hid (wo_no hr.out)
    have hq' := hid (show (askB M k && workB M (confs M.length k.toNat 0) ws) = false from hq)
    clear hq
    go_enter Try.func17, Try.ntmps17
    go_wp2_with fail
    with_reducible refine (worksFor_any (w0 := w0) hm' hw').mono ?_
    rw [hq'.out]
    rintro e w1 ⟨u, rfl, _, e1⟩
    go_wp2_with fail
    go_ret2
    exact ⟨ret_tuple2 (by rw [hr2.out]; rfl) (by rw [hr.out]; rfl), Ext.trans inferInstance e1⟩
  | true =>
    have hq' : (askB M k && workB M (confs M.length k.toNat 0) ws) = true := hq
    have hqa := hq'
    simp only [Bool.and_eq_true] at hqa
    obtain ⟨hM, hk1, hk3⟩ := askB_iff.1 hqa.1
    obtain ⟨kn, rfl⟩ := Int.eq_ofNat_of_zero_le (show 0 ≤ k by omega)
    rw [Int.toNat_natCast] at hq' hqa
    have hMl := met_len hM
    have hkn : kn ≤ 3 := by omega
    have h216 := confs_216 hMl.2 hkn
    have hg := hid (work_good (M := M) (P := confs M.length kn 0) (ws := ws) hqa.2)
    have hasc := hid (confs_asc M.length kn 0)
    have hM' := hid hM
    replace hq' := hid hq'
    clear hM hqa
    cases hcf : cfgB M.length c with
    | false =>
      have hr := hid (show woB M kn ws c = false by rw [woB, hcf, Bool.false_and, Bool.and_false])
      have hr2 := hid (wo_no hr.out)
      replace hcf := hid hcf
      replace hq := hid hq
      go_enter Try.func17, Try.ntmps17
      go_wp2_with fail
      with_reducible refine (worksFor_any (w0 := w0) hm' hw').mono ?_
      rw [Int.toNat_natCast, hq'.out]
      rintro e w1 ⟨u, rfl, _, e1⟩
      have x1 := e1.cell x0
      have e1w : Ext w w1 := Ext.trans inferInstance e1
      have e01 : Ext w0 w1 := Ext.trans ‹Ext w0 w› e1w
      clear x0
      go_wp2_with fail
      with_reducible refine (isConfig_any (w0 := w0) hm' hx' (by omega)).mono ?_
      rw [hcf.out]
      rintro e w2 ⟨rfl, e2⟩
      go_wp2_with fail
      go_ret2
      exact ⟨ret_tuple2 (by rw [hr2.out]; rfl) (by rw [hr.out]; rfl), Ext.trans e1w e2⟩
    | true =>
      by_cases hck : (c.length : Int) = kn
      · have hr := hid (show woB M kn ws c = true by rw [woB, hcf, hq]; simpa using hck)
        have hr2 := hid (show woR M kn ws c = nth ws (atR (confs M.length kn 0) c) by rw [woR, hr.out, Int.toNat_natCast]; rfl)
        have hmem := wo_mem hcf hck
        obtain ⟨hal, _⟩ := atR_lt hmem
        have hal2 : atR (confs M.length kn 0) c < ws.length := by rw [hg.out.1.1]; exact hal
        have hmem' := hid hmem
        clear hmem
        replace hcf := hid hcf
        replace hq := hid hq
        have hne : ((c.length : Int) != (kn : Int)) = false := by simp [hck]
        go_enter Try.func17, Try.ntmps17
        go_wp2_with fail
        with_reducible refine (worksFor_any (w0 := w0) hm' hw').mono ?_
        rw [Int.toNat_natCast, hq'.out]
        rintro e w1 ⟨u, rfl, hW, e1⟩
        replace hW := hW rfl
        have x1 := e1.cell x0
        have e1w : Ext w w1 := Ext.trans inferInstance e1
        have e01 : Ext w0 w1 := Ext.trans ‹Ext w0 w› e1w
        clear x0
        go_wp2_with fail
        with_reducible refine (isConfig_any (w0 := w0) hm' hx' (by omega)).mono ?_
        rw [hcf.out]
        rintro e w2 ⟨rfl, e2⟩
        have e02 : Ext w0 w2 := Ext.trans e01 e2
        have hW2 := hW.ext (w' := w2)
        have hx2 := hx'.ext (e := e02)
        go_wp2_with fail
        refine (index_any (w0 := w2) (w := w2) hW2 hx2 hasc.out hmem'.out (by omega)).mono ?_
        rintro e w3 ⟨rfl, rfl⟩
        obtain ⟨b, o, hd, hc⟩ := hw'.at (w' := w2) hal2
        cases hd
        generalize atR (confs M.length kn 0) c = t at *
        obtain ⟨z, hz⟩ : ∃ z, z = woR M kn ws c := ⟨_, rfl⟩
        rw [← hr2.out, ← hz] at hc
        replace hz := hid hz
        go_wp2_with fail
        go_ret2
        exact ⟨ret_tuple2 (by rw [← hz.out]; rfl) (by rw [hr.out]; rfl), Ext.trans e1w e2⟩
      · have hr := hid (show woB M kn ws c = false by rw [woB, hcf, hq]; simpa using hck)
        have hr2 := hid (wo_no hr.out)
        replace hcf := hid hcf
        replace hq := hid hq
        have hne : ((c.length : Int) != (kn : Int)) = true := by simpa using hck
        go_enter Try.func17, Try.ntmps17
        go_wp2_with fail
        with_reducible refine (worksFor_any (w0 := w0) hm' hw').mono ?_
        rw [Int.toNat_natCast, hq'.out]
        rintro e w1 ⟨u, rfl, hW, e1⟩
        have x1 := e1.cell x0
        have e1w : Ext w w1 := Ext.trans inferInstance e1
        have e01 : Ext w0 w1 := Ext.trans ‹Ext w0 w› e1w
        clear x0
        go_wp2_with fail
        with_reducible refine (isConfig_any (w0 := w0) hm' hx' (by omega)).mono ?_
        rw [hcf.out]
        rintro e w2 ⟨rfl, e2⟩
        go_wp2_with fail
        go_ret2
        exact ⟨ret_tuple2 (by rw [hr2.out]; rfl) (by rw [hr.out]; rfl), Ext.trans e1w e2⟩

/-- the first work list that the program gives -/
def swR (M : List (List Int)) (a : List Int) : List Int := if srvB M a [] then wst M (confs M.length a.length 0) a else []
theorem srv_nil {M : List (List Int)} {a : List Int} : srvB M a [] = (metB M && cfgB M.length a) := by
  have h : belowB (M.length : Int) [] = true := decide_eq_true (by simp)
  simp [srvB, h]
end Go.Proofs.Ytkibmjenjgijmaa
