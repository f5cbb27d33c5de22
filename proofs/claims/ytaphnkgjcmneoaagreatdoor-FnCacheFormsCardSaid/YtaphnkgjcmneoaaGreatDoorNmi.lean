/- Reading and writing a number: the program's and the reference's. -/
import Derived.Test.YtaphnkgjcmneoaaGreatDoorPackA
import Derived.Lib.AtoiErrMem
import Derived.Lib.ItoaLen
namespace Go.Proofs.YtaphnkgjcmneoaaGreatDoor
open Go.RowKit

theorem var_ext {w w' : World} {n : String} {cs : Array Value} (h : w.var? Tryz.prog n = some cs) [e : Ext w w'] : w'.var? Tryz.prog n = some cs := by
  unfold World.var? at *
  cases hg : Tryz.prog.globalNamed n with
  | none => rw [hg] at h; cases h
  | some g =>
    rw [hg] at h
    have hlt : g < w.heap.size := by
      by_cases hlt : g < w.heap.size
      · exact hlt
      · have hn : w.heap[g]? = none := Array.getElem?_eq_none (by omega)
        simp only [Option.bind_some, hn] at h
        cases h
    simp only [Option.bind_some] at h ⊢
    rw [e.below.block g hlt]
    exact h
/-- the two errors of the library's that a failed reading bears -/
def Errs (w : World) : Prop := (∃ tp p, w.var? Tryz.prog "strconv.ErrSyntax" = some #[.iface tp p]) ∧ ∃ tp p, w.var? Tryz.prog "strconv.ErrRange" = some #[.iface tp p]
theorem Errs.ext {w w' : World} (h : Errs w) [Ext w w'] : Errs w' := by
  obtain ⟨⟨t1, p1, h1⟩, t2, p2, h2⟩ := h
  exact ⟨⟨t1, p1, var_ext h1⟩, t2, p2, var_ext h2⟩
theorem bytes_ext (w : World) (e : Nat) (s : ByteArray) : Ext w (Lib.bytesWorld w e s) := ⟨Lib.bytesWorld_below w e s⟩
theorem bs_list (A : List UInt8) : (bsOf A).toList = A := by rw [Go.Lib.toList_data]; exact bsOf_list A
theorem bs_beq {A B : List UInt8} (h : A ≠ B) : ((bsOf A).toList == (bsOf B).toList) = false := by
  rw [bs_list, bs_list]
  simpa using h
theorem bs_ne {A B : List UInt8} (h : A ≠ B) : bsOf A ≠ bsOf B := fun e => h (bsOf_inj e)

set_option maxHeartbeats 800000 in
theorem dec64_any (n : Int) (h0 : -9223372036854775808 ≤ n) (h1 : n ≤ 9223372036854775807) {w : World} (ht : Tens w) :
    Calls Tryz.prog 66 #[.int .i64 n] w fun e w' => e = .returned (.string (bsOf (Lib.itoa n))) ∧ Ext w w' := by
  have ht' : Lib.TabIs Tryz.prog w "internal/strconv.uint64pow10" .u64 Lib.pow10Tab := ht
  replace ht' := hid ht'
  go_enter Tryz.func66, Tryz.ntmps66
  go_wp2_with fail
  with_reducible refine (Tryz.strconv_Itoa n h0 h1 w ht'.out).mono ?_
  rintro e w2 ⟨rfl, k, os, rfl⟩
  go_wp2_with fail
  go_ret
  exact ⟨rfl, grow_ext _ _ _⟩
/-- the reading of a text, as a result -/
def optV (o : Option Int) : Value := .tuple #[.int .i64 (o.getD 0), .bool o.isSome]

set_option maxHeartbeats 800000 in
set_option maxRecDepth 100000 in
theorem readDec_any {L : List UInt8} {w : World} (hl : L.length ≤ 1000000) (ht : Tens w) (he : Errs w) :
    Calls Tryz.prog 39 #[.string (bsOf L)] w fun e w' => e = .returned (optV (rdO L)) ∧ Ext w w' := by
  obtain ⟨S, hS⟩ : ∃ S, S = bsOf L := ⟨_, rfl⟩
  have hSl : S.data.toList = L := by rw [hS]; exact bsOf_list L
  have hSz : S.size ≤ 1000000 := by rw [hS, bsOf_size]; exact hl
  rw [← hS]
  replace ht := hid ht
  replace hS := hid hS
  obtain ⟨⟨t1, p1, he1⟩, t2, p2, he2⟩ := he
  replace he1 := hid he1
  replace he2 := hid he2
  cases ha : Lib.atoiAll L with
  | ok v =>
    have hb := Lib.atoiAll_bounds ha
    have hv : ∀ u, Calls Tryz.prog 78 #[.string S] u fun e w' => e = .returned (.tuple #[.int .i64 v, .nilIface]) ∧ Ext u w' := fun u => by
      refine (Tryz.strconv_Atoi_ok S (by omega) v (by rw [hSl]; exact ha) u).mono ?_
      rintro e w' ⟨rfl, h⟩
      refine ⟨rfl, ?_⟩
      rcases h with rfl | ⟨t, rfl⟩
      · exact Ext.refl _
      · exact bytes_ext _ _ _
    replace hv := hid hv
    replace ha := hid ha
    go_enter Tryz.func39, Tryz.ntmps39
    go_wp2_with fail
    with_reducible refine (hv.out w).mono ?_
    rintro e w2 ⟨rfl, e2⟩
    have ht2 := hid (ht.out.ext (w' := w2))
    go_wp2_with fail
    with_reducible refine (dec64_any v hb.1 hb.2 ht2.out).mono ?_
    rintro e w3 ⟨rfl, e3⟩
    obtain ⟨T, hT⟩ : ∃ T, T = bsOf (Lib.itoa v) := ⟨_, rfl⟩
    rw [← hT]
    by_cases hi : Lib.itoa v = L
    · have hr := hid (show rdO L = some v by unfold rdO; rw [ha.out]; simp only; rw [if_pos hi])
      have hTS : T = S := by rw [hT, hS.out, hi]
      subst hTS
      replace hT := hid hT
      replace hi := hid hi
      go_wp2_with fail
      refine bodyPost_ret (v := .tuple #[.int .i64 v, .bool true]) (by simp [results, Tryz.results39, go_sem]) rfl ?_
      exact ⟨by rw [hr.out]; rfl, Ext.trans e2 e3⟩
    · have hr := hid (show rdO L = none by unfold rdO; rw [ha.out]; simp only; rw [if_neg hi])
      have hTS : (T.toList == S.toList) = false := by rw [hT, hS.out]; exact bs_beq hi
      replace hT := hid hT
      replace hi := hid hi
      go_wp2_with fail
      refine bodyPost_ret (v := .tuple #[.int .i64 0, .bool false]) (by simp [results, Tryz.results39, go_sem]) rfl ?_
      exact ⟨by rw [hr.out]; rfl, Ext.trans e2 e3⟩
  | range =>
    have hr := hid (show rdO L = none by unfold rdO; rw [ha])
    have hA := Tryz.strconv_Atoi_range_var S (by omega) (by rw [hSl]; exact ha) t2 p2 w he2.out
    replace hA := hid hA
    replace ha := hid ha
    go_enter Tryz.func39, Tryz.ntmps39
    go_wp2_with fail
    with_reducible refine hA.out.mono ?_
    rintro e w2 ⟨N, rfl, _, _, hb2⟩
    go_wp2_with fail
    refine bodyPost_ret (v := .tuple #[.int .i64 0, .bool false]) (by simp [results, Tryz.results39, go_sem]) rfl ?_
    exact ⟨by rw [hr.out]; rfl, ⟨hb2⟩⟩
  | _ =>
    have hr := hid (show rdO L = none by unfold rdO; rw [ha])
    have hA := Tryz.strconv_Atoi_syntax_var S (by omega) (by rw [hSl]; exact ha) t1 p1 w he1.out
    replace hA := hid hA
    replace ha := hid ha
    go_enter Tryz.func39, Tryz.ntmps39
    go_wp2_with fail
    with_reducible refine hA.out.mono ?_
    rintro e w2 ⟨N, rfl, _, _, hb2⟩
    go_wp2_with fail
    refine bodyPost_ret (v := .tuple #[.int .i64 0, .bool false]) (by simp [results, Tryz.results39, go_sem]) rfl ?_
    exact ⟨by rw [hr.out]; rfl, ⟨hb2⟩⟩

/-- the text of a number in a range, as a result -/
def fmB (n : Int) : Bool := inB n (-999999) 999999
def fmL (n : Int) : List UInt8 := if fmB n then Lib.itoa n else []
theorem bs_get {L : List UInt8} {i : Nat} {b : UInt8} (h : L[i]? = some b) : ∀ hi : i < (bsOf L).size, (bsOf L)[i]'hi = b := fun hi => by
  obtain ⟨h1, h2⟩ := List.getElem?_eq_some_iff.1 h
  rw [← h2]
  rfl
theorem bs_tail (c : UInt8) (r : List UInt8) : (bsOf (c :: r)).extract 1 (bsOf (c :: r)).size = bsOf r := by
  apply ByteArray.ext
  apply Array.ext'
  have h := Go.Lib.extract_toList (bsOf (c :: r)) 1 (bsOf (c :: r)).size
  rw [Go.Lib.toList_data, bsOf_list, bsOf_size] at h
  rw [bsOf_size, h]
  simp [bsOf]
theorem digit_no {l : List UInt8} {i m : Nat} {b : UInt8} (h : Lib.decFrom 0 (l.take i) = some m) (hb : l[i]? = some b) (hd : ¬ (48 ≤ b.toNat ∧ b.toNat ≤ 57)) : Lib.decFrom 0 l = none := by
  obtain ⟨hi, he⟩ := List.getElem?_eq_some_iff.1 hb
  have h1 := decFrom_app (l.take i) (l.drop i) 0 m h
  rw [List.take_append_drop, List.drop_eq_getElem_cons hi, he] at h1
  rw [h1]
  have hv : Lib.digitVal b = none := by unfold Lib.digitVal; rw [if_neg hd]
  simp [Lib.decFrom, hv]
theorem digit_yes {l : List UInt8} {i m : Nat} {b : UInt8} (h : Lib.decFrom 0 (l.take i) = some m) (hb : l[i]? = some b) (hd : 48 ≤ b.toNat ∧ b.toNat ≤ 57) : Lib.decFrom 0 (l.take (i + 1)) = some (m * 10 + (b.toNat - 48)) := by
  refine Lib.decFrom_take l i 0 m b _ h hb ?_
  unfold Lib.digitVal
  rw [if_pos hd]
theorem take_small {l : List UInt8} {i m : Nat} (h : Lib.decFrom 0 (l.take i) = some m) (hi : i ≤ 6) : m < 1000000 := by
  have h1 := Lib.decFrom_lt _ _ _ h
  have h2 : (l.take i).length ≤ 6 := by rw [List.length_take]; omega
  have h3 : (10 : Nat) ^ (l.take i).length ≤ 10 ^ 6 := Nat.pow_le_pow_right (by omega) h2
  omega
set_option maxHeartbeats 1600000 in
set_option maxRecDepth 100000 in
theorem l1Read_any {L : List UInt8} {w : World} (hl : L.length ≤ 1000000) :
    Calls Tryz.prog 49 #[.string (bsOf L)] w fun e w' => e = .returned (optV (rsO L)) ∧ Ext w w' := by
  obtain ⟨S, hS⟩ : ∃ S, S = bsOf L := ⟨_, rfl⟩
  have hSz : S.size = L.length := by rw [hS, bsOf_size]
  rw [← hS]
  by_cases h1 : 1 < L.length ∧ L.head? = some 45
  · obtain ⟨c, r, hLr⟩ : ∃ c r, L = c :: r := by cases L with
      | nil => simp at h1
      | cons c r => exact ⟨c, r, rfl⟩
    have hc : c = 45 := by
      have h2 := h1.2
      rw [hLr] at h2
      injection h2
    subst hc
    have hT0 : S.extract 1 S.size = bsOf r := by rw [hS, hLr]; exact bs_tail _ _
    obtain ⟨T, hTe⟩ : ∃ T, T = bsOf r := ⟨_, rfl⟩
    have hTz : T.size = r.length := by rw [hTe, bsOf_size]
    have hS0 : ∀ h : 0 < S.size, S[0]'h = 45 := by rw [hS, hLr]; exact bs_get (by rfl)
    have ht := hid (show rsT L = r by rw [rsT, if_pos h1, hLr]; rfl)
    have hg : 1 < S.size := by omega
    have hsg := hid (show decide ((rsT L).length < L.length) = true by rw [ht.out, hLr]; simp)
    have hlS : r.length < S.size := by rw [hSz, hLr]; simp
    have hT := hid hTe
    rw [← hTe] at hT0
    clear hTe
    replace hS := hid hS
    replace hSz := hid hSz
    replace h1 := hid h1
    obtain ⟨l, hl'⟩ : ∃ l, l = r := ⟨_, rfl⟩
    rw [← hl'] at hTz ht hT hlS
    replace hl' := hid hl'
    replace hLr := hid hLr
    go_enter Tryz.func49, Tryz.ntmps49
    go_upto_region 4 with fail
    cases hin : inB (l.length : Int) 1 6 with
    | false =>
      have hr := hid (show rsO L = none by
        have h := inB_false.1 hin
        unfold rsO
        rw [ht.out, if_neg (fun hh => h (by omega))])
      replace hin := hid hin
      go_wp2_with fail
      with_reducible refine (l1In_any _ _ _ _).mono ?_
      rw [hin.out]
      rintro e w2 ⟨rfl, rfl⟩
      go_wp2_with fail
      refine bodyPost_ret (v := .tuple #[.int .i64 0, .bool false]) (by simp [results, Tryz.results49, go_sem]) rfl ?_
      exact ⟨by rw [hr.out]; rfl, Ext.refl _⟩
    | true =>
      have hl6' := inB_true.1 hin
      have hl6 := hid (show 1 ≤ l.length ∧ l.length ≤ 6 by omega)
      have hl6b : l.length ≤ 6 := by omega
      replace hin := hid hin
      go_wp2_with fail
      with_reducible refine (l1In_any _ _ _ _).mono ?_
      rw [hin.out]
      rintro e w2 ⟨rfl, rfl⟩
      go_wp2_with fail
      go_loopw [5, 6] (fun nv iv wr => ∃ i m : Nat, i ≤ l.length ∧ iv = .int .i64 i ∧ nv = .int .i64 m ∧ Hid (Lib.decFrom 0 (l.take i) = some m) ∧ Ext w wr) (fun _ iv _ => l.length - (intOf iv).toNat)
      case atStart => exact ⟨0, 0, by omega, rfl, rfl, rfl, Ext.refl _⟩
      case round =>
        obtain ⟨i, m, hil, rfl, rfl, hdec, hq⟩ := hrel
        obtain ⟨wq, rfl⟩ : ∃ y : World, y = wr := ⟨_, rfl⟩
        have hm6 := take_small hdec.out (by omega)
        by_cases hlt : i < l.length
        · have hltT : i < T.size := by omega
          obtain ⟨b, hb⟩ : ∃ b, l[i]? = some b := ⟨_, List.getElem?_eq_getElem hlt⟩
          have hget : ∀ h : i < T.size, T[i]'h = b := by
            have h := bs_get hb
            rw [← hT.out] at h
            exact h
          have hb8 : b.toNat < 256 := b.toNat_lt
          by_cases hd : 48 ≤ b.toNat ∧ b.toNat ≤ 57
          · have hnx := hid (digit_yes hdec.out hb hd)
            obtain ⟨z, hz⟩ : ∃ z, z = b.toNat := ⟨_, rfl⟩
            have hgz : ∀ h : i < T.size, (T[i]'h).toNat = z := fun h => by rw [hget h, hz]
            rw [← hz] at hd hnx
            have g1 : ¬ z < 48 := by omega
            have g2 : ¬ 57 < z := by omega
            obtain ⟨hd1, hd2⟩ := hd
            replace hb := hid hb
            replace hz := hid hz
            replace hget := hid hget
            have hm10 : ¬ m > 1000000 := by omega
            go_wp2_with fail
            go_roundw
            case rel => exact ⟨i + 1, m * 10 + (z - 48), by omega, by go_num, congrArg (Value.int .i64) (by omega), hnx, hq⟩
            case measure => simp [intOf]; omega
          · have hno := hid (digit_no hdec.out hb hd)
            have hr := hid (show rsO L = none by unfold rsO; rw [ht.out, if_pos hl6.out, hno.out])
            obtain ⟨z, hz⟩ : ∃ z, z = b.toNat := ⟨_, rfl⟩
            have hgz : ∀ h : i < T.size, (T[i]'h).toNat = z := fun h => by rw [hget h, hz]
            rw [← hz] at hd hb8
            replace hb := hid hb
            replace hz := hid hz
            replace hget := hid hget
            by_cases g1 : z < 48
            · go_wp2_with fail
              refine bodyPost_ret (v := .tuple #[.int .i64 0, .bool false]) (by simp [results, Tryz.results49, go_sem]) rfl ?_
              exact ⟨by rw [hr.out]; rfl, hq⟩
            · have g2 : 57 < z := by omega
              replace hd := hid hd
              go_wp2_with fail
              refine bodyPost_ret (v := .tuple #[.int .i64 0, .bool false]) (by simp [results, Tryz.results49, go_sem]) rfl ?_
              exact ⟨by rw [hr.out]; rfl, hq⟩
        · have hil2 : i = l.length := by omega
          have hall := hid (show Lib.decFrom 0 l = some m by have h := hdec.out; rw [hil2, List.take_length] at h; exact h)
          replace hil2 := hid hil2
          obtain ⟨nn, hnn'⟩ : ∃ nn : Int, nn = -(m : Int) := ⟨_, rfl⟩
          have hnn := hid (show nn = rsN L m by rw [hnn', rsN, if_pos (of_decide_eq_true hsg.out)])
          have hnn2 := hid hnn'
          go_upto_region 15 with fail
          rw [← hnn2.out]
          clear hnn' hnn2
          have hnb : -1000000000000000 ≤ rsN L m ∧ rsN L m ≤ 1000000000000000 := by unfold rsN; split <;> omega
          go_wp2_with fail
          with_reducible refine (l1Num_any nn (by rw [hnn.out]; exact hnb) wq).mono ?_
          rintro e w5 ⟨rfl, e5⟩
          obtain ⟨Z, hZ⟩ : ∃ Z, Z = bsOf (Lib.itoa nn) := ⟨_, rfl⟩
          rw [← hZ]
          by_cases hi : Lib.itoa (rsN L m) = L
          · have hr := hid (show rsO L = some nn by unfold rsO; rw [ht.out, if_pos hl6.out, hall.out]; simp only; rw [if_pos hi, hnn.out])
            have hZS : Z = S := by rw [hZ, hnn.out, hi, hS.out]
            subst hZS
            replace hZ := hid hZ
            replace hi := hid hi
            clear hnb
            go_wp2_with fail
            refine bodyPost_ret (v := .tuple #[.int .i64 nn, .bool true]) (by simp [results, Tryz.results49, go_sem]) rfl ?_
            exact ⟨by rw [hr.out]; rfl, Ext.trans hq e5⟩
          · have hr := hid (show rsO L = none by unfold rsO; rw [ht.out, if_pos hl6.out, hall.out]; simp only; rw [if_neg hi])
            have hZS : (Z.toList == S.toList) = false := by rw [hZ, hnn.out, hS.out]; exact bs_beq hi
            replace hZ := hid hZ
            replace hi := hid hi
            clear hnb
            go_wp2_with fail
            refine bodyPost_ret (v := .tuple #[.int .i64 0, .bool false]) (by simp [results, Tryz.results49, go_sem]) rfl ?_
            exact ⟨by rw [hr.out]; rfl, Ext.trans hq e5⟩
  · have ht := hid (show rsT L = L by rw [rsT, if_neg h1])
    have hTz : S.size = L.length := hSz
    have hsg := hid (show decide ((rsT L).length < L.length) = false by rw [ht.out]; simp)
    have hT := hid hS
    have hlS : ¬ L.length < L.length := by omega
    by_cases h2 : 1 < L.length
    · obtain ⟨c, r, hLr⟩ : ∃ c r, L = c :: r := by cases L with
        | nil => simp at h2
        | cons c r => exact ⟨c, r, rfl⟩
      have hc : c ≠ 45 := fun e => h1 ⟨h2, by rw [hLr, e]; rfl⟩
      have hS0 : ∀ h : 0 < S.size, S[0]'h = c := by rw [hS, hLr]; exact bs_get (by rfl)
      have hcn : ((c.toNat : Int) == 45) = false := by
        have h3 : c.toNat ≠ 45 := fun e => hc (UInt8.toNat_inj.1 (by rw [e]; rfl))
        simp; omega
      replace hS := hid hS
      replace hSz := hid hSz
      replace h1 := hid h1
      replace hLr := hid hLr
      replace hc := hid hc
      go_enter Tryz.func49, Tryz.ntmps49
      go_upto_region 4 with fail
      cases hin : inB (L.length : Int) 1 6 with
      | false =>
        have hr := hid (show rsO L = none by
          have h := inB_false.1 hin
          unfold rsO
          rw [ht.out, if_neg (fun hh => h (by omega))])
        replace hin := hid hin
        go_wp2_with fail
        with_reducible refine (l1In_any _ _ _ _).mono ?_
        rw [hin.out]
        rintro e w2 ⟨rfl, rfl⟩
        go_wp2_with fail
        refine bodyPost_ret (v := .tuple #[.int .i64 0, .bool false]) (by simp [results, Tryz.results49, go_sem]) rfl ?_
        exact ⟨by rw [hr.out]; rfl, Ext.refl _⟩
      | true =>
        have hl6' := inB_true.1 hin
        have hl6 := hid (show 1 ≤ L.length ∧ L.length ≤ 6 by omega)
        have hl6b : L.length ≤ 6 := by omega
        replace hin := hid hin
        go_wp2_with fail
        with_reducible refine (l1In_any _ _ _ _).mono ?_
        rw [hin.out]
        rintro e w2 ⟨rfl, rfl⟩
        go_wp2_with fail
        go_loopw [5, 6] (fun nv iv wr => ∃ i m : Nat, i ≤ L.length ∧ iv = .int .i64 i ∧ nv = .int .i64 m ∧ Hid (Lib.decFrom 0 (L.take i) = some m) ∧ Ext w wr) (fun _ iv _ => L.length - (intOf iv).toNat)
        case atStart => exact ⟨0, 0, by omega, rfl, rfl, rfl, Ext.refl _⟩
        case round =>
          obtain ⟨i, m, hil, rfl, rfl, hdec, hq⟩ := hrel
          obtain ⟨wq, rfl⟩ : ∃ y : World, y = wr := ⟨_, rfl⟩
          have hm6 := take_small hdec.out (by omega)
          by_cases hlt : i < L.length
          · have hltT : i < S.size := by omega
            obtain ⟨b, hb⟩ : ∃ b, L[i]? = some b := ⟨_, List.getElem?_eq_getElem hlt⟩
            have hget : ∀ h : i < S.size, S[i]'h = b := by
              have h := bs_get hb
              rw [← hT.out] at h
              exact h
            have hb8 : b.toNat < 256 := b.toNat_lt
            by_cases hd : 48 ≤ b.toNat ∧ b.toNat ≤ 57
            · have hnx := hid (digit_yes hdec.out hb hd)
              obtain ⟨z, hz⟩ : ∃ z, z = b.toNat := ⟨_, rfl⟩
              have hgz : ∀ h : i < S.size, (S[i]'h).toNat = z := fun h => by rw [hget h, hz]
              rw [← hz] at hd hnx
              have g1 : ¬ z < 48 := by omega
              have g2 : ¬ 57 < z := by omega
              obtain ⟨hd1, hd2⟩ := hd
              replace hb := hid hb
              replace hz := hid hz
              replace hget := hid hget
              have hm10 : ¬ m > 1000000 := by omega
              go_wp2_with fail
              go_roundw
              case rel => exact ⟨i + 1, m * 10 + (z - 48), by omega, by go_num, congrArg (Value.int .i64) (by omega), hnx, hq⟩
              case measure => simp [intOf]; omega
            · have hno := hid (digit_no hdec.out hb hd)
              have hr := hid (show rsO L = none by unfold rsO; rw [ht.out, if_pos hl6.out, hno.out])
              obtain ⟨z, hz⟩ : ∃ z, z = b.toNat := ⟨_, rfl⟩
              have hgz : ∀ h : i < S.size, (S[i]'h).toNat = z := fun h => by rw [hget h, hz]
              rw [← hz] at hd hb8
              replace hb := hid hb
              replace hz := hid hz
              replace hget := hid hget
              by_cases g1 : z < 48
              · go_wp2_with fail
                refine bodyPost_ret (v := .tuple #[.int .i64 0, .bool false]) (by simp [results, Tryz.results49, go_sem]) rfl ?_
                exact ⟨by rw [hr.out]; rfl, hq⟩
              · have g2 : 57 < z := by omega
                replace hd := hid hd
                go_wp2_with fail
                refine bodyPost_ret (v := .tuple #[.int .i64 0, .bool false]) (by simp [results, Tryz.results49, go_sem]) rfl ?_
                exact ⟨by rw [hr.out]; rfl, hq⟩
          · have hil2 : i = L.length := by omega
            have hall := hid (show Lib.decFrom 0 L = some m by have h := hdec.out; rw [hil2, List.take_length] at h; exact h)
            replace hil2 := hid hil2
            obtain ⟨nn, hnn'⟩ : ∃ nn : Int, nn = (m : Int) := ⟨_, rfl⟩
            have hnn := hid (show nn = rsN L m by rw [hnn', rsN, if_neg (of_decide_eq_false hsg.out)])
            have hnn2 := hid hnn'
            go_upto_region 15 with fail
            rw [← hnn2.out]
            clear hnn' hnn2
            have hnb : -1000000000000000 ≤ rsN L m ∧ rsN L m ≤ 1000000000000000 := by unfold rsN; split <;> omega
            go_wp2_with fail
            with_reducible refine (l1Num_any nn (by rw [hnn.out]; exact hnb) wq).mono ?_
            rintro e w5 ⟨rfl, e5⟩
            obtain ⟨Z, hZ⟩ : ∃ Z, Z = bsOf (Lib.itoa nn) := ⟨_, rfl⟩
            rw [← hZ]
            by_cases hi : Lib.itoa (rsN L m) = L
            · have hr := hid (show rsO L = some nn by unfold rsO; rw [ht.out, if_pos hl6.out, hall.out]; simp only; rw [if_pos hi, hnn.out])
              have hZS : Z = S := by rw [hZ, hnn.out, hi, hS.out]
              subst hZS
              replace hZ := hid hZ
              replace hi := hid hi
              clear hnb
              go_wp2_with fail
              refine bodyPost_ret (v := .tuple #[.int .i64 nn, .bool true]) (by simp [results, Tryz.results49, go_sem]) rfl ?_
              exact ⟨by rw [hr.out]; rfl, Ext.trans hq e5⟩
            · have hr := hid (show rsO L = none by unfold rsO; rw [ht.out, if_pos hl6.out, hall.out]; simp only; rw [if_neg hi])
              have hZS : (Z.toList == S.toList) = false := by rw [hZ, hnn.out, hS.out]; exact bs_beq hi
              replace hZ := hid hZ
              replace hi := hid hi
              clear hnb
              go_wp2_with fail
              refine bodyPost_ret (v := .tuple #[.int .i64 0, .bool false]) (by simp [results, Tryz.results49, go_sem]) rfl ?_
              exact ⟨by rw [hr.out]; rfl, Ext.trans hq e5⟩
    · replace hS := hid hS
      replace hSz := hid hSz
      replace h1 := hid h1
      go_enter Tryz.func49, Tryz.ntmps49
      go_upto_region 4 with fail
      cases hin : inB (L.length : Int) 1 6 with
      | false =>
        have hr := hid (show rsO L = none by
          have h := inB_false.1 hin
          unfold rsO
          rw [ht.out, if_neg (fun hh => h (by omega))])
        replace hin := hid hin
        go_wp2_with fail
        with_reducible refine (l1In_any _ _ _ _).mono ?_
        rw [hin.out]
        rintro e w2 ⟨rfl, rfl⟩
        go_wp2_with fail
        refine bodyPost_ret (v := .tuple #[.int .i64 0, .bool false]) (by simp [results, Tryz.results49, go_sem]) rfl ?_
        exact ⟨by rw [hr.out]; rfl, Ext.refl _⟩
      | true =>
        have hl6' := inB_true.1 hin
        have hl6 := hid (show 1 ≤ L.length ∧ L.length ≤ 6 by omega)
        have hl6b : L.length ≤ 6 := by omega
        replace hin := hid hin
        go_wp2_with fail
        with_reducible refine (l1In_any _ _ _ _).mono ?_
        rw [hin.out]
        rintro e w2 ⟨rfl, rfl⟩
        go_wp2_with fail
        go_loopw [5, 6] (fun nv iv wr => ∃ i m : Nat, i ≤ L.length ∧ iv = .int .i64 i ∧ nv = .int .i64 m ∧ Hid (Lib.decFrom 0 (L.take i) = some m) ∧ Ext w wr) (fun _ iv _ => L.length - (intOf iv).toNat)
        case atStart => exact ⟨0, 0, by omega, rfl, rfl, rfl, Ext.refl _⟩
        case round =>
          obtain ⟨i, m, hil, rfl, rfl, hdec, hq⟩ := hrel
          obtain ⟨wq, rfl⟩ : ∃ y : World, y = wr := ⟨_, rfl⟩
          have hm6 := take_small hdec.out (by omega)
          by_cases hlt : i < L.length
          · have hltT : i < S.size := by omega
            obtain ⟨b, hb⟩ : ∃ b, L[i]? = some b := ⟨_, List.getElem?_eq_getElem hlt⟩
            have hget : ∀ h : i < S.size, S[i]'h = b := by
              have h := bs_get hb
              rw [← hT.out] at h
              exact h
            have hb8 : b.toNat < 256 := b.toNat_lt
            by_cases hd : 48 ≤ b.toNat ∧ b.toNat ≤ 57
            · have hnx := hid (digit_yes hdec.out hb hd)
              obtain ⟨z, hz⟩ : ∃ z, z = b.toNat := ⟨_, rfl⟩
              have hgz : ∀ h : i < S.size, (S[i]'h).toNat = z := fun h => by rw [hget h, hz]
              rw [← hz] at hd hnx
              have g1 : ¬ z < 48 := by omega
              have g2 : ¬ 57 < z := by omega
              obtain ⟨hd1, hd2⟩ := hd
              replace hb := hid hb
              replace hz := hid hz
              replace hget := hid hget
              have hm10 : ¬ m > 1000000 := by omega
              go_wp2_with fail
              go_roundw
              case rel => exact ⟨i + 1, m * 10 + (z - 48), by omega, by go_num, congrArg (Value.int .i64) (by omega), hnx, hq⟩
              case measure => simp [intOf]; omega
            · have hno := hid (digit_no hdec.out hb hd)
              have hr := hid (show rsO L = none by unfold rsO; rw [ht.out, if_pos hl6.out, hno.out])
              obtain ⟨z, hz⟩ : ∃ z, z = b.toNat := ⟨_, rfl⟩
              have hgz : ∀ h : i < S.size, (S[i]'h).toNat = z := fun h => by rw [hget h, hz]
              rw [← hz] at hd hb8
              replace hb := hid hb
              replace hz := hid hz
              replace hget := hid hget
              by_cases g1 : z < 48
              · go_wp2_with fail
                refine bodyPost_ret (v := .tuple #[.int .i64 0, .bool false]) (by simp [results, Tryz.results49, go_sem]) rfl ?_
                exact ⟨by rw [hr.out]; rfl, hq⟩
              · have g2 : 57 < z := by omega
                replace hd := hid hd
                go_wp2_with fail
                refine bodyPost_ret (v := .tuple #[.int .i64 0, .bool false]) (by simp [results, Tryz.results49, go_sem]) rfl ?_
                exact ⟨by rw [hr.out]; rfl, hq⟩
          · have hil2 : i = L.length := by omega
            have hall := hid (show Lib.decFrom 0 L = some m by have h := hdec.out; rw [hil2, List.take_length] at h; exact h)
            replace hil2 := hid hil2
            obtain ⟨nn, hnn'⟩ : ∃ nn : Int, nn = (m : Int) := ⟨_, rfl⟩
            have hnn := hid (show nn = rsN L m by rw [hnn', rsN, if_neg (of_decide_eq_false hsg.out)])
            have hnn2 := hid hnn'
            go_upto_region 15 with fail
            rw [← hnn2.out]
            clear hnn' hnn2
            have hnb : -1000000000000000 ≤ rsN L m ∧ rsN L m ≤ 1000000000000000 := by unfold rsN; split <;> omega
            go_wp2_with fail
            with_reducible refine (l1Num_any nn (by rw [hnn.out]; exact hnb) wq).mono ?_
            rintro e w5 ⟨rfl, e5⟩
            obtain ⟨Z, hZ⟩ : ∃ Z, Z = bsOf (Lib.itoa nn) := ⟨_, rfl⟩
            rw [← hZ]
            by_cases hi : Lib.itoa (rsN L m) = L
            · have hr := hid (show rsO L = some nn by unfold rsO; rw [ht.out, if_pos hl6.out, hall.out]; simp only; rw [if_pos hi, hnn.out])
              have hZS : Z = S := by rw [hZ, hnn.out, hi, hS.out]
              subst hZS
              replace hZ := hid hZ
              replace hi := hid hi
              clear hnb
              go_wp2_with fail
              refine bodyPost_ret (v := .tuple #[.int .i64 nn, .bool true]) (by simp [results, Tryz.results49, go_sem]) rfl ?_
              exact ⟨by rw [hr.out]; rfl, Ext.trans hq e5⟩
            · have hr := hid (show rsO L = none by unfold rsO; rw [ht.out, if_pos hl6.out, hall.out]; simp only; rw [if_neg hi])
              have hZS : (Z.toList == S.toList) = false := by rw [hZ, hnn.out, hS.out]; exact bs_beq hi
              replace hZ := hid hZ
              replace hi := hid hi
              clear hnb
              go_wp2_with fail
              refine bodyPost_ret (v := .tuple #[.int .i64 0, .bool false]) (by simp [results, Tryz.results49, go_sem]) rfl ?_
              exact ⟨by rw [hr.out]; rfl, Ext.trans hq e5⟩
end Go.Proofs.YtaphnkgjcmneoaaGreatDoor
