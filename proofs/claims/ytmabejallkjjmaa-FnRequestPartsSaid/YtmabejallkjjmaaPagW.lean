/- The small functions on sets of pages, walked: both sides. -/
import Derived.Test.YtmabejallkjjmaaProg
import Derived.Test.YtmabejallkjjmaaPagB
import Derived.WalkKit
import Derived.WalkSpells
import Derived.WalkLawsBesides
import Derived.Deep.QuietTactic
import Derived.BigQuiet
namespace Go.Proofs.Ytmabejallkjjmaa
open Go.RowKit

set_option maxHeartbeats 400000 in
theorem l5In_any {S p : Nat} (hS : S < 256) (hp : p < 8) (w : World) :
    Calls Try.prog 158 #[.int .i64 S, .int .i64 p] w fun e w' => e = .returned (.bool (S.testBit p)) ∧ Ext w w' := by
  have hb := hid (bit_and S hS p hp)
  go_enter Try.func158, Try.ntmps158
  go_wp2
  go_ret
  exact ⟨by rw [← hb.out]; rfl, inferInstance⟩

set_option maxHeartbeats 400000 in
theorem l5After_any {S p : Nat} {x : Int} (hS : S < 256) (hp : p < 8) (hx : x = -1 ∨ ∃ q : Nat, x = q ∧ q < 8 ∧ S.testBit q = true) (w : World) :
    Calls Try.prog 157 #[.int .i64 S, .int .i64 p, .int .i64 x] w fun e w' => e = .returned (.int .i64 (aftS S x p)) ∧ Ext w w' := by
  rcases hx with rfl | ⟨q, rfl, hq, hb⟩
  · have h1 := bit_shl p (by omega)
    have h2 := hid (bit_or S hS p hp)
    have h3 := hid (show aftS S (-1) p = S ||| 2 ^ p by unfold aftS; rw [if_neg (by omega)])
    replace h1 := hid h1
    go_enter Try.func157, Try.ntmps157
    go_wp2
    go_ret
    exact ⟨by rw [h1.out, h2.out, h3.out]; rfl, inferInstance⟩
  · have h1 := hid (bit_shl p (by omega))
    have h0 := hid (bit_shl q (by omega))
    have hge := hid (sub_bit S hS q hq hb)
    have hsub := hid (show wrap64 ((S : Int) - ((2 ^ q : Nat) : Int)) = ((S - 2 ^ q : Nat) : Int) by have := hge.out; generalize 2 ^ q = m at *; unfold wrap64; omega)
    have h4 := hid (bit_or (S - 2 ^ q) (Nat.lt_of_le_of_lt (Nat.sub_le _ _) hS) p hp)
    have h3 := hid (show aftS S q p = (S - 2 ^ q) ||| 2 ^ p by unfold aftS; rw [if_pos (by omega), Int.toNat_natCast])
    replace hb := hid hb
    go_enter Try.func157, Try.ntmps157
    go_wp2
    go_ret
    exact ⟨by rw [h0.out, hsub.out, h1.out, h4.out, h3.out]; rfl, inferInstance⟩

set_option maxHeartbeats 400000 in
theorem l5Size_any {S : Nat} (hS : S < 256) (w : World) :
    Calls Try.prog 156 #[.int .i64 S] w fun e w' => e = .returned (.int .i64 (szS S)) ∧ Ext w w' := by
  go_enter Try.func156, Try.ntmps156
  go_wp2
  go_loopw [0, 3] (fun p q wr => ∃ T z : Nat, p = .int .i64 T ∧ q = .int .i64 z ∧ T < 256 ∧ Hid (szS S = z + szS T) ∧ Ext w wr) (fun p _ _ => (intOf p).toNat)
  case atStart => exact ⟨S, 0, rfl, rfl, hS, hid (by omega), Ext.refl _⟩
  case round =>
    obtain ⟨T, z, rfl, rfl, hT, hz, he⟩ := hrel
    have h8 := sz_le S hS
    by_cases hlt : 0 < T
    · have hgt : (0 : Int) < (T : Int) := by omega
      have hm : (T : Int).tmod 2 = ((T % 2 : Nat) : Int) := by rw [show (2 : Int) = ((2 : Nat) : Int) from rfl, Int.ofNat_tmod]
      have hd : (T : Int).tdiv 2 = ((T / 2 : Nat) : Int) := by rw [show (2 : Int) = ((2 : Nat) : Int) from rfl, Int.ofNat_tdiv]
      have hzn := hid (show szS S = (z + T % 2) + szS (T / 2) by have := sz_half T hT; have := hz.out; omega)
      have hz8 : z + T % 2 ≤ 8 := by have := hzn.out; omega
      have hr := hid (show T / 2 < T by omega)
      have ha : T / 2 < 256 := by omega
      generalize T % 2 = a at *
      generalize T / 2 = b at *
      go_wp2
      go_roundw
      case rel => exact ⟨b, z + a, rfl, by go_num, ha, hzn, he⟩
      case measure => have := hr.out; simp [intOf]; omega
    · have hT0 : T = 0 := by omega
      have hres := hid (show szS S = z by have := hz.out; rw [hT0, show szS 0 = 0 by decide] at this; exact this)
      replace hT0 := hid hT0
      go_wp2
      go_ret
      exact ⟨by rw [hres.out]; rfl, he⟩
end Go.Proofs.Ytmabejallkjjmaa
