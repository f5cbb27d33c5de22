/- ScheduleCost of the reference and of the program. -/
import Derived.Test.YtohjbabjkjcddaaSched
import Derived.Deep.RegionWith
import Derived.Deep.Cut
import Derived.Deep.DeepCutAuto
namespace Go.Proofs.Ytohjbabjkjcddaa
open Go.RowKit

theorem schedB_start {M S : List (List Int)} {start : Int} {reqs states : List Int} (h : startB M S start reqs = false) : schedB M S start reqs states = false := by rw [schedB, h]; rfl
theorem schedB_len {M S : List (List Int)} {start : Int} {reqs states : List Int} (h : ¬ states.length = reqs.length) : schedB M S start reqs states = false := by simp [schedB, h]
theorem schedB_at {M S : List (List Int)} {start : Int} {reqs states : List Int} {k : Nat} (hk : k < states.length) (h : stOk M S (nth reqs k).toNat (nth states k) = false) : schedB M S start reqs states = false := by
  have : ¬ okTo M S reqs states states.length := fun h' => by rw [h' k hk] at h; cases h
  simp [schedB, this]
theorem schedB_true {M S : List (List Int)} {start : Int} {reqs states : List Int} (h : startB M S start reqs = true) (hl : states.length = reqs.length) (hok : okTo M S reqs states states.length) : schedB M S start reqs states = true := by
  simp [schedB, h, hl]; rw [← hl]; exact hok
theorem schedR_false {M S : List (List Int)} {start : Int} {reqs states : List Int} (h : schedB M S start reqs states = false) : schedR M S start reqs states = 0 := by simp [schedR, h]
theorem schedR_true {M S : List (List Int)} {start : Int} {reqs states : List Int} (h : schedB M S start reqs states = true) : schedR M S start reqs states = sumTo M S start reqs states states.length := by simp [schedR, h]
theorem ret_ib {a c : Int} {b d : Bool} (h1 : a = c) (h2 : b = d) : Ending.returned (.tuple #[.int .i64 a, .bool b]) = .returned (.tuple #[.int .i64 c, .bool d]) := by rw [h1, h2]

end Go.Proofs.Ytohjbabjkjcddaa
