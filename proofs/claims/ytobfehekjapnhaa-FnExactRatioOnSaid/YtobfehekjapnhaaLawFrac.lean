/- Fractions in the laws: a copy of one, and that it equals itself. -/
import Derived.Test.YtobfehekjapnhaaLawC
namespace Go.Proofs.Ytobfehekjapnhaa
open Go.RowKit

set_option maxHeartbeats 400000 in
theorem eqFrac_same (n d : Int) (w : World) :
    Calls Try.prog 24 #[.agg #[.int .i64 n, .int .i64 d], .agg #[.int .i64 n, .int .i64 d]] w fun e w' => e = .returned (.bool true) ∧ Ext w w' := by
  have h1 : (n != n) = false := by simp
  have h2 : (d != d) = false := by simp
  go_enter Try.func24, Try.ntmps24
  go_wp2
  go_ret
  exact ⟨rfl, inferInstance⟩

end Go.Proofs.Ytobfehekjapnhaa
