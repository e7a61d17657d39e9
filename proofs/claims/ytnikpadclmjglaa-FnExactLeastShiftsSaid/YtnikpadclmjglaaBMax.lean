/-
  The greater of two numbers.
-/
import Derived.Test.YtnikpadclmjglaaBase
namespace Go.Proofs.Ytnikpadclmjglaa
set_option maxRecDepth 100000
open Go.RowKit

theorem l00Max_any (a b : Int) (w : World) : Calls Try.prog 86 #[.int .i64 a, .int .i64 b] w fun e w' => e = .returned (.int .i64 (max a b)) ∧ w = w' := by
  by_cases h1 : b < a
  all_goals
    go_enter Try.func86, Try.ntmps86
    go_wp2
    go_ret
    exact ⟨ret_int (by omega), rfl⟩

end Go.Proofs.Ytnikpadclmjglaa
