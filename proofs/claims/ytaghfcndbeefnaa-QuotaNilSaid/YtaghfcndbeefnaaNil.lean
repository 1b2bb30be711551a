/- The walk of the law QuotaNil. -/
import Derived.Test.YtaghfcndbeefnaaA
namespace Go.Proofs.Ytaghfcndbeefnaa
open Go Go.RowKit Go.ChangeShapes Go.WideShapes
set_option linter.unusedVariables false

theorem quotaNilWalk (a0 : Int) (w : World) (w0 : (Lit.int .i64 a0).wf = true) :
    Calls Try.prog 5 #[.int .i64 a0] w fun e w' => e = .returned (.bool true) ∧ Below w.heap.size w w' := by
  go_enter Try.func5, Try.ntmps5
  go_wp2_with (first | (go_at_call 11; refine (works_any _).mono ?_; rintro e w1 ⟨rfl, hb⟩) | go_in)
  go_returns
  exact ⟨rfl, hb⟩
end Go.Proofs.Ytaghfcndbeefnaa
