/- The walk of the law unitZigs. -/
import Derived.Test.YtfjndbmhpheocaaB
namespace Go.Proofs.Ytfjndbmhpheocaa
open Go Go.RowKit Go.ChangeShapes Go.WideShapes
set_option linter.unusedVariables false

theorem unitZigsWalk (a0 : Int) (w : World) (w0 : (Lit.int .i64 a0).wf = true) :
    Calls Try.prog 3 #[.int .i64 a0] w fun e w' => e = .returned (.bool true) ∧ Below w.heap.size w w' := by
  have b := bd_i64 w0
  go_enter Try.func3, Try.ntmps3
  go_wp2_with (first | (go_at_call 10; refine (zig_any _ _ b.1 b.2).mono ?_; rintro e w' ⟨rfl, rfl⟩) | (go_at_call 11; refine (refzig_any _ _ b.1 b.2).mono ?_; rintro e w' ⟨rfl, rfl⟩) | (go_at_call 12; refine (works_any _).mono ?_; rintro e w' ⟨rfl, rfl⟩))
  go_returns
  exact ⟨rfl, Below.refl _ _⟩
end Go.Proofs.Ytfjndbmhpheocaa
