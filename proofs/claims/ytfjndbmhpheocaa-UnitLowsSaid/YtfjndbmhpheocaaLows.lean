/- The walk of the law unitLows. -/
import Derived.Test.YtfjndbmhpheocaaB
namespace Go.Proofs.Ytfjndbmhpheocaa
open Go Go.RowKit Go.ChangeShapes Go.WideShapes
set_option linter.unusedVariables false

theorem unitLowsWalk (a0 : Int) (a1 : Int) (w : World) (w0 : (Lit.int .i64 a0).wf = true) (w1 : (Lit.int .u32 a1).wf = true) :
    Calls Try.prog 5 #[.int .i64 a0, .int .u32 a1] w fun e w' => e = .returned (.bool true) ∧ Below w.heap.size w w' := by
  have b0 := bd_i64 w0
  have b1 := bd_u32 w1
  have b2 := low32_bd a0
  go_enter Try.func5, Try.ntmps5
  go_wp2_with (first | (go_at_call 14; refine (reflow_any _ _ b0.1 b0.2).mono ?_; rintro e w' ⟨rfl, rfl⟩) | (go_at_call 15; refine (low_any _ _ b0.1 b0.2).mono ?_; rintro e w' ⟨rfl, rfl⟩) | (go_at_call 16; refine (fits_any _ _ b0.1 b0.2).mono ?_; rintro e w' ⟨rfl, rfl⟩) | (go_at_call 13; refine (near_any _ _ _ b0.1 b0.2 b1.1 b1.2).mono ?_; rintro e w' ⟨rfl, rfl⟩) | (go_at_call 17; refine (refnear_any _ _ _ b0.1 b0.2 b1.1 b1.2).mono ?_; rintro e w' ⟨rfl, rfl⟩) | (go_at_call 12; refine (works_any _).mono ?_; rintro e w' ⟨rfl, rfl⟩))
  all_goals (go_returns; exact ⟨rfl, Below.refl _ _⟩)
end Go.Proofs.Ytfjndbmhpheocaa
