/- The walk of the law unitTicks. -/
import Derived.Test.YtfjndbmhpheocaaB
namespace Go.Proofs.Ytfjndbmhpheocaa
open Go Go.RowKit Go.ChangeShapes Go.WideShapes
set_option linter.unusedVariables false

theorem unitTicksWalk (a0 : Int) (w : World) (w0 : (Lit.int .i64 a0).wf = true) :
    Calls Try.prog 6 #[.int .i64 a0] w fun e w' => e = .returned (.bool true) ∧ Below w.heap.size w w' := by
  have b0 := bd_i64 w0
  have q : a0 - a0 / 1024 * 1024 = a0 % 1024 := by omega
  go_enter Try.func6, Try.ntmps6
  go_wp2_with (first | (go_at_call 18; refine (grains_any _ _ b0.1 b0.2).mono ?_; rintro e w' ⟨rfl, rfl⟩) | (go_at_call 19; refine (refgrains_any _ _ b0.1 b0.2).mono ?_; rintro e w' ⟨rfl, rfl⟩) | (go_at_call 20; refine (div1024_any _ _ b0.1 b0.2).mono ?_; rintro e w' ⟨rfl, rfl⟩) | (go_at_call 21; refine (ticks_any _ _ b0.1 b0.2).mono ?_; rintro e w' ⟨rfl, rfl⟩) | (go_at_call 22; refine (up_any _ _ b0.1 b0.2).mono ?_; rintro e w' ⟨rfl, rfl⟩) | (go_at_call 23; refine (refup_any _ _ b0.1 b0.2).mono ?_; rintro e w' ⟨rfl, rfl⟩) | (go_at_call 24; refine (rest_any _ _).mono ?_; rintro e w' ⟨rfl, rfl⟩) | (go_at_call 12; refine (works_any _).mono ?_; rintro e w' ⟨rfl, rfl⟩))
  all_goals (go_returns; exact ⟨rfl, Below.refl _ _⟩)
end Go.Proofs.Ytfjndbmhpheocaa
