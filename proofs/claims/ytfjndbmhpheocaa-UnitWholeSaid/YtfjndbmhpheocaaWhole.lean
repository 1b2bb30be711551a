/- The walk of the law unitWhole. -/
import Derived.Test.YtfjndbmhpheocaaB
namespace Go.Proofs.Ytfjndbmhpheocaa
open Go Go.RowKit Go.ChangeShapes Go.WideShapes
set_option linter.unusedVariables false

theorem unitWholeWalk (a0 : Int) (a1 : Int) (a2 : Int) (w : World) (w0 : (Lit.int .u32 a0).wf = true) (w1 : (Lit.int .u32 a1).wf = true) (w2 : (Lit.int .i64 a2).wf = true) :
    Calls Try.prog 8 #[.int .u32 a0, .int .u32 a1, .int .i64 a2] w fun e w' => e = .returned (.bool true) ∧ Below w.heap.size w w' := by
  have b0 := bd_u32 w0
  have b1 := bd_u32 w1
  have b2 := bd_i64 w2
  have e1 : (a0 * 4294967296 + a1) / 4294967296 = a0 := by omega
  have e2 : (a0 * 4294967296 + a1) % 4294967296 = a1 := by omega
  by_cases h : -9007199254740992 ≤ a2 ∧ a2 ≤ 9007199254740991
  · have g1 := graV_yes h
    have g2 := inG_yes h
    obtain ⟨h3, h4⟩ := h
    have e3 : a2 * 1024 / 1024 = a2 := by omega
    have e4 : up (a2 * 1024) = a2 := by unfold up; omega
    have e5 : a2 * 1024 % 1024 = 0 := by omega
    go_enter Try.func8, Try.ntmps8
    go_wp2_with (first | (go_at_call 28; refine (whole_any _ _ _ b0.1 b0.2 b1.1 b1.2).mono ?_; rintro e w' ⟨rfl, rfl⟩) | (go_at_call 27; refine (halves_any _ _ (by omega) (by omega)).mono ?_; rintro e w' ⟨rfl, rfl⟩) | (go_at_call 18; refine (grains_any _ _ b2.1 b2.2).mono ?_; rintro e w' ⟨rfl, rfl⟩) | (go_at_call 21; refine (ticks_any _ _ (by omega) (by omega)).mono ?_; rintro e w' ⟨rfl, rfl⟩) | (go_at_call 22; refine (up_any _ _ (by omega) (by omega)).mono ?_; rintro e w' ⟨rfl, rfl⟩) | (go_at_call 24; refine (rest_any _ _).mono ?_; rintro e w' ⟨rfl, rfl⟩) | (go_at_call 12; refine (works_any _).mono ?_; rintro e w' ⟨rfl, rfl⟩))
    all_goals (go_returns; exact ⟨rfl, Below.refl _ _⟩)
  · have g1 := graV_no h
    have g2 := inG_no h
    clear h
    go_enter Try.func8, Try.ntmps8
    go_wp2_with (first | (go_at_call 28; refine (whole_any _ _ _ b0.1 b0.2 b1.1 b1.2).mono ?_; rintro e w' ⟨rfl, rfl⟩) | (go_at_call 27; refine (halves_any _ _ (by omega) (by omega)).mono ?_; rintro e w' ⟨rfl, rfl⟩) | (go_at_call 18; refine (grains_any _ _ b2.1 b2.2).mono ?_; rintro e w' ⟨rfl, rfl⟩) | (go_at_call 12; refine (works_any _).mono ?_; rintro e w' ⟨rfl, rfl⟩))
    all_goals (go_returns; exact ⟨rfl, Below.refl _ _⟩)
end Go.Proofs.Ytfjndbmhpheocaa
