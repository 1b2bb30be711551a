/- The walks of the laws RateBounds, RateTicks, RateIncs, RateEnough. -/
import Derived.Test.YtafpmkahecjaiaaA
namespace Go.Proofs.Ytafpmkahecjaiaa
open Go Go.RowKit Go.ChangeShapes Go.WideShapes
set_option linter.unusedVariables false

theorem rateBoundsWalk (a0 : Int) (a1 : Int) (w : World) (w0 : (Lit.int .i64 a0).wf = true) (w1 : (Lit.int .i64 a1).wf = true) :
    Calls Try.prog 3 #[.int .i64 a0, .int .i64 a1] w fun e w' => e = .returned (.bool true) ∧ Below w.heap.size w w' := by
  go_enter Try.func3, Try.ntmps3
  go_wp2_with (first | (go_at_call 10; refine (good_any _ _ _).mono ?_; rintro e w' ⟨rfl, rfl⟩) | (go_at_call 11; refine (refgood_any _ _ _).mono ?_; rintro e w' ⟨rfl, rfl⟩) | (go_at_call 12; refine (fast_any _ _ _).mono ?_; rintro e w' ⟨rfl, rfl⟩) | (go_at_call 13; refine (reffast_any _ _ _).mono ?_; rintro e w' ⟨rfl, rfl⟩) | (go_at_call 14; refine (slow_any _ _ _).mono ?_; rintro e w' ⟨rfl, rfl⟩) | (go_at_call 15; refine (refslow_any _ _ _).mono ?_; rintro e w' ⟨rfl, rfl⟩) | (go_at_call 16; refine (works_any _).mono ?_; rintro e w' ⟨rfl, k, rfl⟩))
  go_returns
  exact ⟨rfl, bel_drewN (Below.refl _ _) _⟩

theorem rateTicksWalk (a0 : Int) (a1 : Int) (w : World) (w0 : (Lit.int .i64 a0).wf = true) (w1 : (Lit.int .i64 a1).wf = true) :
    Calls Try.prog 4 #[.int .i64 a0, .int .i64 a1] w fun e w' => e = .returned (.bool true) ∧ Below w.heap.size w w' := by
  have b0 := bd_i64 w0
  have b1 := bd_i64 w1
  go_enter Try.func4, Try.ntmps4
  go_wp2_with (first | (go_at_call 17; refine (ticks_any _ _ _ b0 b1).mono ?_; rintro e w' ⟨rfl, q, rfl⟩) | (go_at_call 18; refine (refticks_any _ _ _ b0 b1).mono ?_; rintro e w' ⟨rfl, rfl⟩) | (go_at_call 16; refine (works_any _).mono ?_; rintro e w' ⟨rfl, k, rfl⟩))
  go_returns
  exact ⟨rfl, by repeat (first | exact Below.refl _ _ | refine bel_drewN ?_ _)⟩

theorem rateIncsWalk (a0 : Int) (a1 : Int) (w : World) (w0 : (Lit.int .i64 a0).wf = true) (w1 : (Lit.int .u16 a1).wf = true) :
    Calls Try.prog 6 #[.int .i64 a0, .int .u16 a1] w fun e w' => e = .returned (.bool true) ∧ Below w.heap.size w w' := by
  have b1 := bd_u16 w1
  go_enter Try.func6, Try.ntmps6
  go_wp2_with (first | (go_at_call 19; refine (inc_any _ _).mono ?_; rintro e w' ⟨rfl, rfl⟩) | (go_at_call 20; refine (refinc_any _ _).mono ?_; rintro e w' ⟨rfl, rfl⟩) | (go_at_call 21; refine (fair_any _ _ _ (by omega) (by omega)).mono ?_; rintro e w' ⟨rfl, rfl⟩) | (go_at_call 22; refine (reffair_any _ _ _ (by omega) (by omega)).mono ?_; rintro e w' ⟨rfl, rfl⟩) | (go_at_call 16; refine (works_any _).mono ?_; rintro e w' ⟨rfl, k, rfl⟩))
  go_returns
  exact ⟨rfl, by repeat (first | exact Below.refl _ _ | refine bel_drewN ?_ _)⟩

theorem enough_plain (g s : Int) (h0 : 0 ≤ g) (h1 : 1 ≤ s) (h2 : g ≤ 4294967295) : tk g s = g / s + 2 ∧ g ≤ (g / s + 1) * s ∧ g / s * s ≤ g ∧ 0 ≤ g / s ∧ g / s ≤ g := by
  have e := tk_yes (g := g) (s := s) h0 h1
  rw [cl_in h0 (by omega)] at e
  have m1 := Int.mul_ediv_add_emod g s
  have m2 := Int.emod_lt_of_pos g (show 0 < s by omega)
  have m3 := Int.emod_nonneg g (show s ≠ 0 by omega)
  rw [Int.mul_comm] at m1
  exact ⟨e, by rw [Int.add_mul]; omega, by omega, Int.ediv_nonneg h0 (by omega), Int.ediv_le_self _ h0⟩

theorem rateEnoughWalk (a0 : Int) (a1 : Int) (w : World) (w0 : (Lit.int .u32 a0).wf = true) (w1 : (Lit.int .u16 a1).wf = true) :
    Calls Try.prog 5 #[.int .u32 a0, .int .u16 a1] w fun e w' => e = .returned (.bool true) ∧ Below w.heap.size w w' := by
  have b0 := bd_u32 w0
  have b1 := bd_u16 w1
  obtain ⟨e, p1, p2, p3, p4⟩ := enough_plain a0 (a1 + 1) b0.1 (by omega) b0.2
  have n1 : 0 ≤ a0 / (a1 + 1) * (a1 + 1) := Int.mul_nonneg p3 (by omega)
  have n2 : (a0 / (a1 + 1) + 1) * (a1 + 1) = a0 / (a1 + 1) * (a1 + 1) + (a1 + 1) := by rw [Int.add_mul, Int.one_mul]
  have n3 : a0 / (a1 + 1) + 2 - 1 = a0 / (a1 + 1) + 1 := by omega
  have n4 : a0 / (a1 + 1) + 2 - 2 = a0 / (a1 + 1) := by omega
  have f1 : a0 ≤ wrap64 ((a0 / (a1 + 1) + 2 - 1) * (a1 + 1)) := by rw [n3, IntWalk.wrap64_in _ ⟨by omega, by omega⟩]; exact p1
  have f2 : wrap64 ((a0 / (a1 + 1) + 2 - 2) * (a1 + 1)) ≤ a0 := by rw [n4, IntWalk.wrap64_in _ ⟨by omega, by omega⟩]; exact p2
  have f3 : wrap64 (a0 / (a1 + 1) * (a1 + 1)) ≤ a0 := by rw [IntWalk.wrap64_in _ ⟨by omega, by omega⟩]; exact p2
  clear n2 n3 n4 p1 p2 n1
  go_enter Try.func5, Try.ntmps5
  go_wp2_with (first | (go_at_call 17; refine (ticks_any _ _ _ (by omega) (by omega)).mono ?_; rintro e w' ⟨rfl, q, rfl⟩) | (go_at_call 16; refine (works_any _).mono ?_; rintro e w' ⟨rfl, k, rfl⟩))
  all_goals (go_returns; exact ⟨rfl, by repeat (first | exact Below.refl _ _ | refine bel_drewN ?_ _)⟩)
end Go.Proofs.Ytafpmkahecjaiaa
