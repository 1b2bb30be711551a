/- The walk of the law unitBack. -/
import Derived.Test.YtfjndbmhpheocaaB
namespace Go.Proofs.Ytfjndbmhpheocaa
open Go Go.RowKit Go.ChangeShapes Go.WideShapes
set_option linter.unusedVariables false

theorem unitBackWalk (a0 : Int) (a1 : Int) (w : World) (w0 : (Lit.int .i64 a0).wf = true) (w1 : (Lit.int .u64 a1).wf = true) :
    Calls Try.prog 9 #[.int .i64 a0, .int .u64 a1] w fun e w' => e = .returned (.bool true) ∧ Below w.heap.size w w' := by
  have b0 := bd_i64 w0
  have b1 := bd_u64 w1
  have z1 := zig_bd a0 b0.1 b0.2
  have z2 := zag_bd a1 b1.1 b1.2
  have e1 := zag_zig a0
  have e2 := zig_zag a1 b1.1
  have e3 : a1 / 4294967296 * 4294967296 + a1 % 4294967296 = a1 := by omega
  go_enter Try.func9, Try.ntmps9
  go_wp2_with fail
  refine (halves_any _ _ b1.1 b1.2).mono ?_; rintro e w' ⟨rfl, rfl⟩
  go_wp2_with fail
  refine (zig_any _ _ b0.1 b0.2).mono ?_; rintro e w' ⟨rfl, rfl⟩
  go_wp2_with fail
  refine (zag_any _ _ z1.1 z1.2).mono ?_; rintro e w' ⟨rfl, rfl⟩
  go_wp2_with fail
  refine (zag_any _ _ b1.1 b1.2).mono ?_; rintro e w' ⟨rfl, rfl⟩
  go_wp2_with fail
  refine (zig_any _ _ z2.1 z2.2).mono ?_; rintro e w' ⟨rfl, rfl⟩
  go_wp2_with fail
  refine (whole_any _ _ _ (by omega) (by omega) (by omega) (by omega)).mono ?_; rintro e w' ⟨rfl, rfl⟩
  go_wp2_with fail
  refine (bytes_any _ _ b1.1 b1.2).mono ?_; rintro e w1 ⟨rfl, h1⟩
  go_wp2_with fail
  refine (number_any _ _ b1.1 b1.2).mono ?_; rintro e w2 ⟨rfl, h2⟩
  go_wp2_with (go_at_call 12; refine (works_any _).mono ?_; rintro e w' ⟨rfl, rfl⟩)
  go_returns
  exact ⟨rfl, h1.trans (h2.mono h1.size)⟩
end Go.Proofs.Ytfjndbmhpheocaa
