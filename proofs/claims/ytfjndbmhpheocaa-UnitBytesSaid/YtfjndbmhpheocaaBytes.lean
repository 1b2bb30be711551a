/- The walk of the law unitBytes. -/
import Derived.Test.YtfjndbmhpheocaaB
namespace Go.Proofs.Ytfjndbmhpheocaa
open Go Go.RowKit Go.ChangeShapes Go.WideShapes
set_option linter.unusedVariables false

theorem info5 : (Try.prog.info? 5).isSome = true := by kernel_rfl
theorem cells5 : Try.prog.cellsOf 5 = 1 := by kernel_rfl
theorem eq_byt (u : Int) (w : World) : (Op.equalIn 10000 35 (byt u) (byt u)).run Try.prog w = .ok true w := by
  obtain ⟨i, hi⟩ := Option.isSome_iff_exists.1 info5
  show (Op.equalIn (9999 + 1) 35 (byt u) (byt u)).run Try.prog w = .ok true w
  rw [run_equalIn_array w 9999 _ _ Try.underlying35 hi, cells5, show List.range 8 = [0, 1, 2, 3, 4, 5, 6, 7] from rfl]
  simp [Op.eqItems, part, go_sem]

theorem unitBytesWalk (a0 : Int) (w : World) (w0 : (Lit.int .u64 a0).wf = true) :
    Calls Try.prog 7 #[.int .u64 a0] w fun e w' => e = .returned (.bool true) ∧ Below w.heap.size w w' := by
  have b0 := bd_u64 w0
  have q := eq_byt a0
  go_enter Try.func7, Try.ntmps7
  go_wp2_with fail
  refine (bytes_any _ _ b0.1 b0.2).mono ?_; rintro e w1 ⟨rfl, h1⟩
  go_wp2_with fail
  refine (refbytes_any _ _ b0.1 b0.2).mono ?_; rintro e w2 ⟨rfl, h2⟩
  go_wp2_with (go_at_call 12; refine (works_any _).mono ?_; rintro e w' ⟨rfl, rfl⟩)
  go_returns
  exact ⟨rfl, h1.trans (h2.mono h1.size)⟩
end Go.Proofs.Ytfjndbmhpheocaa
