/- The walk of the law unitNear. -/
import Derived.Test.YtfjndbmhpheocaaB
namespace Go.Proofs.Ytfjndbmhpheocaa
open Go Go.RowKit Go.ChangeShapes Go.WideShapes
set_option linter.unusedVariables false

theorem near_back (old d : Int) (h0 : -9223372036854775808 ≤ old) (h1 : old ≤ 9223372036854775807) (h2 : -2147483648 ≤ d) (h3 : d ≤ 2147483647) :
    near old (wrap64 (old + d) % 4294967296) = wrap64 (old + d) := by
  unfold near low32 wrap64; omega
theorem near_low (old low : Int) (h2 : 0 ≤ low) (h3 : low ≤ 4294967295) : near old low % 4294967296 = low := by
  unfold near low32 wrap64; omega
theorem near_gap (old low : Int) (h0 : -9223372036854775808 ≤ old) (h1 : old ≤ 9223372036854775807) : -2147483648 ≤ wrap64 (near old low - old) ∧ wrap64 (near old low - old) ≤ 2147483647 := by
  unfold near low32 wrap64; omega
theorem near_bd (old low : Int) : -9223372036854775808 ≤ near old low ∧ near old low ≤ 9223372036854775807 := by
  unfold near wrap64; omega
theorem unitNearWalk (a0 : Int) (a1 : Int) (a2 : Int) (w : World) (w0 : (Lit.int .i64 a0).wf = true) (w1 : (Lit.int .u32 a1).wf = true) (w2 : (Lit.int .i32 a2).wf = true) :
    Calls Try.prog 4 #[.int .i64 a0, .int .u32 a1, .int .i32 a2] w fun e w' => e = .returned (.bool true) ∧ Below w.heap.size w w' := by
  have b0 := bd_i64 w0
  have b1 := bd_u32 w1
  have b2 := bd_i32 w2
  have b3 := near_bd a0 a1
  have g := near_gap a0 a1 b0.1 b0.2
  have l : IntKind.u64.wrap (near a0 a1) % 4294967296 = a1 := by have := near_low a0 a1 b1.1 b1.2; rw [IntKind.wrap_u64]; omega
  have bk : near a0 (IntKind.u64.wrap (wrap64 (a0 + a2)) % 4294967296) = wrap64 (a0 + a2) := by
    have := near_back a0 a2 b0.1 b0.2 b2.1 b2.2
    rw [IntKind.wrap_u64, Int.emod_emod_of_dvd _ (by decide)]; exact this
  go_enter Try.func4, Try.ntmps4
  go_wp2_with fail
  refine (near_any _ _ _ b0.1 b0.2 b1.1 b1.2).mono ?_; rintro e w' ⟨rfl, rfl⟩
  go_wp2_with fail
  refine (near_any _ _ _ b0.1 b0.2 (by omega) (by omega)).mono ?_; rintro e w' ⟨rfl, rfl⟩
  go_wp2_with (go_at_call 12; refine (works_any _).mono ?_; rintro e w' ⟨rfl, rfl⟩)
  go_returns
  exact ⟨rfl, Below.refl _ _⟩
end Go.Proofs.Ytfjndbmhpheocaa
