/- The chapter's examples; the walks of SlewNil and SlewOn. -/
import Derived.Test.YtmhooolchofgeaaB
namespace Go.Proofs.Ytmhooolchofgeaa
open Go Go.RowKit Go.ChangeShapes Go.WideShapes
set_option linter.unusedVariables false

theorem works_any (w : World) : Calls Try.prog 16 #[] w fun r w' => r = .returned (.bool true) ∧ Below w.heap.size w w' := by
  go_enter Try.func16, Try.ntmps16
  go_wp2_with fail
  go_at_call 7
  refine (new_any 10 w).mono ?_
  rintro e w' ⟨rfl, rfl⟩
  have hQ := Bk.new w 47 [.int .i64 0, .int .i64 (cl 10 1 256)]
  rw [show cl 10 1 256 = 10 by decide] at *
  have hB : Below w.heap.size w (w.alloc (.cells #[.int .i64 0, .int .i64 10] 47)) := by go_grown
  generalize w.alloc (.cells #[.int .i64 0, .int .i64 10] 47) = w1 at *
  obtain ⟨g, hg⟩ : ∃ g, g = w.heap.size := ⟨_, rfl⟩
  rw [← hg] at hQ
  rw [← hg]
  have hgB : w.heap.size ≤ g := by omega
  clear hg
  go_wp2_with fail
  go_at_call 11
  refine (aim_any g 0 10 (-25) w1 hQ).mono ?_
  rintro e w2 ⟨rfl, rfl⟩
  have hQ2 := hQ.s0 (a := .int .i64 (aim (-25)))
  rw [show aim (-25) = -25 by decide] at *
  have hB2 := hB.setCell (p := ⟨g, 0, none⟩) hgB (.int .i64 (-25))
  generalize w1.setCell ⟨g, 0, none⟩ (.int .i64 (-25)) = w2 at *
  clear hQ hB
  go_wp2_with fail
  go_at_call 14
  refine (ticks_any g (-25) 10 w2 hQ2 (by omega) (by omega) (by omega)).mono ?_
  rintro e w3 ⟨rfl, q, rfl⟩
  have hQ3 := hQ2.drewN q
  have hB3 := bel_drewN hB2 q
  rw [show upq (ab (-25)) 10 = 3 by decide] at *
  generalize w2.drewN q = w3 at *
  clear hQ2 hB2
  go_wp2_with fail
  go_at_call 10
  refine (step_bk g (-25) 10 100 90 (-15) w3 hQ3 (by omega) (by omega) (by omega) (by decide) (by decide)).mono ?_
  rintro e w4 ⟨rfl, hQ4, hB4⟩
  have hC4 := hB4 _ _ hgB hB3
  clear hQ3 hB3 hB4
  go_wp2_with fail
  go_at_call 10
  refine (step_bk g (-15) 10 100 90 (-5) w4 hQ4 (by omega) (by omega) (by omega) (by decide) (by decide)).mono ?_
  rintro e w5 ⟨rfl, hQ5, hB5⟩
  have hC5 := hB5 _ _ hgB hC4
  clear hQ4 hC4 hB5
  go_wp2_with fail
  go_at_call 10
  refine (step_bk g (-5) 10 100 95 0 w5 hQ5 (by omega) (by omega) (by omega) (by decide) (by decide)).mono ?_
  rintro e w6 ⟨rfl, hQ6, hB6⟩
  have hC6 := hB6 _ _ hgB hC5
  clear hQ5 hC5 hB6
  go_wp2_with fail
  go_at_call 10
  refine (step_bk g 0 10 100 100 0 w6 hQ6 (by omega) (by omega) (by omega) (by decide) (by decide)).mono ?_
  rintro e w7 ⟨rfl, hQ7, hB7⟩
  have hC7 := hB7 _ _ hgB hC6
  clear hQ6 hC6 hB7
  go_wp2_with fail
  go_at_call 13
  refine (left_any g 0 10 w7 hQ7).mono ?_
  rintro e w8 ⟨rfl, rfl⟩
  go_wp2_with fail
  go_returns
  exact ⟨rfl, hC7⟩

theorem slewNilWalk (a0 : Int) (w : World) (w0 : (Lit.int .i64 a0).wf = true) :
    Calls Try.prog 6 #[.int .i64 a0] w fun e w' => e = .returned (.bool true) ∧ Below w.heap.size w w' := by
  go_enter Try.func6, Try.ntmps6
  go_wp2_with (first | (go_at_call 16; refine (works_any _).mono ?_; rintro e w' ⟨rfl, hw⟩) | go_in)
  all_goals (go_returns; exact ⟨rfl, hw⟩)

theorem on_plain (l m x : Int) (h0 : 1 ≤ m) (h1 : m ≤ 256) : -256 ≤ made l m (inc x) ∧ made l m (inc x) ≤ 256 ∧ -(inc x) ≤ made l m (inc x) := by
  have b := inc_bd x
  have := made_bd l (m := m) (i := inc x) (by omega) (by omega)
  omega
end Go.Proofs.Ytmhooolchofgeaa
