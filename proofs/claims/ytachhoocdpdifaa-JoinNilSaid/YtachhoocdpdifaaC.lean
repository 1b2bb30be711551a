/- Contracts of the document's functions for join. -/
import Derived.Test.YtachhoocdpdifaaB
namespace Go.Proofs.Ytachhoocdpdifaa
open Go Go.RowKit Go.ChangeShapes Go.WideShapes
set_option linter.unusedVariables false

theorem refattends_any (s f c no : Int) (w : World) (hs : s = 0 ∨ s = 1 ∨ s = 2 ∨ s = 3) :
    Calls Try.prog 18 #[.agg #[.int .i64 s, .int .i64 f, .int .i64 c], .int .i64 no] w fun r w' => r = .returned (.bool (att s f no)) ∧ w.alloc (.cells #[.int .i64 s, .int .i64 f, .int .i64 c] 30) = w' := by
  by_cases hf : 0 ≤ f
  · by_cases hno : f ≤ no
    · have e := hid (show att s f no = (decide (s = 1) || decide (s = 2)) by simp [att, hf, hno])
      rcases hs with rfl | rfl | rfl | rfl
      all_goals (go_enter Try.func18, Try.ntmps18; go_wp2; go_returns; exact ⟨ret_bool (by rw [e.out]; decide), rfl⟩)
    · have e := hid (show att s f no = false by simp [att, hno])
      rcases hs with rfl | rfl | rfl | rfl
      all_goals (go_enter Try.func18, Try.ntmps18; go_wp2; go_returns; exact ⟨ret_bool e.out.symm, rfl⟩)
  · have e := hid (show att s f no = false by simp [att, hf])
    have h2 : decide (0 ≤ f) = false := decide_eq_false hf
    rcases hs with rfl | rfl | rfl | rfl
    all_goals (go_enter Try.func18, Try.ntmps18; go_wp2; go_returns; exact ⟨ret_bool e.out.symm, rfl⟩)

theorem refboot_any (j : J) (w : World) (hj : j.ok) :
    Calls Try.prog 23 #[.agg j.arr] w fun r w' => r = .returned (.tuple #[.agg (boot j).1.arr, .int .i64 (boot j).2]) ∧ Below w.heap.size w w' := by
  obtain ⟨s, f, c⟩ := j
  obtain ⟨hs, hf⟩ := hj
  simp only [J.arr] at hs hf ⊢
  rcases hs with rfl | rfl | rfl | rfl
  all_goals go_enter Try.func23, Try.ntmps23
  all_goals go_wp2
  all_goals (refine bodyPost_ret ?_ rfl ⟨rfl, by go_grown⟩; simp [results, Try.results23, go_sem, boot])
theorem refwant_any (j : J) (w : World) (hj : j.ok) :
    Calls Try.prog 24 #[.agg j.arr] w fun r w' => r = .returned (.tuple #[.agg (want j).1.arr, .int .i64 (want j).2]) ∧ Below w.heap.size w w' := by
  obtain ⟨s, f, c⟩ := j
  obtain ⟨hs, hf⟩ := hj
  simp only [J.arr] at hs hf ⊢
  rcases hs with rfl | rfl | rfl | rfl
  all_goals go_enter Try.func24, Try.ntmps24
  all_goals go_wp2
  all_goals (refine bodyPost_ret ?_ rfl ⟨rfl, by go_grown⟩; simp [results, Try.results24, go_sem, want])
theorem refleave_any (j : J) (w : World) (hj : j.ok) :
    Calls Try.prog 25 #[.agg j.arr] w fun r w' => r = .returned (.tuple #[.agg (leave j).1.arr, .int .i64 (leave j).2]) ∧ Below w.heap.size w w' := by
  obtain ⟨s, f, c⟩ := j
  obtain ⟨hs, hf⟩ := hj
  simp only [J.arr] at hs hf ⊢
  rcases hs with rfl | rfl | rfl | rfl
  all_goals go_enter Try.func25, Try.ntmps25
  all_goals go_wp2
  all_goals (refine bodyPost_ret ?_ rfl ⟨rfl, by go_grown⟩; simp [results, Try.results25, go_sem, leave])
theorem refready_any (j : J) (no : Int) (w : World) :
    Calls Try.prog 26 #[.agg j.arr, .int .i64 no] w fun r w' => r = .returned (.agg (ready j no).arr) ∧ Below w.heap.size w w' := by
  obtain ⟨s, f, c⟩ := j
  simp only [J.arr]
  by_cases hn : no < 0
  · have e : ready ⟨s, f, c⟩ no = ⟨s, 0, c⟩ := by simp [ready, hn]
    rw [e]
    clear e
    go_enter Try.func26, Try.ntmps26
    go_wp2
    all_goals (refine bodyPost_ret ?_ rfl ⟨rfl, by go_grown⟩; simp [results, Try.results26, go_sem])
  · have e : ready ⟨s, f, c⟩ no = ⟨s, no, c⟩ := by simp [ready, hn]
    rw [e]
    clear e
    go_enter Try.func26, Try.ntmps26
    go_wp2
    all_goals (refine bodyPost_ret ?_ rfl ⟨rfl, by go_grown⟩; simp [results, Try.results26, go_sem])
set_option maxHeartbeats 2000000 in
theorem refinst_any (j : J) (no : Int) (has : Bool) (w : World) (hj : j.ok) :
    Calls Try.prog 27 #[.agg j.arr, .int .i64 no, .bool has] w fun r w' => r = .returned (.tuple #[.agg (inst j no has).1.arr, .int .i64 (inst j no has).2]) ∧ Below w.heap.size w w' := by
  obtain ⟨s, f, c⟩ := j
  obtain ⟨hs, hf⟩ := hj
  simp only [J.arr] at hs hf ⊢
  cases ha : att s f no
  · have hA := fun w => ha ▸ refattends_any s f c no w hs
    have hA' := hid hA
    have e := show inst ⟨s, f, c⟩ no has = if 2 ≤ s ∧ has = false then (⟨0, f, 0⟩, 2) else (⟨s, f, c⟩, 0) by simp [inst, ha]
    rw [e]
    clear ha hA e
    cases has <;> rcases hs with rfl | rfl | rfl | rfl
    all_goals go_enter Try.func27, Try.ntmps27
    all_goals go_wp2_with (first | (go_at_call 18; refine (hA'.out _).mono ?_; rintro e w' ⟨rfl, rfl⟩) | go_in)
    all_goals (refine bodyPost_ret ?_ rfl ⟨rfl, by go_grown⟩; simp [results, Try.results27, go_sem])
  · have hA := fun w => ha ▸ refattends_any s f c no w hs
    have hA' := hid hA
    have e := show inst ⟨s, f, c⟩ no has = if s = 1 ∧ has = true then (⟨2, f, no⟩, 1) else if 2 ≤ s ∧ has = false then (⟨0, f, 0⟩, 2) else (⟨s, f, c⟩, 0) by simp [inst, ha]
    rw [e]
    clear ha hA e
    cases has <;> rcases hs with rfl | rfl | rfl | rfl
    all_goals go_enter Try.func27, Try.ntmps27
    all_goals go_wp2_with (first | (go_at_call 18; refine (hA'.out _).mono ?_; rintro e w' ⟨rfl, rfl⟩) | go_in)
    all_goals (refine bodyPost_ret ?_ rfl ⟨rfl, by go_grown⟩; simp [results, Try.results27, go_sem])
end Go.Proofs.Ytachhoocdpdifaa
