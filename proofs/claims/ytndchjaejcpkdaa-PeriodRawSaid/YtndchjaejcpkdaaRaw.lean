/- The walk of the law PeriodRaw. -/
import Derived.Test.YtndchjaejcpkdaaD
namespace Go.Proofs.Ytndchjaejcpkdaa
open Go Go.RowKit Go.ChangeShapes Go.WideShapes
set_option linter.unusedVariables false

set_option maxHeartbeats 8000000 in
theorem periodRawWalk (a0 : Int) (a1 : Int) (a2 : Int) (w : World) (w0 : (Lit.int .i64 a0).wf = true) (w1 : (Lit.int .i64 a1).wf = true) (w2 : (Lit.int .i64 a2).wf = true) :
    Calls Try.prog 5 #[.int .i64 a0, .int .i64 a1, .int .i64 a2] w fun e w' => e = .returned (.bool true) ∧ Below w.heap.size w w' := by
  have e1 := due_evy a0 a2
  have e2 := ofp_evy a0 a2
  have e3 := frm_evy a0 a2
  have e4 := ripe_evy a0 a1 a2
  have e5 := dlt_dlt a1
  go_enter Try.func5, Try.ntmps5
  go_wp2_with fail
  refine (new_ex _ _ _).mono ?_; rintro r w1 ⟨rfl, rfl⟩
  go_wp2_with fail
  obtain ⟨g, hg⟩ : ∃ g, g = w.heap.size + 1 := ⟨_, rfl⟩
  obtain ⟨h, hh⟩ : ∃ h, h = w.heap.size + 1 + 1 := ⟨_, rfl⟩
  have c0 : (((w.alloc (.cells #[.int .i64 (evy a0), .int .i64 (dlt a1)] 24)).alloc (.cells #[.int .i64 a0, .int .i64 a1] 24)).alloc (.cells #[.int .i64 (evy a0), .int .i64 (dlt a1)] 24)).cell? ⟨g, 0, none⟩ = some (.int .i64 a0) := by subst hg; go_cell
  have c1 : (((w.alloc (.cells #[.int .i64 (evy a0), .int .i64 (dlt a1)] 24)).alloc (.cells #[.int .i64 a0, .int .i64 a1] 24)).alloc (.cells #[.int .i64 (evy a0), .int .i64 (dlt a1)] 24)).cell? ⟨g, 1, none⟩ = some (.int .i64 a1) := by subst hg; go_cell
  have z : g < (((w.alloc (.cells #[.int .i64 (evy a0), .int .i64 (dlt a1)] 24)).alloc (.cells #[.int .i64 a0, .int .i64 a1] 24)).alloc (.cells #[.int .i64 (evy a0), .int .i64 (dlt a1)] 24)).heap.size := by subst hg; simp
  have d0 : (((w.alloc (.cells #[.int .i64 (evy a0), .int .i64 (dlt a1)] 24)).alloc (.cells #[.int .i64 a0, .int .i64 a1] 24)).alloc (.cells #[.int .i64 (evy a0), .int .i64 (dlt a1)] 24)).cell? ⟨h, 0, none⟩ = some (.int .i64 (evy a0)) := by subst hh; go_cell
  have d1 : (((w.alloc (.cells #[.int .i64 (evy a0), .int .i64 (dlt a1)] 24)).alloc (.cells #[.int .i64 a0, .int .i64 a1] 24)).alloc (.cells #[.int .i64 (evy a0), .int .i64 (dlt a1)] 24)).cell? ⟨h, 1, none⟩ = some (.int .i64 (dlt a1)) := by subst hh; go_cell
  have y : h < (((w.alloc (.cells #[.int .i64 (evy a0), .int .i64 (dlt a1)] 24)).alloc (.cells #[.int .i64 a0, .int .i64 a1] 24)).alloc (.cells #[.int .i64 (evy a0), .int .i64 (dlt a1)] 24)).heap.size := by subst hh; simp
  have hb : Below w.heap.size w (((w.alloc (.cells #[.int .i64 (evy a0), .int .i64 (dlt a1)] 24)).alloc (.cells #[.int .i64 a0, .int .i64 a1] 24)).alloc (.cells #[.int .i64 (evy a0), .int .i64 (dlt a1)] 24)) := by go_grown
  rw [← hh, ← hg]
  generalize (((w.alloc (.cells #[.int .i64 (evy a0), .int .i64 (dlt a1)] 24)).alloc (.cells #[.int .i64 a0, .int .i64 a1] 24)).alloc (.cells #[.int .i64 (evy a0), .int .i64 (dlt a1)] 24)) = wx at *
  clear hg hh
  simp only [List.append]
  go_region_held3 (fun w' => w'.cell? ⟨g, 0, none⟩ = some (.int .i64 a0) ∧ w'.cell? ⟨g, 1, none⟩ = some (.int .i64 a1) ∧ g < w'.heap.size ∧ w'.cell? ⟨h, 0, none⟩ = some (.int .i64 (evy a0)) ∧ w'.cell? ⟨h, 1, none⟩ = some (.int .i64 (dlt a1)) ∧ h < w'.heap.size ∧ Below w.heap.size w w')
    (first | (exact ⟨c0, c1, z, d0, d1, y, hb.drew⟩) | (exact keep2 h1 (by assumption)) | go_keep)
    (first | (go_at_call 10; refine (due_any _ _ _ _).mono ?_; rintro r w1 ⟨rfl, h1⟩) | (go_at_call 11; refine (view_any _ _ _ _).mono ?_; rintro r w1 ⟨rfl, h1⟩) | (go_at_call 15; refine (from_any _ _ _ _).mono ?_; rintro r w1 ⟨rfl, h1⟩) | (go_at_call 19; refine (behind_any _ _ _ _).mono ?_; rintro r w1 ⟨rfl, h1⟩) | (go_at_call 17; refine (of_any _ _ _ _).mono ?_; rintro r w1 ⟨rfl, h1⟩) | (go_at_call 20; refine (ripe_any _ _ _ _).mono ?_; rintro r w1 ⟨rfl, h1⟩) | (go_at_call 12; refine (gone_any _ _ _ _ _).mono ?_; rintro r w1 ⟨rfl, h1⟩) | (go_at_call 14; refine (works_any _).mono ?_; rintro r w1 ⟨rfl, h1⟩))
  all_goals (go_split_ands; go_wp2; go_returns; exact ⟨rfl, by assumption⟩)
end Go.Proofs.Ytndchjaejcpkdaa
