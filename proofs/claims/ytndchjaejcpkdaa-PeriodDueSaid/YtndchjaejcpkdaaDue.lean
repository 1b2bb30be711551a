/- The walk of the law PeriodDue. -/
import Derived.Test.YtndchjaejcpkdaaD
namespace Go.Proofs.Ytndchjaejcpkdaa
open Go Go.RowKit Go.ChangeShapes Go.WideShapes
set_option linter.unusedVariables false

set_option maxHeartbeats 8000000 in
theorem periodDueWalk (x00 : Int) (x01 : Int) (a1 : Int) (a2 : Int) (w : World) (w00 : (Lit.int .i64 x00).wf = true) (w01 : (Lit.int .i64 x01).wf = true) (w1 : (Lit.int .i64 a1).wf = true) (w2 : (Lit.int .i64 a2).wf = true) :
    Calls Try.prog 3 #[.agg #[.int .i64 x00, .int .i64 x01], .int .i64 a1, .int .i64 a2] w fun e w' => e = .returned (.bool true) ∧ Below w.heap.size w w' := by
  have bd := due_bd x00 a1
  have bl := dlt_bd x01
  have s1 : IntKind.i64.wrap (due x00 a1 + dlt x01) = due x00 a1 + dlt x01 := IntWalk.i64_in _ (by omega)
  have ed := dlt_dlt x01
  have e1 := due_evy x00 a1
  go_enter Try.func3, Try.ntmps3
  go_upto_region 1 with fail
  go_cut [7, 8] (fun s7 s8 wx => ∃ g h : Nat, s7 = .pointer (some ⟨g, 0, none⟩) ∧ s8 = .pointer (some ⟨h, 0, none⟩) ∧ wx.cell? ⟨g, 0, none⟩ = some (.int .i64 (evy x00)) ∧ wx.cell? ⟨g, 1, none⟩ = some (.int .i64 (dlt x01)) ∧ g < wx.heap.size ∧ wx.cell? ⟨h, 0, none⟩ = some (.int .i64 (evy x00)) ∧ wx.cell? ⟨h, 1, none⟩ = some (.int .i64 (dlt x01)) ∧ h < wx.heap.size ∧ Below w.heap.size w wx)
  case first =>
    go_region_held3 (fun w' => w'.cell? ⟨w.heap.size, 0, none⟩ = some (.int .i64 x00) ∧ w'.cell? ⟨w.heap.size, 1, none⟩ = some (.int .i64 x01))
      (first | (exact ⟨by go_cell, by go_cell⟩) | go_keep)
      (first | (go_at_call 7; refine (new_ex _ _ _).mono ?_; rintro r w1 ⟨rfl, rfl⟩) | (go_at_call 8; refine (refnew_ex _ _ _).mono ?_; rintro r w1 ⟨rfl, rfl⟩))
    all_goals (go_wp2_with fail; go_meet; exact ⟨_, _, rfl, rfl, by go_cell, by go_cell, by simp; try omega, by go_cell, by go_cell, by simp; try omega, by go_grown⟩)
  case rest =>
    obtain ⟨g, h, rfl, rfl, c0, c1, z, d0, d1, y, hb⟩ := hcut
    go_wp2_with fail
    refine (refdue_any _ _ _ _).mono ?_; rintro r w1 ⟨rfl, h1⟩
    obtain ⟨c0, c1, z, d0, d1, y, hb⟩ := keep2 h1 ⟨c0, c1, z, d0, d1, y, hb⟩
    clear h1
    go_wp2_with fail
    go_region_held3 (fun w' => w'.cell? ⟨g, 0, none⟩ = some (.int .i64 (evy x00)) ∧ w'.cell? ⟨g, 1, none⟩ = some (.int .i64 (dlt x01)) ∧ g < w'.heap.size ∧ w'.cell? ⟨h, 0, none⟩ = some (.int .i64 (evy x00)) ∧ w'.cell? ⟨h, 1, none⟩ = some (.int .i64 (dlt x01)) ∧ h < w'.heap.size ∧ Below w.heap.size w w')
      (first | (exact ⟨c0, c1, z, d0, d1, y, hb.drew⟩) | (exact keep2 h1 (by assumption)) | go_keep)
      (first | (go_at_call 10; refine (due_any _ _ _ _).mono ?_; rintro r w1 ⟨rfl, h1⟩) | (go_at_call 11; refine (view_any _ _ _ _).mono ?_; rintro r w1 ⟨rfl, h1⟩) | (go_at_call 12; refine (gone_any _ _ _ _ _).mono ?_; rintro r w1 ⟨rfl, h1⟩) | (go_at_call 13; refine (clamp_tm _ _).mono ?_; rintro r w1 ⟨rfl, rfl⟩) | (go_at_call 14; refine (works_any _).mono ?_; rintro r w1 ⟨rfl, h1⟩))
    all_goals (go_split_ands; go_wp2; go_returns; exact ⟨rfl, by assumption⟩)
end Go.Proofs.Ytndchjaejcpkdaa
