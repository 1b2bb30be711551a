/- The walk of the law PeriodNext. -/
import Derived.Test.YtndchjaejcpkdaaD
import Derived.Test.YtndchjaejcpkdaaQw
namespace Go.Proofs.Ytndchjaejcpkdaa
open Go Go.RowKit Go.ChangeShapes Go.WideShapes
set_option linter.unusedVariables false

theorem bd_u16 {n : Int} (h : (Lit.int .u16 n).wf = true) : 0 ≤ n ∧ n ≤ 65535 := by
  simp [Lit.wf, IntKind.min, IntKind.max, IntKind.signed, IntKind.bits] at h; omega
theorem bd_u32 {n : Int} (h : (Lit.int .u32 n).wf = true) : 0 ≤ n ∧ n ≤ 4294967295 := by
  simp [Lit.wf, IntKind.min, IntKind.max, IntKind.signed, IntKind.bits] at h; omega

/-- The plain law: where the attendances stand to a time. -/
theorem next_plain (e t : Int) (h0 : 0 ≤ e) (h1 : e ≤ 65535) (h2 : 0 ≤ t) (h3 : t ≤ 4294967295) :
    due e (ofp e t) ≤ t ∧ t < due e (ofp e t + 1) ∧ due e (ofp e t) < due e (ofp e t + 1) ∧ 0 ≤ ofp e t ∧ ofp e t ≤ 4294967295 ∧
    (due e (ofp e t) = t ∧ frm e t = ofp e t ∨ due e (ofp e t) < t ∧ frm e t = ofp e t + 1) := by
  have hE : 1 ≤ evy e ∧ evy e ≤ 65535 := by unfold evy cl; split <;> (try split) <;> omega
  have ht : tm t = t := tm_in h2 (by omega)
  have hq0 : 0 ≤ t / evy e := Int.ediv_nonneg h2 (by omega)
  have hq1 : t / evy e ≤ t := Int.ediv_le_self _ h2
  have hM : 17592454483200 ≤ 1152921504606846976 / evy e := by
    refine Int.le_ediv_of_mul_le (by omega) ?_
    exact Int.le_trans (Int.mul_le_mul_of_nonneg_left hE.2 (by omega)) (by omega)
  have d : ∀ k, 0 ≤ k → k ≤ 4294967296 → due e k = k * evy e := fun k a b => by unfold due; rw [cl_in a (by omega)]
  have ho : ofp e t = t / evy e := by unfold ofp; rw [ht]
  have e1 := Int.mul_ediv_add_emod t (evy e)
  have e2 := Int.emod_nonneg t (show evy e ≠ 0 by omega)
  have e3 := Int.emod_lt_of_pos t (show 0 < evy e by omega)
  have hf := frm_eq e t
  rw [ht, ho] at hf
  rw [ho, d _ hq0 (by omega), d _ (by omega) (by omega), Int.add_mul, Int.one_mul]
  rw [Int.mul_comm] at e1
  refine ⟨by omega, by omega, by omega, by omega, by omega, ?_⟩
  by_cases hh : t / evy e * evy e < t
  · rw [if_pos hh] at hf; exact .inr ⟨hh, hf⟩
  · rw [if_neg hh] at hf; exact .inl ⟨by omega, hf⟩

theorem keep1 {w wx w1 : World} {g : Nat} {u v : Value} (h1 : Below wx.heap.size wx w1) (s : wx.cell? ⟨g, 0, none⟩ = some u ∧ wx.cell? ⟨g, 1, none⟩ = some v ∧ g < wx.heap.size ∧ Below w.heap.size w wx) :
    w1.cell? ⟨g, 0, none⟩ = some u ∧ w1.cell? ⟨g, 1, none⟩ = some v ∧ g < w1.heap.size ∧ Below w.heap.size w w1 := keepG h1 s.1 s.2.1 s.2.2.1 s.2.2.2

set_option maxHeartbeats 8000000 in
theorem periodNextWalk (a0 : Int) (a1 : Int) (a2 : Int) (w : World) (w0 : (Lit.int .u16 a0).wf = true) (w1 : (Lit.int .u16 a1).wf = true) (w2 : (Lit.int .u32 a2).wf = true) :
    Calls Try.prog 6 #[.int .u16 a0, .int .u16 a1, .int .u32 a2] w fun e w' => e = .returned (.bool true) ∧ Below w.heap.size w w' := by
  have b0 := bd_u16 w0
  have b1 := bd_u16 w1
  have b2 := bd_u32 w2
  obtain ⟨p1, p2, p3, p4, p5, p6⟩ := next_plain a0 a2 b0.1 b0.2 b2.1 b2.2
  have bl := dlt_bd a1
  have q1 := fun no => due_evy a0 no
  have q2 := fun t => ofp_evy a0 t
  have q3 := fun t => frm_evy a0 t
  have q4 := dlt_dlt a1
  have s1 : IntKind.i64.wrap (ofp a0 a2 + 1) = ofp a0 a2 + 1 := IntWalk.i64_in _ (by omega)
  have r1 : decide (a2 < due a0 (ofp a0 a2)) = false := decide_eq_false (by omega)
  have r2 : decide (due a0 (ofp a0 a2 + 1) ≤ a2) = false := decide_eq_false (by omega)
  have r3 : decide (due a0 (ofp a0 a2) < due a0 (ofp a0 a2 + 1)) = true := decide_eq_true (by omega)
  have r4 : decide (due a0 (ofp a0 a2) ≤ due a0 (ofp a0 a2) + dlt a1) = true := decide_eq_true (by omega)
  rcases p6 with ⟨p6, p7⟩ | ⟨p6, p7⟩
  · have r5 : (due a0 (ofp a0 a2) == a2) = true := by simpa using p6
    have r6 : (frm a0 a2 == ofp a0 a2) = true := by simpa using p7
    clear p6 p7
    go_enter Try.func6, Try.ntmps6
    go_wp2_with fail
    refine (new_ex _ _ _).mono ?_; rintro r w1 ⟨rfl, rfl⟩
    go_wp2_with fail
    obtain ⟨g, hg⟩ : ∃ g, g = w.heap.size + 1 := ⟨_, rfl⟩
    have c0 : ((w.alloc (.cells #[.int .i64 (evy a0), .int .i64 (dlt a1)] 24)).alloc (.cells #[.int .i64 (evy a0), .int .i64 (dlt a1)] 24)).cell? ⟨g, 0, none⟩ = some (.int .i64 (evy a0)) := by subst hg; go_cell
    have c1 : ((w.alloc (.cells #[.int .i64 (evy a0), .int .i64 (dlt a1)] 24)).alloc (.cells #[.int .i64 (evy a0), .int .i64 (dlt a1)] 24)).cell? ⟨g, 1, none⟩ = some (.int .i64 (dlt a1)) := by subst hg; go_cell
    have z : g < ((w.alloc (.cells #[.int .i64 (evy a0), .int .i64 (dlt a1)] 24)).alloc (.cells #[.int .i64 (evy a0), .int .i64 (dlt a1)] 24)).heap.size := by subst hg; simp
    have hb : Below w.heap.size w ((w.alloc (.cells #[.int .i64 (evy a0), .int .i64 (dlt a1)] 24)).alloc (.cells #[.int .i64 (evy a0), .int .i64 (dlt a1)] 24)) := by go_grown
    rw [← hg]
    generalize ((w.alloc (.cells #[.int .i64 (evy a0), .int .i64 (dlt a1)] 24)).alloc (.cells #[.int .i64 (evy a0), .int .i64 (dlt a1)] 24)) = wx at *
    clear hg
    go_wp2_with (first | (go_at_call 10; refine (due_any _ _ _ _).mono ?_; rintro r w1 ⟨rfl, h1⟩; obtain ⟨c0, c1, z, hb⟩ := keep1 h1 ⟨c0, c1, z, hb⟩; clear h1) | (go_at_call 11; refine (view_any _ _ _ _).mono ?_; rintro r w1 ⟨rfl, h1⟩; obtain ⟨c0, c1, z, hb⟩ := keep1 h1 ⟨c0, c1, z, hb⟩; clear h1) | (go_at_call 15; refine (from_any _ _ _ _).mono ?_; rintro r w1 ⟨rfl, h1⟩; obtain ⟨c0, c1, z, hb⟩ := keep1 h1 ⟨c0, c1, z, hb⟩; clear h1) | (go_at_call 19; refine (behind_any _ _ _ _).mono ?_; rintro r w1 ⟨rfl, h1⟩; obtain ⟨c0, c1, z, hb⟩ := keep1 h1 ⟨c0, c1, z, hb⟩; clear h1) | (go_at_call 17; refine (of_any _ _ _ _).mono ?_; rintro r w1 ⟨rfl, h1⟩; obtain ⟨c0, c1, z, hb⟩ := keep1 h1 ⟨c0, c1, z, hb⟩; clear h1) | (go_at_call 14; refine (works_any _).mono ?_; rintro r w1 ⟨rfl, h1⟩; obtain ⟨c0, c1, z, hb⟩ := keep1 h1 ⟨c0, c1, z, hb⟩; clear h1))
    have hk : Kp w [(⟨g, 0, none⟩, .int .i64 (evy a0)), (⟨g, 1, none⟩, .int .i64 (dlt a1))] (by assumption) := ⟨by simp [c0, c1, z], hb⟩
    clear c0 c1 z hb
    refine quiet_in _ hk (by kernel_rfl) (by kernel_rfl) ?_
    have x0 := KW.cell (w := w) (l := [(⟨g, 0, none⟩, .int .i64 (evy a0)), (⟨g, 1, none⟩, .int .i64 (dlt a1))]) ⟨g, 0, none⟩ (.int .i64 (evy a0)) (by simp)
    have x1 := KW.cell (w := w) (l := [(⟨g, 0, none⟩, .int .i64 (evy a0)), (⟨g, 1, none⟩, .int .i64 (dlt a1))]) ⟨g, 1, none⟩ (.int .i64 (dlt a1)) (by simp)
    have hne : Nonempty (KW w [(⟨g, 0, none⟩, .int .i64 (evy a0)), (⟨g, 1, none⟩, .int .i64 (dlt a1))]) := ⟨⟨_, hk⟩⟩
    clear hk
    repeat (any_goals (first | go_big_quiet_step ((first | (go_at_call 10; exact quiet_call (due_any _ _ _ _)) | (go_at_call 11; exact quiet_call (view_any _ _ _ _)) | (go_at_call 15; exact quiet_call (from_any _ _ _ _)) | (go_at_call 19; exact quiet_call (behind_any _ _ _ _)) | (go_at_call 17; exact quiet_call (of_any _ _ _ _)) | (go_at_call 14; exact quiet_call (works_any _)))) | quiet_step ((first | (go_at_call 10; exact quiet_call (due_any _ _ _ _)) | (go_at_call 11; exact quiet_call (view_any _ _ _ _)) | (go_at_call 15; exact quiet_call (from_any _ _ _ _)) | (go_at_call 19; exact quiet_call (behind_any _ _ _ _)) | (go_at_call 17; exact quiet_call (of_any _ _ _ _)) | (go_at_call 14; exact quiet_call (works_any _))))))
    refine wpQuiet_nil ?_
    intro _ hw'
    obtain ⟨x, rfl⟩ := hw'
    go_wp2
    go_returns
    exact ⟨rfl, x.bel⟩
  · have r5 : decide (due a0 (ofp a0 a2) < a2) = true := decide_eq_true p6
    have r6 : (frm a0 a2 == ofp a0 a2) = false := by simp; omega
    have r7 : (frm a0 a2 == ofp a0 a2 + 1) = true := by simpa using p7
    clear p6 p7
    go_enter Try.func6, Try.ntmps6
    go_wp2_with fail
    refine (new_ex _ _ _).mono ?_; rintro r w1 ⟨rfl, rfl⟩
    go_wp2_with fail
    obtain ⟨g, hg⟩ : ∃ g, g = w.heap.size + 1 := ⟨_, rfl⟩
    have c0 : ((w.alloc (.cells #[.int .i64 (evy a0), .int .i64 (dlt a1)] 24)).alloc (.cells #[.int .i64 (evy a0), .int .i64 (dlt a1)] 24)).cell? ⟨g, 0, none⟩ = some (.int .i64 (evy a0)) := by subst hg; go_cell
    have c1 : ((w.alloc (.cells #[.int .i64 (evy a0), .int .i64 (dlt a1)] 24)).alloc (.cells #[.int .i64 (evy a0), .int .i64 (dlt a1)] 24)).cell? ⟨g, 1, none⟩ = some (.int .i64 (dlt a1)) := by subst hg; go_cell
    have z : g < ((w.alloc (.cells #[.int .i64 (evy a0), .int .i64 (dlt a1)] 24)).alloc (.cells #[.int .i64 (evy a0), .int .i64 (dlt a1)] 24)).heap.size := by subst hg; simp
    have hb : Below w.heap.size w ((w.alloc (.cells #[.int .i64 (evy a0), .int .i64 (dlt a1)] 24)).alloc (.cells #[.int .i64 (evy a0), .int .i64 (dlt a1)] 24)) := by go_grown
    rw [← hg]
    generalize ((w.alloc (.cells #[.int .i64 (evy a0), .int .i64 (dlt a1)] 24)).alloc (.cells #[.int .i64 (evy a0), .int .i64 (dlt a1)] 24)) = wx at *
    clear hg
    go_wp2_with (first | (go_at_call 10; refine (due_any _ _ _ _).mono ?_; rintro r w1 ⟨rfl, h1⟩; obtain ⟨c0, c1, z, hb⟩ := keep1 h1 ⟨c0, c1, z, hb⟩; clear h1) | (go_at_call 11; refine (view_any _ _ _ _).mono ?_; rintro r w1 ⟨rfl, h1⟩; obtain ⟨c0, c1, z, hb⟩ := keep1 h1 ⟨c0, c1, z, hb⟩; clear h1) | (go_at_call 15; refine (from_any _ _ _ _).mono ?_; rintro r w1 ⟨rfl, h1⟩; obtain ⟨c0, c1, z, hb⟩ := keep1 h1 ⟨c0, c1, z, hb⟩; clear h1) | (go_at_call 19; refine (behind_any _ _ _ _).mono ?_; rintro r w1 ⟨rfl, h1⟩; obtain ⟨c0, c1, z, hb⟩ := keep1 h1 ⟨c0, c1, z, hb⟩; clear h1) | (go_at_call 17; refine (of_any _ _ _ _).mono ?_; rintro r w1 ⟨rfl, h1⟩; obtain ⟨c0, c1, z, hb⟩ := keep1 h1 ⟨c0, c1, z, hb⟩; clear h1) | (go_at_call 14; refine (works_any _).mono ?_; rintro r w1 ⟨rfl, h1⟩; obtain ⟨c0, c1, z, hb⟩ := keep1 h1 ⟨c0, c1, z, hb⟩; clear h1))
    have hk : Kp w [(⟨g, 0, none⟩, .int .i64 (evy a0)), (⟨g, 1, none⟩, .int .i64 (dlt a1))] (by assumption) := ⟨by simp [c0, c1, z], hb⟩
    clear c0 c1 z hb
    refine quiet_in _ hk (by kernel_rfl) (by kernel_rfl) ?_
    have x0 := KW.cell (w := w) (l := [(⟨g, 0, none⟩, .int .i64 (evy a0)), (⟨g, 1, none⟩, .int .i64 (dlt a1))]) ⟨g, 0, none⟩ (.int .i64 (evy a0)) (by simp)
    have x1 := KW.cell (w := w) (l := [(⟨g, 0, none⟩, .int .i64 (evy a0)), (⟨g, 1, none⟩, .int .i64 (dlt a1))]) ⟨g, 1, none⟩ (.int .i64 (dlt a1)) (by simp)
    have hne : Nonempty (KW w [(⟨g, 0, none⟩, .int .i64 (evy a0)), (⟨g, 1, none⟩, .int .i64 (dlt a1))]) := ⟨⟨_, hk⟩⟩
    clear hk
    repeat (any_goals (first | go_big_quiet_step ((first | (go_at_call 10; exact quiet_call (due_any _ _ _ _)) | (go_at_call 11; exact quiet_call (view_any _ _ _ _)) | (go_at_call 15; exact quiet_call (from_any _ _ _ _)) | (go_at_call 19; exact quiet_call (behind_any _ _ _ _)) | (go_at_call 17; exact quiet_call (of_any _ _ _ _)) | (go_at_call 14; exact quiet_call (works_any _)))) | quiet_step ((first | (go_at_call 10; exact quiet_call (due_any _ _ _ _)) | (go_at_call 11; exact quiet_call (view_any _ _ _ _)) | (go_at_call 15; exact quiet_call (from_any _ _ _ _)) | (go_at_call 19; exact quiet_call (behind_any _ _ _ _)) | (go_at_call 17; exact quiet_call (of_any _ _ _ _)) | (go_at_call 14; exact quiet_call (works_any _))))))
    refine wpQuiet_nil ?_
    intro _ hw'
    obtain ⟨x, rfl⟩ := hw'
    go_wp2
    go_returns
    exact ⟨rfl, x.bel⟩
end Go.Proofs.Ytndchjaejcpkdaa
