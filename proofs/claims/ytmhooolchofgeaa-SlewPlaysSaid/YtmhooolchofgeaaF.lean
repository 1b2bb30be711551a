/- The reference's functions of slew: Up, Ticks, Aim, Step. -/
import Derived.Test.YtmhooolchofgeaaC
import Derived.StillTailTactics
namespace Go.Proofs.Ytmhooolchofgeaa
open Go Go.RowKit Go.ChangeShapes Go.WideShapes
set_option linter.unusedVariables false

theorem refup_any (a b : Int) (w : World) (h0 : 0 ≤ a) (h1 : a ≤ 1152921504606846976) (h2 : 1 ≤ b) (h3 : b ≤ 256) :
    Calls Try.prog 22 #[.int .i64 a, .int .i64 b] w fun e w' => e = .returned (.tuple #[.int .i64 (upq a b), .bool true]) ∧ w = w' := by
  have b0 : (b == 0) = false := by simp; omega
  have b1 : (b == -1) = false := by simp; omega
  have b2 : (a == -9223372036854775808) = false := by simp; omega
  have r0 : 0 ≤ a % b := Int.emod_nonneg _ (by omega)
  have q0 : 0 ≤ a / b := Int.ediv_nonneg h0 (by omega)
  have q1 : a / b ≤ a := Int.ediv_le_self _ h0
  have r1 : a % b < b := Int.emod_lt_of_pos _ (by omega)
  have em := Int.mul_ediv_add_emod a b
  rw [Int.mul_comm] at em
  have t0 : a.tdiv b = a / b := Int.tdiv_eq_ediv_of_nonneg h0
  have t2 : IntKind.i64.wrap (a / b) = a / b := IntWalk.i64_in _ (by omega)
  have t4 : b ≠ 0 := by omega
  by_cases hr : a % b = 0
  · have e0 : upq a b = a / b := by unfold upq; rw [if_pos hr]
    have u0 : a / b * b = a := by omega
    rw [e0]
    clear hr em
    go_enter Try.func22, Try.ntmps22
    go_wp2
    go_returns
    exact ⟨rfl, rfl⟩
  · have e0 : upq a b = a / b + 1 := by unfold upq; rw [if_neg hr]
    obtain ⟨P, hP⟩ : ∃ P, a / b * b = P := ⟨_, rfl⟩
    rw [hP] at em
    have u1 : (P != a) = true := by simp; omega
    have hPb : 0 ≤ P ∧ P ≤ a := by
      have := Int.mul_nonneg q0 (show 0 ≤ b by omega)
      omega
    have u2 : decide (a < 0) = false := decide_eq_false (by omega)
    have u3 : decide (b < 0) = false := decide_eq_false (by omega)
    rw [e0]
    clear hr em
    go_enter Try.func22, Try.ntmps22
    go_wp2
    go_returns
    exact ⟨rfl, rfl⟩

theorem refticks_any (l m : Int) (w : World) (h0 : 1 ≤ m) (h1 : m ≤ 256) (hl : -1152921504606846976 ≤ l ∧ l ≤ 1152921504606846976) :
    Calls Try.prog 15 #[.agg #[.int .i64 l, .int .i64 m]] w fun r w' => r = .returned (.int .i64 (upq (ab l) m)) ∧ w.alloc (.cells #[.int .i64 l, .int .i64 m] 26) = w' := by
  by_cases hn : l < 0
  · have e0 : ab l = -l := by unfold ab; rw [if_pos hn]
    rw [e0]
    go_enter Try.func15, Try.ntmps15
    go_wp2_with (go_at_call 22; refine (refup_any _ _ _ (by omega) (by omega) (by omega) (by omega)).mono ?_; rintro e w' ⟨rfl, rfl⟩)
    go_returns
    exact ⟨ret_int (by congr 1), rfl⟩
  · have e0 : ab l = l := by unfold ab; rw [if_neg hn]
    rw [e0]
    go_enter Try.func15, Try.ntmps15
    go_wp2_with (go_at_call 22; refine (refup_any _ _ _ (by omega) (by omega) (by omega) (by omega)).mono ?_; rintro e w' ⟨rfl, rfl⟩)
    go_returns
    exact ⟨rfl, rfl⟩

theorem refstep_any (l m x : Int) (w : World) (h0 : 1 ≤ m) (h1 : m ≤ 256) (hl : -1152921504606846976 ≤ l ∧ l ≤ 1152921504606846976) :
    Calls Try.prog 9 #[.agg #[.int .i64 l, .int .i64 m], .int .i64 x] w fun r w' => r = .returned (.tuple #[.agg #[.int .i64 (l - made l m (inc x)), .int .i64 m], .int .i64 (inc x + made l m (inc x))]) ∧ Below w.heap.size w w' := by
  have bi := inc_bd x
  obtain ⟨i, hi⟩ : ∃ i, cl x 0 1048576 = i := ⟨_, rfl⟩
  have hi2 : inc x = i := hi
  rw [hi2] at bi ⊢
  obtain ⟨d, hd⟩ : ∃ d, made l m i = d := ⟨_, rfl⟩
  have ml := made_left l (m := m) (i := i) (by omega) bi.1 hl
  have hd' : (m < l ∧ (i + m < 0 ∧ d = -i ∨ 0 ≤ i + m ∧ d = m)) ∨ (l < -m ∧ (i - m < 0 ∧ d = -i ∨ 0 ≤ i - m ∧ d = -m)) ∨ (-m ≤ l ∧ l ≤ m ∧ (i + l < 0 ∧ d = -i ∨ 0 ≤ i + l ∧ d = l)) := by
    unfold made cl at hd; repeat' split at hd
    all_goals omega
  rw [hd] at ml ⊢
  clear hd hi2
  rcases hd' with ⟨c1, ⟨c2, rfl⟩ | ⟨c2, rfl⟩⟩ | ⟨c1, ⟨c2, rfl⟩ | ⟨c2, rfl⟩⟩ | ⟨c1, c3, ⟨c2, rfl⟩ | ⟨c2, rfl⟩⟩
  · exfalso; omega
  all_goals go_enter Try.func9, Try.ntmps9
  all_goals go_wp2_with (go_at_call 18; refine (refclamp_any _ _ _ _ (by omega)).mono ?_; rintro e w' ⟨rfl, rfl⟩)
  all_goals (refine bodyPost_ret ?_ rfl ⟨rfl, by go_grown⟩; simp [results, Try.results9, go_sem])
end Go.Proofs.Ytmhooolchofgeaa
