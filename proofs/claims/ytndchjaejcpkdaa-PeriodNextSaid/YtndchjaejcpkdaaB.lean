/- Contracts, second part: which attendance is from a time on, which view is ripe. -/
import Derived.Test.YtndchjaejcpkdaaA
namespace Go.Proofs.Ytndchjaejcpkdaa
open Go Go.RowKit Go.ChangeShapes Go.WideShapes
set_option linter.unusedVariables false

/-- a time within its bounds -/
def tm (t : Int) : Int := cl t 0 1152921504606846976
theorem tm_bd (t : Int) : 0 ≤ tm t ∧ tm t ≤ 1152921504606846976 := cl_bd t (by omega)
theorem tm_in {t : Int} (h0 : 0 ≤ t) (h1 : t ≤ 1152921504606846976) : tm t = t := cl_in h0 h1
def ofp (e t : Int) : Int := tm t / evy e
theorem ofp_bd (e t : Int) : 0 ≤ ofp e t ∧ ofp e t ≤ tm t := by
  have be := evy_bd e
  have bt := tm_bd t
  exact ⟨Int.ediv_nonneg (by omega) (by omega), Int.ediv_le_self _ (by omega)⟩

theorem time_tm (t : Int) (w : World) : Calls Try.prog 24 #[.int .i64 t] w fun e w' => e = .returned (.int .i64 (tm t)) ∧ w = w' := time_any t w
theorem reftime_tm (t : Int) (w : World) : Calls Try.prog 25 #[.int .i64 t] w fun e w' => e = .returned (.int .i64 (tm t)) ∧ w' = w := (reftime_any t w).mono fun _ _ h => ⟨h.1, h.2.symm⟩

theorem gone_any (e d no now : Int) (w : World) :
    Calls Try.prog 12 #[.agg #[.int .i64 e, .int .i64 d], .int .i64 no, .int .i64 now] w fun r w' => r = .returned (.bool (decide (due e no + dlt d ≤ tm now))) ∧ Below w.heap.size w w' := by
  go_enter Try.func12, Try.ntmps12
  go_wp2_with fail
  refine (view_any _ _ _ _).mono ?_; rintro r w1 ⟨rfl, h1⟩
  have hb : Below w.heap.size w w1 := (show Below w.heap.size w _ from by go_grown).trans (h1.mono (by simp))
  clear h1
  go_wp2_with (go_at_call 24; refine (time_tm _ _).mono ?_; rintro e w' ⟨rfl, rfl⟩)
  go_returns
  exact ⟨rfl, hb⟩

theorem of_any (e d t : Int) (w : World) :
    Calls Try.prog 17 #[.agg #[.int .i64 e, .int .i64 d], .int .i64 t] w fun r w' => r = .returned (.int .i64 (ofp e t)) ∧ Below w.heap.size w w' := by
  have be := evy_bd e
  have bt := tm_bd t
  have q := fld0 (evy e) (dlt d)
  have t0 : (tm t).tdiv (evy e) = tm t / evy e := Int.tdiv_eq_ediv_of_nonneg (by omega)
  have bo := ofp_bd e t
  have t1 : IntKind.i64.wrap (tm t / evy e) = tm t / evy e := IntWalk.i64_in _ (by unfold ofp at bo; omega)
  have t2 : evy e ≠ 0 := by omega
  have t3 : (evy e == 0) = false := by simp; omega
  go_enter Try.func17, Try.ntmps17
  go_wp2_with fail
  go_region_held3 (fun w' => w'.cell? ⟨w.heap.size, 0, none⟩ = some (.int .i64 e) ∧ w'.cell? ⟨w.heap.size, 1, none⟩ = some (.int .i64 d) ∧ w.heap.size < w'.heap.size ∧ Below w.heap.size w w')
    (first | (exact ⟨by simp, by simp, by simp, by go_grown⟩) | (go_split_ands; exact keepS h1 (by first | assumption | simp) (by first | assumption | simp) (by first | assumption | simp) (by first | assumption | go_grown)) | go_keep)
    (first | (go_at_call 24; refine (time_tm _ _).mono ?_; rintro r w1 ⟨rfl, rfl⟩) | (go_at_call 23; refine (own_any _ _ _).mono ?_; rintro r w1 ⟨rfl, h1⟩))
  all_goals (go_wp2; go_returns; go_split_ands; exact ⟨rfl, by assumption⟩)

theorem refof_any (e d t : Int) (w : World) :
    Calls Try.prog 18 #[.agg #[.int .i64 (evy e), .int .i64 (dlt d)], .int .i64 t] w fun r w' => r = .returned (.int .i64 (ofp e t)) ∧ Below w.heap.size w w' := by
  have be := evy_bd e
  have bt := tm_bd t
  have t0 : (tm t).tdiv (evy e) = tm t / evy e := Int.tdiv_eq_ediv_of_nonneg (by omega)
  have bo := ofp_bd e t
  have t1 : IntKind.i64.wrap (tm t / evy e) = tm t / evy e := IntWalk.i64_in _ (by unfold ofp at bo; omega)
  have t2 : evy e ≠ 0 := by omega
  have t3 : (evy e == 0) = false := by simp; omega
  go_enter Try.func18, Try.ntmps18
  go_wp2_with fail
  go_quiet ((go_at_call 25; exact Calls.quiet_of_same (reftime_tm _ _)))
  go_wp2
  go_returns
  exact ⟨rfl, bel_drewN (by go_grown) _⟩

theorem behind_any (e d t : Int) (w : World) :
    Calls Try.prog 19 #[.agg #[.int .i64 e, .int .i64 d], .int .i64 t] w fun r w' => r = .returned (.int .i64 (ofp e t + 1)) ∧ Below w.heap.size w w' := by
  have bo := ofp_bd e t
  have bt := tm_bd t
  go_enter Try.func19, Try.ntmps19
  go_wp2_with fail
  refine (of_any _ _ _ _).mono ?_; rintro r w1 ⟨rfl, h1⟩
  have hb : Below w.heap.size w w1 := (show Below w.heap.size w _ from by go_grown).trans (h1.mono (by simp))
  clear h1
  go_wp2
  go_returns
  exact ⟨rfl, hb⟩

/-- the attendance from a time on -/
def frm (e t : Int) : Int := if tm t = 0 then 0 else (tm t - 1) / evy e + 1
theorem frm_eq (e t : Int) : frm e t = if ofp e t * evy e < tm t then ofp e t + 1 else ofp e t := by
  have be := evy_bd e
  have bt := tm_bd t
  unfold frm ofp
  have h1 := Int.mul_ediv_add_emod (tm t) (evy e)
  have h2 := Int.emod_nonneg (tm t) (show evy e ≠ 0 by omega)
  have h3 := Int.emod_lt_of_pos (tm t) (show 0 < evy e by omega)
  generalize hq : tm t / evy e = q at *
  generalize hr : tm t % evy e = r at *
  have hc : evy e * q = q * evy e := Int.mul_comm _ _
  by_cases h0 : tm t = 0
  · rw [if_pos h0]
    have : q = 0 := by rw [← hq, h0]; simp
    subst this
    rw [if_neg (by omega)]
  · rw [if_neg h0]
    by_cases hr0 : r = 0
    · rw [if_neg (by omega)]
      have : (tm t - 1) / evy e = q - 1 := by
        have e1 : tm t - 1 = (evy e - 1) + evy e * (q - 1) := by rw [Int.mul_sub]; omega
        rw [e1, Int.add_mul_ediv_left _ _ (by omega), Int.ediv_eq_zero_of_lt (by omega) (by omega)]; omega
      omega
    · rw [if_pos (by omega)]
      have : (tm t - 1) / evy e = q := by
        have e1 : tm t - 1 = (r - 1) + evy e * q := by omega
        rw [e1, Int.add_mul_ediv_left _ _ (by omega), Int.ediv_eq_zero_of_lt (by omega) (by omega)]; omega
      omega

theorem from_any (e d t : Int) (w : World) :
    Calls Try.prog 15 #[.agg #[.int .i64 e, .int .i64 d], .int .i64 t] w fun r w' => r = .returned (.int .i64 (frm e t)) ∧ Below w.heap.size w w' := by
  have be := evy_bd e
  have bt := tm_bd t
  by_cases h0 : tm t = 0
  · have h0' : (tm t == 0) = true := by simpa using h0
    have hf : frm e t = 0 := by unfold frm; rw [if_pos h0]
    clear h0
    go_enter Try.func15, Try.ntmps15
    go_wp2_with (go_at_call 24; refine (time_tm _ _).mono ?_; rintro r w1 ⟨rfl, rfl⟩)
    go_returns
    exact ⟨ret_int hf.symm, by go_grown⟩
  · have h0' : (tm t == 0) = false := by simpa using h0
    have hf : frm e t = ofp e (tm t - 1) + 1 := by unfold frm ofp; rw [if_neg h0, tm_in (t := tm t - 1) (by omega) (by omega)]
    have bo := ofp_bd e (tm t - 1)
    have bt' := tm_bd (tm t - 1)
    have s1 : IntKind.i64.wrap (tm t - 1) = tm t - 1 := IntWalk.i64_in _ (by omega)
    have s2 : IntKind.i64.wrap (ofp e (tm t - 1) + 1) = ofp e (tm t - 1) + 1 := IntWalk.i64_in _ (by omega)
    go_enter Try.func15, Try.ntmps15
    go_wp2_with (go_at_call 24; refine (time_tm _ _).mono ?_; rintro r w1 ⟨rfl, rfl⟩)
    go_region_held3 (fun w' => w'.cell? ⟨w.heap.size, 0, none⟩ = some (.int .i64 e) ∧ w'.cell? ⟨w.heap.size, 1, none⟩ = some (.int .i64 d) ∧ w.heap.size < w'.heap.size ∧ Below w.heap.size w w')
      (first | (exact ⟨by simp, by simp, by simp, by go_grown⟩) | (go_split_ands; exact keepS h1 (by first | assumption | simp) (by first | assumption | simp) (by first | assumption | simp) (by first | assumption | go_grown)) | go_keep)
      (first | (go_at_call 24; refine (time_tm _ _).mono ?_; rintro r w1 ⟨rfl, rfl⟩) | (go_at_call 17; refine (of_any _ _ _ _).mono ?_; rintro r w1 ⟨rfl, h1⟩))
    all_goals (go_wp2; go_returns; go_split_ands; exact ⟨ret_int hf.symm, by assumption⟩)
end Go.Proofs.Ytndchjaejcpkdaa
