/- Contracts, third part: the document's attendance from a time on; the last view that is ripe; the example. -/
import Derived.Test.YtndchjaejcpkdaaB
namespace Go.Proofs.Ytndchjaejcpkdaa
open Go Go.RowKit Go.ChangeShapes Go.WideShapes
set_option linter.unusedVariables false

theorem ofp_mul (e t : Int) : 0 ≤ ofp e t * evy e ∧ ofp e t * evy e ≤ tm t := by
  have be := evy_bd e
  have bo := ofp_bd e t
  exact ⟨Int.mul_nonneg bo.1 (by omega), Int.ediv_mul_le _ (by omega)⟩

theorem reffrom_any (e d t : Int) (w : World) :
    Calls Try.prog 16 #[.agg #[.int .i64 (evy e), .int .i64 (dlt d)], .int .i64 t] w fun r w' => r = .returned (.int .i64 (frm e t)) ∧ Below w.heap.size w w' := by
  have be := evy_bd e
  have bt := tm_bd t
  have bo := ofp_bd e t
  have bm := ofp_mul e t
  have hfe := hid (frm_eq e t)
  have s1 : IntKind.i64.wrap (ofp e t * evy e) = ofp e t * evy e := IntWalk.i64_in _ (by omega)
  by_cases h0 : ofp e t * evy e < tm t
  · have h1 : decide (ofp e t * evy e < tm t) = true := decide_eq_true h0
    go_enter Try.func16, Try.ntmps16
    go_wp2_with fail
    refine (refof_any _ _ _ _).mono ?_; rintro r w1 ⟨rfl, hb1⟩
    obtain ⟨hc, hf, hz⟩ := after hb1
    simp only [World.size_alloc] at hz
    have z0 : w.heap.size < w1.heap.size := by omega
    have hb : Below w.heap.size w w1 := (show Below w.heap.size w _ from by go_grown).trans (hb1.mono (by simp))
    clear hb1
    go_wp2_with fail
    go_quiet ((go_at_call 25; exact Calls.quiet_of_same (reftime_tm _ _)))
    go_wp2
    go_returns
    exact ⟨ret_int (by rw [hfe.out, if_pos h0]), bel_drewN hb _⟩
  · have h1 : decide (ofp e t * evy e < tm t) = false := decide_eq_false h0
    go_enter Try.func16, Try.ntmps16
    go_wp2_with fail
    refine (refof_any _ _ _ _).mono ?_; rintro r w1 ⟨rfl, hb1⟩
    obtain ⟨hc, hf, hz⟩ := after hb1
    simp only [World.size_alloc] at hz
    have z0 : w.heap.size < w1.heap.size := by omega
    have hb : Below w.heap.size w w1 := (show Below w.heap.size w _ from by go_grown).trans (hb1.mono (by simp))
    clear hb1
    go_wp2_with fail
    go_quiet ((go_at_call 25; exact Calls.quiet_of_same (reftime_tm _ _)))
    go_wp2
    go_returns
    exact ⟨ret_int (by rw [hfe.out, if_neg (by omega)]), bel_drewN hb _⟩

/-- the last view that is ripe -/
def ripe (e d t : Int) : Int := if tm t - dlt d < 0 then -1 else ofp e (tm t - dlt d)

theorem ripe_any (e d t : Int) (w : World) :
    Calls Try.prog 20 #[.agg #[.int .i64 e, .int .i64 d], .int .i64 t] w fun r w' => r = .returned (.int .i64 (ripe e d t)) ∧ Below w.heap.size w w' := by
  have be := evy_bd e
  have bl := dlt_bd d
  have bt := tm_bd t
  have q := fld1 (evy e) (dlt d)
  have s1 : IntKind.i64.wrap (tm t - dlt d) = tm t - dlt d := IntWalk.i64_in _ (by omega)
  by_cases h0 : tm t - dlt d < 0
  all_goals
    go_enter Try.func20, Try.ntmps20
    go_wp2_with fail
    go_region_held3 (fun w' => w'.cell? ⟨w.heap.size, 0, none⟩ = some (.int .i64 e) ∧ w'.cell? ⟨w.heap.size, 1, none⟩ = some (.int .i64 d) ∧ w.heap.size < w'.heap.size ∧ Below w.heap.size w w')
      (first | (exact ⟨by simp, by simp, by simp, by go_grown⟩) | (go_split_ands; exact keepS h1 (by first | assumption | simp) (by first | assumption | simp) (by first | assumption | simp) (by first | assumption | go_grown)) | go_keep)
      (first | (go_at_call 24; refine (time_tm _ _).mono ?_; rintro r w1 ⟨rfl, rfl⟩) | (go_at_call 23; refine (own_any _ _ _).mono ?_; rintro r w1 ⟨rfl, h1⟩))
    all_goals go_split_ands
    all_goals go_wp2_with fail
  · all_goals (go_returns; exact ⟨ret_int (by unfold ripe; rw [if_pos h0]), by assumption⟩)
  · all_goals (refine (of_any _ _ _ _).mono ?_; rintro r w2 ⟨rfl, h2⟩; go_wp2; go_returns; exact ⟨ret_int (by unfold ripe; rw [if_neg (by omega)]), Below.trans (by assumption) (h2.mono (Nat.le_of_lt (by assumption)))⟩)

theorem refripe_any (e d t : Int) (w : World) :
    Calls Try.prog 21 #[.agg #[.int .i64 (evy e), .int .i64 (dlt d)], .int .i64 t] w fun r w' => r = .returned (.int .i64 (ripe e d t)) ∧ Below w.heap.size w w' := by
  have be := evy_bd e
  have bl := dlt_bd d
  have bt := tm_bd t
  have s1 : IntKind.i64.wrap (tm t - dlt d) = tm t - dlt d := IntWalk.i64_in _ (by omega)
  by_cases h0 : tm t < dlt d
  · have hd : decide (tm t < dlt d) = true := decide_eq_true h0
    go_enter Try.func21, Try.ntmps21
    go_wp2_with fail
    go_quiet ((go_at_call 25; exact Calls.quiet_of_same (reftime_tm _ _)))
    go_wp2_with fail
    go_returns
    exact ⟨ret_int (by unfold ripe; rw [if_pos (by omega)]), bel_drewN (by go_grown) _⟩
  · have hd : decide (tm t < dlt d) = false := decide_eq_false h0
    go_enter Try.func21, Try.ntmps21
    go_wp2_with fail
    go_region_held3 (fun w' => w'.cell? ⟨w.heap.size, 0, none⟩ = some (.int .i64 (evy e)) ∧ w'.cell? ⟨w.heap.size, 1, none⟩ = some (.int .i64 (dlt d)) ∧ w.heap.size < w'.heap.size ∧ Below w.heap.size w w')
      (first | (exact ⟨by simp, by simp, by simp, by go_grown⟩) | (go_split_ands; exact keepS h1 (by first | assumption | simp) (by first | assumption | simp) (by first | assumption | simp) (by first | assumption | go_grown)) | go_keep)
      (first | (go_at_call 25; refine (reftime_tm _ _).mono ?_; rintro r w1 ⟨rfl, rfl⟩) | (go_at_call 18; refine (refof_any _ _ _ _).mono ?_; rintro r w1 ⟨rfl, h1⟩))
    all_goals go_split_ands
    all_goals go_wp2_with fail
    all_goals go_region_held3 (fun w' => w'.cell? ⟨w.heap.size, 0, none⟩ = some (.int .i64 (evy e)) ∧ w'.cell? ⟨w.heap.size, 1, none⟩ = some (.int .i64 (dlt d)) ∧ w.heap.size < w'.heap.size ∧ Below w.heap.size w w')
      (first | (exact ⟨by simp, by simp, by simp, by go_grown⟩) | (go_split_ands; exact keepS h1 (by first | assumption | simp) (by first | assumption | simp) (by first | assumption | simp) (by first | assumption | go_grown)) | go_keep)
      (first | (go_at_call 25; refine (reftime_tm _ _).mono ?_; rintro r w1 ⟨rfl, rfl⟩) | (go_at_call 18; refine (refof_any _ _ _ _).mono ?_; rintro r w1 ⟨rfl, h1⟩))
    all_goals go_split_ands
    all_goals (go_wp2; go_returns; exact ⟨ret_int (by unfold ripe; rw [if_neg (by omega)]), by assumption⟩)
end Go.Proofs.Ytndchjaejcpkdaa
