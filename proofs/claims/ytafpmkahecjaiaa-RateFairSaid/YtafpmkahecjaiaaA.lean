/- Contracts of the functions of rate and of the document's answer for them, each by a walk. -/
import Derived.Test.YtafpmkahecjaiaaChecked
import Derived.Test.YtafpmkahecjaiaaWords
import Derived.Handy
import Derived.Outline
import Derived.Deep.QuietTactic
import Derived.BigQuiet
namespace Go.Proofs.Ytafpmkahecjaiaa
open Go Go.RowKit Go.ChangeShapes Go.WideShapes
set_option linter.unusedVariables false

/-- a number kept within bounds -/
def cl (x lo hi : Int) : Int := if x < lo then lo else if hi < x then hi else x
theorem cl_bd (x : Int) {lo hi : Int} (h : lo ≤ hi) : lo ≤ cl x lo hi ∧ cl x lo hi ≤ hi := by unfold cl; split <;> (try split) <;> omega
theorem cl_in {x lo hi : Int} (h0 : lo ≤ x) (h1 : x ≤ hi) : cl x lo hi = x := by unfold cl; rw [if_neg (by omega), if_neg (by omega)]
theorem ret_int {k : IntKind} {a b : Int} (h : a = b) : Ending.returned (.int k a) = .returned (.int k b) := by rw [h]
theorem ret_bool {a b : Bool} (h : a = b) : Ending.returned (.bool a) = .returned (.bool b) := by rw [h]
theorem bd_i64 {n : Int} (h : (Lit.int .i64 n).wf = true) : -9223372036854775808 ≤ n ∧ n ≤ 9223372036854775807 := by
  simp [Lit.wf, IntKind.min, IntKind.max, IntKind.signed, IntKind.bits] at h; omega
theorem bd_u8 {n : Int} (h : (Lit.int .u8 n).wf = true) : 0 ≤ n ∧ n ≤ 255 := by
  simp [Lit.wf, IntKind.min, IntKind.max, IntKind.signed, IntKind.bits] at h; omega
theorem bd_i8 {n : Int} (h : (Lit.int .i8 n).wf = true) : -128 ≤ n ∧ n ≤ 127 := by
  simp [Lit.wf, IntKind.min, IntKind.max, IntKind.signed, IntKind.bits] at h; omega
theorem bd_u16 {n : Int} (h : (Lit.int .u16 n).wf = true) : 0 ≤ n ∧ n ≤ 65535 := by
  simp [Lit.wf, IntKind.min, IntKind.max, IntKind.signed, IntKind.bits] at h; omega
theorem bd_u32 {n : Int} (h : (Lit.int .u32 n).wf = true) : 0 ≤ n ∧ n ≤ 4294967295 := by
  simp [Lit.wf, IntKind.min, IntKind.max, IntKind.signed, IntKind.bits] at h; omega

/-- may a drift and a slewing be? -/
def good (r s : Int) : Bool := decide (0 ≤ r ∧ r < 65 ∧ 0 < s ∧ s < 257)
theorem good_any (r s : Int) (w : World) :
    Calls Try.prog 10 #[.int .i64 r, .int .i64 s] w fun e w' => e = .returned (.bool (good r s)) ∧ w = w' := by
  go_enter Try.func10, Try.ntmps10
  go_wp2
  all_goals (go_returns; refine ⟨ret_bool ?_, rfl⟩; unfold good; rw [Bool.eq_iff_iff]; simp; omega)
theorem refgood_any (r s : Int) (w : World) :
    Calls Try.prog 11 #[.int .i64 r, .int .i64 s] w fun e w' => e = .returned (.bool (good r s)) ∧ w = w' := by
  go_enter Try.func11, Try.ntmps11
  go_wp2
  all_goals (go_returns; refine ⟨ret_bool ?_, rfl⟩; unfold good; rw [Bool.eq_iff_iff]; simp; omega)
theorem good_yes {r s : Int} (h : good r s = true) : 0 ≤ r ∧ r < 65 ∧ 0 < s ∧ s < 257 := of_decide_eq_true h

def fast (r s : Int) : Int := if good r s then 1024 + r + s else 0
def slow (r s : Int) : Int := if good r s then 1024 - r - s else 0
theorem fast_any (r s : Int) (w : World) :
    Calls Try.prog 12 #[.int .i64 r, .int .i64 s] w fun e w' => e = .returned (.int .i64 (fast r s)) ∧ w = w' := by
  cases h : good r s with
  | true =>
    obtain ⟨h1, h2, h3, h4⟩ := good_yes h
    go_enter Try.func12, Try.ntmps12
    go_wp2_with (go_at_call 10; refine (good_any _ _ _).mono ?_; rintro e w' ⟨rfl, rfl⟩)
    all_goals (go_returns; refine ⟨ret_int ?_, rfl⟩; unfold fast; simp [h])
  | false =>
    go_enter Try.func12, Try.ntmps12
    go_wp2_with (go_at_call 10; refine (good_any _ _ _).mono ?_; rintro e w' ⟨rfl, rfl⟩)
    all_goals (go_returns; refine ⟨ret_int ?_, rfl⟩; unfold fast; simp [h])
theorem reffast_any (r s : Int) (w : World) :
    Calls Try.prog 13 #[.int .i64 r, .int .i64 s] w fun e w' => e = .returned (.int .i64 (fast r s)) ∧ w = w' := by
  cases h : good r s with
  | true =>
    obtain ⟨h1, h2, h3, h4⟩ := good_yes h
    go_enter Try.func13, Try.ntmps13
    go_wp2_with (go_at_call 11; refine (refgood_any _ _ _).mono ?_; rintro e w' ⟨rfl, rfl⟩)
    all_goals (go_returns; refine ⟨ret_int ?_, rfl⟩; unfold fast; simp [h])
  | false =>
    go_enter Try.func13, Try.ntmps13
    go_wp2_with (go_at_call 11; refine (refgood_any _ _ _).mono ?_; rintro e w' ⟨rfl, rfl⟩)
    all_goals (go_returns; refine ⟨ret_int ?_, rfl⟩; unfold fast; simp [h])
theorem slow_any (r s : Int) (w : World) :
    Calls Try.prog 14 #[.int .i64 r, .int .i64 s] w fun e w' => e = .returned (.int .i64 (slow r s)) ∧ w = w' := by
  cases h : good r s with
  | true =>
    obtain ⟨h1, h2, h3, h4⟩ := good_yes h
    go_enter Try.func14, Try.ntmps14
    go_wp2_with (go_at_call 10; refine (good_any _ _ _).mono ?_; rintro e w' ⟨rfl, rfl⟩)
    all_goals (go_returns; refine ⟨ret_int ?_, rfl⟩; unfold slow; simp [h])
  | false =>
    go_enter Try.func14, Try.ntmps14
    go_wp2_with (go_at_call 10; refine (good_any _ _ _).mono ?_; rintro e w' ⟨rfl, rfl⟩)
    all_goals (go_returns; refine ⟨ret_int ?_, rfl⟩; unfold slow; simp [h])
theorem refslow_any (r s : Int) (w : World) :
    Calls Try.prog 15 #[.int .i64 r, .int .i64 s] w fun e w' => e = .returned (.int .i64 (slow r s)) ∧ w = w' := by
  cases h : good r s with
  | true =>
    obtain ⟨h1, h2, h3, h4⟩ := good_yes h
    go_enter Try.func15, Try.ntmps15
    go_wp2_with (go_at_call 11; refine (refgood_any _ _ _).mono ?_; rintro e w' ⟨rfl, rfl⟩)
    all_goals (go_returns; refine ⟨ret_int ?_, rfl⟩; unfold slow; simp [h])
  | false =>
    go_enter Try.func15, Try.ntmps15
    go_wp2_with (go_at_call 11; refine (refgood_any _ _ _).mono ?_; rintro e w' ⟨rfl, rfl⟩)
    all_goals (go_returns; refine ⟨ret_int ?_, rfl⟩; unfold slow; simp [h])

theorem clamp_any (x lo hi : Int) (w : World) (h : lo ≤ hi) :
    Calls Try.prog 27 #[.int .i64 x, .int .i64 lo, .int .i64 hi] w fun e w' => e = .returned (.int .i64 (cl x lo hi)) ∧ w = w' := by
  go_enter Try.func27, Try.ntmps27
  go_wp2
  all_goals (go_returns; refine ⟨ret_int ?_, rfl⟩; unfold cl; (repeat' split) <;> omega)
theorem sclamp_any (x lo hi : Int) (w : World) (h : lo ≤ hi) :
    Calls Try.prog 30 #[.int .i64 x, .int .i64 lo, .int .i64 hi] w fun e w' => e = .returned (.int .i64 (cl x lo hi)) ∧ w = w' := by
  go_enter Try.func30, Try.ntmps30
  go_wp2
  all_goals (go_returns; refine ⟨ret_int ?_, rfl⟩; unfold cl; (repeat' split) <;> omega)

/-- a quotient of numbers that are not below nought -/
theorem div_any (a b : Int) (w : World) (h0 : 0 ≤ a) (h1 : a ≤ 1152921504606846976) (h2 : 1 ≤ b) (h3 : b ≤ 9223372036854775807) :
    Calls Try.prog 29 #[.int .i64 a, .int .i64 b] w fun e w' => e = .returned (.tuple #[.int .i64 (a / b), .bool true]) ∧ ∃ k, w' = w.drewN k := by
  have b0 : (b != 0) = true := by simp; omega
  have b1 : (b != -1) = true := by simp; omega
  have b2 : (a != -9223372036854775808) = true := by simp; omega
  have r0 : 0 ≤ a % b := Int.emod_nonneg _ (by omega)
  have q0 : 0 ≤ a / b := Int.ediv_nonneg h0 (by omega)
  have q1 : a / b ≤ a := Int.ediv_le_self _ h0
  have r1 : a % b < b := Int.emod_lt_of_pos _ (by omega)
  have t0 : a.tdiv b = a / b := Int.tdiv_eq_ediv_of_nonneg h0
  have t1 : a.tmod b = a % b := Int.tmod_eq_emod_of_nonneg h0
  have t2 : IntKind.i64.wrap (a / b) = a / b := IntWalk.i64_in _ (by omega)
  have t3 : IntKind.i64.wrap (a % b) = a % b := IntWalk.i64_in _ (by omega)
  have t4 : b ≠ 0 := by omega
  have t5 : (b == 0) = false := by simp; omega
  by_cases hr : a % b = 0
  · have u1 : (a % b != 0) = false := by simp [hr]
    clear hr
    go_enter Try.func29, Try.ntmps29
    go_wp2
    go_quiet (fail)
    go_wp2
    go_returns
    exact ⟨rfl, _, rfl⟩
  · have u1 : (a % b != 0) = true := by simp [hr]
    have u2 : decide (a % b < 0) = false := decide_eq_false (by omega)
    have u3 : decide (b < 0) = false := decide_eq_false (by omega)
    go_enter Try.func29, Try.ntmps29
    go_wp2
    go_quiet (fail)
    go_wp2
    go_returns
    exact ⟨rfl, _, rfl⟩

/-- how many ticks grains take -/
def tk (g s : Int) : Int := if g < 0 ∨ s < 1 then 0 else (if 1152921504606846976 < g then 1152921504606846976 else g) / s + 2

theorem tk_no {g s : Int} (h : g < 0 ∨ s < 1) : tk g s = 0 := by unfold tk; rw [if_pos h]
theorem tk_yes {g s : Int} (h : 0 ≤ g) (h1 : 1 ≤ s) : tk g s = cl g 0 1152921504606846976 / s + 2 := by
  unfold tk cl; rw [if_neg (show ¬ (g < 0 ∨ s < 1) by omega), if_neg (show ¬ g < 0 by omega)]

theorem ticks_any (g s : Int) (w : World) (b0 : -9223372036854775808 ≤ g ∧ g ≤ 9223372036854775807) (b1 : -9223372036854775808 ≤ s ∧ s ≤ 9223372036854775807) :
    Calls Try.prog 17 #[.int .i64 g, .int .i64 s] w fun e w' => e = .returned (.int .i64 (tk g s)) ∧ ∃ k, w' = w.drewN k := by
  by_cases h : g < 0 ∨ s < 1
  · have e := hid (tk_no h)
    rcases h with h | h
    · go_enter Try.func17, Try.ntmps17
      go_wp2
      go_returns
      exact ⟨ret_int e.out.symm, 0, rfl⟩
    · by_cases hg : g < 0
      · go_enter Try.func17, Try.ntmps17
        go_wp2
        go_returns
        exact ⟨ret_int e.out.symm, 0, rfl⟩
      · go_enter Try.func17, Try.ntmps17
        go_wp2
        go_returns
        exact ⟨ret_int e.out.symm, 0, rfl⟩
  · have e := hid (tk_yes (g := g) (s := s) (by omega) (by omega))
    have hg : 0 ≤ g := by omega
    have hs : 1 ≤ s := by omega
    clear h
    by_cases hm : 1152921504606846976 < g
    · have q0 : 0 ≤ 1152921504606846976 / s := Int.ediv_nonneg (by omega) (by omega)
      have q1 : 1152921504606846976 / s ≤ 1152921504606846976 := Int.ediv_le_self _ (by omega)
      go_enter Try.func17, Try.ntmps17
      go_wp2_with (go_at_call 29; refine (div_any _ _ _ (by omega) (by omega) (by omega) (by omega)).mono ?_; rintro e w' ⟨rfl, k, rfl⟩)
      go_returns
      exact ⟨ret_int (by rw [e.out]; unfold cl; rw [if_neg (by omega), if_pos hm]), _, rfl⟩
    · have q0 : 0 ≤ g / s := Int.ediv_nonneg (by omega) (by omega)
      have q1 : g / s ≤ g := Int.ediv_le_self _ (by omega)
      go_enter Try.func17, Try.ntmps17
      go_wp2_with (go_at_call 29; refine (div_any _ _ _ (by omega) (by omega) (by omega) (by omega)).mono ?_; rintro e w' ⟨rfl, k, rfl⟩)
      go_returns
      exact ⟨ret_int (by rw [e.out, cl_in (by omega) (by omega)]), _, rfl⟩

theorem refticks_any (g s : Int) (w : World) (b0 : -9223372036854775808 ≤ g ∧ g ≤ 9223372036854775807) (b1 : -9223372036854775808 ≤ s ∧ s ≤ 9223372036854775807) :
    Calls Try.prog 18 #[.int .i64 g, .int .i64 s] w fun e w' => e = .returned (.int .i64 (tk g s)) ∧ w = w' := by
  by_cases h : g < 0 ∨ s < 1
  · have e := hid (tk_no h)
    by_cases hg : g < 0
    · go_enter Try.func18, Try.ntmps18
      go_wp2
      go_returns
      exact ⟨ret_int e.out.symm, rfl⟩
    · have hs : s < 1 := by omega
      go_enter Try.func18, Try.ntmps18
      go_wp2
      go_returns
      exact ⟨ret_int e.out.symm, rfl⟩
  · have e := hid (tk_yes (g := g) (s := s) (by omega) (by omega))
    have hg : 0 ≤ g := by omega
    have hs : 1 ≤ s := by omega
    clear h
    by_cases hm : 1152921504606846976 < g
    · have q0 : 0 ≤ 1152921504606846976 / s := Int.ediv_nonneg (by omega) (by omega)
      have q1 : 1152921504606846976 / s ≤ 1152921504606846976 := Int.ediv_le_self _ (by omega)
      go_enter Try.func18, Try.ntmps18
      go_wp2
      go_returns
      exact ⟨ret_int (by rw [e.out]; unfold cl; rw [if_neg (by omega), if_pos hm]), rfl⟩
    · have q0 : 0 ≤ g / s := Int.ediv_nonneg (by omega) (by omega)
      have q1 : g / s ≤ g := Int.ediv_le_self _ (by omega)
      go_enter Try.func18, Try.ntmps18
      go_wp2
      go_returns
      exact ⟨ret_int (by rw [e.out, cl_in (by omega) (by omega)]), rfl⟩

/-- how far a hardware clock goes -/
def inc (d : Int) : Int := cl d (-1024) 1047552 + 1024
theorem inc_any (d : Int) (w : World) :
    Calls Try.prog 19 #[.int .i64 d] w fun e w' => e = .returned (.int .i64 (inc d)) ∧ w = w' := by
  have b := cl_bd d (show (-1024 : Int) ≤ 1047552 by omega)
  go_enter Try.func19, Try.ntmps19
  go_wp2_with (go_at_call 30; refine (sclamp_any _ _ _ _ (by omega)).mono ?_; rintro e w' ⟨rfl, rfl⟩)
  all_goals (go_returns; refine ⟨ret_int ?_, rfl⟩; unfold inc; omega)
theorem refinc_any (d : Int) (w : World) :
    Calls Try.prog 20 #[.int .i64 d] w fun e w' => e = .returned (.int .i64 (inc d)) ∧ w = w' := by
  have b := cl_bd d (show (-1024 : Int) ≤ 1047552 by omega)
  go_enter Try.func20, Try.ntmps20
  go_wp2_with (go_at_call 27; refine (clamp_any _ _ _ _ (by omega)).mono ?_; rintro e w' ⟨rfl, rfl⟩)
  all_goals (go_returns; refine ⟨ret_int ?_, rfl⟩; unfold inc; omega)

def fair (d r : Int) : Bool := decide (0 ≤ r ∧ -r ≤ d ∧ d ≤ r)
theorem fair_any (d r : Int) (w : World) (h0 : 0 ≤ r) (h1 : r ≤ 65535) :
    Calls Try.prog 21 #[.int .i64 d, .int .i64 r] w fun e w' => e = .returned (.bool (fair d r)) ∧ w = w' := by
  go_enter Try.func21, Try.ntmps21
  go_wp2
  all_goals (go_returns; refine ⟨ret_bool ?_, rfl⟩; unfold fair; rw [Bool.eq_iff_iff]; simp; omega)
theorem reffair_any (d r : Int) (w : World) (h0 : 0 ≤ r) (h1 : r ≤ 65535) :
    Calls Try.prog 22 #[.int .i64 d, .int .i64 r] w fun e w' => e = .returned (.bool (fair d r)) ∧ w = w' := by
  go_enter Try.func22, Try.ntmps22
  go_wp2
  all_goals (go_returns; refine ⟨ret_bool ?_, rfl⟩; unfold fair; rw [Bool.eq_iff_iff]; simp; omega)

theorem works_any (w : World) :
    Calls Try.prog 16 #[] w fun r w' => r = .returned (.bool true) ∧ ∃ k, w' = w.drewN k := by
  have e1 : fast 1 32 = 1057 := by decide
  have e2 : slow 1 32 = 991 := by decide
  have e3 : tk 2000 991 = 4 := by decide
  have e4 : inc (-3) = 1021 := by decide
  go_enter Try.func16, Try.ntmps16
  go_wp2_with (first | (go_at_call 12; refine (fast_any _ _ _).mono ?_; rintro e w' ⟨rfl, rfl⟩) | (go_at_call 14; refine (slow_any _ _ _).mono ?_; rintro e w' ⟨rfl, rfl⟩) | (go_at_call 17; refine (ticks_any _ _ _ (by omega) (by omega)).mono ?_; rintro e w' ⟨rfl, k, rfl⟩) | (go_at_call 19; refine (inc_any _ _).mono ?_; rintro e w' ⟨rfl, rfl⟩))
  go_returns
  exact ⟨rfl, _, rfl⟩

/-- a time within its bounds -/
def tm (t : Int) : Int := cl t 0 1152921504606846976
theorem tm_bd (t : Int) : 0 ≤ tm t ∧ tm t ≤ 1152921504606846976 := cl_bd t (by omega)
theorem time_any (t : Int) (w : World) :
    Calls Try.prog 31 #[.int .i64 t] w fun e w' => e = .returned (.int .i64 (tm t)) ∧ w = w' := by
  go_enter Try.func31, Try.ntmps31
  go_wp2_with (go_at_call 30; refine (sclamp_any _ _ _ _ (by omega)).mono ?_; rintro e w' ⟨rfl, rfl⟩)
  go_returns
  exact ⟨rfl, rfl⟩
theorem clamp_tm (t : Int) (w : World) :
    Calls Try.prog 27 #[.int .i64 t, .int .i64 0, .int .i64 1152921504606846976] w fun e w' => e = .returned (.int .i64 (tm t)) ∧ w = w' := clamp_any t 0 1152921504606846976 w (by omega)
end Go.Proofs.Ytafpmkahecjaiaa
