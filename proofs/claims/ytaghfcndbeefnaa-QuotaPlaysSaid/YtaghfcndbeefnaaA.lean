/- Contracts of the functions of quota and of the document's answer for them, each by a walk. A quota is a block of three cells: how many may wait, how long one may be, how many wait. -/
import Derived.Test.YtaghfcndbeefnaaChecked
import Derived.Test.YtaghfcndbeefnaaWords
import Derived.Handy
import Derived.Outline
namespace Go.Proofs.Ytaghfcndbeefnaa
open Go Go.RowKit Go.ChangeShapes Go.WideShapes
set_option linter.unusedVariables false

/-- a number kept within bounds -/
def cl (x lo hi : Int) : Int := if x < lo then lo else if hi < x then hi else x
theorem cl_bd (x : Int) {lo hi : Int} (h : lo ≤ hi) : lo ≤ cl x lo hi ∧ cl x lo hi ≤ hi := by unfold cl; split <;> (try split) <;> omega
theorem cl_in {x lo hi : Int} (h0 : lo ≤ x) (h1 : x ≤ hi) : cl x lo hi = x := by unfold cl; rw [if_neg (by omega), if_neg (by omega)]
theorem ret_int {k : IntKind} {a b : Int} (h : a = b) : Ending.returned (.int k a) = .returned (.int k b) := by rw [h]
theorem bd_i64 {n : Int} (h : (Lit.int .i64 n).wf = true) : -9223372036854775808 ≤ n ∧ n ≤ 9223372036854775807 := by
  simp [Lit.wf, IntKind.min, IntKind.max, IntKind.signed, IntKind.bits] at h; omega
theorem bd_u8 {n : Int} (h : (Lit.int .u8 n).wf = true) : 0 ≤ n ∧ n ≤ 255 := by
  simp [Lit.wf, IntKind.min, IntKind.max, IntKind.signed, IntKind.bits] at h; omega

theorem new_any (m b : Int) (w : World) :
    Calls Try.prog 6 #[.int .i64 m, .int .i64 b] w fun r w' => r = .returned (.pointer (some ⟨w.heap.size, 0, none⟩)) ∧ w.alloc (.cells #[.int .i64 (cl m 0 65536), .int .i64 (cl b 0 1024), .int .i64 0] 43) = w' := by
  have hm : cl m 0 65536 = if m < 0 then 0 else if 65536 < m then 65536 else m := rfl
  have hb : cl b 0 1024 = if b < 0 then 0 else if 1024 < b then 1024 else b := rfl
  go_enter Try.func6, Try.ntmps6
  go_wp2
  all_goals (go_returns; exact ⟨rfl, rfl⟩)

/-- what is told of an update: how long it is, and how much room there is -/
def ask (m b n N R : Int) : Int := if N < 0 then 1 else if b < N then 4 else if m ≤ n ∨ R < 1 then 13 else 0

theorem ask_neg {m b n N R : Int} (h : N < 0) : ask m b n N R = 1 := by unfold ask; rw [if_pos h]
theorem ask_long {m b n N R : Int} (h : ¬ N < 0) (h1 : b < N) : ask m b n N R = 4 := by unfold ask; rw [if_neg h, if_pos h1]
theorem ask_full {m b n N R : Int} (h : ¬ N < 0) (h1 : ¬ b < N) (h2 : m ≤ n ∨ R < 1) : ask m b n N R = 13 := by unfold ask; rw [if_neg h, if_neg h1, if_pos h2]
theorem ask_ok {m b n N R : Int} (h : ¬ N < 0) (h1 : ¬ b < N) (h2 : ¬ (m ≤ n ∨ R < 1)) : ask m b n N R = 0 := by unfold ask; rw [if_neg h, if_neg h1, if_neg h2]

theorem ask_any (g : Nat) (m b n N R : Int) (w : World) (c0 : w.cell? ⟨g, 0, none⟩ = some (.int .i64 m)) (c1 : w.cell? ⟨g, 1, none⟩ = some (.int .i64 b)) (c2 : w.cell? ⟨g, 2, none⟩ = some (.int .i64 n)) :
    Calls Try.prog 14 #[.pointer (some ⟨g, 0, none⟩), .int .i64 N, .int .i64 R] w fun r w' => r = .returned (.int .i64 (ask m b n N R)) ∧ ∃ k, w' = w.drewN k := by
  by_cases h : N < 0
  · go_enter Try.func14, Try.ntmps14
    go_wp2
    go_returns
    exact ⟨ret_int (ask_neg h).symm, 0, rfl⟩
  · by_cases h1 : b < N
    · go_enter Try.func14, Try.ntmps14
      go_wp2
      go_returns
      exact ⟨ret_int (ask_long (by omega) h1).symm, 0, rfl⟩
    · by_cases h2 : m ≤ n
      · have d1 : decide (m ≤ n) = true := decide_eq_true h2
        go_enter Try.func14, Try.ntmps14
        go_wp2_with fail
        go_quiet (fail)
        go_wp2
        go_returns
        exact ⟨ret_int (ask_full (by omega) (by omega) (.inl h2)).symm, _, rfl⟩
      · have d1 : decide (m ≤ n) = false := decide_eq_false h2
        by_cases h3 : R < 1
        · have d2 : decide (R < 1) = true := decide_eq_true h3
          go_enter Try.func14, Try.ntmps14
          go_wp2_with fail
          go_quiet (fail)
          go_wp2
          go_returns
          exact ⟨ret_int (ask_full (by omega) (by omega) (.inr h3)).symm, _, rfl⟩
        · have d2 : decide (R < 1) = false := decide_eq_false h3
          go_enter Try.func14, Try.ntmps14
          go_wp2_with fail
          go_quiet (fail)
          go_wp2
          go_returns
          exact ⟨ret_int (ask_ok (by omega) (by omega) (by omega)).symm, _, rfl⟩

theorem take_ok (g : Nat) (m b n N R : Int) (w : World) (c0 : w.cell? ⟨g, 0, none⟩ = some (.int .i64 m)) (c1 : w.cell? ⟨g, 1, none⟩ = some (.int .i64 b)) (c2 : w.cell? ⟨g, 2, none⟩ = some (.int .i64 n)) (f2 : w.frozen? ⟨g, 2, none⟩ = false) (h0 : 0 ≤ n) (h1 : n ≤ 65536) (h : ask m b n N R = 0) :
    Calls Try.prog 7 #[.pointer (some ⟨g, 0, none⟩), .int .i64 N, .int .i64 R] w fun r w' => r = .returned (.int .i64 0) ∧ ∃ k, w' = (w.setCell ⟨g, 2, none⟩ (.int .i64 (n + 1))).drewN k := by
  have d : (ask m b n N R == 0) = true := by simpa using h
  have h' := hid h
  clear h
  go_enter Try.func7, Try.ntmps7
  go_wp2_with (go_at_call 14; refine (ask_any g m b n N R _ c0 c1 c2).mono ?_; rintro e w' ⟨rfl, k, rfl⟩)
  go_returns
  exact ⟨ret_int h'.out, _, rfl⟩

theorem take_no (g : Nat) (m b n N R : Int) (w : World) (c0 : w.cell? ⟨g, 0, none⟩ = some (.int .i64 m)) (c1 : w.cell? ⟨g, 1, none⟩ = some (.int .i64 b)) (c2 : w.cell? ⟨g, 2, none⟩ = some (.int .i64 n)) (h : (ask m b n N R == 0) = false) :
    Calls Try.prog 7 #[.pointer (some ⟨g, 0, none⟩), .int .i64 N, .int .i64 R] w fun r w' => r = .returned (.int .i64 (ask m b n N R)) ∧ ∃ k, w' = w.drewN k := by
  go_enter Try.func7, Try.ntmps7
  go_wp2_with (go_at_call 14; refine (ask_any g m b n N R _ c0 c1 c2).mono ?_; rintro e w' ⟨rfl, k, rfl⟩)
  go_returns
  exact ⟨rfl, _, rfl⟩

theorem waiting_any (g : Nat) (n : Int) (w : World) (c2 : w.cell? ⟨g, 2, none⟩ = some (.int .i64 n)) :
    Calls Try.prog 8 #[.pointer (some ⟨g, 0, none⟩)] w fun r w' => r = .returned (.int .i64 n) ∧ w = w' := by
  go_enter Try.func8, Try.ntmps8
  go_wp2
  go_returns
  exact ⟨rfl, rfl⟩

theorem left_any (g : Nat) (m n : Int) (w : World) (c0 : w.cell? ⟨g, 0, none⟩ = some (.int .i64 m)) (c2 : w.cell? ⟨g, 2, none⟩ = some (.int .i64 n)) (h0 : 0 ≤ n) (h1 : n ≤ m) (h2 : m ≤ 65536) :
    Calls Try.prog 10 #[.pointer (some ⟨g, 0, none⟩)] w fun r w' => r = .returned (.int .i64 (m - n)) ∧ ∃ k, w' = w.drewN k := by
  have s1 : IntKind.i64.wrap (m - n) = m - n := IntWalk.i64_in _ (by omega)
  go_enter Try.func10, Try.ntmps10
  go_wp2_with fail
  go_quiet (fail)
  go_wp2
  go_returns
  exact ⟨rfl, _, rfl⟩

theorem reset_any (g : Nat) (n : Int) (w : World) (c2 : w.cell? ⟨g, 2, none⟩ = some (.int .i64 n)) (f2 : w.frozen? ⟨g, 2, none⟩ = false) :
    Calls Try.prog 16 #[.pointer (some ⟨g, 0, none⟩)] w fun r w' => r = .returned (.tuple #[]) ∧ w.setCell ⟨g, 2, none⟩ (.int .i64 0) = w' := by
  go_enter Try.func16, Try.ntmps16
  go_wp2
  go_end0
  exact ⟨rfl, rfl⟩

theorem done_any (g : Nat) (n N : Int) (w : World) (c2 : w.cell? ⟨g, 2, none⟩ = some (.int .i64 n)) (f2 : w.frozen? ⟨g, 2, none⟩ = false) (h0 : 0 ≤ n) (h1 : n ≤ 65536) :
    Calls Try.prog 9 #[.pointer (some ⟨g, 0, none⟩), .int .i64 N] w fun r w' => r = .returned (.int .i64 (cl N 0 n)) ∧ w.setCell ⟨g, 2, none⟩ (.int .i64 (n - cl N 0 n)) = w' := by
  have hN : cl N 0 n = if N < 0 then 0 else if n < N then n else N := rfl
  go_enter Try.func9, Try.ntmps9
  go_wp2
  all_goals (go_returns; exact ⟨rfl, by first | rfl | simp⟩)

theorem within_any (x e : Int) (w : World) (h : 0 ≤ e) :
    Calls Try.prog 17 #[.int .i64 x, .int .i64 e] w fun r w' => r = .returned (.int .i64 (cl x 0 e)) ∧ w = w' := by
  go_enter Try.func17, Try.ntmps17
  go_wp2
  all_goals (go_returns; refine ⟨ret_int ?_, rfl⟩; unfold cl; (repeat' split) <;> omega)

theorem refnew_any (m b : Int) (w : World) :
    Calls Try.prog 12 #[.int .i64 m, .int .i64 b] w fun r w' => r = .returned (.agg #[.int .i64 (cl m 0 65536), .int .i64 (cl b 0 1024), .int .i64 0]) ∧ w.alloc (.cells #[.int .i64 (cl m 0 65536), .int .i64 (cl b 0 1024), .int .i64 0] 33) = w' := by
  go_enter Try.func12, Try.ntmps12
  go_wp2_with (go_at_call 17; refine (within_any _ _ _ (by omega)).mono ?_; rintro e w' ⟨rfl, rfl⟩)
  exact bodyPost_ret (v := .agg #[.int .i64 (cl m 0 65536), .int .i64 (cl b 0 1024), .int .i64 0]) (by simp [results, Try.results12, go_sem]) rfl ⟨rfl, rfl⟩

theorem refask_any (m b n N R : Int) (w : World) (h0 : n ≤ m) :
    Calls Try.prog 13 #[.agg #[.int .i64 m, .int .i64 b, .int .i64 n], .int .i64 N, .int .i64 R] w fun r w' => r = .returned (.int .i64 (ask m b n N R)) ∧ w.alloc (.cells #[.int .i64 m, .int .i64 b, .int .i64 n] 33) = w' := by
  by_cases h : N < 0
  · go_enter Try.func13, Try.ntmps13
    go_wp2
    go_returns
    exact ⟨ret_int (ask_neg (by omega)).symm, rfl⟩
  · by_cases h1 : b < N
    · go_enter Try.func13, Try.ntmps13
      go_wp2
      go_returns
      exact ⟨ret_int (ask_long (by omega) (by omega)).symm, rfl⟩
    · by_cases h2 : m ≤ n
      · have d1 : (n == m) = true := by simp; omega
        go_enter Try.func13, Try.ntmps13
        go_wp2
        go_returns
        exact ⟨ret_int (ask_full (by omega) (by omega) (.inl h2)).symm, rfl⟩
      · have d1 : (n == m) = false := by simp; omega
        by_cases h3 : R < 1
        · go_enter Try.func13, Try.ntmps13
          go_wp2
          go_returns
          exact ⟨ret_int (ask_full (by omega) (by omega) (.inr h3)).symm, rfl⟩
        · go_enter Try.func13, Try.ntmps13
          go_wp2
          go_returns
          exact ⟨ret_int (ask_ok (by omega) (by omega) (by omega)).symm, rfl⟩

theorem refdone_any (m b n N : Int) (w : World) (h0 : 0 ≤ n) (h1 : n ≤ 65536) :
    Calls Try.prog 15 #[.agg #[.int .i64 m, .int .i64 b, .int .i64 n], .int .i64 N] w fun r w' => r = .returned (.tuple #[.agg #[.int .i64 m, .int .i64 b, .int .i64 (n - cl N 0 n)], .int .i64 (cl N 0 n)]) ∧ Below w.heap.size w w' := by
  have hb := cl_bd N h0
  go_enter Try.func15, Try.ntmps15
  go_wp2_with (go_at_call 17; refine (within_any _ _ _ (by omega)).mono ?_; rintro e w' ⟨rfl, rfl⟩)
  exact bodyPost_ret (v := .tuple #[.agg #[.int .i64 m, .int .i64 b, .int .i64 (n - cl N 0 n)], .int .i64 (cl N 0 n)]) (by simp [results, Try.results15, go_sem]) rfl ⟨rfl, by go_grown⟩

theorem works_any (w : World) :
    Calls Try.prog 11 #[] w fun r w' => r = .returned (.bool true) ∧ Below w.heap.size w w' := by
  have e1 : cl 1 0 65536 = 1 := by decide
  have e2 : cl 5 0 1024 = 5 := by decide
  have e3 : cl 1 0 1 = 1 := by decide
  have e4 : ask 1 5 0 6 9 = 4 := by decide
  have e5 : ask 1 5 1 1 9 = 13 := by decide
  have e6 : ask 1 5 0 1 0 = 13 := by decide
  go_enter Try.func11, Try.ntmps11
  go_wp2_with fail
  refine (new_any _ _ _).mono ?_; rintro e w1 ⟨rfl, rfl⟩
  go_wp2_with fail
  refine (take_no _ 1 5 0 _ _ _ (by go_cell) (by go_cell) (by go_cell) (by decide)).mono ?_; rintro e w1 ⟨rfl, k1, rfl⟩
  go_wp2_with fail
  refine (take_ok _ 1 5 0 _ _ _ (by go_cell) (by go_cell) (by go_cell) (by simp) (by omega) (by omega) (by decide)).mono ?_; rintro e w1 ⟨rfl, k2, rfl⟩
  go_wp2_with fail
  refine (take_no _ 1 5 1 _ _ _ (by go_cell) (by go_cell) (by go_cell) (by decide)).mono ?_; rintro e w1 ⟨rfl, k3, rfl⟩
  go_wp2_with fail
  refine (done_any _ 1 _ _ (by go_cell) (by simp) (by omega) (by omega)).mono ?_; rintro e w1 ⟨rfl, rfl⟩
  go_wp2_with fail
  refine (take_no _ 1 5 0 _ _ _ (by go_cell) (by go_cell) (by go_cell) (by decide)).mono ?_; rintro e w1 ⟨rfl, k4, rfl⟩
  go_wp2_with fail
  go_returns
  refine ⟨rfl, ?_⟩
  repeat (first | exact Below.refl _ _ | refine bel_drewN ?_ _ | refine Below.setCell ?_ (by simp) _ | refine Below.alloc ?_ (by simp) _ | refine Below.drew ?_)
end Go.Proofs.Ytaghfcndbeefnaa
