/- Contracts of the functions of join and of the document's answer for them, each by a walk. A node is a block of three cells: its state, from which attendance on it is ready, since which view it is a member. -/
import Derived.Test.YtachhoocdpdifaaChecked
import Derived.Test.YtachhoocdpdifaaWords
import Derived.Handy
import Derived.Outline
namespace Go.Proofs.Ytachhoocdpdifaa
open Go Go.RowKit Go.ChangeShapes Go.WideShapes
set_option linter.unusedVariables false

theorem ret_int {k : IntKind} {a b : Int} (h : a = b) : Ending.returned (.int k a) = .returned (.int k b) := by rw [h]
theorem ret_bool {a b : Bool} (h : a = b) : Ending.returned (.bool a) = .returned (.bool b) := by rw [h]
theorem bd_i64 {n : Int} (h : (Lit.int .i64 n).wf = true) : -9223372036854775808 ≤ n ∧ n ≤ 9223372036854775807 := by
  simp [Lit.wf, IntKind.min, IntKind.max, IntKind.signed, IntKind.bits] at h; omega
theorem bd_u8 {n : Int} (h : (Lit.int .u8 n).wf = true) : 0 ≤ n ∧ n ≤ 255 := by
  simp [Lit.wf, IntKind.min, IntKind.max, IntKind.signed, IntKind.bits] at h; omega

/-- A node. -/
structure J where
  s : Int
  f : Int
  c : Int
abbrev J.cells (j : J) : List Value := [.int .i64 j.s, .int .i64 j.f, .int .i64 j.c]
abbrev J.arr (j : J) : Array Value := #[.int .i64 j.s, .int .i64 j.f, .int .i64 j.c]
def J.ok (j : J) : Prop := (j.s = 0 ∨ j.s = 1 ∨ j.s = 2 ∨ j.s = 3) ∧ -1 ≤ j.f

theorem new_any (w : World) : Calls Try.prog 7 #[] w fun r w' => r = .returned (.pointer (some ⟨w.heap.size, 0, none⟩)) ∧ w.alloc (.cells #[.int .i64 0, .int .i64 (-1), .int .i64 0] 47) = w' := by
  go_enter Try.func7, Try.ntmps7
  go_wp2
  go_returns
  exact ⟨rfl, rfl⟩
theorem refnew_any (w : World) : Calls Try.prog 11 #[] w fun r w' => r = .returned (.agg #[.int .i64 0, .int .i64 (-1), .int .i64 0]) ∧ Below w.heap.size w w' := by
  go_enter Try.func11, Try.ntmps11
  go_wp2
  exact bodyPost_ret (v := .agg #[.int .i64 0, .int .i64 (-1), .int .i64 0]) (by simp [results, Try.results11, go_sem]) rfl ⟨rfl, by go_grown⟩

theorem state_any (g : Nat) (s f c : Int) (w : World) (hQ : Bk w g 47 [.int .i64 s, .int .i64 f, .int .i64 c]) :
    Calls Try.prog 17 #[.pointer (some ⟨g, 0, none⟩)] w fun r w' => r = .returned (.int .i64 s) ∧ w = w' := by
  have c0 : w.cell? ⟨g, 0, none⟩ = some (.int .i64 s) := hQ.cell rfl
  go_enter Try.func17, Try.ntmps17
  go_wp2
  go_returns
  exact ⟨rfl, rfl⟩

def memb (s : Int) : Bool := decide (2 ≤ s)
def att (s f no : Int) : Bool := (decide (s = 1) || decide (s = 2)) && decide (0 ≤ f) && decide (f ≤ no)
theorem member_any (g : Nat) (s f c : Int) (w : World) (hs : s = 0 ∨ s = 1 ∨ s = 2 ∨ s = 3) (hQ : Bk w g 47 [.int .i64 s, .int .i64 f, .int .i64 c]) :
    Calls Try.prog 8 #[.pointer (some ⟨g, 0, none⟩)] w fun r w' => r = .returned (.bool (memb s)) ∧ w = w' := by
  have c0 : w.cell? ⟨g, 0, none⟩ = some (.int .i64 s) := hQ.cell rfl
  rcases hs with rfl | rfl | rfl | rfl
  all_goals (go_enter Try.func8, Try.ntmps8; go_wp2; go_returns; exact ⟨ret_bool (by decide), rfl⟩)
theorem sends_any (g : Nat) (s f c : Int) (w : World) (hs : s = 0 ∨ s = 1 ∨ s = 2 ∨ s = 3) (hQ : Bk w g 47 [.int .i64 s, .int .i64 f, .int .i64 c]) :
    Calls Try.prog 15 #[.pointer (some ⟨g, 0, none⟩)] w fun r w' => r = .returned (.bool (decide (s = 2))) ∧ w = w' := by
  have c0 : w.cell? ⟨g, 0, none⟩ = some (.int .i64 s) := hQ.cell rfl
  rcases hs with rfl | rfl | rfl | rfl
  all_goals (go_enter Try.func15, Try.ntmps15; go_wp2; go_returns; exact ⟨ret_bool (by decide), rfl⟩)
theorem since_any (g : Nat) (s f c : Int) (w : World) (hs : s = 0 ∨ s = 1 ∨ s = 2 ∨ s = 3) (hQ : Bk w g 47 [.int .i64 s, .int .i64 f, .int .i64 c]) :
    Calls Try.prog 16 #[.pointer (some ⟨g, 0, none⟩)] w fun r w' => r = .returned (.tuple #[.int .i64 (if 2 ≤ s then c else 0), .bool (memb s)]) ∧ w = w' := by
  have c0 : w.cell? ⟨g, 0, none⟩ = some (.int .i64 s) := hQ.cell rfl
  have c2 : w.cell? ⟨g, 2, none⟩ = some (.int .i64 c) := hQ.cell rfl
  rcases hs with rfl | rfl | rfl | rfl
  all_goals (go_enter Try.func16, Try.ntmps16; go_wp2; go_returns; exact ⟨by simp [memb], rfl⟩)
theorem attends_any (g : Nat) (s f c no : Int) (w : World) (hs : s = 0 ∨ s = 1 ∨ s = 2 ∨ s = 3) (hf : -1 ≤ f) (hQ : Bk w g 47 [.int .i64 s, .int .i64 f, .int .i64 c]) :
    Calls Try.prog 9 #[.pointer (some ⟨g, 0, none⟩), .int .i64 no] w fun r w' => r = .returned (.bool (att s f no)) ∧ w = w' := by
  have c0 : w.cell? ⟨g, 0, none⟩ = some (.int .i64 s) := hQ.cell rfl
  have c1 : w.cell? ⟨g, 1, none⟩ = some (.int .i64 f) := hQ.cell rfl
  by_cases hf1 : f = -1
  · subst hf1
    have e := hid (show att s (-1) no = false by simp [att])
    rcases hs with rfl | rfl | rfl | rfl
    all_goals (go_enter Try.func9, Try.ntmps9; go_wp2; go_returns; exact ⟨ret_bool e.out.symm, rfl⟩)
  · have e1 : (f != -1) = true := by simpa using hf1
    by_cases hno : f ≤ no
    · have h2 : decide (f ≤ no) = true := decide_eq_true hno
      have h3 : decide (0 ≤ f) = true := decide_eq_true (by omega)
      have e := hid (show att s f no = (decide (s = 1) || decide (s = 2)) by simp [att, h2, h3])
      clear h2 h3
      rcases hs with rfl | rfl | rfl | rfl
      all_goals (go_enter Try.func9, Try.ntmps9; go_wp2; go_returns; exact ⟨ret_bool (by rw [e.out]; decide), rfl⟩)
    · have h2 : decide (f ≤ no) = false := decide_eq_false hno
      have e := hid (show att s f no = false by simp [att, h2])
      clear h2
      rcases hs with rfl | rfl | rfl | rfl
      all_goals (go_enter Try.func9, Try.ntmps9; go_wp2; go_returns; exact ⟨ret_bool e.out.symm, rfl⟩)
end Go.Proofs.Ytachhoocdpdifaa
