/- Contracts of what turns a node: Boot, Want, Leave, Ready, Installed, Reset. -/
import Derived.Test.YtachhoocdpdifaaA
namespace Go.Proofs.Ytachhoocdpdifaa
open Go Go.RowKit Go.ChangeShapes Go.WideShapes
set_option linter.unusedVariables false

def boot (j : J) : J × Int := if j.s = 0 then (⟨2, 0, 0⟩, 0) else (j, 15)
def want (j : J) : J × Int := if j.s = 0 then (⟨1, j.f, j.c⟩, 0) else (j, 15)
def leave (j : J) : J × Int := if j.s = 1 then (⟨0, j.f, j.c⟩, 0) else if j.s = 2 then (⟨3, j.f, j.c⟩, 0) else (j, 15)
def ready (j : J) (no : Int) : J := if no < 0 then ⟨j.s, 0, j.c⟩ else ⟨j.s, no, j.c⟩
def inst (j : J) (no : Int) (has : Bool) : J × Int := if j.s = 1 ∧ has = true ∧ att j.s j.f no = true then (⟨2, j.f, no⟩, 1) else if 2 ≤ j.s ∧ has = false then (⟨0, j.f, 0⟩, 2) else (j, 0)

theorem move_yes (g : Nat) (a b f c : Int) (w : World) (hQ : Bk w g 47 [.int .i64 a, .int .i64 f, .int .i64 c]) :
    Calls Try.prog 28 #[.pointer (some ⟨g, 0, none⟩), .int .i64 a, .int .i64 b] w fun r w' => r = .returned (.int .i64 0) ∧ w.setCell ⟨g, 0, none⟩ (.int .i64 b) = w' := by
  have c0 : w.cell? ⟨g, 0, none⟩ = some (.int .i64 a) := hQ.cell rfl
  have f0 := hQ.free 0
  go_enter Try.func28, Try.ntmps28
  go_wp2
  go_returns
  exact ⟨rfl, rfl⟩
theorem move_no (g : Nat) (s a b f c : Int) (w : World) (h : (s != a) = true) (hQ : Bk w g 47 [.int .i64 s, .int .i64 f, .int .i64 c]) :
    Calls Try.prog 28 #[.pointer (some ⟨g, 0, none⟩), .int .i64 a, .int .i64 b] w fun r w' => r = .returned (.int .i64 15) ∧ w = w' := by
  have c0 : w.cell? ⟨g, 0, none⟩ = some (.int .i64 s) := hQ.cell rfl
  go_enter Try.func28, Try.ntmps28
  go_wp2
  go_returns
  exact ⟨rfl, rfl⟩

theorem boot_any (g : Nat) (j : J) (w : World) (hj : j.ok) (hQ : Bk w g 47 j.cells) :
    Calls Try.prog 13 #[.pointer (some ⟨g, 0, none⟩)] w fun r w' => r = .returned (.int .i64 (boot j).2) ∧ Bk w' g 47 (boot j).1.cells ∧ Step g w w' := by
  obtain ⟨s, f, c⟩ := j
  obtain ⟨hs, hf⟩ := hj
  simp only [J.cells] at hs hf hQ
  have c0 : w.cell? ⟨g, 0, none⟩ = some (.int .i64 s) := hQ.cell rfl
  have c1 : w.cell? ⟨g, 1, none⟩ = some (.int .i64 f) := hQ.cell rfl
  have c2 : w.cell? ⟨g, 2, none⟩ = some (.int .i64 c) := hQ.cell rfl
  have f0 := hQ.free 0
  have f1 := hQ.free 1
  have f2 := hQ.free 2
  rcases hs with rfl | rfl | rfl | rfl
  all_goals go_enter Try.func13, Try.ntmps13
  all_goals go_wp2_with (first | (go_at_call 28; ((with_reducible refine (move_yes g _ _ f c _ hQ).mono ?_); rintro e w' ⟨rfl, rfl⟩)) | (go_at_call 28; ((with_reducible refine (move_no g _ _ _ f c _ (by decide) hQ).mono ?_); rintro e w' ⟨rfl, rfl⟩)) | go_in)
  all_goals go_returns
  all_goals first
    | exact ⟨rfl, ((hQ.s0 (a := .int .i64 2)).s1 (a := .int .i64 0)).s2 (a := .int .i64 0), (((Step.refl _ _).setCell _ _).setCell _ _).setCell _ _⟩
    | exact ⟨rfl, hQ, Step.refl _ _⟩
theorem want_any (g : Nat) (j : J) (w : World) (hj : j.ok) (hQ : Bk w g 47 j.cells) :
    Calls Try.prog 21 #[.pointer (some ⟨g, 0, none⟩)] w fun r w' => r = .returned (.int .i64 (want j).2) ∧ Bk w' g 47 (want j).1.cells ∧ Step g w w' := by
  obtain ⟨s, f, c⟩ := j
  obtain ⟨hs, hf⟩ := hj
  simp only [J.cells] at hs hf hQ
  have c0 : w.cell? ⟨g, 0, none⟩ = some (.int .i64 s) := hQ.cell rfl
  have f0 := hQ.free 0
  rcases hs with rfl | rfl | rfl | rfl
  all_goals go_enter Try.func21, Try.ntmps21
  all_goals go_wp2_with (first | (go_at_call 28; ((with_reducible refine (move_yes g _ _ f c _ hQ).mono ?_); rintro e w' ⟨rfl, rfl⟩)) | (go_at_call 28; ((with_reducible refine (move_no g _ _ _ f c _ (by decide) hQ).mono ?_); rintro e w' ⟨rfl, rfl⟩)) | go_in)
  all_goals go_returns
  all_goals first
    | exact ⟨rfl, hQ.s0, (Step.refl _ _).setCell _ _⟩
    | exact ⟨rfl, hQ, Step.refl _ _⟩
theorem leave_any (g : Nat) (j : J) (w : World) (hj : j.ok) (hQ : Bk w g 47 j.cells) :
    Calls Try.prog 22 #[.pointer (some ⟨g, 0, none⟩)] w fun r w' => r = .returned (.int .i64 (leave j).2) ∧ Bk w' g 47 (leave j).1.cells ∧ Step g w w' := by
  obtain ⟨s, f, c⟩ := j
  obtain ⟨hs, hf⟩ := hj
  simp only [J.cells] at hs hf hQ
  have c0 : w.cell? ⟨g, 0, none⟩ = some (.int .i64 s) := hQ.cell rfl
  have f0 := hQ.free 0
  rcases hs with rfl | rfl | rfl | rfl
  all_goals go_enter Try.func22, Try.ntmps22
  all_goals go_wp2_with (first | (go_at_call 28; ((with_reducible refine (move_yes g _ _ f c _ hQ).mono ?_); rintro e w' ⟨rfl, rfl⟩)) | (go_at_call 28; ((with_reducible refine (move_no g _ _ _ f c _ (by decide) hQ).mono ?_); rintro e w' ⟨rfl, rfl⟩)) | go_in)
  all_goals go_returns
  all_goals first
    | exact ⟨rfl, hQ.s0, (Step.refl _ _).setCell _ _⟩
    | exact ⟨rfl, hQ, Step.refl _ _⟩
theorem ready_any (g : Nat) (j : J) (no : Int) (w : World) (hQ : Bk w g 47 j.cells) :
    Calls Try.prog 19 #[.pointer (some ⟨g, 0, none⟩), .int .i64 no] w fun r w' => r = .returned (.tuple #[]) ∧ Bk w' g 47 (ready j no).cells ∧ Step g w w' := by
  obtain ⟨s, f, c⟩ := j
  simp only [J.cells] at hQ
  have c1 : w.cell? ⟨g, 1, none⟩ = some (.int .i64 f) := hQ.cell rfl
  have f1 := hQ.free 1
  by_cases hn : no < 0
  · have e := hid (show (ready ⟨s, f, c⟩ no).cells = [.int .i64 s, .int .i64 0, .int .i64 c] by simp [ready, hn])
    go_enter Try.func19, Try.ntmps19
    go_wp2
    go_returns
    exact ⟨rfl, e.out ▸ hQ.s1, (Step.refl _ _).setCell _ _⟩
  · have e := hid (show (ready ⟨s, f, c⟩ no).cells = [.int .i64 s, .int .i64 no, .int .i64 c] by simp [ready, hn])
    go_enter Try.func19, Try.ntmps19
    go_wp2
    go_returns
    exact ⟨rfl, e.out ▸ hQ.s1, (Step.refl _ _).setCell _ _⟩
theorem reset_any (g : Nat) (j : J) (w : World) (hQ : Bk w g 47 j.cells) :
    Calls Try.prog 20 #[.pointer (some ⟨g, 0, none⟩)] w fun r w' => r = .returned (.tuple #[]) ∧ Bk w' g 47 [.int .i64 0, .int .i64 (-1), .int .i64 0] ∧ Step g w w' := by
  obtain ⟨s, f, c⟩ := j
  simp only [J.cells] at hQ
  have c0 : w.cell? ⟨g, 0, none⟩ = some (.int .i64 s) := hQ.cell rfl
  have c1 : w.cell? ⟨g, 1, none⟩ = some (.int .i64 f) := hQ.cell rfl
  have c2 : w.cell? ⟨g, 2, none⟩ = some (.int .i64 c) := hQ.cell rfl
  have f0 := hQ.free 0
  have f1 := hQ.free 1
  have f2 := hQ.free 2
  have z := hQ.lt
  go_enter Try.func20, Try.ntmps20
  go_wp2
  go_end0
  exact ⟨rfl, (((hQ.s0 (a := .int .i64 0)).s1 (a := .int .i64 (-1))).s2 (a := .int .i64 0)).alloc _, ((((Step.refl _ _).setCell _ _).setCell _ _).setCell _ _).alloc _⟩
set_option maxHeartbeats 2000000 in
theorem inst_any (g : Nat) (j : J) (no : Int) (has : Bool) (w : World) (hj : j.ok) (hQ : Bk w g 47 j.cells) :
    Calls Try.prog 14 #[.pointer (some ⟨g, 0, none⟩), .int .i64 no, .bool has] w fun r w' => r = .returned (.int .i64 (inst j no has).2) ∧ Bk w' g 47 (inst j no has).1.cells ∧ Step g w w' := by
  obtain ⟨s, f, c⟩ := j
  obtain ⟨hs, hf⟩ := hj
  simp only [J.cells] at hs hf hQ
  have c0 : w.cell? ⟨g, 0, none⟩ = some (.int .i64 s) := hQ.cell rfl
  have c2 : w.cell? ⟨g, 2, none⟩ = some (.int .i64 c) := hQ.cell rfl
  have f0 := hQ.free 0
  have f2 := hQ.free 2
  cases ha : att s f no
  · have hA : Calls Try.prog 9 #[.pointer (some ⟨g, 0, none⟩), .int .i64 no] w fun r w' => r = .returned (.bool false) ∧ w = w' := ha ▸ attends_any g s f c no w hs hf hQ
    have hA' := hid hA
    have e := hid (show inst ⟨s, f, c⟩ no has = if 2 ≤ s ∧ has = false then (⟨0, f, 0⟩, 2) else (⟨s, f, c⟩, 0) by simp [inst, ha])
    clear ha hA
    rw [e.out]
    cases has <;> rcases hs with rfl | rfl | rfl | rfl
    all_goals go_enter Try.func14, Try.ntmps14
    all_goals go_wp2_with (first | (go_at_call 9; refine hA'.out.mono ?_; rintro e w' ⟨rfl, rfl⟩) | go_in)
    all_goals go_returns
    all_goals first
      | exact ⟨rfl, (hQ.s0 (a := .int .i64 2)).s2 (a := .int .i64 no), ((Step.refl _ _).setCell _ _).setCell _ _⟩
      | exact ⟨rfl, (hQ.s0 (a := .int .i64 0)).s2 (a := .int .i64 0), ((Step.refl _ _).setCell _ _).setCell _ _⟩
      | exact ⟨rfl, hQ, Step.refl _ _⟩
  · have hA : Calls Try.prog 9 #[.pointer (some ⟨g, 0, none⟩), .int .i64 no] w fun r w' => r = .returned (.bool true) ∧ w = w' := ha ▸ attends_any g s f c no w hs hf hQ
    have hA' := hid hA
    have e := hid (show inst ⟨s, f, c⟩ no has = if s = 1 ∧ has = true then (⟨2, f, no⟩, 1) else if 2 ≤ s ∧ has = false then (⟨0, f, 0⟩, 2) else (⟨s, f, c⟩, 0) by simp [inst, ha])
    clear ha hA
    rw [e.out]
    cases has <;> rcases hs with rfl | rfl | rfl | rfl
    all_goals go_enter Try.func14, Try.ntmps14
    all_goals go_wp2_with (first | (go_at_call 9; refine hA'.out.mono ?_; rintro e w' ⟨rfl, rfl⟩) | go_in)
    all_goals go_returns
    all_goals first
      | exact ⟨rfl, (hQ.s0 (a := .int .i64 2)).s2 (a := .int .i64 no), ((Step.refl _ _).setCell _ _).setCell _ _⟩
      | exact ⟨rfl, (hQ.s0 (a := .int .i64 0)).s2 (a := .int .i64 0), ((Step.refl _ _).setCell _ _).setCell _ _⟩
      | exact ⟨rfl, hQ, Step.refl _ _⟩
end Go.Proofs.Ytachhoocdpdifaa
