/- Contracts of the functions of slew that a clock calls, and of the document's answer for them, each by a walk. A correction is a block of two cells: what is left, and how much is made in a step. -/
import Derived.Test.YtnfoipkmeiklhaaChecked
import Derived.Test.YtnfoipkmeiklhaaWords
import Derived.Handy
import Derived.Outline
import Derived.StillTailTactics
namespace Go.Proofs.Ytnfoipkmeiklhaa
open Go Go.RowKit Go.ChangeShapes Go.WideShapes
set_option linter.unusedVariables false

/-- a number kept within bounds -/
def cl (x lo hi : Int) : Int := if x < lo then lo else if hi < x then hi else x
theorem cl_bd (x : Int) {lo hi : Int} (h : lo ≤ hi) : lo ≤ cl x lo hi ∧ cl x lo hi ≤ hi := by unfold cl; split <;> (try split) <;> omega
theorem cl_in {x lo hi : Int} (h0 : lo ≤ x) (h1 : x ≤ hi) : cl x lo hi = x := by unfold cl; rw [if_neg (by omega), if_neg (by omega)]
theorem ret_int {k : IntKind} {a b : Int} (h : a = b) : Ending.returned (.int k a) = .returned (.int k b) := by rw [h]
theorem ret_bool {a b : Bool} (h : a = b) : Ending.returned (.bool a) = .returned (.bool b) := by rw [h]
theorem bd_i64 {n : Int} (h : (Lit.int .i64 n).wf = true) : -9223372036854775808 ≤ n ∧ n ≤ 9223372036854775807 := by
  simp [Lit.wf, IntKind.min, IntKind.max, IntKind.signed, IntKind.bits] at h; omega
theorem bd_u8 {n : Int} (h : (Lit.int .u8 n).wf = true) : 0 ≤ n ∧ n ≤ 255 := by
  simp [Lit.wf, IntKind.min, IntKind.max, IntKind.signed, IntKind.bits] at h; omega
theorem bd_i16 {n : Int} (h : (Lit.int .i16 n).wf = true) : -32768 ≤ n ∧ n ≤ 32767 := by
  simp [Lit.wf, IntKind.min, IntKind.max, IntKind.signed, IntKind.bits] at h; omega

theorem clamp_any (x lo hi : Int) (w : World) (h : lo ≤ hi) :
    Calls Try.prog 25 #[.int .i64 x, .int .i64 lo, .int .i64 hi] w fun e w' => e = .returned (.int .i64 (cl x lo hi)) ∧ w = w' := by
  go_enter Try.func25, Try.ntmps25
  go_wp2
  all_goals (go_returns; refine ⟨ret_int ?_, rfl⟩; unfold cl; (repeat' split) <;> omega)
theorem refclamp_any (x lo hi : Int) (w : World) (h : lo ≤ hi) :
    Calls Try.prog 32 #[.int .i64 x, .int .i64 lo, .int .i64 hi] w fun e w' => e = .returned (.int .i64 (cl x lo hi)) ∧ w = w' := by
  go_enter Try.func32, Try.ntmps32
  go_wp2
  all_goals (go_returns; refine ⟨ret_int ?_, rfl⟩; unfold cl; (repeat' split) <;> omega)

theorem new_any (m : Int) (w : World) :
    Calls Try.prog 19 #[.int .i64 m] w fun r w' => r = .returned (.pointer (some ⟨w.heap.size, 0, none⟩)) ∧ w.alloc (.cells #[.int .i64 0, .int .i64 (cl m 1 256)] 59) = w' := by
  go_enter Try.func19, Try.ntmps19
  go_wp2_with (go_at_call 25; refine (clamp_any _ _ _ _ (by omega)).mono ?_; rintro e w' ⟨rfl, rfl⟩)
  go_returns
  exact ⟨rfl, rfl⟩
theorem refnew_any (m : Int) (w : World) :
    Calls Try.prog 28 #[.int .i64 m] w fun r w' => r = .returned (.agg #[.int .i64 0, .int .i64 (cl m 1 256)]) ∧ w.alloc (.cells #[.int .i64 0, .int .i64 (cl m 1 256)] 32) = w' := by
  go_enter Try.func28, Try.ntmps28
  go_wp2_with (go_at_call 32; refine (refclamp_any _ _ _ _ (by omega)).mono ?_; rintro e w' ⟨rfl, rfl⟩)
  exact bodyPost_ret (v := .agg #[.int .i64 0, .int .i64 (cl m 1 256)]) (by simp [results, Try.results28, go_sem]) rfl ⟨rfl, rfl⟩

/-- what is aimed at -/
def aim (c : Int) : Int := cl c (-1152921504606846976) 1152921504606846976
theorem aim_bd (c : Int) : -1152921504606846976 ≤ aim c ∧ aim c ≤ 1152921504606846976 := cl_bd c (by omega)
theorem aim_any (g : Nat) (l m c : Int) (w : World) (hQ : Bk w g 59 [.int .i64 l, .int .i64 m]) :
    Calls Try.prog 26 #[.pointer (some ⟨g, 0, none⟩), .int .i64 c] w fun r w' => r = .returned (.tuple #[]) ∧ w.setCell ⟨g, 0, none⟩ (.int .i64 (aim c)) = w' := by
  have c0 : w.cell? ⟨g, 0, none⟩ = some (.int .i64 l) := hQ.cell rfl
  have f0 := hQ.free 0
  go_enter Try.func26, Try.ntmps26
  go_wp2_with (go_at_call 25; refine (clamp_any _ _ _ _ (by omega)).mono ?_; rintro e w' ⟨rfl, rfl⟩)
  go_end0
  exact ⟨rfl, rfl⟩
theorem left_any (g : Nat) (l m : Int) (w : World) (hQ : Bk w g 59 [.int .i64 l, .int .i64 m]) :
    Calls Try.prog 27 #[.pointer (some ⟨g, 0, none⟩)] w fun r w' => r = .returned (.int .i64 l) ∧ w = w' := by
  have c0 : w.cell? ⟨g, 0, none⟩ = some (.int .i64 l) := hQ.cell rfl
  go_enter Try.func27, Try.ntmps27
  go_wp2
  go_returns
  exact ⟨rfl, rfl⟩

theorem stood59 : Try.prog.stoodInHeld 59 = false := by kernel_rfl
theorem flds59 : Try.prog.fieldsOf 59 = (match Try.prog.underlying 59 with | some (.struct fs) => fs | _ => #[]) := rfl
theorem eq59 (a b c d : Int) (w : World) : (Op.equalIn 10000 59 (.agg #[.int .i64 a, .int .i64 b]) (.agg #[.int .i64 c, .int .i64 d])).run Try.prog w = .ok (a == c && b == d) w := by
  show (Op.equalIn (9999 + 1) 59 _ _).run Try.prog w = _
  have hf := flds59
  rw [Try.underlying59] at hf
  rw [run_equalIn_struct w 9999 59 _ _ (by rw [hf]; exact Try.underlying59) stood59, hf]
  cases h : (a == c) <;> cases h2 : (b == d) <;> simp_all [Op.eqFields, part, go_sem, Try.underlying2]

/-- what is made in a step -/
def made (l m i : Int) : Int := if cl l (-m) m < -i then -i else cl l (-m) m
theorem made_zero {m i : Int} (h0 : 0 ≤ m) (h1 : 0 ≤ i) : made 0 m i = 0 := by unfold made; rw [cl_in (by omega) (by omega), if_neg (by omega)]
theorem made_bd (l : Int) {m i : Int} (h0 : 0 ≤ m) (h1 : 0 ≤ i) : -m ≤ made l m i ∧ made l m i ≤ m ∧ -i ≤ made l m i := by
  have := cl_bd l (show -m ≤ m by omega); unfold made; split <;> omega
theorem part_any (l m i : Int) (w : World) (h0 : 1 ≤ m) (h1 : m ≤ 256) (h2 : 0 ≤ i) (h3 : i ≤ 1048576) :
    Calls Try.prog 35 #[.agg #[.int .i64 l, .int .i64 m], .int .i64 i] w fun r w' => r = .returned (.int .i64 (made l m i)) ∧ w.alloc (.cells #[.int .i64 l, .int .i64 m] 59) = w' := by
  have q := eq59 l m 0 m
  have hb := cl_bd l (show -m ≤ m by omega)
  by_cases hl : l = 0
  · subst hl
    have mz := hid (made_zero (m := m) (i := i) (by omega) h2)
    go_enter Try.func35, Try.ntmps35
    go_wp2
    go_returns
    exact ⟨ret_int mz.out.symm, rfl⟩
  · have e : (l == 0) = false := by simpa using hl
    by_cases hi : cl l (-m) m < -i
    · go_enter Try.func35, Try.ntmps35
      go_wp2_with (go_at_call 25; refine (clamp_any _ _ _ _ (by omega)).mono ?_; rintro e w' ⟨rfl, rfl⟩)
      go_returns
      exact ⟨ret_int (by unfold made; rw [if_pos hi]), rfl⟩
    · go_enter Try.func35, Try.ntmps35
      go_wp2_with (go_at_call 25; refine (clamp_any _ _ _ _ (by omega)).mono ?_; rintro e w' ⟨rfl, rfl⟩)
      go_returns
      exact ⟨ret_int (by unfold made; rw [if_neg (by omega)]), rfl⟩

/-- by how much a clock would go on -/
def inc (x : Int) : Int := cl x 0 1048576
theorem inc_bd (x : Int) : 0 ≤ inc x ∧ inc x ≤ 1048576 := cl_bd x (by omega)
theorem step_any (g : Nat) (l m x : Int) (w : World) (hQ : Bk w g 59 [.int .i64 l, .int .i64 m]) (h0 : 1 ≤ m) (h1 : m ≤ 256) (hl : -1152921504606846976 ≤ l ∧ l ≤ 1152921504606846976) :
    Calls Try.prog 30 #[.pointer (some ⟨g, 0, none⟩), .int .i64 x] w fun r w' => r = .returned (.int .i64 (inc x + made l m (inc x))) ∧ (w.setCell ⟨g, 0, none⟩ (.int .i64 (l - made l m (inc x)))).alloc (.cells #[.int .i64 l, .int .i64 m] 59) = w' := by
  have c0 : w.cell? ⟨g, 0, none⟩ = some (.int .i64 l) := hQ.cell rfl
  have c1 : w.cell? ⟨g, 1, none⟩ = some (.int .i64 m) := hQ.cell rfl
  have f0 := hQ.free 0
  have z := hQ.lt
  have bi := inc_bd x
  have bm := made_bd l (m := m) (i := inc x) (by omega) (by omega)
  have hi : cl x 0 1048576 = inc x := rfl
  go_enter Try.func30, Try.ntmps30
  go_wp2_with (first | (go_at_call 25; refine (clamp_any _ _ _ _ (by omega)).mono ?_; rintro e w' ⟨rfl, rfl⟩) | (go_at_call 35; refine (part_any _ _ _ _ (by omega) (by omega) (by omega) (by omega)).mono ?_; rintro e w' ⟨rfl, rfl⟩))
  go_returns
  exact ⟨rfl, rfl⟩
theorem made_left (l : Int) {m i : Int} (h0 : 0 ≤ m) (h1 : 0 ≤ i) (hl : -1152921504606846976 ≤ l ∧ l ≤ 1152921504606846976) : -1152921504606846976 ≤ l - made l m i ∧ l - made l m i ≤ 1152921504606846976 := by
  unfold made cl; repeat' split
  all_goals omega


theorem refstep_any (l m x : Int) (w : World) (h0 : 1 ≤ m) (h1 : m ≤ 256) (hl : -1152921504606846976 ≤ l ∧ l ≤ 1152921504606846976) :
    Calls Try.prog 34 #[.agg #[.int .i64 l, .int .i64 m], .int .i64 x] w fun r w' => r = .returned (.tuple #[.agg #[.int .i64 (l - made l m (inc x)), .int .i64 m], .int .i64 (inc x + made l m (inc x))]) ∧ Below w.heap.size w w' := by
  have bi := inc_bd x
  obtain ⟨i, hi⟩ : ∃ i, cl x 0 1048576 = i := ⟨_, rfl⟩
  have hi2 : inc x = i := hi
  rw [hi2] at bi ⊢
  obtain ⟨d, hd⟩ : ∃ d, made l m i = d := ⟨_, rfl⟩
  have ml := made_left l (m := m) (i := i) (by omega) bi.1 hl
  have hd' : (m < l ∧ (i + m < 0 ∧ d = -i ∨ 0 ≤ i + m ∧ d = m)) ∨ (l < -m ∧ (i - m < 0 ∧ d = -i ∨ 0 ≤ i - m ∧ d = -m)) ∨ (-m ≤ l ∧ l ≤ m ∧ (i + l < 0 ∧ d = -i ∨ 0 ≤ i + l ∧ d = l)) := by
    unfold made cl at hd; repeat' split at hd
    all_goals omega
  rw [hd] at ml ⊢
  clear hd hi2
  rcases hd' with ⟨c1, ⟨c2, rfl⟩ | ⟨c2, rfl⟩⟩ | ⟨c1, ⟨c2, rfl⟩ | ⟨c2, rfl⟩⟩ | ⟨c1, c3, ⟨c2, rfl⟩ | ⟨c2, rfl⟩⟩
  · exfalso; omega
  all_goals go_enter Try.func34, Try.ntmps34
  all_goals go_wp2_with (go_at_call 32; refine (refclamp_any _ _ _ _ (by omega)).mono ?_; rintro e w' ⟨rfl, rfl⟩)
  all_goals (refine bodyPost_ret ?_ rfl ⟨rfl, by go_grown⟩; simp [results, Try.results34, go_sem])

theorem refaim_any (l m c : Int) (w : World) :
    Calls Try.prog 33 #[.agg #[.int .i64 l, .int .i64 m], .int .i64 c] w fun r w' => r = .returned (.agg #[.int .i64 (aim c), .int .i64 m]) ∧ Below w.heap.size w w' := by
  have hi : cl c (-1152921504606846976) 1152921504606846976 = aim c := rfl
  go_enter Try.func33, Try.ntmps33
  go_wp2_with fail
  have c1 : ((w.alloc (.cells #[.int .i64 l, .int .i64 m] 32)).alloc (.cells #[.int .i64 0, .int .i64 0] 32)).cell? ⟨w.heap.size, 1, none⟩ = some (.int .i64 m) := by go_cell
  have hb : Below w.heap.size w ((w.alloc (.cells #[.int .i64 l, .int .i64 m] 32)).alloc (.cells #[.int .i64 0, .int .i64 0] 32)) := by go_grown
  have hN : Bk ((w.alloc (.cells #[.int .i64 l, .int .i64 m] 32)).alloc (.cells #[.int .i64 0, .int .i64 0] 32)) (w.heap.size + 1) 32 [.int .i64 0, .int .i64 0] := by simpa using Bk.new (w.alloc (.cells #[.int .i64 l, .int .i64 m] 32)) 32 [.int .i64 0, .int .i64 0]
  generalize ((w.alloc (.cells #[.int .i64 l, .int .i64 m] 32)).alloc (.cells #[.int .i64 0, .int .i64 0] 32)) = wx at *
  obtain ⟨p, hp⟩ : ∃ p, p = w.heap.size := ⟨_, rfl⟩
  obtain ⟨q, hq⟩ : ∃ q, q = w.heap.size + 1 := ⟨_, rfl⟩
  have hqB : w.heap.size ≤ q := by omega
  have hpq : ¬ p = q := by omega
  rw [← hq] at hN
  rw [← hp] at c1
  rw [← hq, ← hp]
  clear hp hq
  have d0 := hN.cell (i := 0) rfl
  have d1 := hN.cell (i := 1) rfl
  have f0 := hN.free 0
  have f1 := hN.free 1
  go_still_tail 5, (by kernel_rfl)
  still_call ((refclamp_any _ _ _ _ (by omega)).mono fun _ _ h => ⟨h.1, h.2.symm⟩)
  repeat still_step
  refine wpStill_nil ?_
  change wpList _ _ _ _ _ wx.drew
  go_wp2
  have e0 : (wx.setCell ⟨q, 0, none⟩ (.int .i64 (aim c))).cell? ⟨q, 0, none⟩ = some (.int .i64 (aim c)) := hN.s0.cell rfl
  have e1 : ((wx.setCell ⟨q, 0, none⟩ (.int .i64 (aim c))).setCell ⟨q, 1, none⟩ (.int .i64 m)).cell? ⟨q, 1, none⟩ = some (.int .i64 m) := hN.s0.s1.cell rfl
  refine bodyPost_ret ?_ rfl ⟨rfl, (hb.drew.setCell hqB _).setCell hqB _⟩
  simp [results, Try.results33, go_sem, e0, e1]
end Go.Proofs.Ytnfoipkmeiklhaa
