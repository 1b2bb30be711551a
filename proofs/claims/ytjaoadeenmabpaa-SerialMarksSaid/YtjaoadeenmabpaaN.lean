/- Contracts of the functions on marks: None, behind, Note, Last, Count. Marks are a block of one cell, a map. -/
import Derived.Test.YtjaoadeenmabpaaM
import Derived.Deep.RegionHeld3
import Derived.Deep.DrawnRows
import Derived.StillTailTactics
namespace Go.Proofs.Ytjaoadeenmabpaa
open Go Go.RowKit Go.ChangeShapes Go.WideShapes Go.Maps
set_option linter.unusedVariables false
attribute [local go_sem ↓] Go.wp_at_zero Go.wp_at_succ

theorem none_any (w : World) : Calls Try.prog 12 #[] w fun r w' => r = .returned (.pointer (some ⟨w.heap.size + 1, 0, none⟩)) ∧ (w.alloc (.map #[] 0)).alloc (.cells #[.map (some w.heap.size)] 55) = w' := by
  have hmm := @run_makeMap Try.prog
  go_enter Try.func12, Try.ntmps12
  go_wp2
  go_returns
  exact ⟨rfl, rfl⟩

theorem stood35 : Try.prog.stoodInHeld 35 = false := by kernel_rfl
theorem flds35 : Try.prog.fieldsOf 35 = (match Try.prog.underlying 35 with | some (.struct fs) => fs | _ => #[]) := rfl
theorem eq35 (a b c a' b' c' : Int) (w : World) : (Op.equalIn 10000 35 (.agg #[.int .i64 a, .int .i64 b, .int .u32 c]) (.agg #[.int .i64 a', .int .i64 b', .int .u32 c'])).run Try.prog w = .ok (a == a' && b == b' && c == c') w := by
  show (Op.equalIn (9999 + 1) 35 _ _).run Try.prog w = _
  have hf := flds35
  rw [Try.underlying35] at hf
  rw [run_equalIn_struct w 9999 35 _ _ (by rw [hf]; exact Try.underlying35) stood35, hf]
  cases h : (a == a') <;> cases h2 : (b == b') <;> cases h3 : (c == c') <;> simp_all [Op.eqFields, part, go_sem, Try.underlying2, Try.underlying3, Try.underlying22]

/-- What comes of a message behind the last one. -/
def bh (lt lf ls t f s : Int) : Int := if t = lt ∧ f = lf ∧ s = ls then 12 else if t < lt ∨ t = lt ∧ s < ls then 11 else 0
theorem behind_any (lt lf ls t f s : Int) (w : World) :
    Calls Try.prog 20 #[.agg #[.int .i64 lt, .int .i64 lf, .int .u32 ls], .agg #[.int .i64 t, .int .i64 f, .int .u32 s]] w fun r w' => r = .returned (.int .i64 (bh lt lf ls t f s)) ∧ (w.alloc (.cells #[.int .i64 lt, .int .i64 lf, .int .u32 ls] 35)).alloc (.cells #[.int .i64 t, .int .i64 f, .int .u32 s] 35) = w' := by
  have q := eq35 t f s lt lf ls
  by_cases he : t = lt ∧ f = lf ∧ s = ls
  · have e := hid (show bh lt lf ls t f s = 12 by unfold bh; rw [if_pos he])
    have hE : (t == lt && f == lf && s == ls) = true := by simp [he.1, he.2.1, he.2.2]
    clear he
    simp only [hE] at q
    clear hE
    go_enter Try.func20, Try.ntmps20
    go_wp2
    go_returns
    exact ⟨ret_int e.out.symm, rfl⟩
  · have hE : (t == lt && f == lf && s == ls) = false := by
      rw [Bool.eq_false_iff]; intro h; simp only [Bool.and_eq_true, beq_iff_eq] at h; exact he ⟨h.1.1, h.1.2, h.2⟩
    simp only [hE] at q
    by_cases h1 : t < lt ∨ t = lt ∧ s < ls
    · have e := hid (show bh lt lf ls t f s = 11 by unfold bh; rw [if_neg he, if_pos h1])
      clear he hE
      rcases h1 with h1 | ⟨h1, h2⟩
      · go_enter Try.func20, Try.ntmps20
        go_wp2
        go_returns
        exact ⟨ret_int e.out.symm, rfl⟩
      · have t1 : decide (t < lt) = false := decide_eq_false (by omega)
        have t2 : (t == lt) = true := by simp [h1]
        clear h1
        go_enter Try.func20, Try.ntmps20
        go_wp2
        go_returns
        exact ⟨ret_int e.out.symm, rfl⟩
    · have e := hid (show bh lt lf ls t f s = 0 by unfold bh; rw [if_neg he, if_neg h1])
      clear he hE
      have t1 : decide (t < lt) = false := decide_eq_false (by omega)
      by_cases h2 : t = lt
      · have t2 : (t == lt) = true := by simp [h2]
        have t3 : decide (s < ls) = false := decide_eq_false (by omega)
        clear h1 h2
        go_enter Try.func20, Try.ntmps20
        go_wp2
        go_returns
        exact ⟨ret_int e.out.symm, rfl⟩
      · have t2 : (t == lt) = false := by simpa using h2
        clear h1 h2
        go_enter Try.func20, Try.ntmps20
        go_wp2
        go_returns
        exact ⟨ret_int e.out.symm, rfl⟩
end Go.Proofs.Ytjaoadeenmabpaa
