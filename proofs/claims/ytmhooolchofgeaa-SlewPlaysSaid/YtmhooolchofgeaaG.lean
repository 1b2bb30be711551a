/- The reference's functions of slew: Up, Ticks, Aim, Step. -/
import Derived.Test.YtmhooolchofgeaaC
import Derived.StillTailTactics
namespace Go.Proofs.Ytmhooolchofgeaa
open Go Go.RowKit Go.ChangeShapes Go.WideShapes
set_option linter.unusedVariables false

theorem refaim_any (l m c : Int) (w : World) :
    Calls Try.prog 12 #[.agg #[.int .i64 l, .int .i64 m], .int .i64 c] w fun r w' => r = .returned (.agg #[.int .i64 (aim c), .int .i64 m]) ∧ Below w.heap.size w w' := by
  have hi : cl c (-1152921504606846976) 1152921504606846976 = aim c := rfl
  go_enter Try.func12, Try.ntmps12
  go_wp2_with fail
  have c1 : ((w.alloc (.cells #[.int .i64 l, .int .i64 m] 26)).alloc (.cells #[.int .i64 0, .int .i64 0] 26)).cell? ⟨w.heap.size, 1, none⟩ = some (.int .i64 m) := by go_cell
  have hb : Below w.heap.size w ((w.alloc (.cells #[.int .i64 l, .int .i64 m] 26)).alloc (.cells #[.int .i64 0, .int .i64 0] 26)) := by go_grown
  have hN : Bk ((w.alloc (.cells #[.int .i64 l, .int .i64 m] 26)).alloc (.cells #[.int .i64 0, .int .i64 0] 26)) (w.heap.size + 1) 26 [.int .i64 0, .int .i64 0] := by simpa using Bk.new (w.alloc (.cells #[.int .i64 l, .int .i64 m] 26)) 26 [.int .i64 0, .int .i64 0]
  generalize ((w.alloc (.cells #[.int .i64 l, .int .i64 m] 26)).alloc (.cells #[.int .i64 0, .int .i64 0] 26)) = wx at *
  obtain ⟨p, hp⟩ : ∃ p, p = w.heap.size := ⟨_, rfl⟩
  obtain ⟨q, hq⟩ : ∃ q, q = w.heap.size + 1 := ⟨_, rfl⟩
  have hqB : w.heap.size ≤ q := by omega
  have hpq : ¬ p = q := by omega
  rw [← hq] at hN
  rw [← hp] at c1
  rw [← hq, ← hp]
  clear hp hq
  have d0 := hN.cell (i := 0) rfl
  have d1 := hN.cell (i := 1) rfl
  have f0 := hN.free 0
  have f1 := hN.free 1
  go_still_tail 5, (by kernel_rfl)
  still_call ((refclamp_any _ _ _ _ (by omega)).mono fun _ _ h => ⟨h.1, h.2.symm⟩)
  repeat still_step
  refine wpStill_nil ?_
  change wpList _ _ _ _ _ wx.drew
  go_wp2
  have e0 : (wx.setCell ⟨q, 0, none⟩ (.int .i64 (aim c))).cell? ⟨q, 0, none⟩ = some (.int .i64 (aim c)) := hN.s0.cell rfl
  have e1 : ((wx.setCell ⟨q, 0, none⟩ (.int .i64 (aim c))).setCell ⟨q, 1, none⟩ (.int .i64 m)).cell? ⟨q, 1, none⟩ = some (.int .i64 m) := hN.s0.s1.cell rfl
  refine bodyPost_ret ?_ rfl ⟨rfl, (hb.drew.setCell hqB _).setCell hqB _⟩
  simp [results, Try.results12, go_sem, e0, e1]
end Go.Proofs.Ytmhooolchofgeaa
