/- A hardware clock: a block of two cells, what it tells and how wrong it is. Contracts of its methods. -/
import Derived.Test.YtafpmkahecjaiaaA
import Derived.StillTailTactics
namespace Go.Proofs.Ytafpmkahecjaiaa
open Go Go.RowKit Go.ChangeShapes Go.WideShapes
set_option linter.unusedVariables false

theorem now_any (g : Nat) (a d : Int) (w : World) (hQ : Bk w g 44 [.int .i64 a, .int .i64 d]) :
    Calls Try.prog 25 #[.pointer (some ⟨g, 0, none⟩)] w fun r w' => r = .returned (.int .i64 a) ∧ w = w' := by
  have c0 : w.cell? ⟨g, 0, none⟩ = some (.int .i64 a) := hQ.cell rfl
  go_enter Try.func25, Try.ntmps25
  go_wp2
  go_returns
  exact ⟨rfl, rfl⟩
theorem drift_any (g : Nat) (a d x : Int) (w : World) (hQ : Bk w g 44 [.int .i64 a, .int .i64 d]) :
    Calls Try.prog 23 #[.pointer (some ⟨g, 0, none⟩), .int .i64 x] w fun r w' => r = .returned (.tuple #[]) ∧ w.setCell ⟨g, 1, none⟩ (.int .i64 x) = w' := by
  have c1 : w.cell? ⟨g, 1, none⟩ = some (.int .i64 d) := hQ.cell rfl
  have f1 := hQ.free 1
  go_enter Try.func23, Try.ntmps23
  go_wp2
  go_end0
  exact ⟨rfl, rfl⟩
theorem new_any (a : Int) (w : World) :
    Calls Try.prog 26 #[.int .i64 a] w fun r w' => r = .returned (.pointer (some ⟨w.heap.size, 0, none⟩)) ∧ w.alloc (.cells #[.int .i64 (tm a), .int .i64 0] 44) = w' := by
  go_enter Try.func26, Try.ntmps26
  go_wp2_with (go_at_call 31; refine (time_any _ _).mono ?_; rintro e w' ⟨rfl, rfl⟩)
  go_returns
  exact ⟨rfl, rfl⟩

/-- what it tells behind a tick -/
def tick (a d : Int) : Int := tm (a + inc d)
theorem inc_bd (d : Int) : 0 ≤ inc d ∧ inc d ≤ 1048576 := by
  have := cl_bd d (show (-1024 : Int) ≤ 1047552 by omega); unfold inc; omega
theorem tick_bd (a d : Int) : 0 ≤ tick a d ∧ tick a d ≤ 1152921504606846976 := tm_bd _
theorem tick_ge (a d : Int) (h0 : 0 ≤ a) (h1 : a ≤ 1152921504606846976) : a ≤ tick a d := by
  have := inc_bd d; unfold tick tm cl; split <;> (try split) <;> omega

theorem tick_any (g : Nat) (a d : Int) (w : World) (hQ : Bk w g 44 [.int .i64 a, .int .i64 d]) (h0 : 0 ≤ a) (h1 : a ≤ 1152921504606846976) :
    Calls Try.prog 24 #[.pointer (some ⟨g, 0, none⟩)] w fun r w' => r = .returned (.int .i64 (tick a d - a)) ∧ ∃ k, w' = (w.setCell ⟨g, 0, none⟩ (.int .i64 (tick a d))).drewN k := by
  have c0 : w.cell? ⟨g, 0, none⟩ = some (.int .i64 a) := hQ.cell rfl
  have c1 : w.cell? ⟨g, 1, none⟩ = some (.int .i64 d) := hQ.cell rfl
  have f0 := hQ.free 0
  have bi := inc_bd d
  have bt := tick_bd a d
  have s1 : IntKind.i64.wrap (a + inc d) = a + inc d := IntWalk.i64_in _ (by omega)
  go_enter Try.func24, Try.ntmps24
  go_wp2_with (go_at_call 25; refine (now_any g a d _ hQ).mono ?_; rintro e w' ⟨rfl, rfl⟩)
  go_still_tail 14, (by kernel_rfl)
  still_call ((inc_any _ _).mono fun _ _ h => ⟨h.1, h.2.symm⟩)
  repeat still_step
  still_call ((time_any _ _).mono fun _ _ h => ⟨h.1, h.2.symm⟩)
  repeat still_step
  try refine wpStill_nil ?_
  change wpList _ _ _ _ _ w.drew
  go_wp2_with (go_at_call 25; refine (now_any g (tick a d) d _ (by first | exact hQ.s0 | (apply Bk.s0; assumption))).mono ?_; rintro e w' ⟨rfl, rfl⟩)
  go_returns
  exact ⟨rfl, 1, rfl⟩

theorem reftick_any (a d : Int) (w : World) (h0 : 0 ≤ a) (h1 : a ≤ 1152921504606846976) :
    Calls Try.prog 28 #[.int .i64 a, .int .i64 d] w fun r w' => r = .returned (.int .i64 (tick a d)) ∧ w = w' := by
  have bi := inc_bd d
  go_enter Try.func28, Try.ntmps28
  go_wp2_with (first | (go_at_call 20; refine (refinc_any _ _).mono ?_; rintro e w' ⟨rfl, rfl⟩) | (go_at_call 27; refine (clamp_tm _ _).mono ?_; rintro e w' ⟨rfl, rfl⟩))
  go_returns
  exact ⟨rfl, rfl⟩

theorem rateNilWalk (a0 : Int) (w : World) (w0 : (Lit.int .i64 a0).wf = true) :
    Calls Try.prog 7 #[.int .i64 a0] w fun e w' => e = .returned (.bool true) ∧ Below w.heap.size w w' := by
  go_enter Try.func7, Try.ntmps7
  go_wp2_with (first | (go_at_call 16; refine (works_any _).mono ?_; rintro e w' ⟨rfl, k, rfl⟩) | go_in)
  go_returns
  exact ⟨rfl, bel_drewN (Below.refl _ _) _⟩

set_option maxHeartbeats 2000000 in
theorem rateHardWalk (a0 : Int) (a1 : Option Addr) (len1 cap1 : Nat)  (x10 : Nat → Int) (w : World) (w0 : (Lit.int .i64 a0).wf = true) (s1 : IsSl w a1 len1 1 (fun i => [.int .i64 (x10 i)])) (l1 : len1 ≤ maxLen) (w10 : ∀ i, (Lit.int .i64 (x10 i)).wf = true) :
    Calls Try.prog 8 #[.int .i64 a0, .slice a1 len1 cap1] w fun e w' => e = .returned (.bool true) ∧ Below w.heap.size w w' := by
  unfold maxLen at l1
  have bt := tm_bd a0
  go_enter Try.func8, Try.ntmps8
  go_wp2_with (first | (go_at_call 26; refine (new_any _ _).mono ?_; rintro e w1 ⟨rfl, rfl⟩) | (go_at_call 27; refine (clamp_tm _ _).mono ?_; rintro e w' ⟨rfl, rfl⟩) | (go_at_call 25; refine (now_any _ (tm a0) 0 _ (Bk.new _ _ _)).mono ?_; rintro e w' ⟨rfl, rfl⟩))
  obtain ⟨g, hg⟩ : ∃ g, g = w.heap.size := ⟨_, rfl⟩
  rw [← hg]
  have hgB : w.heap.size ≤ g := by omega
  have hg' := hid hg
  clear hg
  go_loopw [6, 7] (fun v i wr => ∃ (k : Nat) (a d : Int), k ≤ len1 ∧ k ≤ 60 ∧ 0 ≤ a ∧ a ≤ 1152921504606846976 ∧ i = .int .i64 k ∧ v = .int .i64 a ∧ Bk wr g 44 [.int .i64 a, .int .i64 d] ∧ Below w.heap.size w wr)
    (fun _ i _ => len1 - (intOf i).toNat)
  case atStart =>
    have hg := hg'.out
    subst hg
    exact ⟨0, tm a0, 0, by omega, by omega, by omega, by omega, rfl, rfl, Bk.new _ _ _, by go_grown⟩
  case round =>
    obtain ⟨k, a, d, hk, hk2, ha0, ha1, rfl, rfl, hQ, hb⟩ := hrel
    by_cases hlt : k < len1 ∧ k < 60
    · obtain ⟨hl1, hl2⟩ := hlt
      obtain ⟨b, off, rfl, hbb, hc⟩ := s1 (by omega)
      have z0 := hQ.lt
      have hbg : ¬ g = b := by omega
      have hgb : ¬ b = g := by omega
      have hcell : wr.cell? ⟨b, off + k, none⟩ = some (.int .i64 (x10 k)) := (hb.cell (p := ⟨b, off + k, none⟩) hbb).trans (by simpa using hc k hl1 0 _ rfl)
      clear hc
      have bt := tick_bd a (x10 k)
      have tg := tick_ge a (x10 k) ha0 ha1
      go_wp2_with (first | (go_at_call 23; refine (drift_any g a d _ _ hQ).mono ?_; rintro e w' ⟨rfl, rfl⟩) | (go_at_call 28; refine (reftick_any _ _ _ (by omega) (by omega)).mono ?_; rintro e w' ⟨rfl, rfl⟩) | (go_at_call 24; refine (tick_any g a (x10 k) _ hQ.s1 (by omega) (by omega)).mono ?_; rintro e w' ⟨rfl, q, rfl⟩) | (go_at_call 25; refine (now_any g (tick a (x10 k)) (x10 k) _ (hQ.s1.s0.drewN _)).mono ?_; rintro e w' ⟨rfl, rfl⟩))
      go_roundw
      case rel => exact ⟨k+1, tick a (x10 k), x10 k, by omega, by omega, bt.1, bt.2, by go_num, rfl, hQ.s1.s0.drewN _, bel_drewN ((hb.setCell (by omega) _).setCell (by omega) _) _⟩
      case measure => simp [intOf]; omega
    · have hs1 : ¬ (k < len1 ∧ (k : Int) < 60) := by omega
      go_wp2_with (go_at_call 16; refine (works_any _).mono ?_; rintro e w' ⟨rfl, q, rfl⟩)
      all_goals (go_returns; exact ⟨rfl, bel_drewN hb _⟩)
end Go.Proofs.Ytafpmkahecjaiaa
