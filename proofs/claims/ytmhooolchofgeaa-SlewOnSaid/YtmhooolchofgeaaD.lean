/- The walk of SlewOn. -/
import Derived.Test.YtmhooolchofgeaaC
namespace Go.Proofs.Ytmhooolchofgeaa
open Go Go.RowKit Go.ChangeShapes Go.WideShapes
set_option linter.unusedVariables false

set_option maxRecDepth 100000 in
set_option maxHeartbeats 2000000 in
theorem slewOnWalk (a0 : Int) (a1 : Int) (a2 : Option Addr) (len2 cap2 : Nat) (x20 : Nat → Int) (w : World) (w0 : (Lit.int .i64 a0).wf = true) (w1 : (Lit.int .i64 a1).wf = true) (s2 : IsSl w a2 len2 1 (fun i => [.int .i64 (x20 i)])) (l2 : len2 ≤ maxLen) (w20 : ∀ i, (Lit.int .i64 (x20 i)).wf = true) :
    Calls Try.prog 4 #[.int .i64 a0, .int .i64 a1, .slice a2 len2 cap2] w fun e w' => e = .returned (.bool true) ∧ Below w.heap.size w w' := by
  unfold maxLen at l2
  have bm := cl_bd a0 (show (1 : Int) ≤ 256 by omega)
  have ba := aim_bd a1
  go_enter Try.func4, Try.ntmps4
  go_wp2_with (first | (go_at_call 7; refine (new_any _ _).mono ?_; rintro e w' ⟨rfl, rfl⟩) | (go_at_call 11; refine (aim_any _ 0 (cl a0 1 256) _ _ (Bk.new _ _ _)).mono ?_; rintro e w' ⟨rfl, rfl⟩))
  obtain ⟨g, hg⟩ : ∃ g, g = w.heap.size := ⟨_, rfl⟩
  rw [← hg]
  have hgB : w.heap.size ≤ g := by omega
  have hg' := hid hg
  clear hg
  go_loopw [8] (fun i wr => ∃ (k : Nat) (l : Int), k ≤ len2 ∧ k ≤ 60 ∧ -1152921504606846976 ≤ l ∧ l ≤ 1152921504606846976 ∧ i = .int .i64 k ∧ Bk wr g 47 [.int .i64 l, .int .i64 (cl a0 1 256)] ∧ Below w.heap.size w wr)
    (fun i _ => len2 - (intOf i).toNat)
  case atStart =>
    have hg := hg'.out
    subst hg
    exact ⟨0, aim a1, by omega, by omega, by omega, by omega, rfl, by simpa using Bk.new w 47 [.int .i64 (aim a1), .int .i64 (cl a0 1 256)], by go_grown⟩
  case round =>
    obtain ⟨k, l, hk, hk2, hl0, hl1, rfl, hQ, hb⟩ := hrel
    by_cases hlt : k < len2 ∧ k < 60
    · obtain ⟨hl2, hl3⟩ := hlt
      obtain ⟨b, off, rfl, hbb, hc⟩ := s2 (by omega)
      have z0 := hQ.lt
      have hbg : ¬ g = b := by omega
      have hgb : ¬ b = g := by omega
      have hcell : wr.cell? ⟨b, off + k, none⟩ = some (.int .i64 (x20 k)) := (hb.cell (p := ⟨b, off + k, none⟩) hbb).trans (by simpa using hc k hl2 0 _ rfl)
      clear hc
      have hx := bd_i64 (w20 k)
      have op := on_plain l (cl a0 1 256) (x20 k) bm.1 bm.2
      have ml := made_left l (m := cl a0 1 256) (i := inc (x20 k)) (by omega) (inc_bd _).1 ⟨hl0, hl1⟩
      obtain ⟨mm, hmm⟩ : ∃ mm, made l (cl a0 1 256) (inc (x20 k)) = mm := ⟨_, rfl⟩
      obtain ⟨v, hv⟩ : ∃ v, inc (x20 k) = v := ⟨_, rfl⟩
      rw [hmm] at op ml
      rw [hv] at op
      have hst := fun wx hQx => step_bk g l (cl a0 1 256) (x20 k) (v + mm) (l - mm) wx hQx bm.1 bm.2 ⟨hl0, hl1⟩ (by rw [hmm, hv]) (by rw [hmm])
      have vb := inc_bd (x20 k)
      rw [hv] at vb
      have hv3 : (x20 k < 0 ∧ v = 0) ∨ (0 ≤ x20 k ∧ x20 k ≤ 1048576 ∧ v = x20 k) ∨ (1048576 < x20 k ∧ v = 1048576) := by
        unfold inc cl at hv; repeat' split at hv
        all_goals omega
      clear hmm hv
      have f1 : decide (v + mm < 0) = false := decide_eq_false (by omega)
      have f2 : (l - (l - mm) != v + mm - v) = false := by simp; omega
      have f3 : (l - (l - mm) != mm) = false := by simp; omega
      have hst' := hid hst
      clear hst
      rcases hv3 with ⟨hx1, rfl⟩ | ⟨hx1, hx2, rfl⟩ | ⟨hx1, rfl⟩
      all_goals go_wp2_with (first | (go_at_call 13; refine (left_any g _ _ _ (by assumption)).mono ?_; rintro e w' ⟨rfl, rfl⟩) | (go_at_call 10; refine (hst'.out _ hQ).mono ?_; rintro e w' ⟨rfl, hQ', hB'⟩))
      all_goals go_roundw
      all_goals first | exact ⟨k + 1, l - mm, by omega, by omega, ml.1, ml.2, by go_num, hQ', hB' _ _ hgB hb⟩ | (simp [intOf]; omega)
    · have hs1 : ¬ (k < len2 ∧ (k : Int) < 60) := by omega
      go_wp2_with (go_at_call 16; refine (works_any _).mono ?_; rintro e w' ⟨rfl, hw⟩)
      all_goals (go_returns; exact ⟨rfl, bel_tr hb hw⟩)
end Go.Proofs.Ytmhooolchofgeaa
