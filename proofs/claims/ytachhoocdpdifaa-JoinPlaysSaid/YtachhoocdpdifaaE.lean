/- The chapter's example; the walks of JoinNil and JoinStays. -/
import Derived.Test.YtachhoocdpdifaaD
namespace Go.Proofs.Ytachhoocdpdifaa
open Go Go.RowKit Go.ChangeShapes Go.WideShapes
set_option linter.unusedVariables false

theorem at_of {f : FuncId} {args : Array Value} {w : World} {g : Nat} {x : J × Int} {j' : J} {n : Int} (e : x = (j', n))
    (h : Calls Try.prog f args w fun r w' => r = .returned (.int .i64 x.2) ∧ Bk w' g 47 x.1.cells ∧ Step g w w') :
    Calls Try.prog f args w fun r w' => r = .returned (.int .i64 n) ∧ Bk w' g 47 [.int .i64 j'.s, .int .i64 j'.f, .int .i64 j'.c] ∧ Step g w w' := by
  subst e; exact h

theorem works_any (w : World) : Calls Try.prog 12 #[] w fun r w' => r = .returned (.bool true) ∧ Below w.heap.size w w' := by
  go_enter Try.func12, Try.ntmps12
  go_wp2_with fail
  go_at_call 7
  refine (new_any w).mono ?_
  rintro e w' ⟨rfl, rfl⟩
  have hQ := Bk.new w 47 [.int .i64 0, .int .i64 (-1), .int .i64 0]
  have hB : Below w.heap.size w (w.alloc (.cells #[.int .i64 0, .int .i64 (-1), .int .i64 0] 47)) := by go_grown
  generalize w.alloc (.cells #[.int .i64 0, .int .i64 (-1), .int .i64 0] 47) = w1 at *
  obtain ⟨g, hg⟩ : ∃ g, g = w.heap.size := ⟨_, rfl⟩
  rw [← hg] at hQ
  rw [← hg]
  have hgB : w.heap.size ≤ g := by omega
  clear hg
  go_wp2_with fail
  go_at_call 21
  refine (at_of (j' := ⟨1, -1, 0⟩) (n := 0) rfl (want_any g ⟨0, -1, 0⟩ w1 ⟨by simp, by simp⟩ hQ)).mono ?_
  rintro e w2 ⟨rfl, hQ2, hS2⟩
  have hB2 := hS2.bel hQ.lt hgB hB
  clear hQ hB hS2
  go_wp2_with fail
  go_at_call 19
  refine (ready_any g ⟨1, -1, 0⟩ 3 w2 hQ2).mono ?_
  rintro e w3 ⟨rfl, hQ3, hS3⟩
  have hB3 := hS3.bel hQ2.lt hgB hB2
  clear hQ2 hB2 hS3
  replace hQ3 : Bk w3 g 47 [.int .i64 1, .int .i64 3, .int .i64 0] := hQ3
  go_wp2_with fail
  go_at_call 9
  refine (attends_any g 1 3 0 2 w3 (by omega) (by omega) hQ3).mono ?_
  rintro e w' ⟨rfl, rfl⟩
  rw [show att 1 3 2 = false by decide]
  go_wp2_with fail
  go_at_call 9
  refine (attends_any g 1 3 0 3 w3 (by omega) (by omega) hQ3).mono ?_
  rintro e w' ⟨rfl, rfl⟩
  rw [show att 1 3 3 = true by decide]
  go_wp2_with fail
  go_at_call 14
  refine (at_of (j' := ⟨2, 3, 3⟩) (n := 1) (by simp [inst, att]) (inst_any g ⟨1, 3, 0⟩ 3 true w3 ⟨by simp, by simp⟩ hQ3)).mono ?_
  rintro e w4 ⟨rfl, hQ4, hS4⟩
  have hB4 := hS4.bel hQ3.lt hgB hB3
  clear hQ3 hB3 hS4
  go_wp2_with fail
  go_at_call 22
  refine (at_of (j' := ⟨3, 3, 3⟩) (n := 0) (by simp [leave]) (leave_any g ⟨2, 3, 3⟩ w4 ⟨by simp, by simp⟩ hQ4)).mono ?_
  rintro e w5 ⟨rfl, hQ5, hS5⟩
  have hB5 := hS5.bel hQ4.lt hgB hB4
  clear hQ4 hB4 hS5
  go_wp2_with fail
  go_at_call 14
  refine (at_of (j' := ⟨3, 3, 3⟩) (n := 0) (by simp [inst]) (inst_any g ⟨3, 3, 3⟩ 4 true w5 ⟨by simp, by simp⟩ hQ5)).mono ?_
  rintro e w6 ⟨rfl, hQ6, hS6⟩
  have hB6 := hS6.bel hQ5.lt hgB hB5
  clear hQ5 hB5 hS6
  go_wp2_with fail
  go_at_call 14
  refine (at_of (j' := ⟨0, 3, 0⟩) (n := 2) (by simp [inst]) (inst_any g ⟨3, 3, 3⟩ 5 false w6 ⟨by simp, by simp⟩ hQ6)).mono ?_
  rintro e w7 ⟨rfl, hQ7, hS7⟩
  have hB7 := hS7.bel hQ6.lt hgB hB6
  clear hQ6 hB6 hS7
  go_wp2_with fail
  go_at_call 8
  refine (member_any g 0 3 0 w7 (by omega) hQ7).mono ?_
  rintro e w' ⟨rfl, rfl⟩
  rw [show memb 0 = false by decide]
  go_wp2_with fail
  go_returns
  exact ⟨rfl, hB7⟩

set_option maxRecDepth 100000 in
set_option maxHeartbeats 2000000 in
theorem joinNilWalk (a0 : Int) (a1 : Bool) (w : World) (w0 : (Lit.int .i64 a0).wf = true) :
    Calls Try.prog 6 #[.int .i64 a0, .bool a1] w fun e w' => e = .returned (.bool true) ∧ Below w.heap.size w w' := by
  cases a1
  all_goals go_enter Try.func6, Try.ntmps6
  all_goals go_wp2_with (first | (go_at_call 12; refine (works_any _).mono ?_; rintro e w' ⟨rfl, hw⟩) | go_in)
  all_goals (go_returns; exact ⟨rfl, hw⟩)

set_option maxRecDepth 100000 in
set_option maxHeartbeats 2000000 in
theorem joinStaysWalk (a0 : Option Addr) (len0 cap0 : Nat)  (x00 : Nat → Int) (w : World) (s0 : IsSl w a0 len0 1 (fun i => [.int .i64 (x00 i)])) (l0 : len0 ≤ maxLen) (w00 : ∀ i, (Lit.int .i64 (x00 i)).wf = true) :
    Calls Try.prog 4 #[.slice a0 len0 cap0] w fun e w' => e = .returned (.bool true) ∧ Below w.heap.size w w' := by
  unfold maxLen at l0
  go_enter Try.func4, Try.ntmps4
  go_wp2_with (go_at_call 7; refine (new_any _).mono ?_; rintro e w' ⟨rfl, rfl⟩)
  have hQ := Bk.new w 47 [.int .i64 0, .int .i64 (-1), .int .i64 0]
  have hB : Below w.heap.size w (w.alloc (.cells #[.int .i64 0, .int .i64 (-1), .int .i64 0] 47)) := by go_grown
  generalize w.alloc (.cells #[.int .i64 0, .int .i64 (-1), .int .i64 0] 47) = w1 at *
  obtain ⟨g, hg⟩ : ∃ g, g = w.heap.size := ⟨_, rfl⟩
  rw [← hg] at hQ
  rw [← hg]
  have hgB : w.heap.size ≤ g := by omega
  clear hg
  go_at_call 13
  refine (at_of (j' := ⟨2, 0, 0⟩) (n := 0) rfl (boot_any g ⟨0, -1, 0⟩ w1 ⟨by simp, by simp⟩ hQ)).mono ?_
  rintro e w2 ⟨rfl, hQ2, hS2⟩
  have hB2 := hS2.bel hQ.lt hgB hB
  clear hQ hB hS2
  go_wp2_with fail
  go_loopw [4] (fun i wr => ∃ (k : Nat), k ≤ len0 ∧ k ≤ 60 ∧ i = .int .i64 k ∧ Bk wr g 47 [.int .i64 2, .int .i64 0, .int .i64 0] ∧ Below w.heap.size w wr)
    (fun i _ => len0 - (intOf i).toNat)
  case atStart => exact ⟨0, by omega, by omega, rfl, hQ2, hB2⟩
  case round =>
    obtain ⟨k, hk, hk2, rfl, hQ, hb⟩ := hrel
    by_cases hlt : k < len0 ∧ k < 60
    · obtain ⟨hl2, hl3⟩ := hlt
      obtain ⟨b, off, rfl, hbb, hc⟩ := s0 (by omega)
      have hcell : wr.cell? ⟨b, off + k, none⟩ = some (.int .i64 (x00 k)) := (hb.cell (p := ⟨b, off + k, none⟩) hbb).trans (by simpa using hc k hl2 0 _ rfl)
      clear hc
      go_wp2_with fail
      go_at_call 14
      refine (at_of (j' := ⟨2, 0, 0⟩) (n := 0) (by simp [inst]) (inst_any g ⟨2, 0, 0⟩ (x00 k) true wr ⟨by simp, by simp⟩ hQ)).mono ?_
      rintro e w4 ⟨rfl, hQ4, hS4⟩
      have hB4 := hS4.bel hQ.lt hgB hb
      clear hQ hb hS4 hcell
      go_wp2_with fail
      go_at_call 8
      refine (member_any g 2 0 0 w4 (by omega) hQ4).mono ?_
      rintro e w' ⟨rfl, rfl⟩
      rw [show memb 2 = true by decide]
      go_wp2_with fail
      go_at_call 15
      refine (sends_any g 2 0 0 w4 (by omega) hQ4).mono ?_
      rintro e w' ⟨rfl, rfl⟩
      rw [show decide ((2 : Int) = 2) = true by decide]
      go_wp2_with fail
      go_roundw
      case rel => exact ⟨k + 1, by omega, by omega, by go_num, hQ4, hB4⟩
      case measure => simp [intOf]; omega
    · have hs1 : ¬ (k < len0 ∧ (k : Int) < 60) := by omega
      go_wp2_with (first | (go_at_call 16; refine (since_any g 2 0 0 wr (by omega) hQ).mono ?_; rintro e w' ⟨rfl, rfl⟩; rw [show memb 2 = true by decide, if_pos (by decide)]) | (go_at_call 12; refine (works_any _).mono ?_; rintro e w' ⟨rfl, hw⟩))
      all_goals (go_returns; exact ⟨rfl, bel_tr hb hw⟩)
end Go.Proofs.Ytachhoocdpdifaa
