/- The walk of the law QuotaMost. -/
import Derived.Test.YtaghfcndbeefnaaA
namespace Go.Proofs.Ytaghfcndbeefnaa
open Go Go.RowKit Go.ChangeShapes Go.WideShapes
set_option linter.unusedVariables false

set_option maxHeartbeats 2000000 in
theorem quotaMostWalk (a0 : Int) (a1 : Option Addr) (len1 cap1 : Nat)  (x10 : Nat → Int) (w : World) (w0 : (Lit.int .u8 a0).wf = true) (s1 : IsSl w a1 len1 1 (fun i => [.int .u8 (x10 i)])) (l1 : len1 ≤ maxLen) (w10 : ∀ i, (Lit.int .u8 (x10 i)).wf = true) :
    Calls Try.prog 3 #[.int .u8 a0, .slice a1 len1 cap1] w fun e w' => e = .returned (.bool true) ∧ Below w.heap.size w w' := by
  have b0 := bd_u8 w0
  unfold maxLen at l1
  have e1 : cl (a0 % 9) 0 65536 = a0 % 9 := cl_in (by omega) (by omega)
  have e2 : cl 255 0 1024 = 255 := by decide
  go_enter Try.func3, Try.ntmps3
  go_wp2_with (go_at_call 6; refine (new_any _ _ _).mono ?_; rintro e w1 ⟨rfl, rfl⟩)
  go_loopw [6, 7] (fun tk i wr => ∃ (k : Nat) (n : Int), k ≤ len1 ∧ k ≤ 60 ∧ 0 ≤ n ∧ n ≤ a0 % 9 ∧ i = .int .i64 k ∧ tk = .int .i64 n ∧
      wr.cell? ⟨w.heap.size, 0, none⟩ = some (.int .i64 (a0 % 9)) ∧ wr.cell? ⟨w.heap.size, 1, none⟩ = some (.int .i64 255) ∧ wr.cell? ⟨w.heap.size, 2, none⟩ = some (.int .i64 n) ∧ wr.frozen? ⟨w.heap.size, 2, none⟩ = false ∧ w.heap.size < wr.heap.size ∧ Below w.heap.size w wr)
    (fun _ i _ => len1 - (intOf i).toNat)
  case atStart => exact ⟨0, 0, by omega, by omega, by omega, by omega, rfl, rfl, by go_cell, by go_cell, by go_cell, by simp, by simp, by go_grown⟩
  case round =>
    obtain ⟨k, n, hk, hk2, hn0, hn1, rfl, rfl, c0, c1, c2, f2, z, hb⟩ := hrel
    by_cases hlt : k < len1 ∧ k < 60
    · obtain ⟨hl1, hl2⟩ := hlt
      obtain ⟨b, off, rfl, hbb, hc⟩ := s1 (by omega)
      have hx := bd_u8 (w10 k)
      have hcell : wr.cell? ⟨b, off + k, none⟩ = some (.int .u8 (x10 k)) := (hb.cell (p := ⟨b, off + k, none⟩) hbb).trans (by simpa using hc k hl1 0 _ rfl)
      clear hc
      by_cases hf : a0 % 9 ≤ n
      · have ha : ask (a0 % 9) 255 n (x10 k) (1 + k) = 13 := ask_full (by omega) (by omega) (.inl hf)
        go_wp2_with (first | (go_at_call 7; refine (take_no _ (a0 % 9) 255 n _ _ _ c0 c1 c2 (by rw [ha]; rfl)).mono ?_; rintro e w1 ⟨rfl, q, rfl⟩) | (go_at_call 8; refine (waiting_any _ n _ (by go_cell)).mono ?_; rintro e w1 ⟨rfl, rfl⟩))
        go_roundw
        case rel => exact ⟨k + 1, n, by omega, by omega, hn0, hn1, by go_num, rfl, c0, c1, c2, f2, z, bel_drewN hb _⟩
        case measure => simp [intOf]; omega
      · have ha : ask (a0 % 9) 255 n (x10 k) (1 + k) = 0 := ask_ok (by omega) (by omega) (by omega)
        go_wp2_with (first | (go_at_call 7; refine (take_ok _ (a0 % 9) 255 n _ _ _ c0 c1 c2 f2 (by omega) (by omega) ha).mono ?_; rintro e w1 ⟨rfl, q, rfl⟩) | (go_at_call 8; refine (waiting_any _ (n + 1) _ (by go_cell)).mono ?_; rintro e w1 ⟨rfl, rfl⟩))
        go_roundw
        case rel => exact ⟨k + 1, n + 1, by omega, by omega, by omega, by omega, by go_num, rfl, by go_cell, by go_cell, by go_cell, by simp [f2], by simp; omega, bel_drewN (hb.setCell (by simp) _) _⟩
        case measure => simp [intOf]; omega
    · have e3 : cl 1000 0 n = n := by unfold cl; rw [if_neg (by omega), if_pos (by omega)]
      have c3 : k = len1 ∨ k = 60 := by omega
      have hs1 : (len1 : Int) ≤ k ∨ (60 : Int) ≤ k := by omega
      go_wp2_with (first | (go_at_call 9; refine (done_any _ n _ _ c2 f2 (by omega) (by omega)).mono ?_; rintro e w1 ⟨rfl, rfl⟩) | (go_at_call 8; refine (waiting_any _ 0 _ (by go_cell)).mono ?_; rintro e w1 ⟨rfl, rfl⟩) | (go_at_call 10; refine (left_any _ (a0 % 9) 0 _ (by go_cell) (by go_cell) (by omega) (by omega) (by omega)).mono ?_; rintro e w1 ⟨rfl, q, rfl⟩) | (go_at_call 11; refine (works_any _).mono ?_; rintro e w1 ⟨rfl, hw⟩))
      all_goals (go_returns; exact ⟨rfl, bel_tr (bel_drewN (hb.setCell (by simp) _) _) hw⟩)
end Go.Proofs.Ytaghfcndbeefnaa
