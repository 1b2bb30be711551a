/- RateFair: a clock whose drift is bounded by r tells time within r a tick. -/
import Derived.Test.YtafpmkahecjaiaaH
namespace Go.Proofs.Ytafpmkahecjaiaa
open Go Go.RowKit Go.ChangeShapes Go.WideShapes
set_option linter.unusedVariables false

theorem fair_step (a d r k m : Int) (hr0 : 0 ≤ r) (hr1 : r ≤ 64) (hk0 : 0 ≤ k) (hk : k ≤ 90) (hd0 : -r ≤ d) (hd1 : d ≤ r) (hm0 : 0 ≤ m) (hm : m ≤ 64 * k)
    (h0 : 1024 * k - m ≤ a) (h1 : a ≤ 1024 * k + m) : tick a d = a + 1024 + d := by
  have e1 : inc d = d + 1024 := by unfold inc; rw [cl_in (by omega) (by omega)]
  unfold tick tm
  rw [e1, cl_in (by omega) (by omega)]; omega
theorem rem_bd (x r : Int) (h : 0 ≤ r) : -r ≤ x.tmod (r + 1) ∧ x.tmod (r + 1) ≤ r := by
  have h1 := Int.tmod_lt_of_pos x (show 0 < r + 1 by omega)
  have h2 := Int.tmod_lt_of_pos (-x) (show 0 < r + 1 by omega)
  rw [Int.neg_tmod] at h2
  omega

set_option maxRecDepth 100000 in
set_option maxHeartbeats 2000000 in
theorem rateFairWalk (a0 : Int) (a1 : Option Addr) (len1 cap1 : Nat) (x10 : Nat → Int) (w : World) (w0 : (Lit.int .u8 a0).wf = true) (s1 : IsSl w a1 len1 1 (fun i => [.int .i8 (x10 i)])) (l1 : len1 ≤ maxLen) (w10 : ∀ i, (Lit.int .i8 (x10 i)).wf = true) :
    Calls Try.prog 9 #[.int .u8 a0, .slice a1 len1 cap1] w fun e w' => e = .returned (.bool true) ∧ Below w.heap.size w w' := by
  unfold maxLen at l1
  have b0 := bd_u8 w0
  have hrb : 0 ≤ a0 % 65 ∧ a0 % 65 ≤ 64 := by omega
  go_enter Try.func9, Try.ntmps9
  go_wp2_with (first | (go_at_call 26; refine (new_any _ _).mono ?_; rintro e w1 ⟨rfl, rfl⟩))
  obtain ⟨g, hg⟩ : ∃ g, g = w.heap.size := ⟨_, rfl⟩
  rw [← hg]
  have hgB : w.heap.size ≤ g := by omega
  have hg' := hid hg
  clear hg
  go_loopw [7, 8] (fun n i wr => ∃ (k : Nat) (a d m : Int), k ≤ len1 ∧ k ≤ 90 ∧ a0 % 65 * (k : Int) = m ∧ 0 ≤ m ∧ m ≤ 64 * k ∧ 1024 * k - m ≤ a ∧ a ≤ 1024 * k + m ∧ n = .int .i64 k ∧ i = .int .i64 k ∧ Bk wr g 44 [.int .i64 a, .int .i64 d] ∧ Below w.heap.size w wr)
    (fun _ i _ => len1 - (intOf i).toNat)
  case atStart =>
    have hg := hg'.out
    subst hg
    exact ⟨0, 0, 0, 0, by omega, by omega, by simp, by omega, by omega, by omega, by omega, rfl, rfl, Bk.new _ _ _, by go_grown⟩
  case round =>
    obtain ⟨k, a, d, m, hk, hk2, hm, hm0, hm1, ha0, ha1, rfl, rfl, hQ, hb⟩ := hrel
    by_cases hlt : k < len1 ∧ k < 90
    · obtain ⟨hl1, hl2⟩ := hlt
      obtain ⟨b, off, rfl, hbb, hc⟩ := s1 (by omega)
      have z0 := hQ.lt
      have hbg : ¬ g = b := by omega
      have hgb : ¬ b = g := by omega
      have hcell : wr.cell? ⟨b, off + k, none⟩ = some (.int .i8 (x10 k)) := (hb.cell (p := ⟨b, off + k, none⟩) hbb).trans (by simpa using hc k hl1 0 _ rfl)
      clear hc
      have hx := bd_i8 (w10 k)
      have hrm := rem_bd (x10 k) (a0 % 65) hrb.1
      have hst := hid (fair_step a ((x10 k).tmod (a0 % 65 + 1)) (a0 % 65) k m hrb.1 hrb.2 (by omega) (by omega) hrm.1 hrm.2 hm0 hm1 ha0 ha1)
      have hm' := hid hm
      clear hm
      go_wp2_with (first | (go_at_call 23; refine (drift_any g a d _ _ hQ).mono ?_; rintro e w' ⟨rfl, rfl⟩) | (go_at_call 24; refine (tick_any g a _ _ hQ.s1 (by omega) (by omega)).mono ?_; rintro e w' ⟨rfl, q, rfl⟩))
      have hm2 : a0 % 65 * ((k + 1 : Nat) : Int) = m + a0 % 65 := by rw [← hm'.out]; simp [Int.mul_add]
      have hs2 := hst.out
      go_roundw
      case rel => exact ⟨k+1, tick a ((x10 k).tmod (a0 % 65 + 1)), (x10 k).tmod (a0 % 65 + 1), m + a0 % 65, by omega, by omega, hm2, by omega, by omega, by omega, by omega, by go_num, by go_num, hQ.s1.s0.drewN _, bel_drewN ((hb.setCell (by omega) _).setCell (by omega) _) _⟩
      case measure => simp [intOf]; omega
    · have hs1 : ¬ (k < len1 ∧ (k : Int) < 90) := by omega
      have f1 : decide (a - 1024 * (k : Int) ≤ m) = true := by simp; omega
      have f2 : decide (-(a - 1024 * (k : Int)) ≤ m) = true := by simp; omega
      go_wp2_with (first | (go_at_call 25; refine (now_any g a d _ hQ).mono ?_; rintro e w' ⟨rfl, rfl⟩) | (go_at_call 16; refine (works_any _).mono ?_; rintro e w' ⟨rfl, q, rfl⟩))
      all_goals (go_returns; exact ⟨rfl, bel_drewN hb _⟩)
end Go.Proofs.Ytafpmkahecjaiaa
