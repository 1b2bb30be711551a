/- Ticks, the chapter's examples, and the walk of SlewNil. -/
import Derived.Test.YtmhooolchofgeaaA
import Derived.BigQuiet
namespace Go.Proofs.Ytmhooolchofgeaa
open Go Go.RowKit Go.ChangeShapes Go.WideShapes
set_option linter.unusedVariables false

def ab (l : Int) : Int := if l < 0 then -l else l
theorem abs_any (l : Int) (w : World) (h0 : -1152921504606846976 ≤ l) (h1 : l ≤ 1152921504606846976) :
    Calls Try.prog 21 #[.int .i64 l] w fun r w' => r = .returned (.int .u64 (ab l)) ∧ w = w' := by
  by_cases hl : l < 0
  · have e0 : ab l = -l := by unfold ab; rw [if_pos hl]
    have e1 : IntKind.u64.wrap l = l + 18446744073709551616 := by rw [IntKind.wrap_u64]; omega
    have e2 : IntKind.u64.wrap (-(l + 18446744073709551616)) = -l := by rw [IntKind.wrap_u64]; omega
    rw [e0]
    go_enter Try.func21, Try.ntmps21
    go_wp2
    go_returns
    exact ⟨rfl, rfl⟩
  · have e0 : ab l = l := by unfold ab; rw [if_neg hl]
    have e1 : IntKind.u64.wrap l = l := by rw [IntKind.wrap_u64]; omega
    rw [e0]
    go_enter Try.func21, Try.ntmps21
    go_wp2
    go_returns
    exact ⟨rfl, rfl⟩

def upq (a b : Int) : Int := if a % b = 0 then a / b else a / b + 1
theorem up_any (a b : Int) (w : World) (h0 : 0 ≤ a) (h1 : a ≤ 1152921504606846976) (h2 : 1 ≤ b) (h3 : b ≤ 256) :
    Calls Try.prog 20 #[.int .i64 a, .int .i64 b] w fun e w' => e = .returned (.tuple #[.int .i64 (upq a b), .bool true]) ∧ ∃ k, w' = w.drewN k := by
  have b0 : (b != 0) = true := by simp; omega
  have b1 : (b != -1) = true := by simp; omega
  have b2 : (a != -9223372036854775808) = true := by simp; omega
  have r0 : 0 ≤ a % b := Int.emod_nonneg _ (by omega)
  have q0 : 0 ≤ a / b := Int.ediv_nonneg h0 (by omega)
  have q1 : a / b ≤ a := Int.ediv_le_self _ h0
  have r1 : a % b < b := Int.emod_lt_of_pos _ (by omega)
  have t0 : a.tdiv b = a / b := Int.tdiv_eq_ediv_of_nonneg h0
  have t1 : a.tmod b = a % b := Int.tmod_eq_emod_of_nonneg h0
  have t2 : IntKind.i64.wrap (a / b) = a / b := IntWalk.i64_in _ (by omega)
  have t3 : IntKind.i64.wrap (a % b) = a % b := IntWalk.i64_in _ (by omega)
  have t4 : b ≠ 0 := by omega
  have t5 : (b == 0) = false := by simp; omega
  by_cases hr : a % b = 0
  · have e0 : upq a b = a / b := by unfold upq; rw [if_pos hr]
    have u1 : (a % b != 0) = false := by simp [hr]
    rw [e0]
    clear hr
    go_enter Try.func20, Try.ntmps20
    go_wp2
    go_quiet (fail)
    go_wp2
    go_returns
    exact ⟨rfl, _, rfl⟩
  · have e0 : upq a b = a / b + 1 := by unfold upq; rw [if_neg hr]
    have u1 : (a % b != 0) = true := by simp [hr]
    have u2 : decide (a % b < 0) = false := decide_eq_false (by omega)
    have u3 : decide (b < 0) = false := decide_eq_false (by omega)
    rw [e0]
    go_enter Try.func20, Try.ntmps20
    go_wp2
    go_quiet (fail)
    go_wp2
    go_returns
    exact ⟨rfl, _, rfl⟩
theorem ab_bd {l : Int} (h0 : -1152921504606846976 ≤ l) (h1 : l ≤ 1152921504606846976) : 0 ≤ ab l ∧ ab l ≤ 1152921504606846976 := by unfold ab; split <;> omega

theorem ticks_any (g : Nat) (l m : Int) (w : World) (hQ : Bk w g 47 [.int .i64 l, .int .i64 m]) (h0 : 1 ≤ m) (h1 : m ≤ 256) (hl : -1152921504606846976 ≤ l ∧ l ≤ 1152921504606846976) :
    Calls Try.prog 14 #[.pointer (some ⟨g, 0, none⟩)] w fun r w' => r = .returned (.int .i64 (upq (ab l) m)) ∧ ∃ k, w' = w.drewN k := by
  have c0 : w.cell? ⟨g, 0, none⟩ = some (.int .i64 l) := hQ.cell rfl
  have c1 : w.cell? ⟨g, 1, none⟩ = some (.int .i64 m) := hQ.cell rfl
  have ba := ab_bd hl.1 hl.2
  have e1 : IntKind.i64.wrap (ab l) = ab l := IntWalk.i64_in _ (by omega)
  go_enter Try.func14, Try.ntmps14
  go_wp2
  go_quiet (first | (go_at_call 21; exact Calls.quiet_of_same ((abs_any _ _ (by omega) (by omega)).mono fun _ _ h => ⟨h.1, h.2.symm⟩)) | (go_at_call 20; exact Calls.quiet_of (up_any _ _ _ (by omega) (by omega) (by omega) (by omega))))
  go_wp2
  go_returns
  exact ⟨rfl, _, rfl⟩

theorem made_left (l : Int) {m i : Int} (h0 : 0 ≤ m) (h1 : 0 ≤ i) (hl : -1152921504606846976 ≤ l ∧ l ≤ 1152921504606846976) : -1152921504606846976 ≤ l - made l m i ∧ l - made l m i ≤ 1152921504606846976 := by
  unfold made cl; repeat' split
  all_goals omega

theorem step_bk (g : Nat) (l m x r l' : Int) (w : World) (hQ : Bk w g 47 [.int .i64 l, .int .i64 m]) (h0 : 1 ≤ m) (h1 : m ≤ 256) (hl : -1152921504606846976 ≤ l ∧ l ≤ 1152921504606846976)
    (e1 : inc x + made l m (inc x) = r) (e2 : l - made l m (inc x) = l') :
    Calls Try.prog 10 #[.pointer (some ⟨g, 0, none⟩), .int .i64 x] w fun e w' => e = .returned (.int .i64 r) ∧ Bk w' g 47 [.int .i64 l', .int .i64 m] ∧ ∀ B w0, B ≤ g → Below B w0 w → Below B w0 w' :=
  (step_any g l m x w hQ h0 h1 hl).mono fun _ _ hh => ⟨e1 ▸ hh.1, hh.2 ▸ e2 ▸ hQ.s0.alloc _, fun B w0 hB h => hh.2 ▸ (h.setCell hB _).alloc (by have := hQ.lt; simp; omega) _⟩
end Go.Proofs.Ytmhooolchofgeaa
