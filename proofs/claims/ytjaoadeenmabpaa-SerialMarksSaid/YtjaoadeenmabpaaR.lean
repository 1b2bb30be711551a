/- The document's answer for sets of nodes: power, in, Of. -/
import Derived.Test.YtjaoadeenmabpaaQ
namespace Go.Proofs.Ytjaoadeenmabpaa
open Go Go.RowKit Go.ChangeShapes Go.WideShapes Go.Maps
set_option linter.unusedVariables false

theorem pow_lt {i : Nat} (h : i ≤ 63) : (2 : Nat) ^ i < 18446744073709551616 := Nat.lt_of_le_of_lt (Nat.pow_le_pow_right (by omega) h) (by decide)
theorem power_any (i : Nat) (w : World) (hi : i ≤ 63) :
    Calls Try.prog 22 #[.int .i64 i] w fun e w' => e = .returned (.int .u64 ((2 ^ i : Nat) : Int)) ∧ w = w' := by
  go_enter Try.func22, Try.ntmps22
  go_wp2
  go_loop [3, 4] (fun p k => ∃ (j P : Nat), j ≤ i ∧ P = 2 ^ j ∧ k = .int .i64 j ∧ p = .int .u64 (P : Int)) (fun _ k => i - (intOf k).toNat)
  case atStart => exact ⟨0, 1, by omega, rfl, rfl, rfl⟩
  case round =>
    obtain ⟨j, P, hj, hP, rfl, rfl⟩ := hrel
    by_cases hlt : j < i
    · have hb := pow_lt (i := j + 1) (by omega)
      have h2 : 2 ^ (j + 1) = P * 2 := by rw [Nat.pow_succ, hP]
      have hP2 : P * 2 < 18446744073709551616 := by omega
      have hw : IntKind.u64.wrap ((P : Int) * 2) = (P : Int) * 2 := by rw [IntKind.wrap_u64]; omega
      have h2' := hid h2
      clear h2 hb hP
      go_wp2
      go_round
      case rel => exact ⟨j + 1, P * 2, by omega, h2'.out.symm, by go_num, by go_num⟩
      case measure => simp [intOf]; omega
    · obtain rfl : j = i := by omega
      have hP' := hid hP
      clear hP
      go_wp2
      go_returns
      exact ⟨ret_int (by rw [hP'.out]; simp), rfl⟩

/-- Is i one of the first n numbers? -/
def inTo (z : Nat → Int) (i : Int) : Nat → Bool
  | 0 => false
  | n + 1 => inTo z i n || decide (z n = i)
theorem inTo_true {z : Nat → Int} {i : Int} {k : Nat} (h : z k = i) : ∀ n, k < n → inTo z i n = true
  | 0, hk => by omega
  | n + 1, hk => by
    unfold inTo
    by_cases e : k = n
    · subst e; simp [h]
    · rw [inTo_true h n (by omega)]; rfl
theorem in_any (A : Option Addr) (len cap : Nat) (z : Nat → Int) (i : Int) (w : World) (hs : IsSl w A len 1 (fun j => [.int .i64 (z j)])) (hl : len ≤ maxLen) :
    Calls Try.prog 21 #[.slice A len cap, .int .i64 i] w fun e w' => e = .returned (.bool (inTo z i len)) ∧ w = w' := by
  unfold maxLen at hl
  go_enter Try.func21, Try.ntmps21
  go_wp2
  go_loop [5] (fun k => ∃ j : Nat, j ≤ len ∧ k = .int .i64 j ∧ inTo z i j = false) (fun k => len - (intOf k).toNat)
  case atStart => exact ⟨0, by omega, rfl, rfl⟩
  case round =>
    obtain ⟨j, hj, rfl, hf⟩ := hrel
    have hf' := hid hf
    clear hf
    by_cases hlt : j < len
    · obtain ⟨b, off, rfl, hb, hc⟩ := hs (by omega)
      have hcell : w.cell? ⟨b, off + j, none⟩ = some (.int .i64 (z j)) := by simpa using hc j hlt 0 _ rfl
      clear hc
      by_cases he : z j = i
      · have hr := hid (inTo_true he len hlt)
        have e1 : (z j == i) = true := by simpa using he
        clear he
        go_wp2
        go_returns
        exact ⟨ret_bool hr.out.symm, rfl⟩
      · have hr : inTo z i (j + 1) = false := by unfold inTo; rw [hf'.out]; simpa using he
        have hr' := hid hr
        have e1 : (z j == i) = false := by simpa using he
        clear he hr
        go_wp2
        go_round
        case rel => exact ⟨j + 1, by omega, by go_num, hr'.out⟩
        case measure => simp [intOf]; omega
    · obtain rfl : j = len := by omega
      go_wp2
      go_returns
      exact ⟨ret_bool hf'.out.symm, rfl⟩

theorem of_any (A : Option Addr) (len cap : Nat) (z : Nat → Int) (w : World) (hs : IsSl w A len 1 (fun j => [.int .i64 (z j)])) (hl : len ≤ maxLen) :
    Calls Try.prog 19 #[.slice A len cap] w fun e w' => e = .returned (.int .u64 ((whoTo (fun i => inTo z i len) 64 : Nat) : Int)) ∧ w = w' := by
  go_enter Try.func19, Try.ntmps19
  go_wp2
  go_loop [3, 4] (fun s k => ∃ (j S : Nat), j ≤ 64 ∧ S = whoTo (fun i => inTo z i len) j ∧ k = .int .i64 j ∧ s = .int .u64 (S : Int)) (fun _ k => 64 - (intOf k).toNat)
  case atStart => exact ⟨0, 0, by omega, rfl, rfl, rfl⟩
  case round =>
    obtain ⟨j, S, hj, hS, rfl, rfl⟩ := hrel
    have hS' := hid hS
    by_cases hlt : j < 64
    · have hlts := whoTo_lt (fun i => inTo z i len) (j + 1)
      have hp := pow_lt (i := j) (by omega)
      have hp1 : 2 ^ (j + 1) ≤ 18446744073709551616 := Nat.le_trans (Nat.pow_le_pow_right (by omega) (show j + 1 ≤ 64 by omega)) (by decide)
      have hS2 := hid (show whoTo (fun i => inTo z i len) (j + 1) = S + (if inTo z j len then 2 ^ j else 0) by rw [hS]; rfl)
      rw [hS2.out] at hlts
      obtain ⟨P, hP⟩ : ∃ P : Nat, 2 ^ j = P := ⟨_, rfl⟩
      have PW := power_any j w (by omega)
      rw [hP] at hp PW
      have PW' := hid PW
      have IN := in_any A len cap z j w hs hl
      cases hv : inTo z j len
      · rw [hv] at IN hlts
        have IN' := hid IN
        have hv' := hid hv
        have hP' := hid hP
        clear hS hlts hp1 hp PW IN hv hP
        go_wp2_with (go_at_call 21; refine IN'.out.mono ?_; rintro e w' ⟨rfl, rfl⟩)
        go_round
        case rel => exact ⟨j + 1, S, by omega, by rw [hS2.out, hv'.out]; simp, by go_num, rfl⟩
        case measure => simp [intOf]; omega
      · rw [hv] at IN hlts
        rw [if_pos rfl, hP] at hlts
        have hw : IntKind.u64.wrap ((S : Int) + P) = (S : Int) + P := by rw [IntKind.wrap_u64]; omega
        have IN' := hid IN
        have hv' := hid hv
        have hP' := hid hP
        clear hS hlts hp1 hp PW IN hv hP
        go_wp2_with (first | (go_at_call 21; refine IN'.out.mono ?_; rintro e w' ⟨rfl, rfl⟩) | (go_at_call 22; refine PW'.out.mono ?_; rintro e w' ⟨rfl, rfl⟩))
        go_round
        case rel => exact ⟨j + 1, S + P, by omega, by rw [hS2.out, hv'.out, ← hP'.out]; simp, by go_num, by go_num⟩
        case measure => simp [intOf]; omega
    · obtain rfl : j = 64 := by omega
      clear hS
      go_wp2
      go_returns
      exact ⟨ret_int (by rw [hS'.out]), rfl⟩
end Go.Proofs.Ytjaoadeenmabpaa
