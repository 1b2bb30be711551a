/- Numbers: contracts of serial's functions on them, the chapter's example, the walk of SerialNumbers. A serial is a block of one cell: the next number. -/
import Derived.Test.YtjaoadeenmabpaaChecked
import Derived.Test.YtjaoadeenmabpaaWords
import Derived.Handy
import Derived.Outline
namespace Go.Proofs.Ytjaoadeenmabpaa
open Go Go.RowKit Go.ChangeShapes Go.WideShapes
set_option linter.unusedVariables false

theorem ret_int {k : IntKind} {a b : Int} (h : a = b) : Ending.returned (.int k a) = .returned (.int k b) := by rw [h]
theorem ret_bool {a b : Bool} (h : a = b) : Ending.returned (.bool a) = .returned (.bool b) := by rw [h]
theorem bd_i64 {n : Int} (h : (Lit.int .i64 n).wf = true) : -9223372036854775808 ≤ n ∧ n ≤ 9223372036854775807 := by
  simp [Lit.wf, IntKind.min, IntKind.max, IntKind.signed, IntKind.bits] at h; omega
theorem bd_u8 {n : Int} (h : (Lit.int .u8 n).wf = true) : 0 ≤ n ∧ n ≤ 255 := by
  simp [Lit.wf, IntKind.min, IntKind.max, IntKind.signed, IntKind.bits] at h; omega
theorem bd_u32 {n : Int} (h : (Lit.int .u32 n).wf = true) : 0 ≤ n ∧ n ≤ 4294967295 := by
  simp [Lit.wf, IntKind.min, IntKind.max, IntKind.signed, IntKind.bits] at h; omega
theorem u64_in {n : Int} (h0 : 0 ≤ n) (h1 : n ≤ 9223372036854775807) : IntKind.u64.wrap n = n := by rw [IntKind.wrap_u64]; omega
theorem u32_in {n : Int} (h0 : 0 ≤ n) (h1 : n ≤ 4294967295) : IntKind.u32.wrap n = n := by rw [IntKind.wrap_u32]; omega

theorem new_any (a : Int) (w : World) (h0 : 0 ≤ a) (h1 : a ≤ 4294967295) :
    Calls Try.prog 7 #[.int .u32 a] w fun r w' => r = .returned (.pointer (some ⟨w.heap.size, 0, none⟩)) ∧ w.alloc (.cells #[.int .u64 a] 52) = w' := by
  have e := u64_in h0 (by omega)
  go_enter Try.func7, Try.ntmps7
  go_wp2
  go_returns
  exact ⟨rfl, rfl⟩
theorem left_any (g : Nat) (n : Int) (w : World) (h0 : 0 ≤ n) (h1 : n ≤ 4294967296) (hQ : Bk w g 52 [.int .u64 n]) :
    Calls Try.prog 9 #[.pointer (some ⟨g, 0, none⟩)] w fun r w' => r = .returned (.int .u64 (4294967296 - n)) ∧ w = w' := by
  have c0 : w.cell? ⟨g, 0, none⟩ = some (.int .u64 n) := hQ.cell rfl
  have e := u64_in (n := 4294967296 - n) (by omega) (by omega)
  go_enter Try.func9, Try.ntmps9
  go_wp2
  go_returns
  exact ⟨rfl, rfl⟩
theorem ask_yes (g : Nat) (n : Int) (w : World) (h0 : 0 ≤ n) (h1 : n ≤ 4294967295) (hQ : Bk w g 52 [.int .u64 n]) :
    Calls Try.prog 8 #[.pointer (some ⟨g, 0, none⟩)] w fun r w' => r = .returned (.tuple #[.int .u32 n, .bool true]) ∧ w = w' := by
  have c0 : w.cell? ⟨g, 0, none⟩ = some (.int .u64 n) := hQ.cell rfl
  have e := u32_in h0 h1
  have e2 : (4294967296 - n == 0) = false := by simp; omega
  go_enter Try.func8, Try.ntmps8
  go_wp2_with (go_at_call 9; refine (left_any g n _ h0 (by omega) hQ).mono ?_; rintro e w' ⟨rfl, rfl⟩)
  go_returns
  exact ⟨rfl, rfl⟩
theorem ask_no (g : Nat) (w : World) (hQ : Bk w g 52 [.int .u64 4294967296]) :
    Calls Try.prog 8 #[.pointer (some ⟨g, 0, none⟩)] w fun r w' => r = .returned (.tuple #[.int .u32 0, .bool false]) ∧ w = w' := by
  go_enter Try.func8, Try.ntmps8
  go_wp2_with (go_at_call 9; refine (left_any g 4294967296 _ (by omega) (by omega) hQ).mono ?_; rintro e w' ⟨rfl, rfl⟩)
  go_returns
  exact ⟨rfl, rfl⟩
theorem next_yes (g : Nat) (n : Int) (w : World) (h0 : 0 ≤ n) (h1 : n ≤ 4294967295) (hQ : Bk w g 52 [.int .u64 n]) :
    Calls Try.prog 10 #[.pointer (some ⟨g, 0, none⟩)] w fun r w' => r = .returned (.tuple #[.int .u32 n, .bool true]) ∧ Bk w' g 52 [.int .u64 (n + 1)] ∧ Step g w w' := by
  have c0 : w.cell? ⟨g, 0, none⟩ = some (.int .u64 n) := hQ.cell rfl
  have f0 := hQ.free 0
  have e := u64_in (n := n + 1) (by omega) (by omega)
  go_enter Try.func10, Try.ntmps10
  go_wp2_with (go_at_call 8; refine (ask_yes g n _ h0 h1 hQ).mono ?_; rintro e w' ⟨rfl, rfl⟩)
  go_returns
  exact ⟨rfl, hQ.s0 (a := .int .u64 (n + 1)), (Step.refl _ _).setCell _ _⟩
theorem next_no (g : Nat) (w : World) (hQ : Bk w g 52 [.int .u64 4294967296]) :
    Calls Try.prog 10 #[.pointer (some ⟨g, 0, none⟩)] w fun r w' => r = .returned (.tuple #[.int .u32 0, .bool false]) ∧ w = w' := by
  go_enter Try.func10, Try.ntmps10
  go_wp2_with (go_at_call 8; refine (ask_no g _ hQ).mono ?_; rintro e w' ⟨rfl, rfl⟩)
  go_returns
  exact ⟨rfl, rfl⟩

theorem works_any (w : World) : Calls Try.prog 11 #[] w fun r w' => r = .returned (.bool true) ∧ Below w.heap.size w w' := by
  go_enter Try.func11, Try.ntmps11
  go_wp2_with fail
  go_at_call 7
  refine (new_any 4294967294 w (by omega) (by omega)).mono ?_
  rintro e w' ⟨rfl, rfl⟩
  have hQ := Bk.new w 52 [.int .u64 4294967294]
  have hB : Below w.heap.size w (w.alloc (.cells #[.int .u64 4294967294] 52)) := by go_grown
  generalize w.alloc (.cells #[.int .u64 4294967294] 52) = w1 at *
  obtain ⟨g, hg⟩ : ∃ g, g = w.heap.size := ⟨_, rfl⟩
  rw [← hg] at hQ
  rw [← hg]
  have hgB : w.heap.size ≤ g := by omega
  clear hg
  go_wp2_with fail
  go_at_call 10
  refine (next_yes g 4294967294 w1 (by omega) (by omega) hQ).mono ?_
  rintro e w2 ⟨rfl, hQ2, hS2⟩
  have hB2 := hS2.bel hQ.lt hgB hB
  clear hQ hB hS2
  go_wp2_with fail
  go_at_call 10
  refine (next_yes g 4294967295 w2 (by omega) (by omega) hQ2).mono ?_
  rintro e w3 ⟨rfl, hQ3, hS3⟩
  have hB3 := hS3.bel hQ2.lt hgB hB2
  clear hQ2 hB2 hS3
  replace hQ3 : Bk w3 g 52 [.int .u64 4294967296] := hQ3
  go_wp2_with fail
  go_at_call 10
  refine (next_no g w3 hQ3).mono ?_
  rintro e w4 ⟨rfl, rfl⟩
  go_wp2_with fail
  go_at_call 9
  refine (left_any g 4294967296 w3 (by omega) (by omega) hQ3).mono ?_
  rintro e w4 ⟨rfl, rfl⟩
  go_wp2_with fail
  go_returns
  exact ⟨rfl, hB3⟩

set_option maxRecDepth 100000 in
set_option maxHeartbeats 2000000 in
theorem serialNumbersWalk (a0 : Int) (a1 : Int) (w : World) (w0 : (Lit.int .u32 a0).wf = true) (w1 : (Lit.int .u8 a1).wf = true) :
    Calls Try.prog 3 #[.int .u32 a0, .int .u8 a1] w fun e w' => e = .returned (.bool true) ∧ Below w.heap.size w w' := by
  obtain ⟨x0, x1⟩ := bd_u32 w0
  obtain ⟨y0, y1⟩ := bd_u8 w1
  obtain ⟨N, hN⟩ : ∃ N : Nat, a1 = N := ⟨a1.toNat, by omega⟩
  subst hN
  have W0 := u64_in (n := a0) (by omega) (by omega)
  have W1 := u64_in (n := 4294967296 - a0) (by omega) (by omega)
  have W2 : IntKind.i64.wrap (N : Int) = N := IntWalk.i64_in _ (by omega)
  go_enter Try.func3, Try.ntmps3
  go_wp2_with (go_at_call 7; refine (new_any a0 _ x0 x1).mono ?_; rintro e w' ⟨rfl, rfl⟩)
  obtain ⟨g, hg⟩ : ∃ g, g = w.heap.size := ⟨_, rfl⟩
  rw [← hg]
  have hgB : w.heap.size ≤ g := by omega
  have hg' := hid hg
  clear hg
  go_loopw [6] (fun i wr => ∃ (k : Nat) (n : Int), k ≤ N ∧ ((a0 + k ≤ 4294967296 ∧ n = a0 + k) ∨ (4294967296 ≤ a0 + k ∧ n = 4294967296)) ∧ i = .int .i64 k ∧ Bk wr g 52 [.int .u64 n] ∧ Below w.heap.size w wr)
    (fun i _ => N - (intOf i).toNat)
  case atStart =>
    have hg := hg'.out
    subst hg
    exact ⟨0, a0, by omega, .inl ⟨by omega, by omega⟩, rfl, Bk.new w 52 [.int .u64 a0], by go_grown⟩
  case round =>
    obtain ⟨k, n, hk, hn, rfl, hQ, hb⟩ := hrel
    by_cases hlt : k < N
    · have W3 := u64_in (n := (k : Int)) (by omega) (by omega)
      have W4 := u64_in (n := a0 + k) (by omega) (by omega)
      by_cases hlow : a0 + k < 4294967296
      · obtain rfl : n = a0 + k := by omega
        have W5 := u64_in (n := 4294967296 - a0 - k) (by omega) (by omega)
        have d1 : (4294967296 - (a0 + (k : Int)) != 4294967296 - a0 - (k : Int)) = false := by simp; omega
        have d2 : decide (0 < 4294967296 - a0 - (k : Int)) = true := decide_eq_true (by omega)
        have d3 : decide ((k : Int) < 4294967296 - a0) = true := decide_eq_true (by omega)
        go_wp2_with (first | (go_at_call 8; refine (ask_yes g _ _ (by omega) (by omega) hQ).mono ?_; rintro e w' ⟨rfl, rfl⟩) | (go_at_call 9; refine (left_any g _ _ (by omega) (by omega) hQ).mono ?_; rintro e w' ⟨rfl, rfl⟩) | (go_at_call 10; refine (next_yes g _ _ (by omega) (by omega) hQ).mono ?_; rintro e w3 ⟨rfl, hQ3, hS3⟩))
        go_roundw
        case rel => exact ⟨k + 1, a0 + k + 1, by omega, .inl ⟨by omega, by omega⟩, by go_num, hQ3, hS3.bel hQ.lt hgB hb⟩
        case measure => simp [intOf]; omega
      · obtain rfl : n = 4294967296 := by omega
        go_wp2_with (first | (go_at_call 8; refine (ask_no g _ hQ).mono ?_; rintro e w' ⟨rfl, rfl⟩) | (go_at_call 9; refine (left_any g _ _ (by omega) (by omega) hQ).mono ?_; rintro e w' ⟨rfl, rfl⟩) | (go_at_call 10; refine (next_no g _ hQ).mono ?_; rintro e w3 ⟨rfl, rfl⟩))
        go_roundw
        case rel => exact ⟨k + 1, 4294967296, by omega, .inr ⟨by omega, by omega⟩, by go_num, hQ, hb⟩
        case measure => simp [intOf]; omega
    · go_wp2_with (go_at_call 11; refine (works_any _).mono ?_; rintro e w' ⟨rfl, hw⟩)
      all_goals (go_returns; exact ⟨rfl, bel_tr hb hw⟩)

set_option maxRecDepth 100000 in
set_option maxHeartbeats 2000000 in
theorem serialNilWalk (x00 : Int) (x01 : Int) (x02 : Int) (w : World) (w00 : (Lit.int .i64 x00).wf = true) (w01 : (Lit.int .i64 x01).wf = true) (w02 : (Lit.int .u32 x02).wf = true) :
    Calls Try.prog 5 #[.agg #[.int .i64 x00, .int .i64 x01, .int .u32 x02]] w fun e w' => e = .returned (.bool true) ∧ Below w.heap.size w w' := by
  go_enter Try.func5, Try.ntmps5
  go_wp2_with (first | (go_at_call 11; refine (works_any _).mono ?_; rintro e w' ⟨rfl, hw⟩) | go_in)
  all_goals (go_returns; exact ⟨rfl, bel_tr (by go_grown) hw⟩)
end Go.Proofs.Ytjaoadeenmabpaa
