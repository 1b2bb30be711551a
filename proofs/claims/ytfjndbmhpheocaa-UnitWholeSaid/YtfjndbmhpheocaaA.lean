/- Contracts of the functions of unit and of the document's answer for them, each by a walk: what they hand back, the world as it was. -/
import Derived.Test.YtfjndbmhpheocaaChecked
import Derived.Test.YtfjndbmhpheocaaWords
import Derived.Test.YtfjndbmhpheocaaMath
import Derived.Handy
import Derived.Outline
namespace Go.Proofs.Ytfjndbmhpheocaa
open Go Go.RowKit Go.ChangeShapes Go.WideShapes
set_option linter.unusedVariables false

theorem ret_int {k : IntKind} {a b : Int} (h : a = b) : Ending.returned (.int k a) = .returned (.int k b) := by rw [h]
theorem ret_bool {a b : Bool} (h : a = b) : Ending.returned (.bool a) = .returned (.bool b) := by rw [h]

theorem bd_i64 {n : Int} (h : (Lit.int .i64 n).wf = true) : -9223372036854775808 ≤ n ∧ n ≤ 9223372036854775807 := by
  simp [Lit.wf, IntKind.min, IntKind.max, IntKind.signed, IntKind.bits] at h; omega
theorem bd_i32 {n : Int} (h : (Lit.int .i32 n).wf = true) : -2147483648 ≤ n ∧ n ≤ 2147483647 := by
  simp [Lit.wf, IntKind.min, IntKind.max, IntKind.signed, IntKind.bits] at h; omega
theorem bd_u32 {n : Int} (h : (Lit.int .u32 n).wf = true) : 0 ≤ n ∧ n ≤ 4294967295 := by
  simp [Lit.wf, IntKind.min, IntKind.max, IntKind.signed, IntKind.bits] at h; omega
theorem bd_u64 {n : Int} (h : (Lit.int .u64 n).wf = true) : 0 ≤ n ∧ n ≤ 18446744073709551615 := by
  simp [Lit.wf, IntKind.min, IntKind.max, IntKind.signed, IntKind.bits] at h; omega

/-- what folding gives -/
def zig (x : Int) : Int := if x < 0 then -2 * x - 1 else 2 * x
theorem zig_pos {x : Int} (h : 0 ≤ x) : zig x = 2 * x := by unfold zig; rw [if_neg (by omega)]
theorem zig_neg {x : Int} (h : x < 0) : zig x = -2 * x - 1 := by unfold zig; rw [if_pos h]

theorem zig_bits (x : Int) (h0 : -9223372036854775808 ≤ x) (h1 : x ≤ 9223372036854775807) :
    bits BinOp.xor IntKind.u64 (IntKind.u64.wrap (IntKind.u64.wrap x * 2)) (IntKind.u64.wrap (x / 9223372036854775808)) = zig x := by
  by_cases h : x < 0
  · have e : x / 9223372036854775808 = -1 := by omega
    rw [e, show IntKind.u64.wrap (-1) = 18446744073709551615 from by decide, zig_neg h]
    rw [xor_ones_u64 _ (by rw [IntKind.wrap_u64]; omega) (by rw [IntKind.wrap_u64]; omega), IntKind.wrap_u64, IntKind.wrap_u64]
    omega
  · have e : x / 9223372036854775808 = 0 := by omega
    rw [e, show IntKind.u64.wrap 0 = 0 from by decide, zig_pos (by omega)]
    rw [xor_zero_u64 _ (by rw [IntKind.wrap_u64]; omega) (by rw [IntKind.wrap_u64]; omega), IntKind.wrap_u64, IntKind.wrap_u64]
    omega

theorem zig_any (x : Int) (w : World) (h0 : -9223372036854775808 ≤ x) (h1 : x ≤ 9223372036854775807) :
    Calls Try.prog 10 #[.int .i64 x] w fun e w' => e = .returned (.int .u64 (zig x)) ∧ w = w' := by
  go_enter Try.func10, Try.ntmps10
  go_wp2
  go_returns
  exact ⟨ret_int (zig_bits x h0 h1), rfl⟩

theorem refzig_any (x : Int) (w : World) (h0 : -9223372036854775808 ≤ x) (h1 : x ≤ 9223372036854775807) :
    Calls Try.prog 11 #[.int .i64 x] w fun e w' => e = .returned (.int .u64 (zig x)) ∧ w = w' := by
  by_cases h : x < 0
  · go_enter Try.func11, Try.ntmps11
    go_wp2
    go_returns
    exact ⟨ret_int (by rw [zig_neg h]; omega), rfl⟩
  · go_enter Try.func11, Try.ntmps11
    go_wp2
    go_returns
    exact ⟨ret_int (by rw [zig_pos (by omega)]; omega), rfl⟩

theorem works_any (w : World) :
    Calls Try.prog 12 #[] w fun e w' => e = .returned (.bool true) ∧ w = w' := by
  have k1 : bits BinOp.and IntKind.i64 (-1) 1023 = 1023 := by decide
  have k2 : bits BinOp.xor IntKind.u64 (IntKind.u64.wrap (IntKind.u64.wrap (-1) * 2)) (IntKind.u64.wrap (-1)) = 1 := by decide
  go_enter Try.func12, Try.ntmps12
  go_wp2
  go_returns
  exact ⟨rfl, rfl⟩

/-- the lower half, with its sign -/
def low32 (x : Int) : Int := (x + 2147483648) % 4294967296 - 2147483648
/-- the number near an old one -/
def near (old low : Int) : Int := wrap64 (old + low32 (low - old))
theorem low32_bd (x : Int) : -2147483648 ≤ low32 x ∧ low32 x ≤ 2147483647 := by unfold low32; omega

theorem near_any (old low : Int) (w : World) (h0 : -9223372036854775808 ≤ old) (h1 : old ≤ 9223372036854775807) (h2 : 0 ≤ low) (h3 : low ≤ 4294967295) :
    Calls Try.prog 13 #[.int .i64 old, .int .u32 low] w fun e w' => e = .returned (.int .i64 (near old low)) ∧ w = w' := by
  go_enter Try.func13, Try.ntmps13
  go_wp2
  go_returns
  refine ⟨ret_int ?_, rfl⟩
  unfold near low32 wrap64 wrap32
  omega

theorem low_any (x : Int) (w : World) (h0 : -9223372036854775808 ≤ x) (h1 : x ≤ 9223372036854775807) :
    Calls Try.prog 15 #[.int .i64 x] w fun e w' => e = .returned (.int .i32 (low32 x)) ∧ w = w' := by
  go_enter Try.func15, Try.ntmps15
  go_wp2
  go_returns
  refine ⟨ret_int ?_, rfl⟩
  unfold low32 wrap32; rfl

theorem fits_any (x : Int) (w : World) (h0 : -9223372036854775808 ≤ x) (h1 : x ≤ 9223372036854775807) :
    Calls Try.prog 16 #[.int .i64 x] w fun e w' => e = .returned (.bool (low32 x == x)) ∧ w = w' := by
  have hl := low32_bd x
  go_enter Try.func16, Try.ntmps16
  go_wp2_with (go_at_call 15; refine (low_any _ _ (by omega) (by omega)).mono ?_; rintro e w' ⟨rfl, rfl⟩)
  go_returns
  exact ⟨rfl, rfl⟩

theorem tdiv_if (x n : Int) (h : 0 < n) : x.tdiv n = if x < 0 then -((-x) / n) else x / n := by
  split
  · rw [← Int.neg_neg x, Int.neg_tdiv, Int.tdiv_eq_ediv_of_nonneg (by omega)]; simp
  · rw [Int.tdiv_eq_ediv_of_nonneg (by omega)]

theorem div1024_any (x : Int) (w : World) (h0 : -9223372036854775808 ≤ x) (h1 : x ≤ 9223372036854775807) :
    Calls Try.prog 20 #[.int .i64 x, .int .i64 1024] w fun e w' => e = .returned (.int .i64 (x / 1024)) ∧ w = w' := by
  have e := tdiv_if x 1024 (by omega)
  go_enter Try.func20, Try.ntmps20
  go_wp2
  all_goals (go_returns; refine ⟨ret_int ?_, rfl⟩; omega)

theorem div32_any (x : Int) (w : World) (h0 : -9223372036854775808 ≤ x) (h1 : x ≤ 9223372036854775807) :
    Calls Try.prog 20 #[.int .i64 x, .int .i64 4294967296] w fun e w' => e = .returned (.int .i64 (x / 4294967296)) ∧ w = w' := by
  have e := tdiv_if x 4294967296 (by omega)
  go_enter Try.func20, Try.ntmps20
  go_wp2
  all_goals (go_returns; refine ⟨ret_int ?_, rfl⟩; omega)

theorem reflow_any (x : Int) (w : World) (h0 : -9223372036854775808 ≤ x) (h1 : x ≤ 9223372036854775807) :
    Calls Try.prog 14 #[.int .i64 x] w fun e w' => e = .returned (.int .i64 (low32 x)) ∧ w = w' := by
  go_enter Try.func14, Try.ntmps14
  go_wp2_with (go_at_call 20; refine (div32_any _ _ (by omega) (by omega)).mono ?_; rintro e w' ⟨rfl, rfl⟩)
  all_goals (go_returns; refine ⟨ret_int ?_, rfl⟩; unfold low32; omega)

theorem refnear_any (old low : Int) (w : World) (h0 : -9223372036854775808 ≤ old) (h1 : old ≤ 9223372036854775807) (h2 : 0 ≤ low) (h3 : low ≤ 4294967295) :
    Calls Try.prog 17 #[.int .i64 old, .int .u32 low] w fun e w' => e = .returned (.int .i64 (near old low)) ∧ w = w' := by
  have b1 := low32_bd old
  go_enter Try.func17, Try.ntmps17
  go_wp2_with (go_at_call 14; refine (reflow_any _ _ (by omega) (by omega)).mono ?_; rintro e w' ⟨rfl, rfl⟩)
  go_returns
  refine ⟨ret_int ?_, rfl⟩
  unfold near low32 wrap64
  omega

/-- have these ticks grains? -/
def inG (x : Int) : Bool := decide (-9007199254740992 ≤ x ∧ x ≤ 9007199254740991)
/-- the grains of ticks -/
def graV (x : Int) : Int := if -9007199254740992 ≤ x ∧ x ≤ 9007199254740991 then x * 1024 else 0
theorem graV_yes {x : Int} (h : -9007199254740992 ≤ x ∧ x ≤ 9007199254740991) : graV x = x * 1024 := by unfold graV; rw [if_pos h]
theorem graV_no {x : Int} (h : ¬ (-9007199254740992 ≤ x ∧ x ≤ 9007199254740991)) : graV x = 0 := by unfold graV; rw [if_neg h]
theorem inG_yes {x : Int} (h : -9007199254740992 ≤ x ∧ x ≤ 9007199254740991) : inG x = true := by unfold inG; exact decide_eq_true h
theorem inG_no {x : Int} (h : ¬ (-9007199254740992 ≤ x ∧ x ≤ 9007199254740991)) : inG x = false := by unfold inG; exact decide_eq_false h
theorem ret_ib {k : IntKind} {a b : Int} {c d : Bool} (h : a = b) (g : c = d) : Ending.returned (.tuple #[.int k a, .bool c]) = .returned (.tuple #[.int k b, .bool d]) := by rw [h, g]

theorem grains_any (x : Int) (w : World) (h0 : -9223372036854775808 ≤ x) (h1 : x ≤ 9223372036854775807) :
    Calls Try.prog 18 #[.int .i64 x] w fun e w' => e = .returned (.tuple #[.int .i64 (graV x), .bool (inG x)]) ∧ w = w' := by
  by_cases h : -9007199254740992 ≤ x ∧ x ≤ 9007199254740991
  · obtain ⟨g0, g1⟩ := h
    go_enter Try.func18, Try.ntmps18
    go_wp2
    all_goals (go_returns; refine ⟨ret_ib (graV_yes ⟨g0, g1⟩).symm (inG_yes ⟨g0, g1⟩).symm, rfl⟩)
  · have e : (wrap64 (x * 1024) / 1024 != x) = true := by
      simp only [bne_iff_ne]; unfold wrap64; omega
    go_enter Try.func18, Try.ntmps18
    go_wp2
    all_goals (go_returns; refine ⟨ret_ib (graV_no h).symm (inG_no h).symm, rfl⟩)

theorem refgrains_any (x : Int) (w : World) (h0 : -9223372036854775808 ≤ x) (h1 : x ≤ 9223372036854775807) :
    Calls Try.prog 19 #[.int .i64 x] w fun e w' => e = .returned (.tuple #[.int .i64 (graV x), .bool (inG x)]) ∧ w = w' := by
  by_cases h : -9007199254740992 ≤ x ∧ x ≤ 9007199254740991
  · obtain ⟨g0, g1⟩ := h
    go_enter Try.func19, Try.ntmps19
    go_wp2
    all_goals (go_returns; refine ⟨ret_ib (graV_yes ⟨g0, g1⟩).symm (inG_yes ⟨g0, g1⟩).symm, rfl⟩)
  · by_cases h2 : 9007199254740991 < x
    · go_enter Try.func19, Try.ntmps19
      go_wp2
      all_goals (go_returns; refine ⟨ret_ib (graV_no h).symm (inG_no h).symm, rfl⟩)
    · have h3 : x < -9007199254740992 := by omega
      go_enter Try.func19, Try.ntmps19
      go_wp2
      all_goals (go_returns; refine ⟨ret_ib (graV_no h).symm (inG_no h).symm, rfl⟩)

theorem ticks_any (x : Int) (w : World) (h0 : -9223372036854775808 ≤ x) (h1 : x ≤ 9223372036854775807) :
    Calls Try.prog 21 #[.int .i64 x] w fun e w' => e = .returned (.int .i64 (x / 1024)) ∧ w = w' := by
  go_enter Try.func21, Try.ntmps21
  go_wp2
  go_returns
  exact ⟨rfl, rfl⟩

theorem rest_any (x : Int) (w : World) :
    Calls Try.prog 24 #[.int .i64 x] w fun e w' => e = .returned (.int .i64 (x % 1024)) ∧ w = w' := by
  have e := and_mask_i64 x
  go_enter Try.func24, Try.ntmps24
  go_wp2
  go_returns
  exact ⟨rfl, rfl⟩

/-- the ticks that grains begin -/
def up (x : Int) : Int := (x + 1023) / 1024
theorem up_any (x : Int) (w : World) (h0 : -9223372036854775808 ≤ x) (h1 : x ≤ 9223372036854775807) :
    Calls Try.prog 22 #[.int .i64 x] w fun e w' => e = .returned (.int .i64 (up x)) ∧ w = w' := by
  go_enter Try.func22, Try.ntmps22
  go_wp2_with (first | (go_at_call 21; refine (ticks_any _ _ (by omega) (by omega)).mono ?_; rintro e w' ⟨rfl, rfl⟩) | (go_at_call 24; refine (rest_any _ _).mono ?_; rintro e w' ⟨rfl, rfl⟩))
  all_goals (go_returns; refine ⟨ret_int ?_, rfl⟩; unfold up; simp only [bne_iff_ne, ne_eq, bne_eq_false_iff_eq] at *; omega)

theorem refup_any (x : Int) (w : World) (h0 : -9223372036854775808 ≤ x) (h1 : x ≤ 9223372036854775807) :
    Calls Try.prog 23 #[.int .i64 x] w fun e w' => e = .returned (.int .i64 (up x)) ∧ w = w' := by
  go_enter Try.func23, Try.ntmps23
  go_wp2_with (go_at_call 20; refine (div1024_any _ _ (by omega) (by omega)).mono ?_; rintro e w' ⟨rfl, rfl⟩)
  all_goals (go_returns; refine ⟨ret_int ?_, rfl⟩; unfold up; omega)
end Go.Proofs.Ytfjndbmhpheocaa
