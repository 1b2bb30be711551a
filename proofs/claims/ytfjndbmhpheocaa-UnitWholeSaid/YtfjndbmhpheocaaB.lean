/- Contracts, second part: halves, folding back, bytes. -/
import Derived.Test.YtfjndbmhpheocaaA
namespace Go.Proofs.Ytfjndbmhpheocaa
open Go Go.RowKit Go.ChangeShapes Go.WideShapes
set_option linter.unusedVariables false

theorem ret_ii {k l : IntKind} {a b c d : Int} (h : a = b) (g : c = d) : Ending.returned (.tuple #[.int k a, .int l c]) = .returned (.tuple #[.int k b, .int l d]) := by rw [h, g]

theorem halves_any (u : Int) (w : World) (h0 : 0 ≤ u) (h1 : u ≤ 18446744073709551615) :
    Calls Try.prog 27 #[.int .u64 u] w fun e w' => e = .returned (.tuple #[.int .u32 (u / 4294967296), .int .u32 (u % 4294967296)]) ∧ w = w' := by
  go_enter Try.func27, Try.ntmps27
  go_wp2
  go_returns
  exact ⟨ret_ii rfl rfl, rfl⟩

theorem or_join (hi lo : Int) (h0 : 0 ≤ hi) (h1 : hi ≤ 4294967295) (h2 : 0 ≤ lo) (h3 : lo ≤ 4294967295) : bits .or .u64 (hi * 4294967296) lo = hi * 4294967296 + lo := by
  rw [u64_or _ _ (by omega) (by omega) (by omega) (by omega), nat_join 32 _ _ (by omega) (by omega)]
  omega

theorem whole_any (hi lo : Int) (w : World) (h0 : 0 ≤ hi) (h1 : hi ≤ 4294967295) (h2 : 0 ≤ lo) (h3 : lo ≤ 4294967295) :
    Calls Try.prog 28 #[.int .u32 hi, .int .u32 lo] w fun e w' => e = .returned (.int .u64 (hi * 4294967296 + lo)) ∧ w = w' := by
  have e := or_join hi lo h0 h1 h2 h3
  go_enter Try.func28, Try.ntmps28
  go_wp2
  go_returns
  exact ⟨rfl, rfl⟩

/-- folding back -/
def zag (u : Int) : Int := if u % 2 = 0 then u / 2 else -(u / 2) - 1
theorem zag_bd (u : Int) (h0 : 0 ≤ u) (h1 : u ≤ 18446744073709551615) : -9223372036854775808 ≤ zag u ∧ zag u ≤ 9223372036854775807 := by
  unfold zag; split <;> omega
theorem zig_bd (x : Int) (h0 : -9223372036854775808 ≤ x) (h1 : x ≤ 9223372036854775807) : 0 ≤ zig x ∧ zig x ≤ 18446744073709551615 := by
  unfold zig; split <;> omega
theorem zag_zig (x : Int) : zag (zig x) = x := by unfold zag zig; split <;> split <;> omega
theorem zig_zag (u : Int) (h : 0 ≤ u) : zig (zag u) = u := by unfold zag zig; split <;> split <;> omega

theorem zag_any (u : Int) (w : World) (h0 : 0 ≤ u) (h1 : u ≤ 18446744073709551615) :
    Calls Try.prog 29 #[.int .u64 u] w fun e w' => e = .returned (.int .i64 (zag u)) ∧ w = w' := by
  have k : bits .and .u64 u 1 = u % 2 := by
    rw [u64_and _ _ (by omega) (by omega) (by omega) (by omega)]
    have := nat_mask1 u.toNat
    simp only [show (1 : Int).toNat = 1 from rfl, this]
    omega
  go_enter Try.func29, Try.ntmps29
  go_wp2
  go_returns
  refine ⟨ret_int ?_, rfl⟩
  show bits BinOp.xor IntKind.i64 (u / 2) (-(u % 2)) = zag u
  unfold zag
  by_cases h : u % 2 = 0
  · rw [if_pos h, h]; exact xor_zero_i64 _ (by omega) (by omega)
  · rw [if_neg h, show u % 2 = 1 by omega, xor_neg1_i64 _ (by omega) (by omega)]; omega

/-- the bytes of a number -/
abbrev byt (u : Int) : Value := .agg #[.int .u8 (u % 256), .int .u8 (u / 256 % 256), .int .u8 (u / 65536 % 256), .int .u8 (u / 16777216 % 256), .int .u8 (u / 4294967296 % 256), .int .u8 (u / 1099511627776 % 256), .int .u8 (u / 281474976710656 % 256), .int .u8 (u / 72057594037927936)]

theorem bytes_any (u : Int) (w : World) (h0 : 0 ≤ u) (h1 : u ≤ 18446744073709551615) :
    Calls Try.prog 25 #[.int .u64 u] w fun e w' => e = .returned (byt u) ∧ Below w.heap.size w w' := by
  go_enter Try.func25, Try.ntmps25
  go_wp2
  go_rounds 9
  exact bodyPost_ret (v := byt u) (by simp [results, Try.results25, go_sem]) rfl ⟨rfl, by go_grown⟩

theorem refbytes_any (u : Int) (w : World) (h0 : 0 ≤ u) (h1 : u ≤ 18446744073709551615) :
    Calls Try.prog 26 #[.int .u64 u] w fun e w' => e = .returned (byt u) ∧ Below w.heap.size w w' := by
  have q1 : u / 256 / 256 = u / 65536 := by omega
  have q2 : u / 65536 / 256 = u / 16777216 := by omega
  have q3 : u / 16777216 / 256 = u / 4294967296 := by omega
  have q4 : u / 4294967296 / 256 = u / 1099511627776 := by omega
  have q5 : u / 1099511627776 / 256 = u / 281474976710656 := by omega
  have q6 : u / 281474976710656 / 256 = u / 72057594037927936 := by omega
  have q7 : u / 72057594037927936 / 256 = 0 := by omega
  go_enter Try.func26, Try.ntmps26
  go_wp2
  go_rounds 9
  exact bodyPost_ret (v := byt u) (by simp [results, Try.results26, go_sem]; omega) rfl ⟨rfl, by go_grown⟩

theorem or_low (lo hi : Int) (k : Nat) (K : Int) (hK : K = ((2 ^ k : Nat) : Int)) (h0 : 0 ≤ lo) (h1 : lo < K) (h2 : 0 ≤ hi) (h3 : hi < 18446744073709551616) (h4 : hi % K = 0) (h5 : K < 18446744073709551616) : bits .or .u64 lo hi = lo + hi := by
  obtain ⟨a, rfl⟩ := Int.eq_ofNat_of_zero_le h0
  obtain ⟨b, rfl⟩ := Int.eq_ofNat_of_zero_le h2
  subst hK
  have e : b % 2 ^ k = 0 := by exact_mod_cast h4
  rw [u64_or_nat _ _ (by omega) (by omega), Nat.or_comm, nat_join k _ _ e (by exact_mod_cast h1)]
  omega

theorem number_any (u : Int) (w : World) (h0 : 0 ≤ u) (h1 : u ≤ 18446744073709551615) :
    Calls Try.prog 30 #[byt u] w fun e w' => e = .returned (.int .u64 u) ∧ Below w.heap.size w w' := by
  have e0 : bits .or .u64 (0) (u % 256) = u % 256 := by rw [or_low _ _ 0 1 (by decide) (by omega) (by omega) (by omega) (by omega) (by omega) (by omega)]; omega
  have e1 : bits .or .u64 (u % 256) (u / 256 % 256 * 256) = u % 65536 := by rw [or_low _ _ 8 256 (by decide) (by omega) (by omega) (by omega) (by omega) (by omega) (by omega)]; omega
  have e2 : bits .or .u64 (u % 65536) (u / 65536 % 256 * 65536) = u % 16777216 := by rw [or_low _ _ 16 65536 (by decide) (by omega) (by omega) (by omega) (by omega) (by omega) (by omega)]; omega
  have e3 : bits .or .u64 (u % 16777216) (u / 16777216 % 256 * 16777216) = u % 4294967296 := by rw [or_low _ _ 24 16777216 (by decide) (by omega) (by omega) (by omega) (by omega) (by omega) (by omega)]; omega
  have e4 : bits .or .u64 (u % 4294967296) (u / 4294967296 % 256 * 4294967296) = u % 1099511627776 := by rw [or_low _ _ 32 4294967296 (by decide) (by omega) (by omega) (by omega) (by omega) (by omega) (by omega)]; omega
  have e5 : bits .or .u64 (u % 1099511627776) (u / 1099511627776 % 256 * 1099511627776) = u % 281474976710656 := by rw [or_low _ _ 40 1099511627776 (by decide) (by omega) (by omega) (by omega) (by omega) (by omega) (by omega)]; omega
  have e6 : bits .or .u64 (u % 281474976710656) (u / 281474976710656 % 256 * 281474976710656) = u % 72057594037927936 := by rw [or_low _ _ 48 281474976710656 (by decide) (by omega) (by omega) (by omega) (by omega) (by omega) (by omega)]; omega
  have e7 : bits .or .u64 (u % 72057594037927936) (u / 72057594037927936 * 72057594037927936) = u := by rw [or_low _ _ 56 72057594037927936 (by decide) (by omega) (by omega) (by omega) (by omega) (by omega) (by omega)]; omega
  go_enter Try.func30, Try.ntmps30
  go_wp2
  go_rounds 9
  go_returns
  refine ⟨rfl, by go_grown⟩
end Go.Proofs.Ytfjndbmhpheocaa
