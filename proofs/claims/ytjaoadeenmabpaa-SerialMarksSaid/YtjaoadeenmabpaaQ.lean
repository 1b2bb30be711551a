/- Who: the nodes of which one came, as a number's bits. -/
import Derived.Test.YtjaoadeenmabpaaO
import Derived.Maps.RangeWalk
import Derived.Laws.Bits64b
namespace Go.Proofs.Ytjaoadeenmabpaa
open Go Go.RowKit Go.ChangeShapes Go.WideShapes Go.Maps
set_option linter.unusedVariables false

/-- The number whose bits below n are p. -/
def whoTo (p : Nat → Bool) : Nat → Nat
  | 0 => 0
  | n + 1 => whoTo p n + (if p n then 2 ^ n else 0)
theorem whoTo_lt (p : Nat → Bool) : ∀ n, whoTo p n < 2 ^ n
  | 0 => by simp [whoTo]
  | n + 1 => by
    have := whoTo_lt p n
    unfold whoTo
    rw [Nat.pow_succ]
    split <;> omega
theorem whoTo_bit (p : Nat → Bool) (i : Nat) : ∀ n, (whoTo p n).testBit i = (decide (i < n) && p i)
  | 0 => by simp [whoTo]
  | n + 1 => by
    have h := whoTo_lt p n
    have ih := whoTo_bit p i n
    unfold whoTo
    by_cases hp : p n = true
    · rw [if_pos hp, Nat.add_comm]
      by_cases hi : i = n
      · subst hi
        rw [Nat.testBit_two_pow_add_eq, ih]
        simp [hp]
      · by_cases hlt : i < n
        · rw [Nat.testBit_two_pow_add_gt (by omega), ih]
          simp [hlt]; omega
        · have hb : 2 ^ n + whoTo p n < 2 ^ i := by
            have h2 : 2 ^ (n + 1) ≤ 2 ^ i := Nat.pow_le_pow_right (by omega) (by omega)
            rw [Nat.pow_succ] at h2; omega
          rw [Nat.testBit_lt_two_pow hb]
          simp; omega
    · rw [if_neg hp, Nat.add_zero, ih]
      by_cases hi : i = n
      · subst hi; simp [hp]
      · by_cases hlt : i < n
        · simp [hlt]; omega
        · simp [hlt]; omega
theorem who_eq {p : Nat → Bool} {s n : Nat} (h : ∀ i, s.testBit i = (decide (i < n) && p i)) : s = whoTo p n :=
  Nat.eq_of_testBit_eq fun i => by rw [h i, whoTo_bit]

theorem markR_form {v : Value} {y : DataW Unit × List MemPlace} (h : markR v = some y) : ∃ m : Mk, v = .agg m.arr ∧ y = (encM m, []) := by
  unfold markR at h
  split at h
  · rename_i cs
    split at h
    · rename_i t f s c heq
      cases h
      have e : cs = [.int .i64 t, .int .i64 f, .int .u32 s, .int .i64 c].toArray := by rw [← heq]
      exact ⟨⟨t, f, s, c⟩, by rw [e], rfl⟩
    · cases h
  · cases h

set_option maxHeartbeats 1000000 in
theorem who_any (g b n : Nat) (M : Int → Option Mk) (w : World) (hG : Bk w g 55 [.map (some b)]) (hM : Mks w b n M) (hk : ∀ k : Int, (M k).isSome = true → 0 ≤ k ∧ k < 64) :
    Calls Try.prog 16 #[.pointer (some ⟨g, 0, none⟩)] w fun e w' => e = .returned (.int .u64 (whoTo (fun i => (M i).isSome) 64 : Nat)) ∧ Below w.heap.size w w' := by
  have c0 : w.cell? ⟨g, 0, none⟩ = some (.map (some b)) := hG.cell rfl
  have hbl := hM.lt
  obtain ⟨D, hown, hD⟩ := hM
  have hD' := hid hD
  have hk' := hid hk
  clear hD hk
  go_enter Try.func16, Try.ntmps16
  go_wp2_with (first | (at_range; refine wpList_range_own _ rfl _ 53 rfl 3 57 keyed3 Try.underlying53 markR b n D rfl hown ?_; intro w0 hrg0 hg0 hs0) | go_in)
  go_frame
  have hB0 : Below w.heap.size w w0 := (Below.refl _ _).grown hg0 (Nat.le_refl _) (by simp)
  obtain ⟨r, hr⟩ : ∃ r, w.heap.size = r := ⟨_, rfl⟩
  rw [hr] at hrg0
  rw [hr]
  have hrB : w.heap.size ≤ r := by omega
  clear hr hg0 hs0
  go_loopw [3, 4] (fun s _ wr => ∃ (S : Nat) (left : Lit → Bool) (cnt : Nat), wr.ranges Try.prog 3 markR b r n D left cnt ∧ s = .int .u64 S ∧ (∀ i, S.testBit i = (decide (i < 64) && ((M i).isSome && !left (.int .i64 i)))) ∧ S < 18446744073709551616 ∧ Below w.heap.size w wr)
    (fun _ _ wr => wr.rangeLeft b r)
  case atStart => exact ⟨0, _, _, hrg0, rfl, fun i => by rw [(hD'.out i).1]; cases (M i).isSome <;> simp, by omega, hB0⟩
  case round =>
    obtain ⟨S, left, cnt, hrg, rfl, hS, hSlt, hb⟩ := hrel
    have hS' := hid hS
    clear hS
    go_wp2_with (at_next; refine wpList_next_ranges _ rfl _ rfl 3 keyed3 markR (Value.int .i64) (fun m : Mk => .agg m.arr) (fun key kl h => by obtain ⟨x, e, _⟩ := Maps.keyOf_int_inv Try.underlying3 h; exact ⟨x, e⟩) (fun v y h => by obtain ⟨m, e, _⟩ := markR_form h; exact ⟨m, e⟩) b r n D left cnt rfl hrg ?_ ?_)
    · intro hc0 hl0
      have e : S = whoTo (fun i => (M i).isSome) 64 := who_eq (fun i => by rw [hS'.out i, hl0]; simp)
      clear hc0 hl0
      have e' := hid e
      clear e
      go_wp2
      go_returns
      exact ⟨ret_int (by rw [e'.out]), hb⟩
    · intro x c kl y1 y2 w1 cnt1 hkey hlk hmr hat hrg1 hlt hg1 hs1 hen
      obtain ⟨x', ex, rfl, hwx⟩ := Maps.keyOf_int_inv Try.underlying3 hkey
      cases ex
      have hsome := (hD'.out x).1.symm.trans (has_true_of_atKey hat)
      obtain ⟨hx0, hx1⟩ := hk'.out x hsome
      obtain ⟨X, rfl⟩ : ∃ X : Nat, x = X := ⟨x.toNat, by omega⟩
      have hB1 := hb.grown hg1 hb.size (by intro k h; cases h; exact hrB)
      have hsome' := hid hsome
      have hlk' := hid hlk
      have hg1' := hid hg1
      have hrg1' := hid hrg1
      have hrg' := hid hrg
      have hlt' := hid hlt
      clear hkey hlk hmr hat hsome hg1 hs1 hrg1 hrg hlt
      have hP : (2 : Nat) ^ X < 18446744073709551616 := Nat.lt_of_le_of_lt (Nat.pow_le_pow_right (by omega) (show X ≤ 63 by omega)) (by decide)
      have hP' := hid hP
      clear hP
      go_wp2
      go_roundw
      case rel =>
        have hP := hP'.out
        have hl := hlk'.out
        refine ⟨S ||| 2 ^ X, _, cnt1, hrg1'.out, ?_, fun i => ?_, Nat.or_lt_two_pow (n := 64) hSlt hP, hB1⟩
        · have e : IntKind.u64.wrap ((2 : Int) ^ X) = ((2 ^ X : Nat) : Int) := by
            rw [show ((2 : Int) ^ X) = ((2 ^ X : Nat) : Int) by simp]
            generalize 2 ^ X = P at hP
            rw [IntKind.wrap_u64]; omega
          rw [e, bits_or_u64_nat _ _ hSlt hP]
        · rw [Nat.testBit_or, hS'.out i, Nat.testBit_two_pow]
          by_cases hi : X = i
          · subst hi
            have hs : (Lit.int .i64 (X : Int)).sameKey (.int .i64 (X : Int)) = true := by simp [Lit.sameKey]
            have h64 : X < 64 := by omega
            simp [hs, h64, hsome'.out]
          · have hs : (Lit.int .i64 (i : Int)).sameKey (.int .i64 (X : Int)) = false := sameKey_ne (by simp; omega)
            simp [hs, hi]
      case measure =>
        rw [hrg1'.out.left_eq, hrg'.out.left_eq]
        exact hlt'.out
end Go.Proofs.Ytjaoadeenmabpaa
