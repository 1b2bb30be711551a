/- Contracts of the functions of period and of the document's answer for them, each by a walk. -/
import Derived.Test.YtndchjaejcpkdaaChecked
import Derived.Test.YtndchjaejcpkdaaWords
import Derived.Handy
import Derived.Outline
import Derived.Deep.RegionHeld3
import Derived.Deep.QuietTactic
import Derived.BigQuiet
namespace Go.Proofs.Ytndchjaejcpkdaa
open Go Go.RowKit Go.ChangeShapes Go.WideShapes
set_option linter.unusedVariables false

/-- a number kept within bounds -/
def cl (x lo hi : Int) : Int := if x < lo then lo else if hi < x then hi else x
theorem cl_bd (x : Int) {lo hi : Int} (h : lo ≤ hi) : lo ≤ cl x lo hi ∧ cl x lo hi ≤ hi := by unfold cl; split <;> (try split) <;> omega
theorem cl_in {x lo hi : Int} (h0 : lo ≤ x) (h1 : x ≤ hi) : cl x lo hi = x := by unfold cl; rw [if_neg (by omega), if_neg (by omega)]
theorem cl_lo {x lo hi : Int} (h0 : x < lo) : cl x lo hi = lo := by unfold cl; rw [if_pos h0]
theorem cl_hi {x lo hi : Int} (h : lo ≤ hi) (h0 : hi < x) : cl x lo hi = hi := by unfold cl; rw [if_neg (by omega), if_pos h0]
theorem cl_cl (x : Int) {lo hi : Int} (h : lo ≤ hi) : cl (cl x lo hi) lo hi = cl x lo hi := cl_in (cl_bd x h).1 (cl_bd x h).2

theorem ret_int {k : IntKind} {a b : Int} (h : a = b) : Ending.returned (.int k a) = .returned (.int k b) := by rw [h]
theorem ret_bool {a b : Bool} (h : a = b) : Ending.returned (.bool a) = .returned (.bool b) := by rw [h]
theorem bd_i64 {n : Int} (h : (Lit.int .i64 n).wf = true) : -9223372036854775808 ≤ n ∧ n ≤ 9223372036854775807 := by
  simp [Lit.wf, IntKind.min, IntKind.max, IntKind.signed, IntKind.bits] at h; omega

theorem within_any (x lo hi : Int) (w : World) (h : lo ≤ hi) :
    Calls Try.prog 22 #[.int .i64 x, .int .i64 lo, .int .i64 hi] w fun e w' => e = .returned (.int .i64 (cl x lo hi)) ∧ w = w' := by
  go_enter Try.func22, Try.ntmps22
  go_wp2
  all_goals (go_returns; refine ⟨ret_int ?_, rfl⟩; unfold cl; (repeat' split) <;> omega)

theorem clamp_any (x lo hi : Int) (w : World) (h : lo ≤ hi) :
    Calls Try.prog 13 #[.int .i64 x, .int .i64 lo, .int .i64 hi] w fun e w' => e = .returned (.int .i64 (cl x lo hi)) ∧ w' = w := by
  rcases Int.lt_or_le x lo with h1 | h1
  · go_enter Try.func13, Try.ntmps13
    go_wp2
    all_goals go_returns
    exact ⟨ret_int (cl_lo h1).symm, rfl⟩
  · rcases Int.lt_or_le hi x with h2 | h2
    · go_enter Try.func13, Try.ntmps13
      go_wp2
      all_goals go_returns
      exact ⟨ret_int (cl_hi h h2).symm, rfl⟩
    · go_enter Try.func13, Try.ntmps13
      go_wp2
      all_goals go_returns
      exact ⟨ret_int (cl_in h1 h2).symm, rfl⟩

/-- a period's two numbers, kept within bounds -/
def evy (e : Int) : Int := cl e 1 1099511627776
def dlt (d : Int) : Int := cl d 0 1099511627776
theorem evy_bd (e : Int) : 1 ≤ evy e ∧ evy e ≤ 1099511627776 := cl_bd e (by omega)
theorem dlt_bd (d : Int) : 0 ≤ dlt d ∧ dlt d ≤ 1099511627776 := cl_bd d (by omega)
theorem evy_evy (e : Int) : evy (evy e) = evy e := cl_cl e (by omega)
theorem dlt_dlt (d : Int) : dlt (dlt d) = dlt d := cl_cl d (by omega)

theorem new_any (e d : Int) (w : World) :
    Calls Try.prog 7 #[.int .i64 e, .int .i64 d] w fun r w' => r = .returned (.agg #[.int .i64 (evy e), .int .i64 (dlt d)]) ∧ Below w.heap.size w w' := by
  go_enter Try.func7, Try.ntmps7
  go_wp2_with (go_at_call 22; refine (within_any _ _ _ _ (by omega)).mono ?_; rintro e w' ⟨rfl, rfl⟩)
  exact bodyPost_ret (v := .agg #[.int .i64 (evy e), .int .i64 (dlt d)]) (by simp [results, Try.results7, go_sem, evy, dlt]) rfl ⟨rfl, by go_grown⟩

theorem refnew_any (e d : Int) (w : World) :
    Calls Try.prog 8 #[.int .i64 e, .int .i64 d] w fun r w' => r = .returned (.agg #[.int .i64 (evy e), .int .i64 (dlt d)]) ∧ Below w.heap.size w w' := by
  go_enter Try.func8, Try.ntmps8
  go_wp2_with (go_at_call 13; refine (clamp_any _ _ _ _ (by omega)).mono ?_; rintro e w' ⟨rfl, rfl⟩)
  exact bodyPost_ret (v := .agg #[.int .i64 (evy e), .int .i64 (dlt d)]) (by simp [results, Try.results8, go_sem, evy, dlt]) rfl ⟨rfl, by go_grown⟩

theorem stood24 : Try.prog.stoodInHeld 24 = false := by kernel_rfl
theorem flds24 : Try.prog.fieldsOf 24 = (match Try.prog.underlying 24 with | some (.struct fs) => fs | _ => #[]) := rfl
theorem eq24 (a b c d : Int) (w : World) : (Op.equalIn 10000 24 (.agg #[.int .i64 a, .int .i64 b]) (.agg #[.int .i64 c, .int .i64 d])).run Try.prog w = .ok (a == c && b == d) w := by
  show (Op.equalIn (9999 + 1) 24 _ _).run Try.prog w = _
  have hf := flds24
  rw [Try.underlying24] at hf
  rw [run_equalIn_struct w 9999 24 _ _ (by rw [hf]; exact Try.underlying24) stood24, hf]
  cases h : (a == c) <;> cases h2 : (b == d) <;> simp_all [Op.eqFields, part, go_sem, Try.underlying2]

theorem fld0 (a b : Int) : ∀ w, (Instr.field 24 (.agg #[.int .i64 a, .int .i64 b]) 0).run Try.prog w = .ok (.int .i64 a) w := fun _ => by kernel_rfl
theorem fld1 (a b : Int) : ∀ w, (Instr.field 24 (.agg #[.int .i64 a, .int .i64 b]) 1).run Try.prog w = .ok (.int .i64 b) w := fun _ => by kernel_rfl

theorem own_any (e d : Int) (w : World) :
    Calls Try.prog 23 #[.agg #[.int .i64 e, .int .i64 d]] w fun r w' => r = .returned (.agg #[.int .i64 (evy e), .int .i64 (dlt d)]) ∧ Below w.heap.size w w' := by
  have q := eq24 e d (evy e) (dlt d)
  go_enter Try.func23, Try.ntmps23
  go_wp2_with fail
  refine (new_any _ _ _).mono ?_; rintro r w1 ⟨rfl, h1⟩
  obtain ⟨hc, hf, hz⟩ := after h1
  simp only [World.size_alloc] at hz
  have z0 : w.heap.size < w1.heap.size := by omega
  have z1 : w.heap.size + 1 < w1.heap.size := by omega
  have hb : Below w.heap.size w w1 := (show Below w.heap.size w _ from by go_grown).trans (h1.mono (by simp; omega))
  go_wp2_with fail
  · exact bodyPost_ret (v := .agg #[.int .i64 (evy e), .int .i64 (dlt d)]) (by simp [results, Try.results23, go_sem, hc, z1]) rfl ⟨rfl, by go_grown⟩
  · have hq : (!e == evy e) = false ∧ (!d == dlt d) = false := by assumption
    simp at hq
    refine bodyPost_ret (v := .agg #[.int .i64 e, .int .i64 d]) (by simp [results, Try.results23, go_sem, hc, z1]) rfl ⟨by rw [← hq.1, ← hq.2], by go_grown⟩

/-- the times' bounds -/
theorem time_any (t : Int) (w : World) :
    Calls Try.prog 24 #[.int .i64 t] w fun e w' => e = .returned (.int .i64 (cl t 0 1152921504606846976)) ∧ w = w' := by
  go_enter Try.func24, Try.ntmps24
  go_wp2_with (go_at_call 22; refine (within_any _ _ _ _ (by omega)).mono ?_; rintro e w' ⟨rfl, rfl⟩)
  go_returns
  exact ⟨rfl, rfl⟩
theorem reftime_any (t : Int) (w : World) :
    Calls Try.prog 25 #[.int .i64 t] w fun e w' => e = .returned (.int .i64 (cl t 0 1152921504606846976)) ∧ w = w' := by
  go_enter Try.func25, Try.ntmps25
  go_wp2_with (go_at_call 13; refine (clamp_any _ _ _ _ (by omega)).mono ?_; rintro e w' ⟨rfl, rfl⟩)
  go_returns
  exact ⟨rfl, rfl⟩

def due (e no : Int) : Int := cl no 0 (1152921504606846976 / evy e) * evy e
theorem due_bd (e no : Int) : 0 ≤ 1152921504606846976 / evy e ∧ 1152921504606846976 / evy e ≤ 1152921504606846976 ∧ 0 ≤ due e no ∧ due e no ≤ 1152921504606846976 := by
  have be := evy_bd e
  have h1 : 0 ≤ 1152921504606846976 / evy e := Int.ediv_nonneg (by omega) (by omega)
  have h2 : 1152921504606846976 / evy e ≤ 1152921504606846976 := Int.ediv_le_self _ (by omega)
  have h3 := cl_bd no h1
  have h4 : 1152921504606846976 / evy e * evy e ≤ 1152921504606846976 := Int.ediv_mul_le _ (by omega)
  refine ⟨h1, h2, Int.mul_nonneg h3.1 (by omega), ?_⟩
  exact Int.le_trans (Int.mul_le_mul_of_nonneg_right h3.2 (by omega)) h4

theorem due_any (e d no : Int) (w : World) :
    Calls Try.prog 10 #[.agg #[.int .i64 e, .int .i64 d], .int .i64 no] w fun r w' => r = .returned (.int .i64 (due e no)) ∧ Below w.heap.size w w' := by
  have be := evy_bd e
  have bd := due_bd e no
  have hd : cl no 0 (1152921504606846976 / evy e) * evy e = due e no := rfl
  have hw : wrap64 (cl no 0 (1152921504606846976 / evy e) * evy e) = due e no := by rw [hd]; unfold wrap64; omega
  clear hd
  have q := fld0 (evy e) (dlt d)
  go_enter Try.func10, Try.ntmps10
  go_wp2_with fail
  refine (own_any _ _ _).mono ?_; rintro r w1 ⟨rfl, h1⟩
  have hb : Below w.heap.size w w1 := (show Below w.heap.size w _ from by go_grown).trans (h1.mono (by simp))
  clear h1
  go_wp2_with (go_at_call 22; refine (within_any _ _ _ _ (by omega)).mono ?_; rintro e w' ⟨rfl, rfl⟩)
  go_returns
  exact ⟨ret_int hw, hb⟩

theorem refdue_any (e d no : Int) (w : World) :
    Calls Try.prog 9 #[.agg #[.int .i64 (evy e), .int .i64 (dlt d)], .int .i64 no] w fun r w' => r = .returned (.int .i64 (due e no)) ∧ Below w.heap.size w w' := by
  have be := evy_bd e
  have bd := due_bd e no
  have hd : cl no 0 (1152921504606846976 / evy e) * evy e = due e no := rfl
  have hw : wrap64 (cl no 0 (1152921504606846976 / evy e) * evy e) = due e no := by rw [hd]; unfold wrap64; omega
  clear hd
  go_enter Try.func9, Try.ntmps9
  go_wp2_with fail
  have t0 : (1152921504606846976 : Int).tdiv (evy e) = 1152921504606846976 / evy e := Int.tdiv_eq_ediv_of_nonneg (by omega)
  have t1 : IntKind.i64.wrap (1152921504606846976 / evy e) = 1152921504606846976 / evy e := IntWalk.i64_in _ ⟨by omega, by omega⟩
  have t2 : evy e ≠ 0 := by omega
  have t3 : (evy e == 0) = false := by simp; omega
  go_quiet ((go_at_call 13; exact Calls.quiet_of_same (clamp_any _ _ _ _ (by omega))))
  go_wp2
  go_returns
  exact ⟨ret_int hw, bel_drewN (by go_grown) _⟩

theorem keepS {w wx w1 : World} {u v : Value} (h1 : Below wx.heap.size wx w1) (c0 : wx.cell? ⟨w.heap.size, 0, none⟩ = some u) (c1 : wx.cell? ⟨w.heap.size, 1, none⟩ = some v) (z : w.heap.size < wx.heap.size) (b : Below w.heap.size w wx) :
    w1.cell? ⟨w.heap.size, 0, none⟩ = some u ∧ w1.cell? ⟨w.heap.size, 1, none⟩ = some v ∧ w.heap.size < w1.heap.size ∧ Below w.heap.size w w1 :=
  ⟨(h1.cell (p := ⟨w.heap.size, 0, none⟩) z).trans c0, (h1.cell (p := ⟨w.heap.size, 1, none⟩) z).trans c1, Nat.lt_of_lt_of_le z h1.size, b.trans (h1.mono (Nat.le_of_lt z))⟩

theorem view_any (e d no : Int) (w : World) :
    Calls Try.prog 11 #[.agg #[.int .i64 e, .int .i64 d], .int .i64 no] w fun r w' => r = .returned (.int .i64 (due e no + dlt d)) ∧ Below w.heap.size w w' := by
  have bd := due_bd e no
  have bl := dlt_bd d
  have q := fld1 (evy e) (dlt d)
  go_enter Try.func11, Try.ntmps11
  go_wp2_with fail
  go_region_held3 (fun w' => w'.cell? ⟨w.heap.size, 0, none⟩ = some (.int .i64 e) ∧ w'.cell? ⟨w.heap.size, 1, none⟩ = some (.int .i64 d) ∧ w.heap.size < w'.heap.size ∧ Below w.heap.size w w')
    (first | (exact ⟨by simp, by simp, by simp, by go_grown⟩) | (go_split_ands; exact keepS h1 (by first | assumption | simp) (by first | assumption | simp) (by first | assumption | simp) (by first | assumption | go_grown)) | go_keep)
    (first | (go_at_call 10; refine (due_any _ _ _ _).mono ?_; rintro r w1 ⟨rfl, h1⟩) | (go_at_call 23; refine (own_any _ _ _).mono ?_; rintro r w1 ⟨rfl, h1⟩))
  all_goals (go_wp2; go_returns; go_split_ands; exact ⟨ret_int (IntWalk.i64_in _ ⟨by omega, by omega⟩), by assumption⟩)
end Go.Proofs.Ytndchjaejcpkdaa
