/- The example of the chapter, and what the walks of the laws carry along. -/
import Derived.Test.YtndchjaejcpkdaaC
import Derived.Deep.DeepCutAuto
namespace Go.Proofs.Ytndchjaejcpkdaa
open Go Go.RowKit Go.ChangeShapes Go.WideShapes
set_option linter.unusedVariables false

theorem bel_tr {w a b : World} (h : Below w.heap.size w a) (k : Below a.heap.size a b) : Below w.heap.size w b := h.trans (k.mono h.size)

theorem keepG {w wx w1 : World} {g : Nat} {u v : Value} (h1 : Below wx.heap.size wx w1) (c0 : wx.cell? ⟨g, 0, none⟩ = some u) (c1 : wx.cell? ⟨g, 1, none⟩ = some v) (z : g < wx.heap.size) (b : Below w.heap.size w wx) :
    w1.cell? ⟨g, 0, none⟩ = some u ∧ w1.cell? ⟨g, 1, none⟩ = some v ∧ g < w1.heap.size ∧ Below w.heap.size w w1 :=
  ⟨(h1.cell (p := ⟨g, 0, none⟩) z).trans c0, (h1.cell (p := ⟨g, 1, none⟩) z).trans c1, Nat.lt_of_lt_of_le z h1.size, bel_tr b h1⟩

theorem works_any (w : World) :
    Calls Try.prog 14 #[] w fun r w' => r = .returned (.bool true) ∧ Below w.heap.size w w' := by
  have n1 : evy 100 = 100 := by decide
  have n2 : dlt 30 = 30 := by decide
  have d1 : due 100 3 = 300 := by decide
  have d2 : frm 100 300 = 3 := by decide
  have d3 : ofp 100 300 = 3 := by decide
  have d4 : ofp 100 399 = 3 := by decide
  have d5 : tm 330 = 330 := by decide
  have d6 : tm 329 = 329 := by decide
  have d7 : ripe 100 30 329 = 2 := by decide
  go_enter Try.func14, Try.ntmps14
  go_wp2_with fail
  refine (new_any _ _ _).mono ?_; rintro r w1 ⟨rfl, h1⟩
  go_wp2_with fail
  have c0 : (w1.alloc (.cells #[.int .i64 100, .int .i64 30] 24)).cell? ⟨w1.heap.size, 0, none⟩ = some (.int .i64 100) := by simp
  have c1 : (w1.alloc (.cells #[.int .i64 100, .int .i64 30] 24)).cell? ⟨w1.heap.size, 1, none⟩ = some (.int .i64 30) := by simp
  have z : w1.heap.size < (w1.alloc (.cells #[.int .i64 100, .int .i64 30] 24)).heap.size := by simp
  have hb : Below w.heap.size w (w1.alloc (.cells #[.int .i64 100, .int .i64 30] 24)) := h1.alloc h1.size _
  clear h1
  generalize (w1.alloc (.cells #[.int .i64 100, .int .i64 30] 24)) = wx at *
  generalize w1.heap.size = g at *
  clear w1
  go_wp2_with (first
    | (go_at_call 10; refine (due_any _ _ _ _).mono ?_; rintro r w1 ⟨rfl, h1⟩; obtain ⟨c0, c1, z, hb⟩ := keepG h1 c0 c1 z hb; clear h1)
    | (go_at_call 11; refine (view_any _ _ _ _).mono ?_; rintro r w1 ⟨rfl, h1⟩; obtain ⟨c0, c1, z, hb⟩ := keepG h1 c0 c1 z hb; clear h1)
    | (go_at_call 15; refine (from_any _ _ _ _).mono ?_; rintro r w1 ⟨rfl, h1⟩; obtain ⟨c0, c1, z, hb⟩ := keepG h1 c0 c1 z hb; clear h1)
    | (go_at_call 19; refine (behind_any _ _ _ _).mono ?_; rintro r w1 ⟨rfl, h1⟩; obtain ⟨c0, c1, z, hb⟩ := keepG h1 c0 c1 z hb; clear h1)
    | (go_at_call 17; refine (of_any _ _ _ _).mono ?_; rintro r w1 ⟨rfl, h1⟩; obtain ⟨c0, c1, z, hb⟩ := keepG h1 c0 c1 z hb; clear h1)
    | (go_at_call 12; refine (gone_any _ _ _ _ _).mono ?_; rintro r w1 ⟨rfl, h1⟩; obtain ⟨c0, c1, z, hb⟩ := keepG h1 c0 c1 z hb; clear h1)
    | (go_at_call 20; refine (ripe_any _ _ _ _).mono ?_; rintro r w1 ⟨rfl, h1⟩; obtain ⟨c0, c1, z, hb⟩ := keepG h1 c0 c1 z hb; clear h1))
  all_goals (go_returns; exact ⟨rfl, by assumption⟩)

theorem new_ex (e d : Int) (w : World) :
    Calls Try.prog 7 #[.int .i64 e, .int .i64 d] w fun r w' => r = .returned (.agg #[.int .i64 (evy e), .int .i64 (dlt d)]) ∧ w.alloc (.cells #[.int .i64 (evy e), .int .i64 (dlt d)] 24) = w' := by
  go_enter Try.func7, Try.ntmps7
  go_wp2_with (go_at_call 22; refine (within_any _ _ _ _ (by omega)).mono ?_; rintro e w' ⟨rfl, rfl⟩)
  exact bodyPost_ret (v := .agg #[.int .i64 (evy e), .int .i64 (dlt d)]) (by simp [results, Try.results7, go_sem, evy, dlt]) rfl ⟨rfl, rfl⟩
theorem refnew_ex (e d : Int) (w : World) :
    Calls Try.prog 8 #[.int .i64 e, .int .i64 d] w fun r w' => r = .returned (.agg #[.int .i64 (evy e), .int .i64 (dlt d)]) ∧ w.alloc (.cells #[.int .i64 (evy e), .int .i64 (dlt d)] 26) = w' := by
  go_enter Try.func8, Try.ntmps8
  go_wp2_with (go_at_call 13; refine (clamp_any _ _ _ _ (by omega)).mono ?_; rintro e w' ⟨rfl, rfl⟩)
  exact bodyPost_ret (v := .agg #[.int .i64 (evy e), .int .i64 (dlt d)]) (by simp [results, Try.results8, go_sem, evy, dlt]) rfl ⟨rfl, rfl⟩

theorem keep2 {w wx w1 : World} {g h : Nat} {u v a b : Value} (h1 : Below wx.heap.size wx w1) (s : wx.cell? ⟨g, 0, none⟩ = some u ∧ wx.cell? ⟨g, 1, none⟩ = some v ∧ g < wx.heap.size ∧ wx.cell? ⟨h, 0, none⟩ = some a ∧ wx.cell? ⟨h, 1, none⟩ = some b ∧ h < wx.heap.size ∧ Below w.heap.size w wx) :
    w1.cell? ⟨g, 0, none⟩ = some u ∧ w1.cell? ⟨g, 1, none⟩ = some v ∧ g < w1.heap.size ∧ w1.cell? ⟨h, 0, none⟩ = some a ∧ w1.cell? ⟨h, 1, none⟩ = some b ∧ h < w1.heap.size ∧ Below w.heap.size w w1 :=
  ⟨(h1.cell (p := ⟨g, 0, none⟩) s.2.2.1).trans s.1, (h1.cell (p := ⟨g, 1, none⟩) s.2.2.1).trans s.2.1, Nat.lt_of_lt_of_le s.2.2.1 h1.size,
   (h1.cell (p := ⟨h, 0, none⟩) s.2.2.2.2.2.1).trans s.2.2.2.1, (h1.cell (p := ⟨h, 1, none⟩) s.2.2.2.2.2.1).trans s.2.2.2.2.1, Nat.lt_of_lt_of_le s.2.2.2.2.2.1 h1.size, bel_tr s.2.2.2.2.2.2 h1⟩

theorem clamp_tm (t : Int) (w : World) :
    Calls Try.prog 13 #[.int .i64 t, .int .i64 0, .int .i64 1152921504606846976] w fun e w' => e = .returned (.int .i64 (tm t)) ∧ w = w' := (clamp_any t 0 1152921504606846976 w (by omega)).mono fun _ _ h => ⟨h.1, h.2.symm⟩

theorem due_evy (e no : Int) : due (evy e) no = due e no := by unfold due; rw [evy_evy]
theorem ofp_evy (e t : Int) : ofp (evy e) t = ofp e t := by unfold ofp; rw [evy_evy]
theorem frm_evy (e t : Int) : frm (evy e) t = frm e t := by unfold frm; rw [evy_evy]
theorem ripe_evy (e d t : Int) : ripe (evy e) (dlt d) t = ripe e d t := by unfold ripe; rw [dlt_dlt, ofp_evy]
end Go.Proofs.Ytndchjaejcpkdaa
