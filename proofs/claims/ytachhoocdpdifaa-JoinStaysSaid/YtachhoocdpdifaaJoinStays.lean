/- The law JoinStays: for every input the call returns true and each argument reads behind it as it read before. No condition. This text is the row's step; the walk lies in YtachhoocdpdifaaE. -/
import Derived.Test.YtachhoocdpdifaaRows
import Derived.Test.YtachhoocdpdifaaE
namespace Go.Proofs.Ytachhoocdpdifaa
open Go.ChangeShapes Go.WideShapes Go.ChangeAt Go.RowKit

theorem joinStaysOwn : ownKnob Try.prog.godebug = none := by kernel_rfl
theorem joinStaysLaid : laidOutB Try.prog = true := by kernel_rfl

set_option maxRecDepth 100000 in
theorem joinStaysLifted (os : Os) (started : os.Started) (H : Type) (enc : TypeId × Value → H) :
    ReturnsInHanded {} Try.checked os 4 .any (Rows.joinStaysSpec.pre6 enc Try.prog Try.f4 Rows.joinStaysRow.domain false) (Rows.joinStaysSpec.post enc Try.prog Try.f4 false true false false) := by
  refine returnsInHanded_of_change (C := Try.checked) joinStaysOwn started (by kernel_rfl) Try.func4
    (ChangeSpec.witness6 (enc := enc) (C := Try.checked) false ⟨#[], #[.slice none 0 0], []⟩ 8 (by kernel_rfl) (by kernel_rfl) (by kernel_rfl) (by kernel_rfl)) ?_
  intro W base args ds gs before hval0 hW hcnd _
  have hval : ∀ (j : Nat) t v, Try.f4.params[j]? = some t → args[j]? = some v → Value.okWide Try.prog W .any base t v := hval0
  have hW' := hW
  obtain ⟨p, q, hA0, hV, rfl, hfz, hnd⟩ := hW
  have hA : DataW.TrodAll enc Try.prog W 0 (fun _ => true) true Try.f4.params.toList args.toList ds p := hA0
  rw [Try.params4] at hA hval
  obtain ⟨v0, vs0, d0, ds0, p0, q0, hargs, rfl, rfl, h0, r0⟩ := trodAll_cons hA
  obtain ⟨rfl, rfl, rfl⟩ := trodAll_nil r0
  obtain rfl : args = #[v0] := by cases args; simp_all
  obtain ⟨rfl, rfl⟩ := trodVars_none hV
  obtain ⟨a0, len0, cap0, rfl⟩ := okWide_slice Try.underlying35 (hval 0 35 v0 rfl rfl)
  have k0 := h0
  have lt0 : ∀ x ∈ p0, x.block < W.heap.size := by obtain ⟨m, hm⟩ := k0; exact DataW.trod_lt m _ _ _ hm
  obtain ⟨x00, s0, l0, w00⟩ : ∃ (x00 : Nat → Int), IsSl W a0 len0 1 (fun i => [.int .i64 (x00 i)]) ∧ len0 ≤ maxLen ∧ (∀ i, (Lit.int .i64 (x00 i)).wf = true) := by
    obtain ⟨fuel, hf⟩ := h0
    exact open_sl1_int Try.underlying35 Try.underlying2 (by kernel_rfl) hf
  clear hA0 hval0
  refine (joinStaysWalk a0 len0 cap0 x00 W s0 l0 w00).mono fun e W' ⟨he, bel⟩ => ?_
  subst he
  exact ⟨_, rfl, _, _, _, [], _, [], hW', trodAll_mk1 (shut_bool Try.underlying4 _), (trodAll_cons_mk (Below.trod joinStaysLaid (by kernel_rfl) (of_decide_eq_true (by kernel_rfl)) k0 bel lt0) trodAll_mk0), rfl, bel.frame _, fun h => by cases h⟩

/-- The statement. -/
theorem joinStays_holds : Rows.JoinStaysSaid :=
  OpenClaim.holds_of_wide 4 Try.f4 rfl rfl rfl rfl rfl rfl rfl ⟨rfl, rfl, rfl, rfl, rfl⟩ rfl rfl rfl rfl rfl (by kernel_rfl) Try.func4 (by kernel_rfl)
    (of_decide_eq_true (by kernel_rfl)) (by unfold Func.isWrapper; first | (rw [if_pos (by decide +kernel)]; kernel_rfl) | (rw [if_neg (by decide +kernel)]; exact ⟨rfl, rfl⟩))
    (fun os started H enc _ => joinStaysLifted os started H enc)
#print axioms joinStays_holds
end Go.Proofs.Ytachhoocdpdifaa
