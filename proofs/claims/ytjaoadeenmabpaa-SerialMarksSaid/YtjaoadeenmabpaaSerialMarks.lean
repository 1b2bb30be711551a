/- The law SerialMarks: for every input the call returns true and each argument reads behind it as it read before. No condition. This text is the row's step; the walk lies in YtjaoadeenmabpaaX. -/
import Derived.Test.YtjaoadeenmabpaaRows
import Derived.Test.YtjaoadeenmabpaaX
namespace Go.Proofs.Ytjaoadeenmabpaa
open Go.ChangeShapes Go.WideShapes Go.ChangeAt Go.RowKit

theorem serialMarksOwn : ownKnob Try.prog.godebug = none := by kernel_rfl
theorem serialMarksLaid : laidOutB Try.prog = true := by kernel_rfl

set_option maxRecDepth 100000 in
theorem serialMarksLifted (os : Os) (started : os.Started) (H : Type) (enc : TypeId × Value → H) :
    ReturnsInHanded {} Try.checked os 6 .any (Rows.serialMarksSpec.pre6 enc Try.prog Try.f6 Rows.serialMarksRow.domain false) (Rows.serialMarksSpec.post enc Try.prog Try.f6 false true false false) := by
  refine returnsInHanded_of_change (C := Try.checked) serialMarksOwn started (by kernel_rfl) Try.func6
    (ChangeSpec.witness6 (enc := enc) (C := Try.checked) false ⟨#[], #[.slice none 0 0], []⟩ 8 (by kernel_rfl) (by kernel_rfl) (by kernel_rfl) (by kernel_rfl)) ?_
  intro W base args ds gs before hval0 hW hcnd _
  have hval : ∀ (j : Nat) t v, Try.f6.params[j]? = some t → args[j]? = some v → Value.okWide Try.prog W .any base t v := hval0
  have hW' := hW
  obtain ⟨p, q, hA0, hV, rfl, hfz, hnd⟩ := hW
  have hA : DataW.TrodAll enc Try.prog W 0 (fun _ => true) true Try.f6.params.toList args.toList ds p := hA0
  rw [Try.params6] at hA hval
  obtain ⟨v0, vs0, d0, ds0, p0, q0, hargs, rfl, rfl, h0, r0⟩ := trodAll_cons hA
  obtain ⟨rfl, rfl, rfl⟩ := trodAll_nil r0
  obtain rfl : args = #[v0] := by cases args; simp_all
  obtain ⟨rfl, rfl⟩ := trodVars_none hV
  obtain ⟨a0, len0, cap0, rfl⟩ := okWide_slice Try.underlying31 (hval 0 31 v0 rfl rfl)
  have k0 := h0
  have lt0 : ∀ x ∈ p0, x.block < W.heap.size := by obtain ⟨m, hm⟩ := k0; exact DataW.trod_lt m _ _ _ hm
  obtain ⟨x00, x01, x02, s0, l0, w00, w01, w02⟩ : ∃ (x00 : Nat → Int) (x01 : Nat → Int) (x02 : Nat → Int), IsSl W a0 len0 3 (fun i => [.int .i64 (x00 i), .int .i64 (x01 i), .int .u32 (x02 i)]) ∧ len0 ≤ maxLen ∧ (∀ i, (Lit.int .i64 (x00 i)).wf = true) ∧ (∀ i, (Lit.int .i64 (x01 i)).wf = true) ∧ (∀ i, (Lit.int .u32 (x02 i)).wf = true) := by
    obtain ⟨fuel, hf⟩ := h0
    have H := open_slF Try.underlying31 Try.underlying35 (by kernel_rfl) (by kernel_rfl) (by simp) hf
    exact sl_iii H Try.underlying2 Try.underlying3 Try.underlying22
  clear hA0 hval0
  refine (serialMarksWalk a0 len0 cap0 x00 x01 x02 W s0 l0 w00 w01 w02).mono fun e W' ⟨he, bel⟩ => ?_
  subst he
  exact ⟨_, rfl, _, _, _, [], _, [], hW', trodAll_mk1 (shut_bool Try.underlying4 _), (trodAll_cons_mk (Below.trod serialMarksLaid (by kernel_rfl) (of_decide_eq_true (by kernel_rfl)) k0 bel lt0) trodAll_mk0), rfl, bel.frame _, fun h => by cases h⟩

/-- The statement. -/
theorem serialMarks_holds : Rows.SerialMarksSaid :=
  OpenClaim.holds_of_wide 6 Try.f6 rfl rfl rfl rfl rfl rfl rfl ⟨rfl, rfl, rfl, rfl, rfl⟩ rfl rfl rfl rfl rfl (by kernel_rfl) Try.func6 (by kernel_rfl)
    (of_decide_eq_true (by kernel_rfl)) (by unfold Func.isWrapper; first | (rw [if_pos (by decide +kernel)]; kernel_rfl) | (rw [if_neg (by decide +kernel)]; exact ⟨rfl, rfl⟩))
    (fun os started H enc _ => serialMarksLifted os started H enc)
#print axioms serialMarks_holds
end Go.Proofs.Ytjaoadeenmabpaa
