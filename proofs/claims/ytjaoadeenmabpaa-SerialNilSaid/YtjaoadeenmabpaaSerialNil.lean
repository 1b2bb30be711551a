/- The law SerialNil: for every input the call returns true and each argument reads behind it as it read before. No condition. This text is the row's step; the walk lies in YtjaoadeenmabpaaA. -/
import Derived.Test.YtjaoadeenmabpaaRows
import Derived.Test.YtjaoadeenmabpaaA
namespace Go.Proofs.Ytjaoadeenmabpaa
open Go.ChangeShapes Go.WideShapes Go.ChangeAt Go.RowKit

theorem serialNilOwn : ownKnob Try.prog.godebug = none := by kernel_rfl
theorem serialNilLaid : laidOutB Try.prog = true := by kernel_rfl

set_option maxRecDepth 100000 in
theorem serialNilLifted (os : Os) (started : os.Started) (H : Type) (enc : TypeId × Value → H) :
    ReturnsInHanded {} Try.checked os 5 .any (Rows.serialNilSpec.pre6 enc Try.prog Try.f5 Rows.serialNilRow.domain false) (Rows.serialNilSpec.post enc Try.prog Try.f5 false true false false) := by
  refine returnsInHanded_of_change (C := Try.checked) serialNilOwn started (by kernel_rfl) Try.func5
    (ChangeSpec.witness6 (enc := enc) (C := Try.checked) false ⟨#[], #[.agg #[.int .i64 0, .int .i64 0, .int .u32 0]], []⟩ 8 (by kernel_rfl) (by kernel_rfl) (by kernel_rfl) (by kernel_rfl)) ?_
  intro W base args ds gs before hval0 hW hcnd _
  have hval : ∀ (j : Nat) t v, Try.f5.params[j]? = some t → args[j]? = some v → Value.okWide Try.prog W .any base t v := hval0
  have hW' := hW
  obtain ⟨p, q, hA0, hV, rfl, hfz, hnd⟩ := hW
  have hA : DataW.TrodAll enc Try.prog W 0 (fun _ => true) true Try.f5.params.toList args.toList ds p := hA0
  rw [Try.params5] at hA hval
  obtain ⟨v0, vs0, d0, ds0, p0, q0, hargs, rfl, rfl, h0, r0⟩ := trodAll_cons hA
  obtain ⟨rfl, rfl, rfl⟩ := trodAll_nil r0
  obtain rfl : args = #[v0] := by cases args; simp_all
  obtain ⟨rfl, rfl⟩ := trodVars_none hV
  have k0 := h0
  have lt0 : ∀ x ∈ p0, x.block < W.heap.size := by obtain ⟨m, hm⟩ := k0; exact DataW.trod_lt m _ _ _ hm
  obtain ⟨u00, u01, u02, y00, y01, y02, m0, rfl, -, -, g00, g01, g02⟩ := Joins.open_agg3 Try.underlying35 (by kernel_rfl) (by kernel_rfl) (hval 0 35 v0 rfl rfl) h0
  obtain ⟨x00, e00, -, w00⟩ := DataW.trod_int Try.underlying2 g00; simp only [List.cons.injEq, and_true] at e00; subst e00
  obtain ⟨x01, e01, -, w01⟩ := DataW.trod_int Try.underlying3 g01; simp only [List.cons.injEq, and_true] at e01; subst e01
  obtain ⟨x02, e02, -, w02⟩ := DataW.trod_int Try.underlying22 g02; simp only [List.cons.injEq, and_true] at e02; subst e02
  clear hA0 hval0
  refine (serialNilWalk x00 x01 x02 W w00 w01 w02).mono fun e W' ⟨he, bel⟩ => ?_
  subst he
  exact ⟨_, rfl, _, _, _, [], _, [], hW', trodAll_mk1 (shut_bool Try.underlying4 _), (trodAll_cons_mk (Below.trod serialNilLaid (by kernel_rfl) (of_decide_eq_true (by kernel_rfl)) k0 bel lt0) trodAll_mk0), rfl, bel.frame _, fun h => by cases h⟩

/-- The statement. -/
theorem serialNil_holds : Rows.SerialNilSaid :=
  OpenClaim.holds_of_wide 5 Try.f5 rfl rfl rfl rfl rfl rfl rfl ⟨rfl, rfl, rfl, rfl, rfl⟩ rfl rfl rfl rfl rfl (by kernel_rfl) Try.func5 (by kernel_rfl)
    (of_decide_eq_true (by kernel_rfl)) (by unfold Func.isWrapper; first | (rw [if_pos (by decide +kernel)]; kernel_rfl) | (rw [if_neg (by decide +kernel)]; exact ⟨rfl, rfl⟩))
    (fun os started H enc _ => serialNilLifted os started H enc)
#print axioms serialNil_holds
end Go.Proofs.Ytjaoadeenmabpaa
