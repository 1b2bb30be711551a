/-
  No cell of these rows narrows 'for every input' (looked for: loops, veiled, ifaces, maps, wideKeys, modest, calm, conditions, laid).
  DERIVED. THE GIVEN ROWS OF THIS SEAT. 7 by the template 'for every input the law returns true; each argument reads behind the call as it read before'; 0 by the template 'total and deterministic' (their statements: YtfjndbmhpheocaaTotals.lean).
  GIVEN WITH THE SEED: the statements are not yours to turn. If you find one false, say at which input.
  Laid BY PROGRAM, IN A SANDBOX (cutbox-rows.mjs): the forced cells as the released guide's own fill.sh prints them over the translation 3c172f5ade179399… (all of the seat's roots in one cut). By AI agents, Wed Nov 11 2026. No macro, syntax, notation, axiom, sorry.
-/
import Derived.Test.YtfjndbmhpheocaaChecked
import GoSem.Claim
import GoSem.ClaimJoined
import GoSem.ClaimMapViews
import Derived.JoinedTies
import Derived.KernelRfl
namespace Go.Proofs.Ytfjndbmhpheocaa
/- THE CELL 'sum', in the pinned program and in every row, IS THE sha256 OF THE DUMP (.gsa) THAT YtfjndbmhpheocaaProg.lean LOADS. Nothing in Lean hashes anything: it is a label: what it is worth is what the hold of that sum in a sandbox is worth. -/
noncomputable def Try.pinned : Pinned := { name := "ytfjndbmhpheocaa", sum := "3c172f5ade1793994571eff14a58d5e1ea958e5be148e0bae1ff21a78c650b3d", checked := Try.checked }
namespace Rows
def none {H : Type} : Left H := { results := [], args := [] }

/-- 'angeluslaw02.UnitZigs': WHATEVER THE INPUT: true; the input reads as it did. -/
def unitZigsSpec : ChangeSpec := { name := "unitZigs", fn := fun _ => fun
  | [d] => { results := [.lit (.bool true)], args := [d] }
  | _ => none }
def unitZigsRow : OpenClaim := { program := "ytfjndbmhpheocaa", sum := "3c172f5ade1793994571eff14a58d5e1ea958e5be148e0bae1ff21a78c650b3d", func := "angelus/angeluslaw02.UnitZigs", spec := "unitZigs", apart := false }
def UnitZigsSaid : Prop := unitZigsRow.holds Try.pinned (OpenSpec.ofChange unitZigsSpec)

/-- ITS FALSE NEIGHBOUR: 'it returns false'. Refute it at one input. -/
def unitZigsWrong : ChangeSpec := { name := "unitZigs", fn := fun _ => fun
  | [d] => { results := [.lit (.bool false)], args := [d] }
  | _ => none }
def UnitZigsWrongFalsely : Prop := unitZigsRow.holds Try.pinned (OpenSpec.ofChange unitZigsWrong)

/-- 'angeluslaw02.UnitNear': WHATEVER THE INPUT: true; the input reads as it did. -/
def unitNearSpec : ChangeSpec := { name := "unitNear", fn := fun _ => fun
  | [d1, d2, d3] => { results := [.lit (.bool true)], args := [d1, d2, d3] }
  | _ => none }
def unitNearRow : OpenClaim := { program := "ytfjndbmhpheocaa", sum := "3c172f5ade1793994571eff14a58d5e1ea958e5be148e0bae1ff21a78c650b3d", func := "angelus/angeluslaw02.UnitNear", spec := "unitNear", apart := false }
def UnitNearSaid : Prop := unitNearRow.holds Try.pinned (OpenSpec.ofChange unitNearSpec)

/-- ITS FALSE NEIGHBOUR: 'it returns false'. Refute it at one input. -/
def unitNearWrong : ChangeSpec := { name := "unitNear", fn := fun _ => fun
  | [d1, d2, d3] => { results := [.lit (.bool false)], args := [d1, d2, d3] }
  | _ => none }
def UnitNearWrongFalsely : Prop := unitNearRow.holds Try.pinned (OpenSpec.ofChange unitNearWrong)

/-- 'angeluslaw02.UnitLows': WHATEVER THE INPUT: true; the input reads as it did. -/
def unitLowsSpec : ChangeSpec := { name := "unitLows", fn := fun _ => fun
  | [d1, d2] => { results := [.lit (.bool true)], args := [d1, d2] }
  | _ => none }
def unitLowsRow : OpenClaim := { program := "ytfjndbmhpheocaa", sum := "3c172f5ade1793994571eff14a58d5e1ea958e5be148e0bae1ff21a78c650b3d", func := "angelus/angeluslaw02.UnitLows", spec := "unitLows", apart := false }
def UnitLowsSaid : Prop := unitLowsRow.holds Try.pinned (OpenSpec.ofChange unitLowsSpec)

/-- ITS FALSE NEIGHBOUR: 'it returns false'. Refute it at one input. -/
def unitLowsWrong : ChangeSpec := { name := "unitLows", fn := fun _ => fun
  | [d1, d2] => { results := [.lit (.bool false)], args := [d1, d2] }
  | _ => none }
def UnitLowsWrongFalsely : Prop := unitLowsRow.holds Try.pinned (OpenSpec.ofChange unitLowsWrong)

/-- 'angeluslaw02.UnitTicks': WHATEVER THE INPUT: true; the input reads as it did. -/
def unitTicksSpec : ChangeSpec := { name := "unitTicks", fn := fun _ => fun
  | [d] => { results := [.lit (.bool true)], args := [d] }
  | _ => none }
def unitTicksRow : OpenClaim := { program := "ytfjndbmhpheocaa", sum := "3c172f5ade1793994571eff14a58d5e1ea958e5be148e0bae1ff21a78c650b3d", func := "angelus/angeluslaw02.UnitTicks", spec := "unitTicks", apart := false }
def UnitTicksSaid : Prop := unitTicksRow.holds Try.pinned (OpenSpec.ofChange unitTicksSpec)

/-- ITS FALSE NEIGHBOUR: 'it returns false'. Refute it at one input. -/
def unitTicksWrong : ChangeSpec := { name := "unitTicks", fn := fun _ => fun
  | [d] => { results := [.lit (.bool false)], args := [d] }
  | _ => none }
def UnitTicksWrongFalsely : Prop := unitTicksRow.holds Try.pinned (OpenSpec.ofChange unitTicksWrong)

/-- 'angeluslaw02.UnitBytes': WHATEVER THE INPUT: true; the input reads as it did. -/
def unitBytesSpec : ChangeSpec := { name := "unitBytes", fn := fun _ => fun
  | [d] => { results := [.lit (.bool true)], args := [d] }
  | _ => none }
def unitBytesRow : OpenClaim := { program := "ytfjndbmhpheocaa", sum := "3c172f5ade1793994571eff14a58d5e1ea958e5be148e0bae1ff21a78c650b3d", func := "angelus/angeluslaw02.UnitBytes", spec := "unitBytes", apart := false }
def UnitBytesSaid : Prop := unitBytesRow.holds Try.pinned (OpenSpec.ofChange unitBytesSpec)

/-- ITS FALSE NEIGHBOUR: 'it returns false'. Refute it at one input. -/
def unitBytesWrong : ChangeSpec := { name := "unitBytes", fn := fun _ => fun
  | [d] => { results := [.lit (.bool false)], args := [d] }
  | _ => none }
def UnitBytesWrongFalsely : Prop := unitBytesRow.holds Try.pinned (OpenSpec.ofChange unitBytesWrong)

/-- 'angeluslaw02.UnitWhole': WHATEVER THE INPUT: true; the input reads as it did. -/
def unitWholeSpec : ChangeSpec := { name := "unitWhole", fn := fun _ => fun
  | [d1, d2, d3] => { results := [.lit (.bool true)], args := [d1, d2, d3] }
  | _ => none }
def unitWholeRow : OpenClaim := { program := "ytfjndbmhpheocaa", sum := "3c172f5ade1793994571eff14a58d5e1ea958e5be148e0bae1ff21a78c650b3d", func := "angelus/angeluslaw02.UnitWhole", spec := "unitWhole", apart := false }
def UnitWholeSaid : Prop := unitWholeRow.holds Try.pinned (OpenSpec.ofChange unitWholeSpec)

/-- ITS FALSE NEIGHBOUR: 'it returns false'. Refute it at one input. -/
def unitWholeWrong : ChangeSpec := { name := "unitWhole", fn := fun _ => fun
  | [d1, d2, d3] => { results := [.lit (.bool false)], args := [d1, d2, d3] }
  | _ => none }
def UnitWholeWrongFalsely : Prop := unitWholeRow.holds Try.pinned (OpenSpec.ofChange unitWholeWrong)

/-- 'angeluslaw02.UnitBack': WHATEVER THE INPUT: true; the input reads as it did. -/
def unitBackSpec : ChangeSpec := { name := "unitBack", fn := fun _ => fun
  | [d1, d2] => { results := [.lit (.bool true)], args := [d1, d2] }
  | _ => none }
def unitBackRow : OpenClaim := { program := "ytfjndbmhpheocaa", sum := "3c172f5ade1793994571eff14a58d5e1ea958e5be148e0bae1ff21a78c650b3d", func := "angelus/angeluslaw02.UnitBack", spec := "unitBack", apart := false }
def UnitBackSaid : Prop := unitBackRow.holds Try.pinned (OpenSpec.ofChange unitBackSpec)

/-- ITS FALSE NEIGHBOUR: 'it returns false'. Refute it at one input. -/
def unitBackWrong : ChangeSpec := { name := "unitBack", fn := fun _ => fun
  | [d1, d2] => { results := [.lit (.bool false)], args := [d1, d2] }
  | _ => none }
def UnitBackWrongFalsely : Prop := unitBackRow.holds Try.pinned (OpenSpec.ofChange unitBackWrong)

/- THE SECOND FORM. 'bulk': how many values and letters a reading holds, each counted each time it is reached (what is shared counts as often as it is met; a slice's spare places count too). A statement '..UptoSaid' is the law's where the arguments, and the package variables that the reading takes, are together of bulk at most 1048576: NARROWER than '..Said'. Prove '..Said' where nothing that the law and all that it calls make is longer than what came in: it says more and counts as full. Else prove '..UptoSaid'. A law counts once. -/
mutual
def uptoBulk {H : Type} : DataW H → Nat
  | .lit (.string bytes) => bytes.length + 1
  | .lit _ => 1
  | .nil => 1
  | .ptr d => uptoBulk d + 1
  | .slice elems spare => uptoBulkAll elems + uptoBulkAll spare + 1
  | .agg parts => uptoBulkAll parts + 1
  | .iface _ d => uptoBulk d + 1
  | .map entries => uptoBulkEntries entries + 1
  | .held _ => 1
def uptoBulkAll {H : Type} : List (DataW H) → Nat
  | [] => 0
  | d :: r => uptoBulk d + uptoBulkAll r
def uptoBulkEntries {H : Type} : List (Lit × DataW H) → Nat
  | [] => 0
  | x :: r => uptoBulkEntry x + uptoBulkEntries r
def uptoBulkEntry {H : Type} : Lit × DataW H → Nat
  | (.string bytes, d) => bytes.length + uptoBulk d + 1
  | (_, d) => uptoBulk d + 1
 end
def uptoSmall : (H : Type) → List (DataW H) → Bool := fun _ ds => decide (uptoBulkAll ds ≤ 1048576)
def OpenSpec.upto (s : _root_.Go.ChangeSpec) : _root_.Go.OpenSpec := { _root_.Go.OpenSpec.ofChange s with cond := some uptoSmall }

/-- 'angeluslaw02.UnitZigs', WHERE WHAT IT READS IS OF BULK AT MOST 1048576: true; the input reads as it did. -/
def unitZigsUptoRow : OpenClaim := { program := "ytfjndbmhpheocaa", sum := "3c172f5ade1793994571eff14a58d5e1ea958e5be148e0bae1ff21a78c650b3d", func := "angelus/angeluslaw02.UnitZigs", spec := "unitZigs", apart := false, narrowed := true }
def UnitZigsUptoSaid : Prop := unitZigsUptoRow.holds Try.pinned (OpenSpec.upto unitZigsSpec)

/-- 'angeluslaw02.UnitNear', WHERE WHAT IT READS IS OF BULK AT MOST 1048576: true; the input reads as it did. -/
def unitNearUptoRow : OpenClaim := { program := "ytfjndbmhpheocaa", sum := "3c172f5ade1793994571eff14a58d5e1ea958e5be148e0bae1ff21a78c650b3d", func := "angelus/angeluslaw02.UnitNear", spec := "unitNear", apart := false, narrowed := true }
def UnitNearUptoSaid : Prop := unitNearUptoRow.holds Try.pinned (OpenSpec.upto unitNearSpec)

/-- 'angeluslaw02.UnitLows', WHERE WHAT IT READS IS OF BULK AT MOST 1048576: true; the input reads as it did. -/
def unitLowsUptoRow : OpenClaim := { program := "ytfjndbmhpheocaa", sum := "3c172f5ade1793994571eff14a58d5e1ea958e5be148e0bae1ff21a78c650b3d", func := "angelus/angeluslaw02.UnitLows", spec := "unitLows", apart := false, narrowed := true }
def UnitLowsUptoSaid : Prop := unitLowsUptoRow.holds Try.pinned (OpenSpec.upto unitLowsSpec)

/-- 'angeluslaw02.UnitTicks', WHERE WHAT IT READS IS OF BULK AT MOST 1048576: true; the input reads as it did. -/
def unitTicksUptoRow : OpenClaim := { program := "ytfjndbmhpheocaa", sum := "3c172f5ade1793994571eff14a58d5e1ea958e5be148e0bae1ff21a78c650b3d", func := "angelus/angeluslaw02.UnitTicks", spec := "unitTicks", apart := false, narrowed := true }
def UnitTicksUptoSaid : Prop := unitTicksUptoRow.holds Try.pinned (OpenSpec.upto unitTicksSpec)

/-- 'angeluslaw02.UnitBytes', WHERE WHAT IT READS IS OF BULK AT MOST 1048576: true; the input reads as it did. -/
def unitBytesUptoRow : OpenClaim := { program := "ytfjndbmhpheocaa", sum := "3c172f5ade1793994571eff14a58d5e1ea958e5be148e0bae1ff21a78c650b3d", func := "angelus/angeluslaw02.UnitBytes", spec := "unitBytes", apart := false, narrowed := true }
def UnitBytesUptoSaid : Prop := unitBytesUptoRow.holds Try.pinned (OpenSpec.upto unitBytesSpec)

/-- 'angeluslaw02.UnitWhole', WHERE WHAT IT READS IS OF BULK AT MOST 1048576: true; the input reads as it did. -/
def unitWholeUptoRow : OpenClaim := { program := "ytfjndbmhpheocaa", sum := "3c172f5ade1793994571eff14a58d5e1ea958e5be148e0bae1ff21a78c650b3d", func := "angelus/angeluslaw02.UnitWhole", spec := "unitWhole", apart := false, narrowed := true }
def UnitWholeUptoSaid : Prop := unitWholeUptoRow.holds Try.pinned (OpenSpec.upto unitWholeSpec)

/-- 'angeluslaw02.UnitBack', WHERE WHAT IT READS IS OF BULK AT MOST 1048576: true; the input reads as it did. -/
def unitBackUptoRow : OpenClaim := { program := "ytfjndbmhpheocaa", sum := "3c172f5ade1793994571eff14a58d5e1ea958e5be148e0bae1ff21a78c650b3d", func := "angelus/angeluslaw02.UnitBack", spec := "unitBack", apart := false, narrowed := true }
def UnitBackUptoSaid : Prop := unitBackUptoRow.holds Try.pinned (OpenSpec.upto unitBackSpec)

end Rows
end Go.Proofs.Ytfjndbmhpheocaa
