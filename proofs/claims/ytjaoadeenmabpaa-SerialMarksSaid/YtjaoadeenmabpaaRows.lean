/-
  No cell of these rows narrows 'for every input' (looked for: loops, veiled, ifaces, maps, wideKeys, modest, calm, conditions, laid).
  DERIVED. THE GIVEN ROWS OF THIS SEAT. 4 by the template 'for every input the law returns true; each argument reads behind the call as it read before'; 0 by the template 'total and deterministic' (their statements: YtjaoadeenmabpaaTotals.lean).
  GIVEN WITH THE SEED: the statements are not yours to turn. If you find one false, say at which input.
  Laid BY PROGRAM, IN A SANDBOX (cutbox-rows.mjs): the forced cells as the released guide's own fill.sh prints them over the translation 73635bb6c8e4d3f3… (all of the seat's roots in one cut). By AI agents, Wed Nov 11 2026. No macro, syntax, notation, axiom, sorry.
-/
import Derived.Test.YtjaoadeenmabpaaChecked
import GoSem.Claim
import GoSem.ClaimJoined
import GoSem.ClaimMapViews
import Derived.JoinedTies
import Derived.KernelRfl
namespace Go.Proofs.Ytjaoadeenmabpaa
/- THE CELL 'sum', in the pinned program and in every row, IS THE sha256 OF THE DUMP (.gsa) THAT YtjaoadeenmabpaaProg.lean LOADS. Nothing in Lean hashes anything: it is a label: what it is worth is what the hold of that sum in a sandbox is worth. -/
noncomputable def Try.pinned : Pinned := { name := "ytjaoadeenmabpaa", sum := "73635bb6c8e4d3f3a18e88eeff2c323df1179866530e50569fed469f7a12dc9f", checked := Try.checked }
namespace Rows
def none {H : Type} : Left H := { results := [], args := [] }

/-- 'angeluslaw35.SerialNumbers': WHATEVER THE INPUT: true; the input reads as it did. -/
def serialNumbersSpec : ChangeSpec := { name := "serialNumbers", fn := fun _ => fun
  | [d1, d2] => { results := [.lit (.bool true)], args := [d1, d2] }
  | _ => none }
def serialNumbersRow : OpenClaim := { program := "ytjaoadeenmabpaa", sum := "73635bb6c8e4d3f3a18e88eeff2c323df1179866530e50569fed469f7a12dc9f", func := "angelus/angeluslaw35.SerialNumbers", spec := "serialNumbers", apart := false }
def SerialNumbersSaid : Prop := serialNumbersRow.holds Try.pinned (OpenSpec.ofChange serialNumbersSpec)

/-- ITS FALSE NEIGHBOUR: 'it returns false'. Refute it at one input. -/
def serialNumbersWrong : ChangeSpec := { name := "serialNumbers", fn := fun _ => fun
  | [d1, d2] => { results := [.lit (.bool false)], args := [d1, d2] }
  | _ => none }
def SerialNumbersWrongFalsely : Prop := serialNumbersRow.holds Try.pinned (OpenSpec.ofChange serialNumbersWrong)

/-- 'angeluslaw35.SerialRises': WHATEVER THE INPUT: true; the input reads as it did. -/
def serialRisesSpec : ChangeSpec := { name := "serialRises", fn := fun _ => fun
  | [d1, d2] => { results := [.lit (.bool true)], args := [d1, d2] }
  | _ => none }
def serialRisesRow : OpenClaim := { program := "ytjaoadeenmabpaa", sum := "73635bb6c8e4d3f3a18e88eeff2c323df1179866530e50569fed469f7a12dc9f", func := "angelus/angeluslaw35.SerialRises", spec := "serialRises", apart := false }
def SerialRisesSaid : Prop := serialRisesRow.holds Try.pinned (OpenSpec.ofChange serialRisesSpec)

/-- ITS FALSE NEIGHBOUR: 'it returns false'. Refute it at one input. -/
def serialRisesWrong : ChangeSpec := { name := "serialRises", fn := fun _ => fun
  | [d1, d2] => { results := [.lit (.bool false)], args := [d1, d2] }
  | _ => none }
def SerialRisesWrongFalsely : Prop := serialRisesRow.holds Try.pinned (OpenSpec.ofChange serialRisesWrong)

/-- 'angeluslaw35.SerialNil': WHATEVER THE INPUT: true; the input reads as it did. -/
def serialNilSpec : ChangeSpec := { name := "serialNil", fn := fun _ => fun
  | [d] => { results := [.lit (.bool true)], args := [d] }
  | _ => none }
def serialNilRow : OpenClaim := { program := "ytjaoadeenmabpaa", sum := "73635bb6c8e4d3f3a18e88eeff2c323df1179866530e50569fed469f7a12dc9f", func := "angelus/angeluslaw35.SerialNil", spec := "serialNil", apart := false }
def SerialNilSaid : Prop := serialNilRow.holds Try.pinned (OpenSpec.ofChange serialNilSpec)

/-- ITS FALSE NEIGHBOUR: 'it returns false'. Refute it at one input. -/
def serialNilWrong : ChangeSpec := { name := "serialNil", fn := fun _ => fun
  | [d] => { results := [.lit (.bool false)], args := [d] }
  | _ => none }
def SerialNilWrongFalsely : Prop := serialNilRow.holds Try.pinned (OpenSpec.ofChange serialNilWrong)

/-- 'angeluslaw35.SerialMarks': WHATEVER THE INPUT: true; the input reads as it did. -/
def serialMarksSpec : ChangeSpec := { name := "serialMarks", fn := fun _ => fun
  | [d] => { results := [.lit (.bool true)], args := [d] }
  | _ => none }
def serialMarksRow : OpenClaim := { program := "ytjaoadeenmabpaa", sum := "73635bb6c8e4d3f3a18e88eeff2c323df1179866530e50569fed469f7a12dc9f", func := "angelus/angeluslaw35.SerialMarks", spec := "serialMarks", apart := false }
def SerialMarksSaid : Prop := serialMarksRow.holds Try.pinned (OpenSpec.ofChange serialMarksSpec)

/-- ITS FALSE NEIGHBOUR: 'it returns false'. Refute it at one input. -/
def serialMarksWrong : ChangeSpec := { name := "serialMarks", fn := fun _ => fun
  | [d] => { results := [.lit (.bool false)], args := [d] }
  | _ => none }
def SerialMarksWrongFalsely : Prop := serialMarksRow.holds Try.pinned (OpenSpec.ofChange serialMarksWrong)

/- THE SECOND FORM. 'bulk': how many values and letters a reading holds, each counted each time it is reached (what is shared counts as often as it is met; a slice's spare places count too). A statement '..UptoSaid' is the law's where the arguments, and the package variables that the reading takes, are together of bulk at most 1048576: NARROWER than '..Said'. Prove '..Said' where nothing that the law and all that it calls make is longer than what came in: it says more and counts as full. Else prove '..UptoSaid'. A law counts once. -/
mutual
def uptoBulk {H : Type} : DataW H → Nat
  | .lit (.string bytes) => bytes.length + 1
  | .lit _ => 1
  | .nil => 1
  | .ptr d => uptoBulk d + 1
  | .slice elems spare => uptoBulkAll elems + uptoBulkAll spare + 1
  | .agg parts => uptoBulkAll parts + 1
  | .iface _ d => uptoBulk d + 1
  | .map entries => uptoBulkEntries entries + 1
  | .held _ => 1
def uptoBulkAll {H : Type} : List (DataW H) → Nat
  | [] => 0
  | d :: r => uptoBulk d + uptoBulkAll r
def uptoBulkEntries {H : Type} : List (Lit × DataW H) → Nat
  | [] => 0
  | x :: r => uptoBulkEntry x + uptoBulkEntries r
def uptoBulkEntry {H : Type} : Lit × DataW H → Nat
  | (.string bytes, d) => bytes.length + uptoBulk d + 1
  | (_, d) => uptoBulk d + 1
 end
def uptoSmall : (H : Type) → List (DataW H) → Bool := fun _ ds => decide (uptoBulkAll ds ≤ 1048576)
def OpenSpec.upto (s : _root_.Go.ChangeSpec) : _root_.Go.OpenSpec := { _root_.Go.OpenSpec.ofChange s with cond := some uptoSmall }

/-- 'angeluslaw35.SerialNumbers', WHERE WHAT IT READS IS OF BULK AT MOST 1048576: true; the input reads as it did. -/
def serialNumbersUptoRow : OpenClaim := { program := "ytjaoadeenmabpaa", sum := "73635bb6c8e4d3f3a18e88eeff2c323df1179866530e50569fed469f7a12dc9f", func := "angelus/angeluslaw35.SerialNumbers", spec := "serialNumbers", apart := false, narrowed := true }
def SerialNumbersUptoSaid : Prop := serialNumbersUptoRow.holds Try.pinned (OpenSpec.upto serialNumbersSpec)

/-- 'angeluslaw35.SerialRises', WHERE WHAT IT READS IS OF BULK AT MOST 1048576: true; the input reads as it did. -/
def serialRisesUptoRow : OpenClaim := { program := "ytjaoadeenmabpaa", sum := "73635bb6c8e4d3f3a18e88eeff2c323df1179866530e50569fed469f7a12dc9f", func := "angelus/angeluslaw35.SerialRises", spec := "serialRises", apart := false, narrowed := true }
def SerialRisesUptoSaid : Prop := serialRisesUptoRow.holds Try.pinned (OpenSpec.upto serialRisesSpec)

/-- 'angeluslaw35.SerialNil', WHERE WHAT IT READS IS OF BULK AT MOST 1048576: true; the input reads as it did. -/
def serialNilUptoRow : OpenClaim := { program := "ytjaoadeenmabpaa", sum := "73635bb6c8e4d3f3a18e88eeff2c323df1179866530e50569fed469f7a12dc9f", func := "angelus/angeluslaw35.SerialNil", spec := "serialNil", apart := false, narrowed := true }
def SerialNilUptoSaid : Prop := serialNilUptoRow.holds Try.pinned (OpenSpec.upto serialNilSpec)

/-- 'angeluslaw35.SerialMarks', WHERE WHAT IT READS IS OF BULK AT MOST 1048576: true; the input reads as it did. -/
def serialMarksUptoRow : OpenClaim := { program := "ytjaoadeenmabpaa", sum := "73635bb6c8e4d3f3a18e88eeff2c323df1179866530e50569fed469f7a12dc9f", func := "angelus/angeluslaw35.SerialMarks", spec := "serialMarks", apart := false, narrowed := true }
def SerialMarksUptoSaid : Prop := serialMarksUptoRow.holds Try.pinned (OpenSpec.upto serialMarksSpec)

end Rows
end Go.Proofs.Ytjaoadeenmabpaa
