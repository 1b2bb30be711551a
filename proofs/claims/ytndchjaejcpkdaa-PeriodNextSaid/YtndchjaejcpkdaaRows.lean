/-
  No cell of these rows narrows 'for every input' (looked for: loops, veiled, ifaces, maps, wideKeys, modest, calm, conditions, laid).
  DERIVED. THE GIVEN ROWS OF THIS SEAT. 4 by the template 'for every input the law returns true; each argument reads behind the call as it read before'; 0 by the template 'total and deterministic' (their statements: YtndchjaejcpkdaaTotals.lean).
  GIVEN WITH THE SEED: the statements are not yours to turn. If you find one false, say at which input.
  Laid BY PROGRAM, IN A SANDBOX (cutbox-rows.mjs): the forced cells as the released guide's own fill.sh prints them over the translation b6996607599d225a… (all of the seat's roots in one cut). By AI agents, Wed Nov 11 2026. No macro, syntax, notation, axiom, sorry.
-/
import Derived.Test.YtndchjaejcpkdaaChecked
import GoSem.Claim
import GoSem.ClaimJoined
import GoSem.ClaimMapViews
import Derived.JoinedTies
import Derived.KernelRfl
namespace Go.Proofs.Ytndchjaejcpkdaa
/- THE CELL 'sum', in the pinned program and in every row, IS THE sha256 OF THE DUMP (.gsa) THAT YtndchjaejcpkdaaProg.lean LOADS. Nothing in Lean hashes anything: it is a label: what it is worth is what the hold of that sum in a sandbox is worth. -/
noncomputable def Try.pinned : Pinned := { name := "ytndchjaejcpkdaa", sum := "b6996607599d225a630619372337009c30e4b7260b53434c08428afc19efab2f", checked := Try.checked }
namespace Rows
def none {H : Type} : Left H := { results := [], args := [] }

/-- 'angeluslaw38.PeriodDue': WHATEVER THE INPUT: true; the input reads as it did. -/
def periodDueSpec : ChangeSpec := { name := "periodDue", fn := fun _ => fun
  | [d1, d2, d3] => { results := [.lit (.bool true)], args := [d1, d2, d3] }
  | _ => none }
def periodDueRow : OpenClaim := { program := "ytndchjaejcpkdaa", sum := "b6996607599d225a630619372337009c30e4b7260b53434c08428afc19efab2f", func := "angelus/angeluslaw38.PeriodDue", spec := "periodDue", apart := false }
def PeriodDueSaid : Prop := periodDueRow.holds Try.pinned (OpenSpec.ofChange periodDueSpec)

/-- ITS FALSE NEIGHBOUR: 'it returns false'. Refute it at one input. -/
def periodDueWrong : ChangeSpec := { name := "periodDue", fn := fun _ => fun
  | [d1, d2, d3] => { results := [.lit (.bool false)], args := [d1, d2, d3] }
  | _ => none }
def PeriodDueWrongFalsely : Prop := periodDueRow.holds Try.pinned (OpenSpec.ofChange periodDueWrong)

/-- 'angeluslaw38.PeriodFrom': WHATEVER THE INPUT: true; the input reads as it did. -/
def periodFromSpec : ChangeSpec := { name := "periodFrom", fn := fun _ => fun
  | [d1, d2] => { results := [.lit (.bool true)], args := [d1, d2] }
  | _ => none }
def periodFromRow : OpenClaim := { program := "ytndchjaejcpkdaa", sum := "b6996607599d225a630619372337009c30e4b7260b53434c08428afc19efab2f", func := "angelus/angeluslaw38.PeriodFrom", spec := "periodFrom", apart := false }
def PeriodFromSaid : Prop := periodFromRow.holds Try.pinned (OpenSpec.ofChange periodFromSpec)

/-- ITS FALSE NEIGHBOUR: 'it returns false'. Refute it at one input. -/
def periodFromWrong : ChangeSpec := { name := "periodFrom", fn := fun _ => fun
  | [d1, d2] => { results := [.lit (.bool false)], args := [d1, d2] }
  | _ => none }
def PeriodFromWrongFalsely : Prop := periodFromRow.holds Try.pinned (OpenSpec.ofChange periodFromWrong)

/-- 'angeluslaw38.PeriodRaw': WHATEVER THE INPUT: true; the input reads as it did. -/
def periodRawSpec : ChangeSpec := { name := "periodRaw", fn := fun _ => fun
  | [d1, d2, d3] => { results := [.lit (.bool true)], args := [d1, d2, d3] }
  | _ => none }
def periodRawRow : OpenClaim := { program := "ytndchjaejcpkdaa", sum := "b6996607599d225a630619372337009c30e4b7260b53434c08428afc19efab2f", func := "angelus/angeluslaw38.PeriodRaw", spec := "periodRaw", apart := false }
def PeriodRawSaid : Prop := periodRawRow.holds Try.pinned (OpenSpec.ofChange periodRawSpec)

/-- ITS FALSE NEIGHBOUR: 'it returns false'. Refute it at one input. -/
def periodRawWrong : ChangeSpec := { name := "periodRaw", fn := fun _ => fun
  | [d1, d2, d3] => { results := [.lit (.bool false)], args := [d1, d2, d3] }
  | _ => none }
def PeriodRawWrongFalsely : Prop := periodRawRow.holds Try.pinned (OpenSpec.ofChange periodRawWrong)

/-- 'angeluslaw38.PeriodNext': WHATEVER THE INPUT: true; the input reads as it did. -/
def periodNextSpec : ChangeSpec := { name := "periodNext", fn := fun _ => fun
  | [d1, d2, d3] => { results := [.lit (.bool true)], args := [d1, d2, d3] }
  | _ => none }
def periodNextRow : OpenClaim := { program := "ytndchjaejcpkdaa", sum := "b6996607599d225a630619372337009c30e4b7260b53434c08428afc19efab2f", func := "angelus/angeluslaw38.PeriodNext", spec := "periodNext", apart := false }
def PeriodNextSaid : Prop := periodNextRow.holds Try.pinned (OpenSpec.ofChange periodNextSpec)

/-- ITS FALSE NEIGHBOUR: 'it returns false'. Refute it at one input. -/
def periodNextWrong : ChangeSpec := { name := "periodNext", fn := fun _ => fun
  | [d1, d2, d3] => { results := [.lit (.bool false)], args := [d1, d2, d3] }
  | _ => none }
def PeriodNextWrongFalsely : Prop := periodNextRow.holds Try.pinned (OpenSpec.ofChange periodNextWrong)

/- THE SECOND FORM. 'bulk': how many values and letters a reading holds, each counted each time it is reached (what is shared counts as often as it is met; a slice's spare places count too). A statement '..UptoSaid' is the law's where the arguments, and the package variables that the reading takes, are together of bulk at most 1048576: NARROWER than '..Said'. Prove '..Said' where nothing that the law and all that it calls make is longer than what came in: it says more and counts as full. Else prove '..UptoSaid'. A law counts once. -/
mutual
def uptoBulk {H : Type} : DataW H → Nat
  | .lit (.string bytes) => bytes.length + 1
  | .lit _ => 1
  | .nil => 1
  | .ptr d => uptoBulk d + 1
  | .slice elems spare => uptoBulkAll elems + uptoBulkAll spare + 1
  | .agg parts => uptoBulkAll parts + 1
  | .iface _ d => uptoBulk d + 1
  | .map entries => uptoBulkEntries entries + 1
  | .held _ => 1
def uptoBulkAll {H : Type} : List (DataW H) → Nat
  | [] => 0
  | d :: r => uptoBulk d + uptoBulkAll r
def uptoBulkEntries {H : Type} : List (Lit × DataW H) → Nat
  | [] => 0
  | x :: r => uptoBulkEntry x + uptoBulkEntries r
def uptoBulkEntry {H : Type} : Lit × DataW H → Nat
  | (.string bytes, d) => bytes.length + uptoBulk d + 1
  | (_, d) => uptoBulk d + 1
 end
def uptoSmall : (H : Type) → List (DataW H) → Bool := fun _ ds => decide (uptoBulkAll ds ≤ 1048576)
def OpenSpec.upto (s : _root_.Go.ChangeSpec) : _root_.Go.OpenSpec := { _root_.Go.OpenSpec.ofChange s with cond := some uptoSmall }

/-- 'angeluslaw38.PeriodDue', WHERE WHAT IT READS IS OF BULK AT MOST 1048576: true; the input reads as it did. -/
def periodDueUptoRow : OpenClaim := { program := "ytndchjaejcpkdaa", sum := "b6996607599d225a630619372337009c30e4b7260b53434c08428afc19efab2f", func := "angelus/angeluslaw38.PeriodDue", spec := "periodDue", apart := false, narrowed := true }
def PeriodDueUptoSaid : Prop := periodDueUptoRow.holds Try.pinned (OpenSpec.upto periodDueSpec)

/-- 'angeluslaw38.PeriodFrom', WHERE WHAT IT READS IS OF BULK AT MOST 1048576: true; the input reads as it did. -/
def periodFromUptoRow : OpenClaim := { program := "ytndchjaejcpkdaa", sum := "b6996607599d225a630619372337009c30e4b7260b53434c08428afc19efab2f", func := "angelus/angeluslaw38.PeriodFrom", spec := "periodFrom", apart := false, narrowed := true }
def PeriodFromUptoSaid : Prop := periodFromUptoRow.holds Try.pinned (OpenSpec.upto periodFromSpec)

/-- 'angeluslaw38.PeriodRaw', WHERE WHAT IT READS IS OF BULK AT MOST 1048576: true; the input reads as it did. -/
def periodRawUptoRow : OpenClaim := { program := "ytndchjaejcpkdaa", sum := "b6996607599d225a630619372337009c30e4b7260b53434c08428afc19efab2f", func := "angelus/angeluslaw38.PeriodRaw", spec := "periodRaw", apart := false, narrowed := true }
def PeriodRawUptoSaid : Prop := periodRawUptoRow.holds Try.pinned (OpenSpec.upto periodRawSpec)

/-- 'angeluslaw38.PeriodNext', WHERE WHAT IT READS IS OF BULK AT MOST 1048576: true; the input reads as it did. -/
def periodNextUptoRow : OpenClaim := { program := "ytndchjaejcpkdaa", sum := "b6996607599d225a630619372337009c30e4b7260b53434c08428afc19efab2f", func := "angelus/angeluslaw38.PeriodNext", spec := "periodNext", apart := false, narrowed := true }
def PeriodNextUptoSaid : Prop := periodNextUptoRow.holds Try.pinned (OpenSpec.upto periodNextSpec)

end Rows
end Go.Proofs.Ytndchjaejcpkdaa
