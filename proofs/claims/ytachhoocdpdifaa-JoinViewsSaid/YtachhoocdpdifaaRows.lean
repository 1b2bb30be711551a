/-
  No cell of these rows narrows 'for every input' (looked for: loops, veiled, ifaces, maps, wideKeys, modest, calm, conditions, laid).
  DERIVED. THE GIVEN ROWS OF THIS SEAT. 4 by the template 'for every input the law returns true; each argument reads behind the call as it read before'; 0 by the template 'total and deterministic' (their statements: YtachhoocdpdifaaTotals.lean).
  GIVEN WITH THE SEED: the statements are not yours to turn. If you find one false, say at which input.
  Laid BY PROGRAM, IN A SANDBOX (cutbox-rows.mjs): the forced cells as the released guide's own fill.sh prints them over the translation 737d25eef9a5e7aa… (all of the seat's roots in one cut). By AI agents, Wed Nov 11 2026. No macro, syntax, notation, axiom, sorry.
-/
import Derived.Test.YtachhoocdpdifaaChecked
import GoSem.Claim
import GoSem.ClaimJoined
import GoSem.ClaimMapViews
import Derived.JoinedTies
import Derived.KernelRfl
namespace Go.Proofs.Ytachhoocdpdifaa
/- THE CELL 'sum', in the pinned program and in every row, IS THE sha256 OF THE DUMP (.gsa) THAT YtachhoocdpdifaaProg.lean LOADS. Nothing in Lean hashes anything: it is a label: what it is worth is what the hold of that sum in a sandbox is worth. -/
noncomputable def Try.pinned : Pinned := { name := "ytachhoocdpdifaa", sum := "737d25eef9a5e7aa4fecdd6563190a123eaae8ddb20e49da62d3ed25d28df550", checked := Try.checked }
namespace Rows
def none {H : Type} : Left H := { results := [], args := [] }

/-- 'angeluslaw43.JoinViews': WHATEVER THE INPUT: true; the input reads as it did. -/
def joinViewsSpec : ChangeSpec := { name := "joinViews", fn := fun _ => fun
  | [d] => { results := [.lit (.bool true)], args := [d] }
  | _ => none }
def joinViewsRow : OpenClaim := { program := "ytachhoocdpdifaa", sum := "737d25eef9a5e7aa4fecdd6563190a123eaae8ddb20e49da62d3ed25d28df550", func := "angelus/angeluslaw43.JoinViews", spec := "joinViews", apart := false }
def JoinViewsSaid : Prop := joinViewsRow.holds Try.pinned (OpenSpec.ofChange joinViewsSpec)

/-- ITS FALSE NEIGHBOUR: 'it returns false'. Refute it at one input. -/
def joinViewsWrong : ChangeSpec := { name := "joinViews", fn := fun _ => fun
  | [d] => { results := [.lit (.bool false)], args := [d] }
  | _ => none }
def JoinViewsWrongFalsely : Prop := joinViewsRow.holds Try.pinned (OpenSpec.ofChange joinViewsWrong)

/-- 'angeluslaw43.JoinStays': WHATEVER THE INPUT: true; the input reads as it did. -/
def joinStaysSpec : ChangeSpec := { name := "joinStays", fn := fun _ => fun
  | [d] => { results := [.lit (.bool true)], args := [d] }
  | _ => none }
def joinStaysRow : OpenClaim := { program := "ytachhoocdpdifaa", sum := "737d25eef9a5e7aa4fecdd6563190a123eaae8ddb20e49da62d3ed25d28df550", func := "angelus/angeluslaw43.JoinStays", spec := "joinStays", apart := false }
def JoinStaysSaid : Prop := joinStaysRow.holds Try.pinned (OpenSpec.ofChange joinStaysSpec)

/-- ITS FALSE NEIGHBOUR: 'it returns false'. Refute it at one input. -/
def joinStaysWrong : ChangeSpec := { name := "joinStays", fn := fun _ => fun
  | [d] => { results := [.lit (.bool false)], args := [d] }
  | _ => none }
def JoinStaysWrongFalsely : Prop := joinStaysRow.holds Try.pinned (OpenSpec.ofChange joinStaysWrong)

/-- 'angeluslaw43.JoinPlays': WHATEVER THE INPUT: true; the input reads as it did. -/
def joinPlaysSpec : ChangeSpec := { name := "joinPlays", fn := fun _ => fun
  | [d] => { results := [.lit (.bool true)], args := [d] }
  | _ => none }
def joinPlaysRow : OpenClaim := { program := "ytachhoocdpdifaa", sum := "737d25eef9a5e7aa4fecdd6563190a123eaae8ddb20e49da62d3ed25d28df550", func := "angelus/angeluslaw43.JoinPlays", spec := "joinPlays", apart := false }
def JoinPlaysSaid : Prop := joinPlaysRow.holds Try.pinned (OpenSpec.ofChange joinPlaysSpec)

/-- ITS FALSE NEIGHBOUR: 'it returns false'. Refute it at one input. -/
def joinPlaysWrong : ChangeSpec := { name := "joinPlays", fn := fun _ => fun
  | [d] => { results := [.lit (.bool false)], args := [d] }
  | _ => none }
def JoinPlaysWrongFalsely : Prop := joinPlaysRow.holds Try.pinned (OpenSpec.ofChange joinPlaysWrong)

/-- 'angeluslaw43.JoinNil': WHATEVER THE INPUT: true; the input reads as it did. -/
def joinNilSpec : ChangeSpec := { name := "joinNil", fn := fun _ => fun
  | [d1, d2] => { results := [.lit (.bool true)], args := [d1, d2] }
  | _ => none }
def joinNilRow : OpenClaim := { program := "ytachhoocdpdifaa", sum := "737d25eef9a5e7aa4fecdd6563190a123eaae8ddb20e49da62d3ed25d28df550", func := "angelus/angeluslaw43.JoinNil", spec := "joinNil", apart := false }
def JoinNilSaid : Prop := joinNilRow.holds Try.pinned (OpenSpec.ofChange joinNilSpec)

/-- ITS FALSE NEIGHBOUR: 'it returns false'. Refute it at one input. -/
def joinNilWrong : ChangeSpec := { name := "joinNil", fn := fun _ => fun
  | [d1, d2] => { results := [.lit (.bool false)], args := [d1, d2] }
  | _ => none }
def JoinNilWrongFalsely : Prop := joinNilRow.holds Try.pinned (OpenSpec.ofChange joinNilWrong)

/- THE SECOND FORM. 'bulk': how many values and letters a reading holds, each counted each time it is reached (what is shared counts as often as it is met; a slice's spare places count too). A statement '..UptoSaid' is the law's where the arguments, and the package variables that the reading takes, are together of bulk at most 1048576: NARROWER than '..Said'. Prove '..Said' where nothing that the law and all that it calls make is longer than what came in: it says more and counts as full. Else prove '..UptoSaid'. A law counts once. -/
mutual
def uptoBulk {H : Type} : DataW H → Nat
  | .lit (.string bytes) => bytes.length + 1
  | .lit _ => 1
  | .nil => 1
  | .ptr d => uptoBulk d + 1
  | .slice elems spare => uptoBulkAll elems + uptoBulkAll spare + 1
  | .agg parts => uptoBulkAll parts + 1
  | .iface _ d => uptoBulk d + 1
  | .map entries => uptoBulkEntries entries + 1
  | .held _ => 1
def uptoBulkAll {H : Type} : List (DataW H) → Nat
  | [] => 0
  | d :: r => uptoBulk d + uptoBulkAll r
def uptoBulkEntries {H : Type} : List (Lit × DataW H) → Nat
  | [] => 0
  | x :: r => uptoBulkEntry x + uptoBulkEntries r
def uptoBulkEntry {H : Type} : Lit × DataW H → Nat
  | (.string bytes, d) => bytes.length + uptoBulk d + 1
  | (_, d) => uptoBulk d + 1
 end
def uptoSmall : (H : Type) → List (DataW H) → Bool := fun _ ds => decide (uptoBulkAll ds ≤ 1048576)
def OpenSpec.upto (s : _root_.Go.ChangeSpec) : _root_.Go.OpenSpec := { _root_.Go.OpenSpec.ofChange s with cond := some uptoSmall }

/-- 'angeluslaw43.JoinViews', WHERE WHAT IT READS IS OF BULK AT MOST 1048576: true; the input reads as it did. -/
def joinViewsUptoRow : OpenClaim := { program := "ytachhoocdpdifaa", sum := "737d25eef9a5e7aa4fecdd6563190a123eaae8ddb20e49da62d3ed25d28df550", func := "angelus/angeluslaw43.JoinViews", spec := "joinViews", apart := false, narrowed := true }
def JoinViewsUptoSaid : Prop := joinViewsUptoRow.holds Try.pinned (OpenSpec.upto joinViewsSpec)

/-- 'angeluslaw43.JoinStays', WHERE WHAT IT READS IS OF BULK AT MOST 1048576: true; the input reads as it did. -/
def joinStaysUptoRow : OpenClaim := { program := "ytachhoocdpdifaa", sum := "737d25eef9a5e7aa4fecdd6563190a123eaae8ddb20e49da62d3ed25d28df550", func := "angelus/angeluslaw43.JoinStays", spec := "joinStays", apart := false, narrowed := true }
def JoinStaysUptoSaid : Prop := joinStaysUptoRow.holds Try.pinned (OpenSpec.upto joinStaysSpec)

/-- 'angeluslaw43.JoinPlays', WHERE WHAT IT READS IS OF BULK AT MOST 1048576: true; the input reads as it did. -/
def joinPlaysUptoRow : OpenClaim := { program := "ytachhoocdpdifaa", sum := "737d25eef9a5e7aa4fecdd6563190a123eaae8ddb20e49da62d3ed25d28df550", func := "angelus/angeluslaw43.JoinPlays", spec := "joinPlays", apart := false, narrowed := true }
def JoinPlaysUptoSaid : Prop := joinPlaysUptoRow.holds Try.pinned (OpenSpec.upto joinPlaysSpec)

/-- 'angeluslaw43.JoinNil', WHERE WHAT IT READS IS OF BULK AT MOST 1048576: true; the input reads as it did. -/
def joinNilUptoRow : OpenClaim := { program := "ytachhoocdpdifaa", sum := "737d25eef9a5e7aa4fecdd6563190a123eaae8ddb20e49da62d3ed25d28df550", func := "angelus/angeluslaw43.JoinNil", spec := "joinNil", apart := false, narrowed := true }
def JoinNilUptoSaid : Prop := joinNilUptoRow.holds Try.pinned (OpenSpec.upto joinNilSpec)

end Rows
end Go.Proofs.Ytachhoocdpdifaa
