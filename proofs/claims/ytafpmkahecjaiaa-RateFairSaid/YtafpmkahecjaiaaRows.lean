/-
  No cell of these rows narrows 'for every input' (looked for: loops, veiled, ifaces, maps, wideKeys, modest, calm, conditions, laid).
  DERIVED. THE GIVEN ROWS OF THIS SEAT. 7 by the template 'for every input the law returns true; each argument reads behind the call as it read before'; 0 by the template 'total and deterministic' (their statements: YtafpmkahecjaiaaTotals.lean).
  GIVEN WITH THE SEED: the statements are not yours to turn. If you find one false, say at which input.
  Laid BY PROGRAM, IN A SANDBOX (cutbox-rows.mjs): the forced cells as the released guide's own fill.sh prints them over the translation 448f661691b6ccc5… (all of the seat's roots in one cut). By AI agents, Wed Nov 11 2026. No macro, syntax, notation, axiom, sorry.
-/
import Derived.Test.YtafpmkahecjaiaaChecked
import GoSem.Claim
import GoSem.ClaimJoined
import GoSem.ClaimMapViews
import Derived.JoinedTies
import Derived.KernelRfl
namespace Go.Proofs.Ytafpmkahecjaiaa
/- THE CELL 'sum', in the pinned program and in every row, IS THE sha256 OF THE DUMP (.gsa) THAT YtafpmkahecjaiaaProg.lean LOADS. Nothing in Lean hashes anything: it is a label: what it is worth is what the hold of that sum in a sandbox is worth. -/
noncomputable def Try.pinned : Pinned := { name := "ytafpmkahecjaiaa", sum := "448f661691b6ccc5488c3da9ef509bb24446d5aa5952f49b663e7b9cd9aef20f", checked := Try.checked }
namespace Rows
def none {H : Type} : Left H := { results := [], args := [] }

/-- 'angeluslaw20.RateBounds': WHATEVER THE INPUT: true; the input reads as it did. -/
def rateBoundsSpec : ChangeSpec := { name := "rateBounds", fn := fun _ => fun
  | [d1, d2] => { results := [.lit (.bool true)], args := [d1, d2] }
  | _ => none }
def rateBoundsRow : OpenClaim := { program := "ytafpmkahecjaiaa", sum := "448f661691b6ccc5488c3da9ef509bb24446d5aa5952f49b663e7b9cd9aef20f", func := "angelus/angeluslaw20.RateBounds", spec := "rateBounds", apart := false }
def RateBoundsSaid : Prop := rateBoundsRow.holds Try.pinned (OpenSpec.ofChange rateBoundsSpec)

/-- ITS FALSE NEIGHBOUR: 'it returns false'. Refute it at one input. -/
def rateBoundsWrong : ChangeSpec := { name := "rateBounds", fn := fun _ => fun
  | [d1, d2] => { results := [.lit (.bool false)], args := [d1, d2] }
  | _ => none }
def RateBoundsWrongFalsely : Prop := rateBoundsRow.holds Try.pinned (OpenSpec.ofChange rateBoundsWrong)

/-- 'angeluslaw20.RateTicks': WHATEVER THE INPUT: true; the input reads as it did. -/
def rateTicksSpec : ChangeSpec := { name := "rateTicks", fn := fun _ => fun
  | [d1, d2] => { results := [.lit (.bool true)], args := [d1, d2] }
  | _ => none }
def rateTicksRow : OpenClaim := { program := "ytafpmkahecjaiaa", sum := "448f661691b6ccc5488c3da9ef509bb24446d5aa5952f49b663e7b9cd9aef20f", func := "angelus/angeluslaw20.RateTicks", spec := "rateTicks", apart := false }
def RateTicksSaid : Prop := rateTicksRow.holds Try.pinned (OpenSpec.ofChange rateTicksSpec)

/-- ITS FALSE NEIGHBOUR: 'it returns false'. Refute it at one input. -/
def rateTicksWrong : ChangeSpec := { name := "rateTicks", fn := fun _ => fun
  | [d1, d2] => { results := [.lit (.bool false)], args := [d1, d2] }
  | _ => none }
def RateTicksWrongFalsely : Prop := rateTicksRow.holds Try.pinned (OpenSpec.ofChange rateTicksWrong)

/-- 'angeluslaw20.RateEnough': WHATEVER THE INPUT: true; the input reads as it did. -/
def rateEnoughSpec : ChangeSpec := { name := "rateEnough", fn := fun _ => fun
  | [d1, d2] => { results := [.lit (.bool true)], args := [d1, d2] }
  | _ => none }
def rateEnoughRow : OpenClaim := { program := "ytafpmkahecjaiaa", sum := "448f661691b6ccc5488c3da9ef509bb24446d5aa5952f49b663e7b9cd9aef20f", func := "angelus/angeluslaw20.RateEnough", spec := "rateEnough", apart := false }
def RateEnoughSaid : Prop := rateEnoughRow.holds Try.pinned (OpenSpec.ofChange rateEnoughSpec)

/-- ITS FALSE NEIGHBOUR: 'it returns false'. Refute it at one input. -/
def rateEnoughWrong : ChangeSpec := { name := "rateEnough", fn := fun _ => fun
  | [d1, d2] => { results := [.lit (.bool false)], args := [d1, d2] }
  | _ => none }
def RateEnoughWrongFalsely : Prop := rateEnoughRow.holds Try.pinned (OpenSpec.ofChange rateEnoughWrong)

/-- 'angeluslaw20.RateIncs': WHATEVER THE INPUT: true; the input reads as it did. -/
def rateIncsSpec : ChangeSpec := { name := "rateIncs", fn := fun _ => fun
  | [d1, d2] => { results := [.lit (.bool true)], args := [d1, d2] }
  | _ => none }
def rateIncsRow : OpenClaim := { program := "ytafpmkahecjaiaa", sum := "448f661691b6ccc5488c3da9ef509bb24446d5aa5952f49b663e7b9cd9aef20f", func := "angelus/angeluslaw20.RateIncs", spec := "rateIncs", apart := false }
def RateIncsSaid : Prop := rateIncsRow.holds Try.pinned (OpenSpec.ofChange rateIncsSpec)

/-- ITS FALSE NEIGHBOUR: 'it returns false'. Refute it at one input. -/
def rateIncsWrong : ChangeSpec := { name := "rateIncs", fn := fun _ => fun
  | [d1, d2] => { results := [.lit (.bool false)], args := [d1, d2] }
  | _ => none }
def RateIncsWrongFalsely : Prop := rateIncsRow.holds Try.pinned (OpenSpec.ofChange rateIncsWrong)

/-- 'angeluslaw20.RateNil': WHATEVER THE INPUT: true; the input reads as it did. -/
def rateNilSpec : ChangeSpec := { name := "rateNil", fn := fun _ => fun
  | [d] => { results := [.lit (.bool true)], args := [d] }
  | _ => none }
def rateNilRow : OpenClaim := { program := "ytafpmkahecjaiaa", sum := "448f661691b6ccc5488c3da9ef509bb24446d5aa5952f49b663e7b9cd9aef20f", func := "angelus/angeluslaw20.RateNil", spec := "rateNil", unfollowed := true, recurses := true, apart := false }
def RateNilSaid : Prop := rateNilRow.holds Try.pinned (OpenSpec.ofChange rateNilSpec)

/-- ITS FALSE NEIGHBOUR: 'it returns false'. Refute it at one input. -/
def rateNilWrong : ChangeSpec := { name := "rateNil", fn := fun _ => fun
  | [d] => { results := [.lit (.bool false)], args := [d] }
  | _ => none }
def RateNilWrongFalsely : Prop := rateNilRow.holds Try.pinned (OpenSpec.ofChange rateNilWrong)

/-- 'angeluslaw20.RateHard': WHATEVER THE INPUT: true; the input reads as it did. -/
def rateHardSpec : ChangeSpec := { name := "rateHard", fn := fun _ => fun
  | [d1, d2] => { results := [.lit (.bool true)], args := [d1, d2] }
  | _ => none }
def rateHardRow : OpenClaim := { program := "ytafpmkahecjaiaa", sum := "448f661691b6ccc5488c3da9ef509bb24446d5aa5952f49b663e7b9cd9aef20f", func := "angelus/angeluslaw20.RateHard", spec := "rateHard", unfollowed := true, recurses := true, apart := false }
def RateHardSaid : Prop := rateHardRow.holds Try.pinned (OpenSpec.ofChange rateHardSpec)

/-- ITS FALSE NEIGHBOUR: 'it returns false'. Refute it at one input. -/
def rateHardWrong : ChangeSpec := { name := "rateHard", fn := fun _ => fun
  | [d1, d2] => { results := [.lit (.bool false)], args := [d1, d2] }
  | _ => none }
def RateHardWrongFalsely : Prop := rateHardRow.holds Try.pinned (OpenSpec.ofChange rateHardWrong)

/-- 'angeluslaw20.RateFair': WHATEVER THE INPUT: true; the input reads as it did. -/
def rateFairSpec : ChangeSpec := { name := "rateFair", fn := fun _ => fun
  | [d1, d2] => { results := [.lit (.bool true)], args := [d1, d2] }
  | _ => none }
def rateFairRow : OpenClaim := { program := "ytafpmkahecjaiaa", sum := "448f661691b6ccc5488c3da9ef509bb24446d5aa5952f49b663e7b9cd9aef20f", func := "angelus/angeluslaw20.RateFair", spec := "rateFair", unfollowed := true, recurses := true, apart := false }
def RateFairSaid : Prop := rateFairRow.holds Try.pinned (OpenSpec.ofChange rateFairSpec)

/-- ITS FALSE NEIGHBOUR: 'it returns false'. Refute it at one input. -/
def rateFairWrong : ChangeSpec := { name := "rateFair", fn := fun _ => fun
  | [d1, d2] => { results := [.lit (.bool false)], args := [d1, d2] }
  | _ => none }
def RateFairWrongFalsely : Prop := rateFairRow.holds Try.pinned (OpenSpec.ofChange rateFairWrong)

/- THE SECOND FORM. 'bulk': how many values and letters a reading holds, each counted each time it is reached (what is shared counts as often as it is met; a slice's spare places count too). A statement '..UptoSaid' is the law's where the arguments, and the package variables that the reading takes, are together of bulk at most 1048576: NARROWER than '..Said'. Prove '..Said' where nothing that the law and all that it calls make is longer than what came in: it says more and counts as full. Else prove '..UptoSaid'. A law counts once. -/
mutual
def uptoBulk {H : Type} : DataW H → Nat
  | .lit (.string bytes) => bytes.length + 1
  | .lit _ => 1
  | .nil => 1
  | .ptr d => uptoBulk d + 1
  | .slice elems spare => uptoBulkAll elems + uptoBulkAll spare + 1
  | .agg parts => uptoBulkAll parts + 1
  | .iface _ d => uptoBulk d + 1
  | .map entries => uptoBulkEntries entries + 1
  | .held _ => 1
def uptoBulkAll {H : Type} : List (DataW H) → Nat
  | [] => 0
  | d :: r => uptoBulk d + uptoBulkAll r
def uptoBulkEntries {H : Type} : List (Lit × DataW H) → Nat
  | [] => 0
  | x :: r => uptoBulkEntry x + uptoBulkEntries r
def uptoBulkEntry {H : Type} : Lit × DataW H → Nat
  | (.string bytes, d) => bytes.length + uptoBulk d + 1
  | (_, d) => uptoBulk d + 1
 end
def uptoSmall : (H : Type) → List (DataW H) → Bool := fun _ ds => decide (uptoBulkAll ds ≤ 1048576)
def OpenSpec.upto (s : _root_.Go.ChangeSpec) : _root_.Go.OpenSpec := { _root_.Go.OpenSpec.ofChange s with cond := some uptoSmall }

/-- 'angeluslaw20.RateBounds', WHERE WHAT IT READS IS OF BULK AT MOST 1048576: true; the input reads as it did. -/
def rateBoundsUptoRow : OpenClaim := { program := "ytafpmkahecjaiaa", sum := "448f661691b6ccc5488c3da9ef509bb24446d5aa5952f49b663e7b9cd9aef20f", func := "angelus/angeluslaw20.RateBounds", spec := "rateBounds", apart := false, narrowed := true }
def RateBoundsUptoSaid : Prop := rateBoundsUptoRow.holds Try.pinned (OpenSpec.upto rateBoundsSpec)

/-- 'angeluslaw20.RateTicks', WHERE WHAT IT READS IS OF BULK AT MOST 1048576: true; the input reads as it did. -/
def rateTicksUptoRow : OpenClaim := { program := "ytafpmkahecjaiaa", sum := "448f661691b6ccc5488c3da9ef509bb24446d5aa5952f49b663e7b9cd9aef20f", func := "angelus/angeluslaw20.RateTicks", spec := "rateTicks", apart := false, narrowed := true }
def RateTicksUptoSaid : Prop := rateTicksUptoRow.holds Try.pinned (OpenSpec.upto rateTicksSpec)

/-- 'angeluslaw20.RateEnough', WHERE WHAT IT READS IS OF BULK AT MOST 1048576: true; the input reads as it did. -/
def rateEnoughUptoRow : OpenClaim := { program := "ytafpmkahecjaiaa", sum := "448f661691b6ccc5488c3da9ef509bb24446d5aa5952f49b663e7b9cd9aef20f", func := "angelus/angeluslaw20.RateEnough", spec := "rateEnough", apart := false, narrowed := true }
def RateEnoughUptoSaid : Prop := rateEnoughUptoRow.holds Try.pinned (OpenSpec.upto rateEnoughSpec)

/-- 'angeluslaw20.RateIncs', WHERE WHAT IT READS IS OF BULK AT MOST 1048576: true; the input reads as it did. -/
def rateIncsUptoRow : OpenClaim := { program := "ytafpmkahecjaiaa", sum := "448f661691b6ccc5488c3da9ef509bb24446d5aa5952f49b663e7b9cd9aef20f", func := "angelus/angeluslaw20.RateIncs", spec := "rateIncs", apart := false, narrowed := true }
def RateIncsUptoSaid : Prop := rateIncsUptoRow.holds Try.pinned (OpenSpec.upto rateIncsSpec)

/-- 'angeluslaw20.RateNil', WHERE WHAT IT READS IS OF BULK AT MOST 1048576: true; the input reads as it did. -/
def rateNilUptoRow : OpenClaim := { program := "ytafpmkahecjaiaa", sum := "448f661691b6ccc5488c3da9ef509bb24446d5aa5952f49b663e7b9cd9aef20f", func := "angelus/angeluslaw20.RateNil", spec := "rateNil", unfollowed := true, recurses := true, apart := false, narrowed := true }
def RateNilUptoSaid : Prop := rateNilUptoRow.holds Try.pinned (OpenSpec.upto rateNilSpec)

/-- 'angeluslaw20.RateHard', WHERE WHAT IT READS IS OF BULK AT MOST 1048576: true; the input reads as it did. -/
def rateHardUptoRow : OpenClaim := { program := "ytafpmkahecjaiaa", sum := "448f661691b6ccc5488c3da9ef509bb24446d5aa5952f49b663e7b9cd9aef20f", func := "angelus/angeluslaw20.RateHard", spec := "rateHard", unfollowed := true, recurses := true, apart := false, narrowed := true }
def RateHardUptoSaid : Prop := rateHardUptoRow.holds Try.pinned (OpenSpec.upto rateHardSpec)

/-- 'angeluslaw20.RateFair', WHERE WHAT IT READS IS OF BULK AT MOST 1048576: true; the input reads as it did. -/
def rateFairUptoRow : OpenClaim := { program := "ytafpmkahecjaiaa", sum := "448f661691b6ccc5488c3da9ef509bb24446d5aa5952f49b663e7b9cd9aef20f", func := "angelus/angeluslaw20.RateFair", spec := "rateFair", unfollowed := true, recurses := true, apart := false, narrowed := true }
def RateFairUptoSaid : Prop := rateFairUptoRow.holds Try.pinned (OpenSpec.upto rateFairSpec)

end Rows
end Go.Proofs.Ytafpmkahecjaiaa
