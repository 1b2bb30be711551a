/-
  No cell of these rows narrows 'for every input' (looked for: loops, veiled, ifaces, maps, wideKeys, modest, calm, conditions, laid).
  DERIVED. THE GIVEN ROWS OF THIS SEAT. 4 by the template 'for every input the law returns true; each argument reads behind the call as it read before'; 0 by the template 'total and deterministic' (their statements: YtmhooolchofgeaaTotals.lean).
  GIVEN WITH THE SEED: the statements are not yours to turn. If you find one false, say at which input.
  Laid BY PROGRAM, IN A SANDBOX (cutbox-rows.mjs): the forced cells as the released guide's own fill.sh prints them over the translation a441fd4d9df21f64… (all of the seat's roots in one cut). By AI agents, Wed Nov 11 2026. No macro, syntax, notation, axiom, sorry.
-/
import Derived.Test.YtmhooolchofgeaaChecked
import GoSem.Claim
import GoSem.ClaimJoined
import GoSem.ClaimMapViews
import Derived.JoinedTies
import Derived.KernelRfl
namespace Go.Proofs.Ytmhooolchofgeaa
/- THE CELL 'sum', in the pinned program and in every row, IS THE sha256 OF THE DUMP (.gsa) THAT YtmhooolchofgeaaProg.lean LOADS. Nothing in Lean hashes anything: it is a label: what it is worth is what the hold of that sum in a sandbox is worth. -/
noncomputable def Try.pinned : Pinned := { name := "ytmhooolchofgeaa", sum := "a441fd4d9df21f6463bc13ec15c657e66b0ff6794f1d633d62987ce4cbd445d9", checked := Try.checked }
namespace Rows
def none {H : Type} : Left H := { results := [], args := [] }

/-- 'angeluslaw21.SlewPlays': WHATEVER THE INPUT: true; the input reads as it did. -/
def slewPlaysSpec : ChangeSpec := { name := "slewPlays", fn := fun _ => fun
  | [d1, d2] => { results := [.lit (.bool true)], args := [d1, d2] }
  | _ => none }
def slewPlaysRow : OpenClaim := { program := "ytmhooolchofgeaa", sum := "a441fd4d9df21f6463bc13ec15c657e66b0ff6794f1d633d62987ce4cbd445d9", func := "angelus/angeluslaw21.SlewPlays", spec := "slewPlays", apart := false }
def SlewPlaysSaid : Prop := slewPlaysRow.holds Try.pinned (OpenSpec.ofChange slewPlaysSpec)

/-- ITS FALSE NEIGHBOUR: 'it returns false'. Refute it at one input. -/
def slewPlaysWrong : ChangeSpec := { name := "slewPlays", fn := fun _ => fun
  | [d1, d2] => { results := [.lit (.bool false)], args := [d1, d2] }
  | _ => none }
def SlewPlaysWrongFalsely : Prop := slewPlaysRow.holds Try.pinned (OpenSpec.ofChange slewPlaysWrong)

/-- 'angeluslaw21.SlewOn': WHATEVER THE INPUT: true; the input reads as it did. -/
def slewOnSpec : ChangeSpec := { name := "slewOn", fn := fun _ => fun
  | [d1, d2, d3] => { results := [.lit (.bool true)], args := [d1, d2, d3] }
  | _ => none }
def slewOnRow : OpenClaim := { program := "ytmhooolchofgeaa", sum := "a441fd4d9df21f6463bc13ec15c657e66b0ff6794f1d633d62987ce4cbd445d9", func := "angelus/angeluslaw21.SlewOn", spec := "slewOn", apart := false }
def SlewOnSaid : Prop := slewOnRow.holds Try.pinned (OpenSpec.ofChange slewOnSpec)

/-- ITS FALSE NEIGHBOUR: 'it returns false'. Refute it at one input. -/
def slewOnWrong : ChangeSpec := { name := "slewOn", fn := fun _ => fun
  | [d1, d2, d3] => { results := [.lit (.bool false)], args := [d1, d2, d3] }
  | _ => none }
def SlewOnWrongFalsely : Prop := slewOnRow.holds Try.pinned (OpenSpec.ofChange slewOnWrong)

/-- 'angeluslaw21.SlewDone': WHATEVER THE INPUT: true; the input reads as it did. -/
def slewDoneSpec : ChangeSpec := { name := "slewDone", fn := fun _ => fun
  | [d1, d2, d3] => { results := [.lit (.bool true)], args := [d1, d2, d3] }
  | _ => none }
def slewDoneRow : OpenClaim := { program := "ytmhooolchofgeaa", sum := "a441fd4d9df21f6463bc13ec15c657e66b0ff6794f1d633d62987ce4cbd445d9", func := "angelus/angeluslaw21.SlewDone", spec := "slewDone", apart := false }
def SlewDoneSaid : Prop := slewDoneRow.holds Try.pinned (OpenSpec.ofChange slewDoneSpec)

/-- ITS FALSE NEIGHBOUR: 'it returns false'. Refute it at one input. -/
def slewDoneWrong : ChangeSpec := { name := "slewDone", fn := fun _ => fun
  | [d1, d2, d3] => { results := [.lit (.bool false)], args := [d1, d2, d3] }
  | _ => none }
def SlewDoneWrongFalsely : Prop := slewDoneRow.holds Try.pinned (OpenSpec.ofChange slewDoneWrong)

/-- 'angeluslaw21.SlewNil': WHATEVER THE INPUT: true; the input reads as it did. -/
def slewNilSpec : ChangeSpec := { name := "slewNil", fn := fun _ => fun
  | [d] => { results := [.lit (.bool true)], args := [d] }
  | _ => none }
def slewNilRow : OpenClaim := { program := "ytmhooolchofgeaa", sum := "a441fd4d9df21f6463bc13ec15c657e66b0ff6794f1d633d62987ce4cbd445d9", func := "angelus/angeluslaw21.SlewNil", spec := "slewNil", apart := false }
def SlewNilSaid : Prop := slewNilRow.holds Try.pinned (OpenSpec.ofChange slewNilSpec)

/-- ITS FALSE NEIGHBOUR: 'it returns false'. Refute it at one input. -/
def slewNilWrong : ChangeSpec := { name := "slewNil", fn := fun _ => fun
  | [d] => { results := [.lit (.bool false)], args := [d] }
  | _ => none }
def SlewNilWrongFalsely : Prop := slewNilRow.holds Try.pinned (OpenSpec.ofChange slewNilWrong)

/- THE SECOND FORM. 'bulk': how many values and letters a reading holds, each counted each time it is reached (what is shared counts as often as it is met; a slice's spare places count too). A statement '..UptoSaid' is the law's where the arguments, and the package variables that the reading takes, are together of bulk at most 1048576: NARROWER than '..Said'. Prove '..Said' where nothing that the law and all that it calls make is longer than what came in: it says more and counts as full. Else prove '..UptoSaid'. A law counts once. -/
mutual
def uptoBulk {H : Type} : DataW H → Nat
  | .lit (.string bytes) => bytes.length + 1
  | .lit _ => 1
  | .nil => 1
  | .ptr d => uptoBulk d + 1
  | .slice elems spare => uptoBulkAll elems + uptoBulkAll spare + 1
  | .agg parts => uptoBulkAll parts + 1
  | .iface _ d => uptoBulk d + 1
  | .map entries => uptoBulkEntries entries + 1
  | .held _ => 1
def uptoBulkAll {H : Type} : List (DataW H) → Nat
  | [] => 0
  | d :: r => uptoBulk d + uptoBulkAll r
def uptoBulkEntries {H : Type} : List (Lit × DataW H) → Nat
  | [] => 0
  | x :: r => uptoBulkEntry x + uptoBulkEntries r
def uptoBulkEntry {H : Type} : Lit × DataW H → Nat
  | (.string bytes, d) => bytes.length + uptoBulk d + 1
  | (_, d) => uptoBulk d + 1
 end
def uptoSmall : (H : Type) → List (DataW H) → Bool := fun _ ds => decide (uptoBulkAll ds ≤ 1048576)
def OpenSpec.upto (s : _root_.Go.ChangeSpec) : _root_.Go.OpenSpec := { _root_.Go.OpenSpec.ofChange s with cond := some uptoSmall }

/-- 'angeluslaw21.SlewPlays', WHERE WHAT IT READS IS OF BULK AT MOST 1048576: true; the input reads as it did. -/
def slewPlaysUptoRow : OpenClaim := { program := "ytmhooolchofgeaa", sum := "a441fd4d9df21f6463bc13ec15c657e66b0ff6794f1d633d62987ce4cbd445d9", func := "angelus/angeluslaw21.SlewPlays", spec := "slewPlays", apart := false, narrowed := true }
def SlewPlaysUptoSaid : Prop := slewPlaysUptoRow.holds Try.pinned (OpenSpec.upto slewPlaysSpec)

/-- 'angeluslaw21.SlewOn', WHERE WHAT IT READS IS OF BULK AT MOST 1048576: true; the input reads as it did. -/
def slewOnUptoRow : OpenClaim := { program := "ytmhooolchofgeaa", sum := "a441fd4d9df21f6463bc13ec15c657e66b0ff6794f1d633d62987ce4cbd445d9", func := "angelus/angeluslaw21.SlewOn", spec := "slewOn", apart := false, narrowed := true }
def SlewOnUptoSaid : Prop := slewOnUptoRow.holds Try.pinned (OpenSpec.upto slewOnSpec)

/-- 'angeluslaw21.SlewDone', WHERE WHAT IT READS IS OF BULK AT MOST 1048576: true; the input reads as it did. -/
def slewDoneUptoRow : OpenClaim := { program := "ytmhooolchofgeaa", sum := "a441fd4d9df21f6463bc13ec15c657e66b0ff6794f1d633d62987ce4cbd445d9", func := "angelus/angeluslaw21.SlewDone", spec := "slewDone", apart := false, narrowed := true }
def SlewDoneUptoSaid : Prop := slewDoneUptoRow.holds Try.pinned (OpenSpec.upto slewDoneSpec)

/-- 'angeluslaw21.SlewNil', WHERE WHAT IT READS IS OF BULK AT MOST 1048576: true; the input reads as it did. -/
def slewNilUptoRow : OpenClaim := { program := "ytmhooolchofgeaa", sum := "a441fd4d9df21f6463bc13ec15c657e66b0ff6794f1d633d62987ce4cbd445d9", func := "angelus/angeluslaw21.SlewNil", spec := "slewNil", apart := false, narrowed := true }
def SlewNilUptoSaid : Prop := slewNilUptoRow.holds Try.pinned (OpenSpec.upto slewNilSpec)

end Rows
end Go.Proofs.Ytmhooolchofgeaa
