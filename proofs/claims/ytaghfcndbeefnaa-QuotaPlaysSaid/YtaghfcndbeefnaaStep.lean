/- A word for what a call does that writes one block alone. -/
import Derived.Test.YtaghfcndbeefnaaWords
namespace Go.Proofs.Ytaghfcndbeefnaa
open Go.ChangeShapes Go.WideShapes Go.RowKit
/-- WHAT A CALL DOES THAT WRITES ONE BLOCK ALONE (g), and makes others: every other block is as it was. -/
structure Step (g : Nat) (w w' : World) : Prop where
  os : w'.os = w.os
  tape : w'.tape = w.tape
  output : w'.output = w.output
  size : w.heap.size ≤ w'.heap.size
  block : ∀ k, k < w.heap.size → k ≠ g → w'.heap[k]? = w.heap[k]?
section
variable {g : Nat} {w w' w'' : World}
theorem Step.refl (g : Nat) (w : World) : Step g w w := ⟨rfl, rfl, rfl, Nat.le_refl _, fun _ _ _ => rfl⟩
theorem Step.trans (h : Step g w w') (k : Step g w' w'') : Step g w w'' :=
  ⟨k.os.trans h.os, k.tape.trans h.tape, k.output.trans h.output, Nat.le_trans h.size k.size, fun i hi hg => (k.block i (Nat.lt_of_lt_of_le hi h.size) hg).trans (h.block i hi hg)⟩
theorem Step.of_below (h : Below w.heap.size w w') : Step g w w' := ⟨h.os, h.tape, h.output, h.size, fun k hk _ => h.block k hk⟩
theorem Step.call (h : Step g w w') (k : Below w'.heap.size w' w'') : Step g w w'' := h.trans (.of_below k)
theorem Step.setCell (h : Step g w w') (i : Nat) (u : Value) : Step g w (w'.setCell ⟨g, i, none⟩ u) :=
  h.trans ⟨rfl, rfl, rfl, by simp [World.setCell], fun k _ hg => Below.heap_setCell _ _ _ _ hg⟩
theorem Step.setNew (h : Step g w w') {p : Addr} (hp : w.heap.size ≤ p.block) (u : Value) : Step g w (w'.setCell p u) :=
  ⟨h.os, h.tape, h.output, by simpa [World.setCell] using h.size, fun k hk hg => (Below.heap_setCell _ _ _ _ (by omega)).trans (h.block k hk hg)⟩
theorem Step.alloc (h : Step g w w') (o : Obj) : Step g w (w'.alloc o) := h.call ((Below.refl _ _).alloc (Nat.le_refl _) o)
theorem Step.drewN (h : Step g w w') (n : Nat) : Step g w (w'.drewN n) := h.trans ⟨rfl, rfl, rfl, Nat.le_refl _, fun _ _ _ => rfl⟩
theorem Step.drew (h : Step g w w') : Step g w w'.drew := h.trans ⟨rfl, rfl, rfl, Nat.le_refl _, fun _ _ _ => rfl⟩
theorem Step.bk (h : Step g w w') {p : Nat} {t : TypeId} {cs : List Value} (hp : p ≠ g) (hb : Bk w p t cs) : Bk w' p t cs := (h.block p hb.lt hp).trans hb
theorem Step.bel {B : Nat} {w0 : World} (h : Step g w w') (hg : g < w.heap.size) (hB : B ≤ g) (hb : Below B w0 w) : Below B w0 w' :=
  hb.trans ⟨h.os, h.tape, h.output, h.size, fun k hk => h.block k (by omega) (by omega)⟩
theorem Step.cell (h : Step g w w') {p : Addr} (hp : p.block < w.heap.size) (hg : p.block ≠ g) : w'.cell? p = w.cell? p := World.cell?_of_block (w := w) (h.block p.block hp hg)
/-- A step on a block that was made behind a beginning is none for what was there then. -/
theorem Step.below (h : Step g w w') (hg : w''.heap.size ≤ g) (hb : Below w''.heap.size w'' w) : Below w''.heap.size w'' w' :=
  hb.trans ⟨h.os, h.tape, h.output, h.size, fun k hk => h.block k (Nat.lt_of_lt_of_le hk hb.size) (by omega)⟩
/-- .. and a step on another block, that was made behind this step's beginning, joins it. -/
theorem Step.andNew {p : Nat} (h : Step g w w') (k : Step p w' w'') (hp : w.heap.size ≤ p) : Step g w w'' :=
  ⟨k.os.trans h.os, k.tape.trans h.tape, k.output.trans h.output, Nat.le_trans h.size k.size, fun i hi hg => (k.block i (Nat.lt_of_lt_of_le hi h.size) (by omega)).trans (h.block i hi hg)⟩
end
end Go.Proofs.Ytaghfcndbeefnaa
