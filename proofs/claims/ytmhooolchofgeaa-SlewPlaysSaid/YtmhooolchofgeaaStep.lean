/- A word for what a call does that writes one block alone. -/
import Derived.Test.YtmhooolchofgeaaWords
namespace Go.Proofs.Ytmhooolchofgeaa
open Go.ChangeShapes Go.WideShapes Go.RowKit
/-- WHAT A CALL DOES THAT WRITES ONE BLOCK ALONE (g), and makes others: every other block is as it was. -/
structure Step (g : Nat) (w w' : World) : Prop where
  os : w'.os = w.os
  tape : w'.tape = w.tape
  output : w'.output = w.output
  size : w.heap.size ≤ w'.heap.size
  block : ∀ k, k < w.heap.size → k ≠ g → w'.heap[k]? = w.heap[k]?
section
variable {g : Nat} {w w' w'' : World}
theorem Step.refl (g : Nat) (w : World) : Step g w w := ⟨rfl, rfl, rfl, Nat.le_refl _, fun _ _ _ => rfl⟩
theorem Step.trans (h : Step g w w') (k : Step g w' w'') : Step g w w'' :=
  ⟨k.os.trans h.os, k.tape.trans h.tape, k.output.trans h.output, Nat.le_trans h.size k.size, fun i hi hg => (k.block i (Nat.lt_of_lt_of_le hi h.size) hg).trans (h.block i hi hg)⟩
theorem Step.of_below (h : Below w.heap.size w w') : Step g w w' := ⟨h.os, h.tape, h.output, h.size, fun k hk _ => h.block k hk⟩
theorem Step.call (h : Step g w w') (k : Below w'.heap.size w' w'') : Step g w w'' := h.trans (.of_below k)
theorem Step.setCell (h : Step g w w') (i : Nat) (u : Value) : Step g w (w'.setCell ⟨g, i, none⟩ u) :=
  h.trans ⟨rfl, rfl, rfl, by simp [World.setCell], fun k _ hg => Below.heap_setCell _ _ _ _ hg⟩
theorem Step.setNew (h : Step g w w') {p : Addr} (hp : w.heap.size ≤ p.block) (u : Value) : Step g w (w'.setCell p u) :=
  ⟨h.os, h.tape, h.output, by simpa [World.setCell] using h.size, fun k hk hg => (Below.heap_setCell _ _ _ _ (by omega)).trans (h.block k hk hg)⟩
theorem Step.alloc (h : Step g w w') (o : Obj) : Step g w (w'.alloc o) := h.call ((Below.refl _ _).alloc (Nat.le_refl _) o)
theorem Step.drewN (h : Step g w w') (n : Nat) : Step g w (w'.drewN n) := h.trans ⟨rfl, rfl, rfl, Nat.le_refl _, fun _ _ _ => rfl⟩
theorem Step.drew (h : Step g w w') : Step g w w'.drew := h.trans ⟨rfl, rfl, rfl, Nat.le_refl _, fun _ _ _ => rfl⟩
theorem Step.bk (h : Step g w w') {p : Nat} {t : TypeId} {cs : List Value} (hp : p ≠ g) (hb : Bk w p t cs) : Bk w' p t cs := (h.block p hb.lt hp).trans hb
theorem Step.bel {B : Nat} {w0 : World} (h : Step g w w') (hg : g < w.heap.size) (hB : B ≤ g) (hb : Below B w0 w) : Below B w0 w' :=
  hb.trans ⟨h.os, h.tape, h.output, h.size, fun k hk => h.block k (by omega) (by omega)⟩
theorem Step.cell (h : Step g w w') {p : Addr} (hp : p.block < w.heap.size) (hg : p.block ≠ g) : w'.cell? p = w.cell? p := World.cell?_of_block (w := w) (h.block p.block hp hg)
/-- A step on a block that was made behind a beginning is none for what was there then. -/
theorem Step.below (h : Step g w w') (hg : w''.heap.size ≤ g) (hb : Below w''.heap.size w'' w) : Below w''.heap.size w'' w' :=
  hb.trans ⟨h.os, h.tape, h.output, h.size, fun k hk => h.block k (Nat.lt_of_lt_of_le hk hb.size) (by omega)⟩
/-- .. and a step on another block, that was made behind this step's beginning, joins it. -/
theorem Step.andNew {p : Nat} (h : Step g w w') (k : Step p w' w'') (hp : w.heap.size ≤ p) : Step g w w'' :=
  ⟨k.os.trans h.os, k.tape.trans h.tape, k.output.trans h.output, Nat.le_trans h.size k.size, fun i hi hg => (k.block i (Nat.lt_of_lt_of_le hi h.size) (by omega)).trans (h.block i hi hg)⟩
end

/-- A world in which this holds. -/
structure KX (w : World) (l : List (Nat × TypeId × List Value)) where
  fst : World
  snd : Kb w l fst
theorem KX.bk {w : World} {l : List (Nat × TypeId × List Value)} (x : KX w l) {g : Nat} {t : TypeId} {cs : List Value} (h : (g, t, cs) ∈ l) : Bk x.1 g t cs := x.2.1 (g, t, cs) h
theorem KX.cell {w : World} {l : List (Nat × TypeId × List Value)} (g : Nat) (t : TypeId) (cs : List Value) (i : Nat) {v : Value} (h : (g, t, cs) ∈ l) (hi : cs[i]? = some v) (x : KX w l) : x.1.cell? ⟨g, i, none⟩ = some v := (x.bk h).cell hi
theorem KX.bel {w : World} {l : List (Nat × TypeId × List Value)} (x : KX w l) : Below w.heap.size w x.1 := x.2.2

/-- A REGION THAT DRAWS ITS ORDER, whose operations read what is carried along and whose callees make memory alone: one walk, in the order of the text. -/
theorem qx_in {P : Program} {id : Nat} {Q : Exit → Act → World → Prop} {a : Act} {w wx : World} {ops : List Oper} (l : List (Nat × TypeId × List Value)) (hk : Kb w l wx) (hm : P.follows .mixedOrders = true) (hB : Region.lexB .any ops.toArray = true)
    (h : wpQuiet P ops.toArray (fun w' => ∃ x : KX w l, w' = x.1) (fun a' => ∀ w', (∃ x : KX w l, w' = x.1) → Q .normal a' w') ops a) : (Code.region id ops.toArray true).wp P Q a wx :=
  wp_region_quiet (C := fun w' => ∃ x : KX w l, w' = x.1) hm hB ⟨⟨wx.drew, hk.drew⟩, rfl⟩ (by simpa using h)
/-- A call that makes memory alone, in such a region. -/
theorem qx_call {P : Program} {f : FuncId} {args : Array Value} {w : World} {l : List (Nat × TypeId × List Value)} {x : KX w l} {v : Value} (h : Calls P f args x.1 fun e w' => e = .returned v ∧ Below x.1.heap.size x.1 w') :
    Calls P f args x.1 fun e w'' => e = .returned v ∧ ∃ y : KX w l, w'' = y.1 := h.mono fun _ _ ⟨he, hb⟩ => ⟨he, ⟨_, x.2.call hb⟩, rfl⟩
/-- .. one that leaves the world as it was. -/
theorem qx_same {P : Program} {f : FuncId} {args : Array Value} {w : World} {l : List (Nat × TypeId × List Value)} {x : KX w l} {v : Value} (h : Calls P f args x.1 fun e w' => e = .returned v ∧ x.1 = w') :
    Calls P f args x.1 fun e w'' => e = .returned v ∧ ∃ y : KX w l, w'' = y.1 := h.mono fun _ _ ⟨he, hb⟩ => ⟨he, x, hb.symm⟩
/-- .. one that draws alone. -/
theorem qx_draws {P : Program} {f : FuncId} {args : Array Value} {w : World} {l : List (Nat × TypeId × List Value)} {x : KX w l} {v : Value} (h : Calls P f args x.1 fun e w' => e = .returned v ∧ ∃ k, w' = x.1.drewN k) :
    Calls P f args x.1 fun e w'' => e = .returned v ∧ ∃ y : KX w l, w'' = y.1 := h.mono fun _ _ ⟨he, k, hb⟩ => ⟨he, ⟨_, x.2.drewN k⟩, hb⟩
/-- .. one that lays one block. -/
theorem qx_lays {P : Program} {f : FuncId} {args : Array Value} {w : World} {l : List (Nat × TypeId × List Value)} {x : KX w l} {v : Value} {o : Obj} (h : Calls P f args x.1 fun e w' => e = .returned v ∧ x.1.alloc o = w') :
    Calls P f args x.1 fun e w'' => e = .returned v ∧ ∃ y : KX w l, w'' = y.1 :=
  h.mono fun _ _ ⟨he, hb⟩ => ⟨he, ⟨_, x.2.call ((Below.refl _ _).alloc (Nat.le_refl _) o)⟩, hb.symm⟩
end Go.Proofs.Ytmhooolchofgeaa
