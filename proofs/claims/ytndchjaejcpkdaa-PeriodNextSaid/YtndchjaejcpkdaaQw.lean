/- Words: what is carried along over calls that make memory alone, and one walk of a region that draws its order. -/
import Derived.Test.YtndchjaejcpkdaaWords
import Derived.Deep.QuietTactic
import Derived.BigQuiet
namespace Go.Proofs.Ytndchjaejcpkdaa
open Go.ChangeShapes Go.WideShapes Go.RowKit

/-- WHAT IS CARRIED ALONG over calls that make memory: some cells, each of a block that is there, and that nothing below the heap's size at the beginning has turned. -/
def Kp (w : World) (l : List (Addr × Value)) (w' : World) : Prop := (∀ p ∈ l, w'.cell? p.1 = some p.2 ∧ p.1.block < w'.heap.size) ∧ Below w.heap.size w w'
theorem Kp.call {w wx w1 : World} {l : List (Addr × Value)} (h : Kp w l wx) (h1 : Below wx.heap.size wx w1) : Kp w l w1 :=
  ⟨fun p hp => ⟨(h1.cell (h.1 p hp).2).trans (h.1 p hp).1, Nat.lt_of_lt_of_le (h.1 p hp).2 h1.size⟩, h.2.trans (h1.mono h.2.size)⟩
theorem Kp.same {w wx w1 : World} {l : List (Addr × Value)} (h : Kp w l wx) (e : wx = w1) : Kp w l w1 := e ▸ h
theorem Kp.drew {w wx : World} {l : List (Addr × Value)} (h : Kp w l wx) : Kp w l wx.drew := ⟨h.1, h.2.drew⟩
theorem Kp.alloc {w wx : World} {l : List (Addr × Value)} (h : Kp w l wx) (o : Obj) : Kp w l (wx.alloc o) :=
  ⟨fun p hp => ⟨(World.cell?_alloc_lt wx o _ (h.1 p hp).2).trans (h.1 p hp).1, by have := (h.1 p hp).2; simp; omega⟩, h.2.alloc h.2.size o⟩
/-- A world in which this holds. -/
structure KW (w : World) (l : List (Addr × Value)) where
  fst : World
  snd : Kp w l fst
theorem KW.cell {w : World} {l : List (Addr × Value)} (p : Addr) (v : Value) (h : (p, v) ∈ l) (x : KW w l) : x.1.cell? p = some v := (x.2.1 (p, v) h).1
theorem KW.bel {w : World} {l : List (Addr × Value)} (x : KW w l) : Below w.heap.size w x.1 := x.2.2

/-- A REGION THAT DRAWS ITS ORDER, whose operations read what is carried along and whose callees make memory alone: one walk, in the order of the text. -/
theorem quiet_in {P : Program} {id : Nat} {Q : Exit → Act → World → Prop} {a : Act} {w wx : World} {ops : List Oper} (l : List (Addr × Value)) (hk : Kp w l wx) (hm : P.follows .mixedOrders = true) (hB : Region.lexB .any ops.toArray = true)
    (h : wpQuiet P ops.toArray (fun w' => ∃ x : KW w l, w' = x.1) (fun a' => ∀ w', (∃ x : KW w l, w' = x.1) → Q .normal a' w') ops a) : (Code.region id ops.toArray true).wp P Q a wx :=
  wp_region_quiet (C := fun w' => ∃ x : KW w l, w' = x.1) hm hB ⟨⟨wx.drew, hk.drew⟩, rfl⟩ (by simpa using h)
/-- A call that makes memory alone, in such a region. -/
theorem quiet_call {P : Program} {f : FuncId} {args : Array Value} {w : World} {l : List (Addr × Value)} {x : KW w l} {v : Value} (h : Calls P f args x.1 fun e w' => e = .returned v ∧ Below x.1.heap.size x.1 w') :
    Calls P f args x.1 fun e w'' => e = .returned v ∧ ∃ y : KW w l, w'' = y.1 := h.mono fun _ _ ⟨he, hb⟩ => ⟨he, ⟨_, x.2.call hb⟩, rfl⟩
theorem quiet_same {P : Program} {f : FuncId} {args : Array Value} {w : World} {l : List (Addr × Value)} {x : KW w l} {v : Value} (h : Calls P f args x.1 fun e w' => e = .returned v ∧ x.1 = w') :
    Calls P f args x.1 fun e w'' => e = .returned v ∧ ∃ y : KW w l, w'' = y.1 := h.mono fun _ _ ⟨he, hb⟩ => ⟨he, x, hb.symm⟩
end Go.Proofs.Ytndchjaejcpkdaa
