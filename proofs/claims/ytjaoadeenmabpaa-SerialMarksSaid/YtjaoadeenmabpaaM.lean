/- Marks: a map from nodes to what came of them, as a function; the laws of a look-up and a store on it. -/
import Derived.Test.YtjaoadeenmabpaaA
import Derived.Maps.OwnSet
namespace Go.Proofs.Ytjaoadeenmabpaa
open Go Go.RowKit Go.ChangeShapes Go.WideShapes Go.Maps
set_option linter.unusedVariables false

/-- What came of a node: the last one's time, node and number, and how many. -/
structure Mk where
  t : Int
  f : Int
  s : Int
  c : Int
abbrev Mk.arr (m : Mk) : Array Value := #[.int .i64 m.t, .int .i64 m.f, .int .u32 m.s, .int .i64 m.c]
/-- How an element reads. -/
def markR : Value → Option (DataW Unit × List MemPlace)
  | .agg cs => match cs.toList with
    | [.int .i64 t, .int .i64 f, .int .u32 s, .int .i64 c] => some (.agg [.lit (.int .i64 t), .lit (.int .i64 f), .lit (.int .u32 s), .lit (.int .i64 c)], [])
    | _ => none
  | _ => none
def encM (m : Mk) : DataW Unit := .agg [.lit (.int .i64 m.t), .lit (.int .i64 m.f), .lit (.int .u32 m.s), .lit (.int .i64 m.c)]
theorem markR_mk (m : Mk) : markR (.agg m.arr) = some (encM m, []) := rfl
theorem markR_inv {v : Value} {m : Mk} {ps : List MemPlace} (h : markR v = some (encM m, ps)) : v = .agg m.arr := by
  unfold markR at h
  split at h
  · rename_i cs
    split at h
    · rename_i t f s c heq
      simp only [encM, Option.some.injEq, Prod.mk.injEq, DataW.agg.injEq, List.cons.injEq, DataW.lit.injEq, Lit.int.injEq, true_and, and_true] at h
      obtain ⟨⟨h1, h2, h3, h4⟩, _⟩ := h
      have e : cs = [.int .i64 t, .int .i64 f, .int .u32 s, .int .i64 c].toArray := by rw [← heq]
      rw [e, h1, h2, h3, h4]
    · cases h
  · cases h

def zeroM : Mk := ⟨0, 0, 0, 0⟩
theorem zero57 (w : World) : (zeroValue 57).run Try.prog w = .ok (.agg zeroM.arr) w := by kernel_rfl
theorem keyed3 : Keyed Try.prog 3 := int_keyed Try.underlying3
/-- Block b is a map of at most n entries that tells M. -/
def Mks (w : World) (b n : Nat) (M : Int → Option Mk) : Prop :=
  ∃ D : DataW Unit, w.ownsMap Try.prog 3 markR b n D ∧ ∀ k : Int, Maps.has D (.int .i64 k) = (M k).isSome ∧ D.atKey (.int .i64 k) (encM zeroM) = encM ((M k).getD zeroM)
section
variable {w w' : World} {b n : Nat} {M : Int → Option Mk}
theorem Mks.lt (h : Mks w b n M) : b < w.heap.size := by obtain ⟨D, h, _⟩ := h; exact h.lt
theorem Mks.same (h : Mks w b n M) (hs : w'.heap[b]? = w.heap[b]?) : Mks w' b n M := by
  obtain ⟨D, ⟨es, clock, hb, r⟩, h2⟩ := h
  exact ⟨D, ⟨es, clock, hs.trans hb, r⟩, h2⟩
theorem Mks.call (h : Mks w b n M) (hb : Below w.heap.size w w') : Mks w' b n M := h.same (hb.block b h.lt)
theorem Mks.alloc (h : Mks w b n M) (o : Obj) : Mks (w.alloc o) b n M := h.same (Below.heap_alloc w o b h.lt)
theorem Mks.drew (h : Mks w b n M) : Mks w.drew b n M := h
theorem Mks.drewN (h : Mks w b n M) (k : Nat) : Mks (w.drewN k) b n M := h
theorem Mks.far (h : Mks w b n M) {p : Addr} (hp : b ≠ p.block) (u : Value) : Mks (w.setCell p u) b n M := h.same (Below.heap_setCell w p u b hp)
theorem Mks.step {g : Nat} (h : Mks w b n M) (hg : b ≠ g) (hs : Step g w w') : Mks w' b n M := h.same (hs.block b h.lt hg)
theorem Mks.ne_ {g : Nat} {t : TypeId} {cs : List Value} (h : Mks w b n M) (hg : Bk w g t cs) : b ≠ g := by
  rintro rfl
  obtain ⟨D, ⟨es, clock, hb, _⟩, _⟩ := h
  unfold Bk at hg
  rw [hb] at hg
  cases hg
theorem Mks.made (w : World) : Mks (w.alloc (.map #[] 0)) w.heap.size 0 fun _ => none :=
  ⟨_, World.ownsMap_made w Try.prog 3 markR, fun k => ⟨rfl, rfl⟩⟩
theorem wf_key {k : Int} (h0 : -9223372036854775808 ≤ k) (h1 : k ≤ 9223372036854775807) : (Lit.int .i64 k).wf = true := WalkArith.wf_i64 (by omega)
theorem Mks.look (h : Mks w b n M) {k : Int} (hk : (Lit.int .i64 k).wf = true) :
    (Instr.lookup 53 (.map (some b)) (.int .i64 k) true).run Try.prog w = .ok (.tuple #[.agg ((M k).getD zeroM).arr, .bool (M k).isSome]) w := by
  obtain ⟨D, h1, h2⟩ := h
  obtain ⟨v, ps, hrun, hv⟩ := h1.look_ok keyed3 Try.underlying53 (zero57 w) (markR_mk zeroM) (keyOf_int_mk Try.underlying3 hk)
  rw [(h2 k).2] at hv
  rw [hrun, markR_inv hv, (h2 k).1]
theorem Mks.look1 (h : Mks w b n M) {k : Int} (hk : (Lit.int .i64 k).wf = true) :
    (Instr.lookup 53 (.map (some b)) (.int .i64 k) false).run Try.prog w = .ok (.agg ((M k).getD zeroM).arr) w := by
  obtain ⟨D, h1, h2⟩ := h
  obtain ⟨v, ps, hrun, hv⟩ := h1.lookup keyed3 Try.underlying53 (zero57 w) (markR_mk zeroM) (keyOf_int_mk Try.underlying3 hk)
  rw [(h2 k).2] at hv
  rw [hrun, markR_inv hv]
def upd (M : Int → Option Mk) (k : Int) (m : Mk) : Int → Option Mk := fun x => if x = k then some m else M x
theorem Mks.store (h : Mks w b n M) {k : Int} (hk : (Lit.int .i64 k).wf = true) (hn : n < maxLen) (m : Mk) :
    ∃ w', (Instr.mapUpdate 53 (.map (some b)) (.int .i64 k) (.agg m.arr)).run Try.prog w = .ok () w' ∧ Mks w' b (n + 1) (upd M k m) ∧ Step b w w' := by
  obtain ⟨D, h1, h2⟩ := h
  obtain ⟨w', hrun, hown, hg⟩ := h1.update keyed3 Try.underlying53 hn (keyOf_int_mk Try.underlying3 hk) (markR_mk m)
  have hkey : WideAt.IsKeyLit (.int .i64 k) := by trivial
  refine ⟨w', hrun, ⟨_, hown, fun x => ?_⟩, ⟨hg.os, hg.tape, hg.output, hg.size, fun i hi hb => hg.block i hi (by simpa using hb)⟩⟩
  unfold upd
  by_cases hx : x = k
  · subst hx
    rw [if_pos rfl]
    exact ⟨has_put_same h1.isMap hkey _, atKey_put_same h1.isMap hkey _ _⟩
  · rw [if_neg hx]
    have hne : Lit.int .i64 x ≠ Lit.int .i64 k := by simpa using hx
    exact ⟨(has_put_other hne _).trans (h2 x).1, (atKey_put_other hne _ _).trans (h2 x).2⟩
end
end Go.Proofs.Ytjaoadeenmabpaa
