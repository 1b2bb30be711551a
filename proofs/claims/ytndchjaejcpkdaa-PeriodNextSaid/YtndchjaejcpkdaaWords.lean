/- Words for the walks of this seat: a slice that came in, element by element, and the ways from the readings of the arguments to them. No statement of the seat is proved here. -/
import Derived.WalkKit
import Derived.ProofKit
import Derived.OpenShut
import Derived.Below
import Derived.ChangeOld
import Derived.Deep.Slices
import Derived.Deep.Fields
import Derived.Deep.Draws
import Derived.Lib.SmallJoins
namespace Go.Proofs.Ytndchjaejcpkdaa
open Go.ChangeShapes Go.WideShapes Go.RowKit

theorem hid {p : Prop} (h : p) : Hid p := h

/-- What stands behind a call that leaves alone what was there: each old cell, each old mark, and how many blocks there are at least. -/
theorem after {W w1 : World} (h : Below W.heap.size W w1) :
    (∀ b o, b < W.heap.size → w1.cell? ⟨b, o, none⟩ = W.cell? ⟨b, o, none⟩) ∧ (∀ b o, b < W.heap.size → w1.frozen? ⟨b, o, none⟩ = W.frozen? ⟨b, o, none⟩) ∧ W.heap.size ≤ w1.heap.size :=
  ⟨fun b o hb => h.cell (p := ⟨b, o, none⟩) hb, fun b o hb => h.frozen (p := ⟨b, o, none⟩) hb, h.size⟩

theorem bel_drewN {B : Nat} {w w' : World} (h : Below B w w') (n : Nat) : Below B w (w'.drewN n) :=
  h.trans ⟨rfl, rfl, rfl, Nat.le_refl _, fun _ _ => rfl⟩

/-- A slice that came in: where it has an element, it begins at an address below the heap's size, and element i lies in 'size' cells that hold 'F i'. -/
def IsSl (w : World) (A : Option Addr) (len size : Nat) (F : Nat → List Value) : Prop :=
  0 < len → ∃ b off, A = some ⟨b, off, none⟩ ∧ b < w.heap.size ∧ ∀ i, i < len → ∀ j v, (F i)[j]? = some v → w.cell? ⟨b, off + (i * size + j), none⟩ = some v

theorem IsSl.below {w w' : World} {A : Option Addr} {len size : Nat} {F : Nat → List Value} (h : IsSl w A len size F) (hb : Below w.heap.size w w') : IsSl w' A len size F := fun hl => by
  obtain ⟨b, off, e, hlt, hc⟩ := h hl
  exact ⟨b, off, e, Nat.lt_of_lt_of_le hlt hb.size, fun i hi j v hv => (hb.cell (p := ⟨b, off + (i * size + j), none⟩) hlt).trans (hc i hi j v hv)⟩

section
variable {H : Type} {enc : TypeId × Value → H} {P : Program} {w : World} {base : Nat} {spare : Nat → Bool} {held : Bool}

theorem wf_zero (k : IntKind) : (Lit.int k 0).wf = true := by cases k <;> decide

theorem open_sl1_int {t e : TypeId} {k : IntKind} {fuel : Nat} {a : Option Addr} {len cap : Nat} {x : DataW H × List MemPlace} (ht : P.underlying t = some (.slice e)) (he : P.underlying e = some (.int k)) (hc : P.cellsOf e = 1)
    (h : DataW.trod enc P w base spare held fuel t (Value.slice a len cap).cells.toList = some x) :
    ∃ z : Nat → Int, IsSl w a len 1 (fun i => [.int k (z i)]) ∧ len ≤ maxLen ∧ ∀ i, (Lit.int k (z i)).wf = true := by
  rcases open_ints ht he hc h with ⟨hcs, _⟩ | ⟨y, l, c, zs, hcs, _, hl, hm, hz, _, hcell, hwz⟩
  · simp [Value.cells] at hcs
    obtain ⟨rfl, rfl, rfl⟩ := hcs
    exact ⟨fun _ => 0, fun h => absurd h (by omega), Nat.zero_le _, fun _ => wf_zero k⟩
  · simp [Value.cells] at hcs
    obtain ⟨rfl, rfl, rfl⟩ := hcs
    refine ⟨fun i => zs.getD i 0, fun h0 => ?_, by omega, fun i => ?_⟩
    · have hzl : len ≤ zs.length := by rw [hz]; split <;> omega
      obtain ⟨b, off, spot⟩ := y
      have h00 := hcell 0 (by omega)
      have hs : spot = none := by simpa [Addr.add] using World.cell?_spot h00
      subst hs
      refine ⟨b, off, rfl, ?_, fun i hi j v hv => ?_⟩
      · have := World.block_lt_of_cell? w _ h00
        simpa [Addr.add] using this
      · match j, hv with
        | 0, hv =>
          simp at hv; subst hv
          have := hcell i (by omega)
          simp only [Addr.add] at this
          by_cases hi0 : i = 0
          · subst hi0; simpa [Addr.add] using this
          · simpa [Addr.add, hi0] using this
    · by_cases hi : i < zs.length
      · have : zs.getD i 0 ∈ zs := by simp [List.getD, hi]
        exact hwz _ this
      · have : zs.getD i 0 = 0 := by simp [List.getD, hi]
        show (Lit.int k (zs.getD i 0)).wf = true
        rw [this]; exact wf_zero k

/-- What is known of a slice of structs of one-cell fields. -/
def SlF (enc : TypeId × Value → H) (P : Program) (w : World) (base : Nat) (spare : Nat → Bool) (held : Bool) (a : Option Addr) (len : Nat) (fs : Array Field) : Prop :=
  len ≤ maxLen ∧ (0 < len → ∃ b off, a = some ⟨b, off, none⟩ ∧ b < w.heap.size ∧
    ∀ i, i < len → ∀ (j : Nat) (f : Field), fs[j]? = some f → ∃ (v : Value) (y : DataW H × List MemPlace) (n : Nat), w.cell? ⟨b, off + (i * fs.size + j), none⟩ = some v ∧ DataW.trod enc P w base spare held n f.type [v] = some y)

theorem add_none (b off k : Nat) : (Addr.mk b off none).add k = ⟨b, off + k, none⟩ := by
  unfold Addr.add; by_cases h : k = 0 <;> simp [h]

theorem open_slF {t e : TypeId} {fs : Array Field} {fuel : Nat} {a : Option Addr} {len cap : Nat} {x : DataW H × List MemPlace} (ht : P.underlying t = some (.slice e)) (he : P.underlying e = some (.struct fs))
    (hone : Go.Deep.oneCellFields P fs = true) (hC : P.cellsOf e = fs.size) (hpos : 0 < fs.size) (h : DataW.trod enc P w base spare held fuel t (Value.slice a len cap).cells.toList = some x) :
    SlF enc P w base spare held a len fs := by
  rcases Go.Deep.open_slice ht h with ⟨hcs, _⟩ | ⟨y, l, c, m, n, D, Pl, hcs, _, hl, hm, hmm, _, hi⟩
  · simp [Value.cells] at hcs
    obtain ⟨rfl, rfl, rfl⟩ := hcs
    exact ⟨Nat.zero_le _, fun h => absurd h (by omega)⟩
  · simp [Value.cells] at hcs
    obtain ⟨rfl, rfl, rfl⟩ := hcs
    have hlm : len ≤ m := by rw [hmm]; split <;> omega
    refine ⟨by omega, fun h0 => ?_⟩
    have key : ∀ i, i < len → ∀ (j : Nat) (f : Field), fs[j]? = some f → ∃ (v : Value) (z : DataW H × List MemPlace) (n : Nat), w.cell? (y.add (i * fs.size + j)) = some v ∧ DataW.trod enc P w base spare held n f.type [v] = some z := by
      intro i hil j f hj
      obtain ⟨cs', hc, ht'⟩ := hi i (by omega)
      rw [hC] at hc
      obtain ⟨ys, n', _, _, _, hyl, hf⟩ := DataW.trod_struct he ht'
      obtain ⟨_, hcl, hat⟩ := World.cells?_some hc
      obtain ⟨ho, hk⟩ := Go.Deep.hone_of hone j f hj
      have hjl : j < fs.size := (Array.getElem?_eq_some_iff.1 hj).1
      have h1 := hf j f hj
      rw [ho, hk] at h1
      have hd : (cs'.drop j).take 1 = [cs'[j]'(by omega)] := by
        rw [List.drop_eq_getElem_cons (by omega)]; rfl
      rw [hd, List.getElem?_eq_getElem (by omega)] at h1
      refine ⟨cs'[j]'(by omega), _, _, ?_, h1⟩
      have := hat j hjl
      rw [Go.Deep.add_add, List.getElem?_eq_getElem (by omega)] at this
      exact this
    obtain ⟨b, off, spot⟩ := y
    have hf0 : fs[0]? = some fs[0] := Array.getElem?_eq_getElem hpos
    obtain ⟨v, _, _, h00, _⟩ := key 0 h0 0 _ hf0
    have hs : spot = none := by simpa [Addr.add] using World.cell?_spot h00
    subst hs
    refine ⟨b, off, rfl, ?_, fun i hil j f hj => ?_⟩
    · have := World.block_lt_of_cell? w _ h00
      simpa [Addr.add] using this
    · obtain ⟨v, z, n, hc, hz⟩ := key i hil j f hj
      rw [add_none] at hc
      exact ⟨v, z, n, hc, hz⟩

theorem pick_int {a : Option Addr} {len : Nat} {fs : Array Field} (h : SlF enc P w base spare held a len fs) (j : Nat) {f : Field} {k : IntKind} (hj : fs[j]? = some f) (hu : P.underlying f.type = some (.int k)) :
    ∃ z : Nat → Int, (∀ b off, a = some ⟨b, off, none⟩ → ∀ i, i < len → w.cell? ⟨b, off + (i * fs.size + j), none⟩ = some (.int k (z i))) ∧ ∀ i, (Lit.int k (z i)).wf = true := by
  by_cases h0 : 0 < len
  · obtain ⟨b, off, rfl, _, hc⟩ := h.2 h0
    obtain ⟨z, hz⟩ := Go.Deep.choose_lt (α := Int) (n := len) (p := fun i z => w.cell? ⟨b, off + (i * fs.size + j), none⟩ = some (.int k z) ∧ (Lit.int k z).wf = true) (fun i hi => by
      obtain ⟨v, y, n, hv, ht⟩ := hc i hi j f hj
      obtain ⟨z, hz, _, hw⟩ := DataW.trod_int hu ht
      simp at hz; subst hz
      exact ⟨z, hv, hw⟩)
    refine ⟨fun i => if i < len then z i else 0, fun b' off' e i hi => ?_, fun i => ?_⟩
    · injection e with e; injection e with e1 e2 _; subst e1; subst e2
      simp only [if_pos hi]; exact (hz i hi).1
    · by_cases hi : i < len
      · simp only [if_pos hi]; exact (hz i hi).2
      · simp only [if_neg hi]; exact wf_zero k
  · exact ⟨fun _ => 0, fun _ _ _ i hi => absurd hi (by omega), fun _ => wf_zero k⟩

theorem pick_bool {a : Option Addr} {len : Nat} {fs : Array Field} (h : SlF enc P w base spare held a len fs) (j : Nat) {f : Field} (hj : fs[j]? = some f) (hu : P.underlying f.type = some .bool) :
    ∃ z : Nat → Bool, ∀ b off, a = some ⟨b, off, none⟩ → ∀ i, i < len → w.cell? ⟨b, off + (i * fs.size + j), none⟩ = some (.bool (z i)) := by
  by_cases h0 : 0 < len
  · obtain ⟨b, off, rfl, _, hc⟩ := h.2 h0
    obtain ⟨z, hz⟩ := Go.Deep.choose_lt (α := Bool) (n := len) (p := fun i z => w.cell? ⟨b, off + (i * fs.size + j), none⟩ = some (.bool z)) (fun i hi => by
      obtain ⟨v, y, n, hv, ht⟩ := hc i hi j f hj
      obtain ⟨z, hz, _⟩ := DataW.trod_bool hu ht
      simp at hz; subst hz
      exact ⟨z, hv⟩)
    exact ⟨z, fun b' off' e i hi => by injection e with e; injection e with e1 e2 _; subst e1; subst e2; exact hz i hi⟩
  · exact ⟨fun _ => false, fun _ _ _ i hi => absurd hi (by omega)⟩

theorem sl_ii {a : Option Addr} {len : Nat} {f0 f1 : Field} {k0 k1 : IntKind} (h : SlF enc P w base spare held a len #[f0, f1]) (u0 : P.underlying f0.type = some (.int k0)) (u1 : P.underlying f1.type = some (.int k1)) :
    ∃ (x0 x1 : Nat → Int), IsSl w a len 2 (fun i => [.int k0 (x0 i), .int k1 (x1 i)]) ∧ len ≤ maxLen ∧ (∀ i, (Lit.int k0 (x0 i)).wf = true) ∧ (∀ i, (Lit.int k1 (x1 i)).wf = true) := by
  obtain ⟨x0, h0, w0⟩ := pick_int h 0 (f := f0) rfl u0
  obtain ⟨x1, h1, w1⟩ := pick_int h 1 (f := f1) rfl u1
  refine ⟨x0, x1, fun hl => ?_, h.1, w0, w1⟩
  obtain ⟨b, off, e, hb, _⟩ := h.2 hl
  refine ⟨b, off, e, hb, fun i hi j v hv => ?_⟩
  match j, hv with
  | 0, hv => simp at hv; subst hv; exact h0 b off e i hi
  | 1, hv => simp at hv; subst hv; exact h1 b off e i hi

theorem sl_bi {a : Option Addr} {len : Nat} {f0 f1 : Field} {k1 : IntKind} (h : SlF enc P w base spare held a len #[f0, f1]) (u0 : P.underlying f0.type = some .bool) (u1 : P.underlying f1.type = some (.int k1)) :
    ∃ (x0 : Nat → Bool) (x1 : Nat → Int), IsSl w a len 2 (fun i => [.bool (x0 i), .int k1 (x1 i)]) ∧ len ≤ maxLen ∧ (∀ i, (Lit.int k1 (x1 i)).wf = true) := by
  obtain ⟨x0, h0⟩ := pick_bool h 0 (f := f0) rfl u0
  obtain ⟨x1, h1, w1⟩ := pick_int h 1 (f := f1) rfl u1
  refine ⟨x0, x1, fun hl => ?_, h.1, w1⟩
  obtain ⟨b, off, e, hb, _⟩ := h.2 hl
  refine ⟨b, off, e, hb, fun i hi j v hv => ?_⟩
  match j, hv with
  | 0, hv => simp at hv; subst hv; exact h0 b off e i hi
  | 1, hv => simp at hv; subst hv; exact h1 b off e i hi

theorem sl_iii {a : Option Addr} {len : Nat} {f0 f1 f2 : Field} {k0 k1 k2 : IntKind} (h : SlF enc P w base spare held a len #[f0, f1, f2]) (u0 : P.underlying f0.type = some (.int k0)) (u1 : P.underlying f1.type = some (.int k1)) (u2 : P.underlying f2.type = some (.int k2)) :
    ∃ (x0 x1 x2 : Nat → Int), IsSl w a len 3 (fun i => [.int k0 (x0 i), .int k1 (x1 i), .int k2 (x2 i)]) ∧ len ≤ maxLen ∧ (∀ i, (Lit.int k0 (x0 i)).wf = true) ∧ (∀ i, (Lit.int k1 (x1 i)).wf = true) ∧ (∀ i, (Lit.int k2 (x2 i)).wf = true) := by
  obtain ⟨x0, h0, w0⟩ := pick_int h 0 (f := f0) rfl u0
  obtain ⟨x1, h1, w1⟩ := pick_int h 1 (f := f1) rfl u1
  obtain ⟨x2, h2, w2⟩ := pick_int h 2 (f := f2) rfl u2
  refine ⟨x0, x1, x2, fun hl => ?_, h.1, w0, w1, w2⟩
  obtain ⟨b, off, e, hb, _⟩ := h.2 hl
  refine ⟨b, off, e, hb, fun i hi j v hv => ?_⟩
  match j, hv with
  | 0, hv => simp at hv; subst hv; exact h0 b off e i hi
  | 1, hv => simp at hv; subst hv; exact h1 b off e i hi
  | 2, hv => simp at hv; subst hv; exact h2 b off e i hi

theorem sl_iib {a : Option Addr} {len : Nat} {f0 f1 f2 : Field} {k0 k1 : IntKind} (h : SlF enc P w base spare held a len #[f0, f1, f2]) (u0 : P.underlying f0.type = some (.int k0)) (u1 : P.underlying f1.type = some (.int k1)) (u2 : P.underlying f2.type = some .bool) :
    ∃ (x0 x1 : Nat → Int) (x2 : Nat → Bool), IsSl w a len 3 (fun i => [.int k0 (x0 i), .int k1 (x1 i), .bool (x2 i)]) ∧ len ≤ maxLen ∧ (∀ i, (Lit.int k0 (x0 i)).wf = true) ∧ (∀ i, (Lit.int k1 (x1 i)).wf = true) := by
  obtain ⟨x0, h0, w0⟩ := pick_int h 0 (f := f0) rfl u0
  obtain ⟨x1, h1, w1⟩ := pick_int h 1 (f := f1) rfl u1
  obtain ⟨x2, h2⟩ := pick_bool h 2 (f := f2) rfl u2
  refine ⟨x0, x1, x2, fun hl => ?_, h.1, w0, w1⟩
  obtain ⟨b, off, e, hb, _⟩ := h.2 hl
  refine ⟨b, off, e, hb, fun i hi j v hv => ?_⟩
  match j, hv with
  | 0, hv => simp at hv; subst hv; exact h0 b off e i hi
  | 1, hv => simp at hv; subst hv; exact h1 b off e i hi
  | 2, hv => simp at hv; subst hv; exact h2 b off e i hi

theorem okWide_arr {P : Program} {w : World} {r : Reach} {base : Nat} {t e : TypeId} {n : Nat} {v : Value} (ht : P.underlying t = some (.array n e)) (h : Value.okWide P w r base t v) : ∃ cs, v = .agg cs ∧ cs.size = P.cellsOf t := by
  simp only [Value.okWide, ht] at h
  obtain ⟨cs, h1, h2, _⟩ := h
  exact ⟨cs, h1, h2⟩

/-- An array of two integers, by value. -/
theorem open_arr2 {r : Reach} {b0 : Nat} {t e : TypeId} {k : IntKind} {v : Value} {d : DataW H} {ps : List MemPlace} (ht : P.underlying t = some (.array 2 e)) (he : P.underlying e = some (.int k)) (hc : P.cellsOf e = 1) (hC : P.cellsOf t = 2)
    (hval : Value.okWide P w r b0 t v) (hd : DataW.Trod enc P w base spare held t v d ps) :
    ∃ x y : Int, v = .agg #[.int k x, .int k y] ∧ (Lit.int k x).wf = true ∧ (Lit.int k y).wf = true := by
  obtain ⟨cs, rfl, hsz⟩ := okWide_arr ht hval
  obtain ⟨l⟩ := cs
  match l, hsz.trans hC with
  | [c0, c1], _ =>
    obtain ⟨fuel, hf⟩ := hd
    obtain ⟨xs, m, _, _, _, hlen, hat⟩ := DataW.trod_array ht hf
    match xs, hlen with
    | [y0, y1], _ =>
      have h0 := hat 0 (by omega)
      have h1 := hat 1 (by omega)
      simp [Value.cells, hc] at h0 h1
      obtain ⟨x, e0, _, w0⟩ := DataW.trod_int he h0
      obtain ⟨y, e1, _, w1⟩ := DataW.trod_int he h1
      simp at e0 e1
      subst e0; subst e1
      exact ⟨x, y, rfl, w0, w1⟩
end
end Go.Proofs.Ytndchjaejcpkdaa
