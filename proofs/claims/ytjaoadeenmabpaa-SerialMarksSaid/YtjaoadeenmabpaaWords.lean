/- Words for the walks of this seat: a slice that came in, element by element, and the ways from the readings of the arguments to them. No statement of the seat is proved here. -/
import Derived.WalkKit
import Derived.ProofKit
import Derived.OpenShut
import Derived.Below
import Derived.ChangeOld
import Derived.Deep.Slices
import Derived.Deep.Fields
import Derived.Deep.Draws
import Derived.Lib.SmallJoins
import Derived.Deep.QuietTactic
import Derived.BigQuiet
namespace Go.Proofs.Ytjaoadeenmabpaa
open Go.ChangeShapes Go.WideShapes Go.RowKit

theorem hid {p : Prop} (h : p) : Hid p := h

/-- What stands behind a call that leaves alone what was there: each old cell, each old mark, and how many blocks there are at least. -/
theorem after {W w1 : World} (h : Below W.heap.size W w1) :
    (∀ b o, b < W.heap.size → w1.cell? ⟨b, o, none⟩ = W.cell? ⟨b, o, none⟩) ∧ (∀ b o, b < W.heap.size → w1.frozen? ⟨b, o, none⟩ = W.frozen? ⟨b, o, none⟩) ∧ W.heap.size ≤ w1.heap.size :=
  ⟨fun b o hb => h.cell (p := ⟨b, o, none⟩) hb, fun b o hb => h.frozen (p := ⟨b, o, none⟩) hb, h.size⟩

theorem bel_tr {w a b : World} (h : Below w.heap.size w a) (k : Below a.heap.size a b) : Below w.heap.size w b := h.trans (k.mono h.size)
theorem bel_drewN {B : Nat} {w w' : World} (h : Below B w w') (n : Nat) : Below B w (w'.drewN n) :=
  h.trans ⟨rfl, rfl, rfl, Nat.le_refl _, fun _ _ => rfl⟩

/-- A slice that came in: where it has an element, it begins at an address below the heap's size, and element i lies in 'size' cells that hold 'F i'. -/
def IsSl (w : World) (A : Option Addr) (len size : Nat) (F : Nat → List Value) : Prop :=
  0 < len → ∃ b off, A = some ⟨b, off, none⟩ ∧ b < w.heap.size ∧ ∀ i, i < len → ∀ j v, (F i)[j]? = some v → w.cell? ⟨b, off + (i * size + j), none⟩ = some v

theorem IsSl.below {w w' : World} {A : Option Addr} {len size : Nat} {F : Nat → List Value} (h : IsSl w A len size F) (hb : Below w.heap.size w w') : IsSl w' A len size F := fun hl => by
  obtain ⟨b, off, e, hlt, hc⟩ := h hl
  exact ⟨b, off, e, Nat.lt_of_lt_of_le hlt hb.size, fun i hi j v hv => (hb.cell (p := ⟨b, off + (i * size + j), none⟩) hlt).trans (hc i hi j v hv)⟩

section
variable {H : Type} {enc : TypeId × Value → H} {P : Program} {w : World} {base : Nat} {spare : Nat → Bool} {held : Bool}

theorem wf_zero (k : IntKind) : (Lit.int k 0).wf = true := by cases k <;> decide

theorem open_sl1_int {t e : TypeId} {k : IntKind} {fuel : Nat} {a : Option Addr} {len cap : Nat} {x : DataW H × List MemPlace} (ht : P.underlying t = some (.slice e)) (he : P.underlying e = some (.int k)) (hc : P.cellsOf e = 1)
    (h : DataW.trod enc P w base spare held fuel t (Value.slice a len cap).cells.toList = some x) :
    ∃ z : Nat → Int, IsSl w a len 1 (fun i => [.int k (z i)]) ∧ len ≤ maxLen ∧ ∀ i, (Lit.int k (z i)).wf = true := by
  rcases open_ints ht he hc h with ⟨hcs, _⟩ | ⟨y, l, c, zs, hcs, _, hl, hm, hz, _, hcell, hwz⟩
  · simp [Value.cells] at hcs
    obtain ⟨rfl, rfl, rfl⟩ := hcs
    exact ⟨fun _ => 0, fun h => absurd h (by omega), Nat.zero_le _, fun _ => wf_zero k⟩
  · simp [Value.cells] at hcs
    obtain ⟨rfl, rfl, rfl⟩ := hcs
    refine ⟨fun i => zs.getD i 0, fun h0 => ?_, by omega, fun i => ?_⟩
    · have hzl : len ≤ zs.length := by rw [hz]; split <;> omega
      obtain ⟨b, off, spot⟩ := y
      have h00 := hcell 0 (by omega)
      have hs : spot = none := by simpa [Addr.add] using World.cell?_spot h00
      subst hs
      refine ⟨b, off, rfl, ?_, fun i hi j v hv => ?_⟩
      · have := World.block_lt_of_cell? w _ h00
        simpa [Addr.add] using this
      · match j, hv with
        | 0, hv =>
          simp at hv; subst hv
          have := hcell i (by omega)
          simp only [Addr.add] at this
          by_cases hi0 : i = 0
          · subst hi0; simpa [Addr.add] using this
          · simpa [Addr.add, hi0] using this
    · by_cases hi : i < zs.length
      · have : zs.getD i 0 ∈ zs := by simp [List.getD, hi]
        exact hwz _ this
      · have : zs.getD i 0 = 0 := by simp [List.getD, hi]
        show (Lit.int k (zs.getD i 0)).wf = true
        rw [this]; exact wf_zero k

/-- What is known of a slice of structs of one-cell fields. -/
def SlF (enc : TypeId × Value → H) (P : Program) (w : World) (base : Nat) (spare : Nat → Bool) (held : Bool) (a : Option Addr) (len : Nat) (fs : Array Field) : Prop :=
  len ≤ maxLen ∧ (0 < len → ∃ b off, a = some ⟨b, off, none⟩ ∧ b < w.heap.size ∧
    ∀ i, i < len → ∀ (j : Nat) (f : Field), fs[j]? = some f → ∃ (v : Value) (y : DataW H × List MemPlace) (n : Nat), w.cell? ⟨b, off + (i * fs.size + j), none⟩ = some v ∧ DataW.trod enc P w base spare held n f.type [v] = some y)

theorem add_none (b off k : Nat) : (Addr.mk b off none).add k = ⟨b, off + k, none⟩ := by
  unfold Addr.add; by_cases h : k = 0 <;> simp [h]

theorem open_slF {t e : TypeId} {fs : Array Field} {fuel : Nat} {a : Option Addr} {len cap : Nat} {x : DataW H × List MemPlace} (ht : P.underlying t = some (.slice e)) (he : P.underlying e = some (.struct fs))
    (hone : Go.Deep.oneCellFields P fs = true) (hC : P.cellsOf e = fs.size) (hpos : 0 < fs.size) (h : DataW.trod enc P w base spare held fuel t (Value.slice a len cap).cells.toList = some x) :
    SlF enc P w base spare held a len fs := by
  rcases Go.Deep.open_slice ht h with ⟨hcs, _⟩ | ⟨y, l, c, m, n, D, Pl, hcs, _, hl, hm, hmm, _, hi⟩
  · simp [Value.cells] at hcs
    obtain ⟨rfl, rfl, rfl⟩ := hcs
    exact ⟨Nat.zero_le _, fun h => absurd h (by omega)⟩
  · simp [Value.cells] at hcs
    obtain ⟨rfl, rfl, rfl⟩ := hcs
    have hlm : len ≤ m := by rw [hmm]; split <;> omega
    refine ⟨by omega, fun h0 => ?_⟩
    have key : ∀ i, i < len → ∀ (j : Nat) (f : Field), fs[j]? = some f → ∃ (v : Value) (z : DataW H × List MemPlace) (n : Nat), w.cell? (y.add (i * fs.size + j)) = some v ∧ DataW.trod enc P w base spare held n f.type [v] = some z := by
      intro i hil j f hj
      obtain ⟨cs', hc, ht'⟩ := hi i (by omega)
      rw [hC] at hc
      obtain ⟨ys, n', _, _, _, hyl, hf⟩ := DataW.trod_struct he ht'
      obtain ⟨_, hcl, hat⟩ := World.cells?_some hc
      obtain ⟨ho, hk⟩ := Go.Deep.hone_of hone j f hj
      have hjl : j < fs.size := (Array.getElem?_eq_some_iff.1 hj).1
      have h1 := hf j f hj
      rw [ho, hk] at h1
      have hd : (cs'.drop j).take 1 = [cs'[j]'(by omega)] := by
        rw [List.drop_eq_getElem_cons (by omega)]; rfl
      rw [hd, List.getElem?_eq_getElem (by omega)] at h1
      refine ⟨cs'[j]'(by omega), _, _, ?_, h1⟩
      have := hat j hjl
      rw [Go.Deep.add_add, List.getElem?_eq_getElem (by omega)] at this
      exact this
    obtain ⟨b, off, spot⟩ := y
    have hf0 : fs[0]? = some fs[0] := Array.getElem?_eq_getElem hpos
    obtain ⟨v, _, _, h00, _⟩ := key 0 h0 0 _ hf0
    have hs : spot = none := by simpa [Addr.add] using World.cell?_spot h00
    subst hs
    refine ⟨b, off, rfl, ?_, fun i hil j f hj => ?_⟩
    · have := World.block_lt_of_cell? w _ h00
      simpa [Addr.add] using this
    · obtain ⟨v, z, n, hc, hz⟩ := key i hil j f hj
      rw [add_none] at hc
      exact ⟨v, z, n, hc, hz⟩

theorem pick_int {a : Option Addr} {len : Nat} {fs : Array Field} (h : SlF enc P w base spare held a len fs) (j : Nat) {f : Field} {k : IntKind} (hj : fs[j]? = some f) (hu : P.underlying f.type = some (.int k)) :
    ∃ z : Nat → Int, (∀ b off, a = some ⟨b, off, none⟩ → ∀ i, i < len → w.cell? ⟨b, off + (i * fs.size + j), none⟩ = some (.int k (z i))) ∧ ∀ i, (Lit.int k (z i)).wf = true := by
  by_cases h0 : 0 < len
  · obtain ⟨b, off, rfl, _, hc⟩ := h.2 h0
    obtain ⟨z, hz⟩ := Go.Deep.choose_lt (α := Int) (n := len) (p := fun i z => w.cell? ⟨b, off + (i * fs.size + j), none⟩ = some (.int k z) ∧ (Lit.int k z).wf = true) (fun i hi => by
      obtain ⟨v, y, n, hv, ht⟩ := hc i hi j f hj
      obtain ⟨z, hz, _, hw⟩ := DataW.trod_int hu ht
      simp at hz; subst hz
      exact ⟨z, hv, hw⟩)
    refine ⟨fun i => if i < len then z i else 0, fun b' off' e i hi => ?_, fun i => ?_⟩
    · injection e with e; injection e with e1 e2 _; subst e1; subst e2
      simp only [if_pos hi]; exact (hz i hi).1
    · by_cases hi : i < len
      · simp only [if_pos hi]; exact (hz i hi).2
      · simp only [if_neg hi]; exact wf_zero k
  · exact ⟨fun _ => 0, fun _ _ _ i hi => absurd hi (by omega), fun _ => wf_zero k⟩

theorem pick_bool {a : Option Addr} {len : Nat} {fs : Array Field} (h : SlF enc P w base spare held a len fs) (j : Nat) {f : Field} (hj : fs[j]? = some f) (hu : P.underlying f.type = some .bool) :
    ∃ z : Nat → Bool, ∀ b off, a = some ⟨b, off, none⟩ → ∀ i, i < len → w.cell? ⟨b, off + (i * fs.size + j), none⟩ = some (.bool (z i)) := by
  by_cases h0 : 0 < len
  · obtain ⟨b, off, rfl, _, hc⟩ := h.2 h0
    obtain ⟨z, hz⟩ := Go.Deep.choose_lt (α := Bool) (n := len) (p := fun i z => w.cell? ⟨b, off + (i * fs.size + j), none⟩ = some (.bool z)) (fun i hi => by
      obtain ⟨v, y, n, hv, ht⟩ := hc i hi j f hj
      obtain ⟨z, hz, _⟩ := DataW.trod_bool hu ht
      simp at hz; subst hz
      exact ⟨z, hv⟩)
    exact ⟨z, fun b' off' e i hi => by injection e with e; injection e with e1 e2 _; subst e1; subst e2; exact hz i hi⟩
  · exact ⟨fun _ => false, fun _ _ _ i hi => absurd hi (by omega)⟩

theorem sl_ii {a : Option Addr} {len : Nat} {f0 f1 : Field} {k0 k1 : IntKind} (h : SlF enc P w base spare held a len #[f0, f1]) (u0 : P.underlying f0.type = some (.int k0)) (u1 : P.underlying f1.type = some (.int k1)) :
    ∃ (x0 x1 : Nat → Int), IsSl w a len 2 (fun i => [.int k0 (x0 i), .int k1 (x1 i)]) ∧ len ≤ maxLen ∧ (∀ i, (Lit.int k0 (x0 i)).wf = true) ∧ (∀ i, (Lit.int k1 (x1 i)).wf = true) := by
  obtain ⟨x0, h0, w0⟩ := pick_int h 0 (f := f0) rfl u0
  obtain ⟨x1, h1, w1⟩ := pick_int h 1 (f := f1) rfl u1
  refine ⟨x0, x1, fun hl => ?_, h.1, w0, w1⟩
  obtain ⟨b, off, e, hb, _⟩ := h.2 hl
  refine ⟨b, off, e, hb, fun i hi j v hv => ?_⟩
  match j, hv with
  | 0, hv => simp at hv; subst hv; exact h0 b off e i hi
  | 1, hv => simp at hv; subst hv; exact h1 b off e i hi

theorem sl_bi {a : Option Addr} {len : Nat} {f0 f1 : Field} {k1 : IntKind} (h : SlF enc P w base spare held a len #[f0, f1]) (u0 : P.underlying f0.type = some .bool) (u1 : P.underlying f1.type = some (.int k1)) :
    ∃ (x0 : Nat → Bool) (x1 : Nat → Int), IsSl w a len 2 (fun i => [.bool (x0 i), .int k1 (x1 i)]) ∧ len ≤ maxLen ∧ (∀ i, (Lit.int k1 (x1 i)).wf = true) := by
  obtain ⟨x0, h0⟩ := pick_bool h 0 (f := f0) rfl u0
  obtain ⟨x1, h1, w1⟩ := pick_int h 1 (f := f1) rfl u1
  refine ⟨x0, x1, fun hl => ?_, h.1, w1⟩
  obtain ⟨b, off, e, hb, _⟩ := h.2 hl
  refine ⟨b, off, e, hb, fun i hi j v hv => ?_⟩
  match j, hv with
  | 0, hv => simp at hv; subst hv; exact h0 b off e i hi
  | 1, hv => simp at hv; subst hv; exact h1 b off e i hi

theorem sl_iii {a : Option Addr} {len : Nat} {f0 f1 f2 : Field} {k0 k1 k2 : IntKind} (h : SlF enc P w base spare held a len #[f0, f1, f2]) (u0 : P.underlying f0.type = some (.int k0)) (u1 : P.underlying f1.type = some (.int k1)) (u2 : P.underlying f2.type = some (.int k2)) :
    ∃ (x0 x1 x2 : Nat → Int), IsSl w a len 3 (fun i => [.int k0 (x0 i), .int k1 (x1 i), .int k2 (x2 i)]) ∧ len ≤ maxLen ∧ (∀ i, (Lit.int k0 (x0 i)).wf = true) ∧ (∀ i, (Lit.int k1 (x1 i)).wf = true) ∧ (∀ i, (Lit.int k2 (x2 i)).wf = true) := by
  obtain ⟨x0, h0, w0⟩ := pick_int h 0 (f := f0) rfl u0
  obtain ⟨x1, h1, w1⟩ := pick_int h 1 (f := f1) rfl u1
  obtain ⟨x2, h2, w2⟩ := pick_int h 2 (f := f2) rfl u2
  refine ⟨x0, x1, x2, fun hl => ?_, h.1, w0, w1, w2⟩
  obtain ⟨b, off, e, hb, _⟩ := h.2 hl
  refine ⟨b, off, e, hb, fun i hi j v hv => ?_⟩
  match j, hv with
  | 0, hv => simp at hv; subst hv; exact h0 b off e i hi
  | 1, hv => simp at hv; subst hv; exact h1 b off e i hi
  | 2, hv => simp at hv; subst hv; exact h2 b off e i hi

theorem sl_iib {a : Option Addr} {len : Nat} {f0 f1 f2 : Field} {k0 k1 : IntKind} (h : SlF enc P w base spare held a len #[f0, f1, f2]) (u0 : P.underlying f0.type = some (.int k0)) (u1 : P.underlying f1.type = some (.int k1)) (u2 : P.underlying f2.type = some .bool) :
    ∃ (x0 x1 : Nat → Int) (x2 : Nat → Bool), IsSl w a len 3 (fun i => [.int k0 (x0 i), .int k1 (x1 i), .bool (x2 i)]) ∧ len ≤ maxLen ∧ (∀ i, (Lit.int k0 (x0 i)).wf = true) ∧ (∀ i, (Lit.int k1 (x1 i)).wf = true) := by
  obtain ⟨x0, h0, w0⟩ := pick_int h 0 (f := f0) rfl u0
  obtain ⟨x1, h1, w1⟩ := pick_int h 1 (f := f1) rfl u1
  obtain ⟨x2, h2⟩ := pick_bool h 2 (f := f2) rfl u2
  refine ⟨x0, x1, x2, fun hl => ?_, h.1, w0, w1⟩
  obtain ⟨b, off, e, hb, _⟩ := h.2 hl
  refine ⟨b, off, e, hb, fun i hi j v hv => ?_⟩
  match j, hv with
  | 0, hv => simp at hv; subst hv; exact h0 b off e i hi
  | 1, hv => simp at hv; subst hv; exact h1 b off e i hi
  | 2, hv => simp at hv; subst hv; exact h2 b off e i hi

theorem okWide_arr {P : Program} {w : World} {r : Reach} {base : Nat} {t e : TypeId} {n : Nat} {v : Value} (ht : P.underlying t = some (.array n e)) (h : Value.okWide P w r base t v) : ∃ cs, v = .agg cs ∧ cs.size = P.cellsOf t := by
  simp only [Value.okWide, ht] at h
  obtain ⟨cs, h1, h2, _⟩ := h
  exact ⟨cs, h1, h2⟩

/-- An array of two integers, by value. -/
theorem open_arr2 {r : Reach} {b0 : Nat} {t e : TypeId} {k : IntKind} {v : Value} {d : DataW H} {ps : List MemPlace} (ht : P.underlying t = some (.array 2 e)) (he : P.underlying e = some (.int k)) (hc : P.cellsOf e = 1) (hC : P.cellsOf t = 2)
    (hval : Value.okWide P w r b0 t v) (hd : DataW.Trod enc P w base spare held t v d ps) :
    ∃ x y : Int, v = .agg #[.int k x, .int k y] ∧ (Lit.int k x).wf = true ∧ (Lit.int k y).wf = true := by
  obtain ⟨cs, rfl, hsz⟩ := okWide_arr ht hval
  obtain ⟨l⟩ := cs
  match l, hsz.trans hC with
  | [c0, c1], _ =>
    obtain ⟨fuel, hf⟩ := hd
    obtain ⟨xs, m, _, _, _, hlen, hat⟩ := DataW.trod_array ht hf
    match xs, hlen with
    | [y0, y1], _ =>
      have h0 := hat 0 (by omega)
      have h1 := hat 1 (by omega)
      simp [Value.cells, hc] at h0 h1
      obtain ⟨x, e0, _, w0⟩ := DataW.trod_int he h0
      obtain ⟨y, e1, _, w1⟩ := DataW.trod_int he h1
      simp at e0 e1
      subst e0; subst e1
      exact ⟨x, y, rfl, w0, w1⟩
end

/-- Block g is just the cells cs, of element type t, none of them frozen. -/
def Bk (w : World) (g : Nat) (t : TypeId) (cs : List Value) : Prop := w.heap[g]? = some (.cells cs.toArray t (0, 0))
section
variable {w w' : World} {g : Nat} {t : TypeId} {cs : List Value}
theorem Bk.lt (h : Bk w g t cs) : g < w.heap.size := by
  unfold Bk at h
  rcases Nat.lt_or_ge g w.heap.size with hl | hl
  · exact hl
  · rw [Array.getElem?_eq_none hl] at h; cases h
theorem Bk.cell (h : Bk w g t cs) {i : Nat} {v : Value} (hi : cs[i]? = some v) : w.cell? ⟨g, i, none⟩ = some v := by
  have := cell_of_row w g i cs.toArray t (0, 0) h
  rw [this]; simpa using hi
theorem Bk.free (h : Bk w g t cs) (i : Nat) : w.frozen? ⟨g, i, none⟩ = false := by
  unfold Bk at h
  simp [World.frozen?, h]
theorem Bk.new (w : World) (t : TypeId) (cs : List Value) : Bk (w.alloc (.cells cs.toArray t)) w.heap.size t cs := by
  unfold Bk; exact heap_alloc_new w _
theorem Bk.drew (h : Bk w g t cs) : Bk w.drew g t cs := h
theorem Bk.drewN (h : Bk w g t cs) (n : Nat) : Bk (w.drewN n) g t cs := h
theorem Bk.alloc (h : Bk w g t cs) (o : Obj) : Bk (w.alloc o) g t cs := (Below.heap_alloc w o g h.lt).trans h
theorem Bk.set_ (h : Bk w g t cs) (i : Nat) (u : Value) : Bk (w.setCell ⟨g, i, none⟩ u) g t (cs.set i u) := by
  unfold Bk at h ⊢
  simp [World.setCell, Array.getElem?_modify, h]
theorem Bk.far (h : Bk w g t cs) {p : Addr} (hp : g ≠ p.block) (u : Value) : Bk (w.setCell p u) g t cs := (Below.heap_setCell w p u g hp).trans h
theorem Bk.below {B : Nat} (h : Bk w g t cs) (hb : Below B w w') (hg : g < B) : Bk w' g t cs := (hb.block g hg).trans h
theorem Bk.call (h : Bk w g t cs) (hb : Below w.heap.size w w') : Bk w' g t cs := h.below hb h.lt
/-- A store into the first, second, third, fourth cell of a known block. -/
theorem Bk.s0 {a x : Value} {r : List Value} (h : Bk w g t (x :: r)) : Bk (w.setCell ⟨g, 0, none⟩ a) g t (a :: r) := h.set_ 0 a
theorem Bk.s1 {a x y : Value} {r : List Value} (h : Bk w g t (x :: y :: r)) : Bk (w.setCell ⟨g, 1, none⟩ a) g t (x :: a :: r) := h.set_ 1 a
theorem Bk.s2 {a x y z : Value} {r : List Value} (h : Bk w g t (x :: y :: z :: r)) : Bk (w.setCell ⟨g, 2, none⟩ a) g t (x :: y :: a :: r) := h.set_ 2 a
theorem Bk.s3 {a x y z u : Value} {r : List Value} (h : Bk w g t (x :: y :: z :: u :: r)) : Bk (w.setCell ⟨g, 3, none⟩ a) g t (x :: y :: z :: a :: r) := h.set_ 3 a
end

/-- WHAT IS CARRIED ALONG over calls that make memory: some blocks, known whole; and that nothing below the heap's size at the beginning has turned. -/
def Kb (w : World) (l : List (Nat × TypeId × List Value)) (w' : World) : Prop := (∀ p ∈ l, Bk w' p.1 p.2.1 p.2.2) ∧ Below w.heap.size w w'
theorem Kb.call {w wx w1 : World} {l : List (Nat × TypeId × List Value)} (h : Kb w l wx) (h1 : Below wx.heap.size wx w1) : Kb w l w1 := ⟨fun p hp => (h.1 p hp).call h1, h.2.trans (h1.mono h.2.size)⟩
theorem Kb.drew {w wx : World} {l : List (Nat × TypeId × List Value)} (h : Kb w l wx) : Kb w l wx.drew := ⟨h.1, h.2.drew⟩
theorem Kb.drewN {w wx : World} {l : List (Nat × TypeId × List Value)} (h : Kb w l wx) (n : Nat) : Kb w l (wx.drewN n) := ⟨h.1, bel_drewN h.2 n⟩
/-- A world in which this holds. -/
structure KW (w : World) (l : List (Nat × TypeId × List Value)) where
  fst : World
  snd : Kb w l fst
theorem KW.bk {w : World} {l : List (Nat × TypeId × List Value)} (x : KW w l) {g : Nat} {t : TypeId} {cs : List Value} (h : (g, t, cs) ∈ l) : Bk x.1 g t cs := x.2.1 (g, t, cs) h
theorem KW.cell {w : World} {l : List (Nat × TypeId × List Value)} (g : Nat) (t : TypeId) (cs : List Value) (i : Nat) {v : Value} (h : (g, t, cs) ∈ l) (hi : cs[i]? = some v) (x : KW w l) : x.1.cell? ⟨g, i, none⟩ = some v := (x.bk h).cell hi
theorem KW.bel {w : World} {l : List (Nat × TypeId × List Value)} (x : KW w l) : Below w.heap.size w x.1 := x.2.2

/-- A REGION THAT DRAWS ITS ORDER, whose operations read what is carried along and whose callees make memory alone: one walk, in the order of the text. -/
theorem quiet_in {P : Program} {id : Nat} {Q : Exit → Act → World → Prop} {a : Act} {w wx : World} {ops : List Oper} (l : List (Nat × TypeId × List Value)) (hk : Kb w l wx) (hm : P.follows .mixedOrders = true) (hB : Region.lexB .any ops.toArray = true)
    (h : wpQuiet P ops.toArray (fun w' => ∃ x : KW w l, w' = x.1) (fun a' => ∀ w', (∃ x : KW w l, w' = x.1) → Q .normal a' w') ops a) : (Code.region id ops.toArray true).wp P Q a wx :=
  wp_region_quiet (C := fun w' => ∃ x : KW w l, w' = x.1) hm hB ⟨⟨wx.drew, hk.drew⟩, rfl⟩ (by simpa using h)
/-- A call that makes memory alone, in such a region. -/
theorem quiet_call {P : Program} {f : FuncId} {args : Array Value} {w : World} {l : List (Nat × TypeId × List Value)} {x : KW w l} {v : Value} (h : Calls P f args x.1 fun e w' => e = .returned v ∧ Below x.1.heap.size x.1 w') :
    Calls P f args x.1 fun e w'' => e = .returned v ∧ ∃ y : KW w l, w'' = y.1 := h.mono fun _ _ ⟨he, hb⟩ => ⟨he, ⟨_, x.2.call hb⟩, rfl⟩
/-- .. one that leaves the world as it was. -/
theorem quiet_same {P : Program} {f : FuncId} {args : Array Value} {w : World} {l : List (Nat × TypeId × List Value)} {x : KW w l} {v : Value} (h : Calls P f args x.1 fun e w' => e = .returned v ∧ x.1 = w') :
    Calls P f args x.1 fun e w'' => e = .returned v ∧ ∃ y : KW w l, w'' = y.1 := h.mono fun _ _ ⟨he, hb⟩ => ⟨he, x, hb.symm⟩
/-- .. one that draws alone. -/
theorem quiet_draws {P : Program} {f : FuncId} {args : Array Value} {w : World} {l : List (Nat × TypeId × List Value)} {x : KW w l} {v : Value} (h : Calls P f args x.1 fun e w' => e = .returned v ∧ ∃ k, w' = x.1.drewN k) :
    Calls P f args x.1 fun e w'' => e = .returned v ∧ ∃ y : KW w l, w'' = y.1 := h.mono fun _ _ ⟨he, k, hb⟩ => ⟨he, ⟨_, x.2.drewN k⟩, hb⟩
/-- .. one that lays one block. -/
theorem quiet_lays {P : Program} {f : FuncId} {args : Array Value} {w : World} {l : List (Nat × TypeId × List Value)} {x : KW w l} {v : Value} {o : Obj} (h : Calls P f args x.1 fun e w' => e = .returned v ∧ x.1.alloc o = w') :
    Calls P f args x.1 fun e w'' => e = .returned v ∧ ∃ y : KW w l, w'' = y.1 :=
  h.mono fun _ _ ⟨he, hb⟩ => ⟨he, ⟨_, x.2.call ((Below.refl _ _).alloc (Nat.le_refl _) o)⟩, hb.symm⟩

/-- WHAT A CALL DOES THAT WRITES ONE BLOCK ALONE (g), and makes others: every other block is as it was. -/
structure Step (g : Nat) (w w' : World) : Prop where
  os : w'.os = w.os
  tape : w'.tape = w.tape
  output : w'.output = w.output
  size : w.heap.size ≤ w'.heap.size
  block : ∀ k, k < w.heap.size → k ≠ g → w'.heap[k]? = w.heap[k]?
section
variable {g : Nat} {w w' w'' : World}
theorem Step.refl (g : Nat) (w : World) : Step g w w := ⟨rfl, rfl, rfl, Nat.le_refl _, fun _ _ _ => rfl⟩
theorem Step.trans (h : Step g w w') (k : Step g w' w'') : Step g w w'' :=
  ⟨k.os.trans h.os, k.tape.trans h.tape, k.output.trans h.output, Nat.le_trans h.size k.size, fun i hi hg => (k.block i (Nat.lt_of_lt_of_le hi h.size) hg).trans (h.block i hi hg)⟩
theorem Step.of_below (h : Below w.heap.size w w') : Step g w w' := ⟨h.os, h.tape, h.output, h.size, fun k hk _ => h.block k hk⟩
theorem Step.call (h : Step g w w') (k : Below w'.heap.size w' w'') : Step g w w'' := h.trans (.of_below k)
theorem Step.setCell (h : Step g w w') (i : Nat) (u : Value) : Step g w (w'.setCell ⟨g, i, none⟩ u) :=
  h.trans ⟨rfl, rfl, rfl, by simp [World.setCell], fun k _ hg => Below.heap_setCell _ _ _ _ hg⟩
theorem Step.setNew (h : Step g w w') {p : Addr} (hp : w.heap.size ≤ p.block) (u : Value) : Step g w (w'.setCell p u) :=
  ⟨h.os, h.tape, h.output, by simpa [World.setCell] using h.size, fun k hk hg => (Below.heap_setCell _ _ _ _ (by omega)).trans (h.block k hk hg)⟩
theorem Step.alloc (h : Step g w w') (o : Obj) : Step g w (w'.alloc o) := h.call ((Below.refl _ _).alloc (Nat.le_refl _) o)
theorem Step.drewN (h : Step g w w') (n : Nat) : Step g w (w'.drewN n) := h.trans ⟨rfl, rfl, rfl, Nat.le_refl _, fun _ _ _ => rfl⟩
theorem Step.drew (h : Step g w w') : Step g w w'.drew := h.trans ⟨rfl, rfl, rfl, Nat.le_refl _, fun _ _ _ => rfl⟩
theorem Step.bk (h : Step g w w') {p : Nat} {t : TypeId} {cs : List Value} (hp : p ≠ g) (hb : Bk w p t cs) : Bk w' p t cs := (h.block p hb.lt hp).trans hb
theorem Step.bel {B : Nat} {w0 : World} (h : Step g w w') (hg : g < w.heap.size) (hB : B ≤ g) (hb : Below B w0 w) : Below B w0 w' :=
  hb.trans ⟨h.os, h.tape, h.output, h.size, fun k hk => h.block k (by omega) (by omega)⟩
theorem Step.cell (h : Step g w w') {p : Addr} (hp : p.block < w.heap.size) (hg : p.block ≠ g) : w'.cell? p = w.cell? p := World.cell?_of_block (w := w) (h.block p.block hp hg)
/-- A step on a block that was made behind a beginning is none for what was there then. -/
theorem Step.below (h : Step g w w') (hg : w''.heap.size ≤ g) (hb : Below w''.heap.size w'' w) : Below w''.heap.size w'' w' :=
  hb.trans ⟨h.os, h.tape, h.output, h.size, fun k hk => h.block k (Nat.lt_of_lt_of_le hk hb.size) (by omega)⟩
/-- .. and a step on another block, that was made behind this step's beginning, joins it. -/
theorem Step.andNew {p : Nat} (h : Step g w w') (k : Step p w' w'') (hp : w.heap.size ≤ p) : Step g w w'' :=
  ⟨k.os.trans h.os, k.tape.trans h.tape, k.output.trans h.output, Nat.le_trans h.size k.size, fun i hi hg => (k.block i (Nat.lt_of_lt_of_le hi h.size) (by omega)).trans (h.block i hi hg)⟩
end
end Go.Proofs.Ytjaoadeenmabpaa
