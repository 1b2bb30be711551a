/- Contracts of the functions of clock, each by a walk. A clock is a block of four cells: where its correction lies, its phase, what it tells, how much may be made in a step; its correction a block of two. -/
import Derived.Test.YtnfoipkmeiklhaaA
import Derived.Deep.RegionWith
namespace Go.Proofs.Ytnfoipkmeiklhaa
open Go Go.RowKit Go.ChangeShapes Go.WideShapes
set_option linter.unusedVariables false

/-- WHAT A CALL DOES THAT WRITES TWO BLOCKS ALONE (g, s), and makes others: every other block is as it was. -/
structure Step2 (g s : Nat) (w w' : World) : Prop where
  os : w'.os = w.os
  tape : w'.tape = w.tape
  output : w'.output = w.output
  size : w.heap.size ≤ w'.heap.size
  block : ∀ k, k < w.heap.size → k ≠ g → k ≠ s → w'.heap[k]? = w.heap[k]?
section
variable {g s : Nat} {w w' w'' : World}
theorem Step2.refl (g s : Nat) (w : World) : Step2 g s w w := ⟨rfl, rfl, rfl, Nat.le_refl _, fun _ _ _ _ => rfl⟩
theorem Step2.trans (h : Step2 g s w w') (k : Step2 g s w' w'') : Step2 g s w w'' :=
  ⟨k.os.trans h.os, k.tape.trans h.tape, k.output.trans h.output, Nat.le_trans h.size k.size, fun i hi hg hs => (k.block i (Nat.lt_of_lt_of_le hi h.size) hg hs).trans (h.block i hi hg hs)⟩
theorem Step2.of_g (h : Step g w w') : Step2 g s w w' := ⟨h.os, h.tape, h.output, h.size, fun k hk hg _ => h.block k hk hg⟩
theorem Step2.of_s (h : Step s w w') : Step2 g s w w' := ⟨h.os, h.tape, h.output, h.size, fun k hk _ hs => h.block k hk hs⟩
theorem Step2.of_below (h : Below w.heap.size w w') : Step2 g s w w' := .of_g (.of_below h)
theorem Step2.call (h : Step2 g s w w') (k : Below w'.heap.size w' w'') : Step2 g s w w'' := h.trans (.of_below k)
theorem Step2.setNew (h : Step2 g s w w') {p : Addr} (hp : w.heap.size ≤ p.block) (u : Value) : Step2 g s w (w'.setCell p u) :=
  ⟨h.os, h.tape, h.output, by simpa [World.setCell] using h.size, fun k hk hg hs => (Below.heap_setCell _ _ _ _ (by omega)).trans (h.block k hk hg hs)⟩
theorem Step2.alloc (h : Step2 g s w w') (o : Obj) : Step2 g s w (w'.alloc o) := h.call ((Below.refl _ _).alloc (Nat.le_refl _) o)
theorem Step2.drewN (h : Step2 g s w w') (n : Nat) : Step2 g s w (w'.drewN n) := h.trans (.of_g ((Step.refl _ _).drewN n))
theorem Step2.drew (h : Step2 g s w w') : Step2 g s w w'.drew := h.trans (.of_g ((Step.refl _ _).drew))
theorem Step2.bk (h : Step2 g s w w') {p : Nat} {t : TypeId} {cs : List Value} (hp : p ≠ g) (hs : p ≠ s) (hb : Bk w p t cs) : Bk w' p t cs := (h.block p hb.lt hp hs).trans hb
theorem Step2.bel {B : Nat} {w0 : World} (h : Step2 g s w w') (hg : g < w.heap.size) (hB : B ≤ g) (hS : B ≤ s) (hb : Below B w0 w) : Below B w0 w' :=
  hb.trans ⟨h.os, h.tape, h.output, h.size, fun k hk => h.block k (by omega) (by omega) (by omega)⟩
end
theorem Bk.ne_ {w : World} {g g' : Nat} {t t' : TypeId} {cs cs' : List Value} (h : Bk w g t cs) (h' : Bk w g' t' cs') (hne : t ≠ t') : g ≠ g' := by
  rintro rfl
  unfold Bk at h h'
  rw [h] at h'
  injection h' with h'
  injection h' with _ ht
  exact hne ht

/-- A time kept within its bounds. -/
def tm (x : Int) : Int := cl x 0 1152921504606846976
theorem tm_bd (x : Int) : 0 ≤ tm x ∧ tm x ≤ 1152921504606846976 := cl_bd x (by omega)
theorem time_any (x : Int) (w : World) : Calls Try.prog 29 #[.int .i64 x] w fun e w' => e = .returned (.int .i64 (tm x)) ∧ w = w' := by
  have hi : cl x 0 1152921504606846976 = tm x := rfl
  go_enter Try.func29, Try.ntmps29
  go_wp2_with (go_at_call 25; refine (clamp_any _ _ _ _ (by omega)).mono ?_; rintro e w' ⟨rfl, rfl⟩)
  go_returns
  exact ⟨rfl, rfl⟩
theorem reftime_any (x : Int) (w : World) : Calls Try.prog 31 #[.int .i64 x] w fun e w' => e = .returned (.int .i64 (tm x)) ∧ w = w' := by
  have hi : cl x 0 1152921504606846976 = tm x := rfl
  go_enter Try.func31, Try.ntmps31
  go_wp2_with (go_at_call 32; refine (refclamp_any _ _ _ _ (by omega)).mono ?_; rintro e w' ⟨rfl, rfl⟩)
  go_returns
  exact ⟨rfl, rfl⟩

/-- What a clock is. -/
structure C where
  ph : Int
  at' : Int
  l : Int
  m : Int
abbrev gc (s : Nat) (c : C) (mo : Int) : List Value := [.pointer (some ⟨s, 0, none⟩), .int .i64 c.ph, .int .i64 c.at', .int .i64 mo]
abbrev sc (c : C) : List Value := [.int .i64 c.l, .int .i64 c.m]
abbrev rc (c : C) : List Value := [.int .i64 c.ph, .int .i64 c.at', .int .i64 c.l, .int .i64 c.m]
abbrev ra (c : C) : Array Value := #[.int .i64 c.ph, .int .i64 c.at', .int .i64 c.l, .int .i64 c.m]
def C.ok (c : C) : Prop := (c.ph = 0 ∨ c.ph = 1 ∨ c.ph = 2) ∧ (0 ≤ c.at' ∧ c.at' ≤ 1152921504606846976) ∧ (-1152921504606846976 ≤ c.l ∧ c.l ≤ 1152921504606846976) ∧ (c.ph = 0 ∨ 1 ≤ c.m) ∧ c.m ≤ 256

theorem cnew_any (a : Int) (w : World) :
    Calls Try.prog 7 #[.int .i64 a] w fun r w' => r = .returned (.pointer (some ⟨w.heap.size + 1, 0, none⟩)) ∧ (w.alloc (.cells #[.int .i64 0, .int .i64 (cl a 1 256)] 59)).alloc (.cells #[.pointer (some ⟨w.heap.size, 0, none⟩), .int .i64 0, .int .i64 0, .int .i64 a] 49) = w' := by
  go_enter Try.func7, Try.ntmps7
  go_wp2_with (go_at_call 19; refine (new_any _ _).mono ?_; rintro e w' ⟨rfl, rfl⟩)
  go_returns
  exact ⟨rfl, rfl⟩

theorem set_any (g : Nat) (p : Value) (a b mo ph x : Int) (w : World) (hG : Bk w g 49 [p, .int .i64 a, .int .i64 b, .int .i64 mo]) :
    Calls Try.prog 20 #[.pointer (some ⟨g, 0, none⟩), .int .i64 ph, .int .i64 x] w fun r w' => r = .returned (.int .i64 0) ∧ Bk w' g 49 [p, .int .i64 ph, .int .i64 (tm x), .int .i64 mo] ∧ Step g w w' := by
  have c1 : w.cell? ⟨g, 1, none⟩ = some (.int .i64 a) := hG.cell rfl
  have c2 : w.cell? ⟨g, 2, none⟩ = some (.int .i64 b) := hG.cell rfl
  have f1 := hG.free 1
  have f2 := hG.free 2
  go_enter Try.func20, Try.ntmps20
  go_wp2_with (go_at_call 29; refine (time_any _ _).mono ?_; rintro e w' ⟨rfl, rfl⟩)
  go_returns
  exact ⟨rfl, (hG.s1 (a := .int .i64 ph)).s2 (a := .int .i64 (tm x)), ((Step.refl _ _).setCell _ _).setCell _ _⟩

theorem phase_any (g s : Nat) (c : C) (mo : Int) (w : World) (hG : Bk w g 49 (gc s c mo)) :
    Calls Try.prog 11 #[.pointer (some ⟨g, 0, none⟩)] w fun r w' => r = .returned (.int .i64 c.ph) ∧ w = w' := by
  have c1 : w.cell? ⟨g, 1, none⟩ = some (.int .i64 c.ph) := hG.cell rfl
  go_enter Try.func11, Try.ntmps11
  go_wp2
  go_returns
  exact ⟨rfl, rfl⟩
theorem cleft_any (g s : Nat) (c : C) (mo : Int) (w : World) (hG : Bk w g 49 (gc s c mo)) (hS : Bk w s 59 (sc c)) :
    Calls Try.prog 15 #[.pointer (some ⟨g, 0, none⟩)] w fun r w' => r = .returned (.int .i64 c.l) ∧ w = w' := by
  have c1 : w.cell? ⟨g, 0, none⟩ = some (.pointer (some ⟨s, 0, none⟩)) := hG.cell rfl
  go_enter Try.func15, Try.ntmps15
  go_wp2_with (go_at_call 27; refine (left_any s c.l c.m _ hS).mono ?_; rintro e w' ⟨rfl, rfl⟩)
  go_returns
  exact ⟨rfl, rfl⟩
/-- What it tells. -/
def now (c : C) : Int := if c.ph = 0 then 0 else c.at'
theorem now_any (g s : Nat) (c : C) (mo : Int) (w : World) (hc : c.ok) (hG : Bk w g 49 (gc s c mo)) :
    Calls Try.prog 9 #[.pointer (some ⟨g, 0, none⟩)] w fun r w' => r = .returned (.tuple #[.int .i64 (now c), .bool (decide (0 < c.ph))]) ∧ w = w' := by
  obtain ⟨ph, a, l, m⟩ := c
  obtain ⟨hp, -⟩ := hc
  simp only at hp
  simp only [gc] at hG
  have c1 : w.cell? ⟨g, 1, none⟩ = some (.int .i64 ph) := hG.cell rfl
  have c2 : w.cell? ⟨g, 2, none⟩ = some (.int .i64 a) := hG.cell rfl
  rcases hp with rfl | rfl | rfl
  all_goals (go_enter Try.func9, Try.ntmps9; go_wp2_with (first | go_in); go_returns; exact ⟨by simp [now], rfl⟩)
end Go.Proofs.Ytnfoipkmeiklhaa
