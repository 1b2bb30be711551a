/- Contracts of what turns a clock: Boot, Guess, Correct, Reset, Tick. -/
import Derived.Test.YtnfoipkmeiklhaaB
namespace Go.Proofs.Ytnfoipkmeiklhaa
open Go Go.RowKit Go.ChangeShapes Go.WideShapes
set_option linter.unusedVariables false

def boot (c : C) (x : Int) : C × Int := if c.ph = 0 then (⟨2, tm x, c.l, c.m⟩, 0) else (c, 14)
def guess (c : C) (x : Int) : C × Int := if c.ph = 2 then (c, 14) else (⟨1, tm x, c.l, c.m⟩, 0)
def corr (c : C) (d : Int) : C × Int := if c.ph = 0 then (c, 14) else if c.ph = 1 then (⟨2, tm (c.at' + aim d), c.l, c.m⟩, 0) else (⟨2, c.at', aim d, c.m⟩, 0)
def tick (c : C) (x : Int) : C × Int := if c.ph = 0 then (c, 0) else
  (⟨c.ph, tm (c.at' + (inc x + made c.l c.m (inc x))), c.l - made c.l c.m (inc x), c.m⟩, tm (c.at' + (inc x + made c.l c.m (inc x))) - c.at')

theorem boot_any (g s : Nat) (c : C) (mo x : Int) (w : World) (hc : c.ok) (hG : Bk w g 49 (gc s c mo)) (hS : Bk w s 59 (sc c)) :
    Calls Try.prog 8 #[.pointer (some ⟨g, 0, none⟩), .int .i64 x] w fun r w' => r = .returned (.int .i64 (boot c x).2) ∧ Bk w' g 49 (gc s (boot c x).1 mo) ∧ Bk w' s 59 (sc (boot c x).1) ∧ Step2 g s w w' := by
  obtain ⟨ph, a, l, m⟩ := c
  obtain ⟨hp, -⟩ := hc
  simp only at hp
  simp only [gc, sc] at hG hS
  have hne : s ≠ g := hS.ne_ hG (by decide)
  have c1 : w.cell? ⟨g, 1, none⟩ = some (.int .i64 ph) := hG.cell rfl
  rcases hp with rfl | rfl | rfl
  · go_enter Try.func8, Try.ntmps8
    go_wp2_with (go_at_call 20; refine (set_any g _ _ _ _ _ _ _ hG).mono ?_; rintro e w' ⟨rfl, hG', hS'⟩)
    go_returns
    exact ⟨rfl, hG', hS'.bk hne hS, .of_g hS'⟩
  all_goals (go_enter Try.func8, Try.ntmps8; go_wp2_with fail; go_returns; exact ⟨rfl, hG, hS, .refl _ _ _⟩)
theorem guess_any (g s : Nat) (c : C) (mo x : Int) (w : World) (hc : c.ok) (hG : Bk w g 49 (gc s c mo)) (hS : Bk w s 59 (sc c)) :
    Calls Try.prog 13 #[.pointer (some ⟨g, 0, none⟩), .int .i64 x] w fun r w' => r = .returned (.int .i64 (guess c x).2) ∧ Bk w' g 49 (gc s (guess c x).1 mo) ∧ Bk w' s 59 (sc (guess c x).1) ∧ Step2 g s w w' := by
  obtain ⟨ph, a, l, m⟩ := c
  obtain ⟨hp, -⟩ := hc
  simp only at hp
  simp only [gc, sc] at hG hS
  have hne : s ≠ g := hS.ne_ hG (by decide)
  have c1 : w.cell? ⟨g, 1, none⟩ = some (.int .i64 ph) := hG.cell rfl
  have hp' : ph = 2 ∨ ph = 0 ∨ ph = 1 := by omega
  rcases hp' with rfl | rfl | rfl
  · go_enter Try.func13, Try.ntmps13
    go_wp2_with fail
    go_returns
    exact ⟨rfl, hG, hS, .refl _ _ _⟩
  all_goals
    go_enter Try.func13, Try.ntmps13
    go_wp2_with (go_at_call 20; refine (set_any g _ _ _ _ _ _ _ hG).mono ?_; rintro e w' ⟨rfl, hG', hS'⟩)
    go_returns
    exact ⟨rfl, hG', hS'.bk hne hS, .of_g hS'⟩
theorem corr_any (g s : Nat) (c : C) (mo x : Int) (w : World) (hc : c.ok) (hG : Bk w g 49 (gc s c mo)) (hS : Bk w s 59 (sc c)) :
    Calls Try.prog 14 #[.pointer (some ⟨g, 0, none⟩), .int .i64 x] w fun r w' => r = .returned (.int .i64 (corr c x).2) ∧ Bk w' g 49 (gc s (corr c x).1 mo) ∧ Bk w' s 59 (sc (corr c x).1) ∧ Step2 g s w w' := by
  obtain ⟨ph, a, l, m⟩ := c
  obtain ⟨hp, ⟨ha0, ha1⟩, -⟩ := hc
  simp only at hp ha0 ha1
  simp only [gc, sc] at hG hS
  have hne : s ≠ g := hS.ne_ hG (by decide)
  have hen : g ≠ s := Ne.symm hne
  have c0 : w.cell? ⟨g, 0, none⟩ = some (.pointer (some ⟨s, 0, none⟩)) := hG.cell rfl
  have c1 : w.cell? ⟨g, 1, none⟩ = some (.int .i64 ph) := hG.cell rfl
  have c2 : w.cell? ⟨g, 2, none⟩ = some (.int .i64 a) := hG.cell rfl
  rcases hp with rfl | rfl | rfl
  · go_enter Try.func14, Try.ntmps14
    go_wp2_with fail
    go_returns
    exact ⟨rfl, hG, hS, .refl _ _ _⟩
  · have ba := aim_bd x
    have hi : cl x (-1152921504606846976) 1152921504606846976 = aim x := rfl
    have hw : IntKind.i64.wrap (a + aim x) = a + aim x := IntWalk.i64_in _ (by omega)
    go_enter Try.func14, Try.ntmps14
    go_wp2_with fail
    go_region_with (first | (go_at_call 25; refine (clamp_any _ _ _ _ (by omega)).mono ?_; rintro e w' ⟨rfl, rfl⟩) | (go_at_call 20; refine (set_any g _ _ _ _ _ _ _ hG.drew).mono ?_; rintro e w' ⟨rfl, hG', hS'⟩))
    all_goals (go_wp2; go_returns; exact ⟨rfl, hG', hS'.bk hne hS.drew, .of_g ((Step.refl _ _).drew.trans hS')⟩)
  · go_enter Try.func14, Try.ntmps14
    go_wp2_with (go_at_call 26; refine (aim_any s _ _ _ _ hS).mono ?_; rintro e w' ⟨rfl, rfl⟩)
    go_returns
    exact ⟨rfl, hG.far (p := ⟨s, 0, none⟩) hen _, hS.s0 (a := .int .i64 (aim x)), .of_s ((Step.refl _ _).setCell _ _)⟩
theorem tick_any (g s : Nat) (c : C) (mo x : Int) (w : World) (hc : c.ok) (hG : Bk w g 49 (gc s c mo)) (hS : Bk w s 59 (sc c)) :
    Calls Try.prog 18 #[.pointer (some ⟨g, 0, none⟩), .int .i64 x] w fun r w' => r = .returned (.int .i64 (tick c x).2) ∧ Bk w' g 49 (gc s (tick c x).1 mo) ∧ Bk w' s 59 (sc (tick c x).1) ∧ Step2 g s w w' := by
  obtain ⟨ph, a, l, m⟩ := c
  obtain ⟨hp, ⟨ha0, ha1⟩, hl, hm, hm2⟩ := hc
  simp only at hp ha0 ha1 hl hm hm2
  simp only [gc, sc] at hG hS
  have hne : s ≠ g := hS.ne_ hG (by decide)
  have hen : g ≠ s := Ne.symm hne
  have c0 : w.cell? ⟨g, 0, none⟩ = some (.pointer (some ⟨s, 0, none⟩)) := hG.cell rfl
  have c1 : w.cell? ⟨g, 1, none⟩ = some (.int .i64 ph) := hG.cell rfl
  have c2 : w.cell? ⟨g, 2, none⟩ = some (.int .i64 a) := hG.cell rfl
  by_cases h0 : ph = 0
  · subst h0
    go_enter Try.func18, Try.ntmps18
    go_wp2_with (go_at_call 11; refine (phase_any g s ⟨0, a, l, m⟩ mo _ hG).mono ?_; rintro e w' ⟨rfl, rfl⟩)
    go_returns
    exact ⟨rfl, hG, hS, .refl _ _ _⟩
  · have hm1 : 1 ≤ m := by omega
    have bi := inc_bd x
    have bd := made_bd l (m := m) (i := inc x) (by omega) bi.1
    have h0' : (ph == 0) = false := by simpa using h0
    have e := hid (show tick ⟨ph, a, l, m⟩ x = (⟨ph, tm (a + (inc x + made l m (inc x))), l - made l m (inc x), m⟩, tm (a + (inc x + made l m (inc x))) - a) by simp [tick, h0])
    rw [e.out]
    obtain ⟨v, hv⟩ : ∃ v, inc x + made l m (inc x) = v := ⟨_, rfl⟩
    have ST := step_any s l m x w hS hm1 hm2 hl
    rw [hv] at ST ⊢
    have bv : 0 ≤ v ∧ v ≤ 1048832 := by omega
    obtain ⟨q, hq⟩ : ∃ q, l - made l m (inc x) = q := ⟨_, rfl⟩
    rw [hq] at ST ⊢
    have ST' := hid ST
    have bt := tm_bd (a + v)
    clear hv hq ST bi bd h0 e
    have f2 := hG.free 2
    have z := hG.lt
    have z2 := hS.lt
    go_enter Try.func18, Try.ntmps18
    go_wp2_with (first | (go_at_call 11; refine (phase_any g s ⟨ph, a, l, m⟩ mo _ hG).mono ?_; rintro e w' ⟨rfl, rfl⟩) | (go_at_call 30; refine (ST'.out).mono ?_; rintro e w' ⟨rfl, rfl⟩) | (go_at_call 29; refine (time_any _ _).mono ?_; rintro e w' ⟨rfl, rfl⟩))
    go_returns
    exact ⟨rfl, ((hG.far (p := ⟨s, 0, none⟩) hen (.int .i64 q)).s2 (a := .int .i64 (tm (a + v)))).alloc _, ((hS.s0 (a := .int .i64 q)).far (p := ⟨g, 2, none⟩) hne (.int .i64 (tm (a + v)))).alloc _, ((Step2.of_s ((Step.refl _ _).setCell 0 (.int .i64 q))).trans (.of_g ((Step.refl _ _).setCell 2 (.int .i64 (tm (a + v)))))).alloc _⟩
theorem reset_any (g s : Nat) (c : C) (mo : Int) (w : World) (hG : Bk w g 49 (gc s c mo)) :
    Calls Try.prog 17 #[.pointer (some ⟨g, 0, none⟩)] w fun r w' => r = .returned (.tuple #[]) ∧ Bk w' g 49 (gc w.heap.size ⟨0, 0, 0, cl mo 1 256⟩ mo) ∧ Bk w' w.heap.size 59 [.int .i64 0, .int .i64 (cl mo 1 256)] ∧ Step g w w' := by
  simp only [gc] at hG
  have c0 : w.cell? ⟨g, 0, none⟩ = some (.pointer (some ⟨s, 0, none⟩)) := hG.cell rfl
  have c1 : w.cell? ⟨g, 1, none⟩ = some (.int .i64 c.ph) := hG.cell rfl
  have c2 : w.cell? ⟨g, 2, none⟩ = some (.int .i64 c.at') := hG.cell rfl
  have c3 : w.cell? ⟨g, 3, none⟩ = some (.int .i64 mo) := hG.cell rfl
  have f0 := hG.free 0
  have f1 := hG.free 1
  have f2 := hG.free 2
  have f3 := hG.free 3
  have z := hG.lt
  go_enter Try.func17, Try.ntmps17
  go_wp2_with (go_at_call 7; refine (cnew_any _ _).mono ?_; rintro e w' ⟨rfl, rfl⟩)
  go_end0
  have hn := (Bk.new ((((w.setCell ⟨g, 0, none⟩ (.pointer (some ⟨w.heap.size, 0, none⟩))).setCell ⟨g, 1, none⟩ (.int .i64 0)).setCell ⟨g, 2, none⟩ (.int .i64 0)).setCell ⟨g, 3, none⟩ (.int .i64 mo)) 59 [.int .i64 0, .int .i64 (cl mo 1 256)]).alloc (.cells #[.pointer (some ⟨w.heap.size, 0, none⟩), .int .i64 0, .int .i64 0, .int .i64 mo] 49)
  rw [show ((((w.setCell ⟨g, 0, none⟩ (.pointer (some ⟨w.heap.size, 0, none⟩))).setCell ⟨g, 1, none⟩ (.int .i64 0)).setCell ⟨g, 2, none⟩ (.int .i64 0)).setCell ⟨g, 3, none⟩ (.int .i64 mo)).heap.size = w.heap.size by simp [World.setCell]] at hn
  refine ⟨rfl, ((((((hG.s0 (a := .pointer (some ⟨w.heap.size, 0, none⟩))).s1 (a := .int .i64 0)).s2 (a := .int .i64 0)).s3 (a := .int .i64 mo)).alloc _).alloc _), hn, ((((((Step.refl _ _).setCell _ _).setCell _ _).setCell _ _).setCell _ _).alloc _).alloc _⟩
end Go.Proofs.Ytnfoipkmeiklhaa
