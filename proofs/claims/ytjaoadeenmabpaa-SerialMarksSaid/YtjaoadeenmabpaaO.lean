/- Contracts of Last, Count and Note. -/
import Derived.Test.YtjaoadeenmabpaaN
import Derived.Maps.RangeWalk
namespace Go.Proofs.Ytjaoadeenmabpaa
open Go Go.RowKit Go.ChangeShapes Go.WideShapes Go.Maps
set_option linter.unusedVariables false
attribute [local go_sem ↓] Go.wp_at_zero Go.wp_at_succ

theorem last_any (g b n : Nat) (M : Int → Option Mk) (f : Int) (m : Mk) (o : Bool) (w : World) (hG : Bk w g 55 [.map (some b)]) (hM : Mks w b n M) (hf : (Lit.int .i64 f).wf = true) (e1 : (M f).getD zeroM = m) (e2 : (M f).isSome = o) :
    Calls Try.prog 14 #[.pointer (some ⟨g, 0, none⟩), .int .i64 f] w fun r w' => r = .returned (.tuple #[.agg #[.int .i64 m.t, .int .i64 m.f, .int .u32 m.s], .bool o]) ∧ Below w.heap.size w w' := by
  have c0 : w.cell? ⟨g, 0, none⟩ = some (.map (some b)) := hG.cell rfl
  have hL := (hM.alloc (.cells #[.int .i64 0, .int .i64 0, .int .u32 0] 35)).look hf
  rw [e1, e2] at hL
  clear e1 e2
  have z := hG.lt
  go_enter Try.func14, Try.ntmps14
  go_wp2
  refine bodyPost_ret ?_ rfl ⟨rfl, by go_grown⟩
  simp [results, Try.results14, go_sem]
theorem fld57 (t f s c : Int) : ∀ w, (Instr.field 57 (.agg #[.int .i64 t, .int .i64 f, .int .u32 s, .int .i64 c]) 1).run Try.prog w = .ok (.int .i64 c) w := fun _ => by kernel_rfl
theorem Mks.mono {w : World} {b n n' : Nat} {M : Int → Option Mk} (h : Mks w b n M) (hn : n ≤ n') : Mks w b n' M := by obtain ⟨D, h1, h2⟩ := h; exact ⟨D, h1.mono hn, h2⟩
theorem count_any (g b n : Nat) (M : Int → Option Mk) (f : Int) (m : Mk) (w : World) (hG : Bk w g 55 [.map (some b)]) (hM : Mks w b n M) (hf : (Lit.int .i64 f).wf = true) (e1 : (M f).getD zeroM = m) :
    Calls Try.prog 15 #[.pointer (some ⟨g, 0, none⟩), .int .i64 f] w fun r w' => r = .returned (.int .i64 m.c) ∧ w = w' := by
  have c0 : w.cell? ⟨g, 0, none⟩ = some (.map (some b)) := hG.cell rfl
  have hL := hM.look1 hf
  rw [e1] at hL
  clear e1
  have q := fld57 m.t m.f m.s m.c
  go_enter Try.func15, Try.ntmps15
  go_wp2
  go_returns
  exact ⟨rfl, rfl⟩

theorem note_bad (g b : Nat) (t f s : Int) (w : World) (hG : Bk w g 55 [.map (some b)]) (h : f < 0 ∨ 64 ≤ f) :
    Calls Try.prog 13 #[.pointer (some ⟨g, 0, none⟩), .agg #[.int .i64 t, .int .i64 f, .int .u32 s]] w fun r w' => r = .returned (.int .i64 8) ∧ w.alloc (.cells #[.int .i64 t, .int .i64 f, .int .u32 s] 35) = w' := by
  rcases h with h | h
  · go_enter Try.func13, Try.ntmps13
    go_wp2
    go_returns
    exact ⟨rfl, rfl⟩
  · have h0 : decide (f < 0) = false := decide_eq_false (by omega)
    go_enter Try.func13, Try.ntmps13
    go_wp2
    go_returns
    exact ⟨rfl, rfl⟩

set_option maxRecDepth 100000 in
set_option maxHeartbeats 4000000 in
theorem note_any (g b n : Nat) (M : Int → Option Mk) (t f s : Int) (m : Mk) (o : Bool) (w : World) (hG : Bk w g 55 [.map (some b)]) (hM : Mks w b n M) (h0 : 0 ≤ f) (h1 : f < 64) (hn : n < 1000) (e1 : (M f).getD zeroM = m) (e2 : (M f).isSome = o) (hc : 0 ≤ m.c ∧ m.c ≤ 1000)
    (r : Int) (er : (if o = true then bh m.t m.f m.s t f s else 0) = r) :
    Calls Try.prog 13 #[.pointer (some ⟨g, 0, none⟩), .agg #[.int .i64 t, .int .i64 f, .int .u32 s]] w fun e w' => e = .returned (.int .i64 r) ∧ Bk w' g 55 [.map (some b)] ∧ Mks w' b (n + 1) (if r = 0 then upd M f ⟨t, f, s, m.c + 1⟩ else M) ∧ Step b w w' := by
  have hf : (Lit.int .i64 f).wf = true := wf_key (by omega) (by omega)
  have hbg := hM.ne_ hG
  have c0 : w.cell? ⟨g, 0, none⟩ = some (.map (some b)) := hG.cell rfl
  have hG1 := hG.alloc (.cells #[.int .i64 t, .int .i64 f, .int .u32 s] 35)
  have hM1 := hM.alloc (.cells #[.int .i64 t, .int .i64 f, .int .u32 s] 35)
  have hp := Bk.new w 35 [.int .i64 t, .int .i64 f, .int .u32 s]
  have hS1 := (Step.refl b w).alloc (.cells #[.int .i64 t, .int .i64 f, .int .u32 s] 35)
  have z := hG.lt
  change Bk (w.alloc (.cells #[.int .i64 t, .int .i64 f, .int .u32 s] 35)) _ _ _ at hp
  have z0 : decide (f < 0) = false := decide_eq_false (by omega)
  have z1 : decide (64 ≤ f) = false := decide_eq_false (by omega)
  have hpg : w.heap.size ≠ g := by omega
  have hG1' := hid hG1
  have hM1' := hid hM1
  have hp' := hid hp
  clear hG hM hG1 hM1 hp
  go_enter Try.func13, Try.ntmps13
  go_wp2_with fail
  have hG1 := hG1'.out
  have hM1 := hM1'.out
  have hp := hp'.out
  generalize w.alloc (.cells #[.int .i64 t, .int .i64 f, .int .u32 s] 35) = wx at *
  obtain ⟨p, ep⟩ : ∃ p, w.heap.size = p := ⟨_, rfl⟩
  rw [ep] at hp hpg
  rw [ep]
  clear hG1' hM1' hp' c0 z
  have hLz : ∀ wz, Mks wz b n M → (Instr.lookup 53 (.map (some b)) (.int .i64 f) true).run Try.prog wz = .ok (.tuple #[.agg m.arr, .bool o]) wz := fun wz hz => by
    have := hz.look hf
    rw [e1, e2] at this
    exact this
  have hLz' := hid hLz
  have g0 : wx.cell? ⟨g, 0, none⟩ = some (.map (some b)) := hG1.cell rfl
  have p0 : wx.cell? ⟨p, 0, none⟩ = some (.int .i64 t) := hp.cell rfl
  have p1 : wx.cell? ⟨p, 1, none⟩ = some (.int .i64 f) := hp.cell rfl
  have p2 : wx.cell? ⟨p, 2, none⟩ = some (.int .u32 s) := hp.cell rfl
  clear hLz e1 e2
  have n0 := World.new_ne wx _ g0
  have n1 := World.new_ne wx _ p1
  have gk1 : (wx.drew.alloc (.cells #[.int .i64 0, .int .i64 0, .int .u32 0, .int .i64 0] 57)).cell? ⟨g, 0, none⟩ = some (.map (some b)) := (hG1.drew.alloc _).cell rfl
  have pk1 : (wx.drew.alloc (.cells #[.int .i64 0, .int .i64 0, .int .u32 0, .int .i64 0] 57)).cell? ⟨p, 1, none⟩ = some (.int .i64 f) := (hp.drew.alloc _).cell rfl
  have lk1 := hLz'.out _ (hM1.drew.alloc (.cells #[.int .i64 0, .int .i64 0, .int .u32 0, .int .i64 0] 57))
  have lk0 := hLz'.out _ hM1.drew
  have lk2 := hLz'.out _ (hM1.drew.alloc (.cells m.arr 57))
  have gk2 : (wx.drew.alloc (.cells m.arr 57)).cell? ⟨g, 0, none⟩ = some (.map (some b)) := (hG1.drew.alloc _).cell rfl
  have pk2 : (wx.drew.alloc (.cells m.arr 57)).cell? ⟨p, 1, none⟩ = some (.int .i64 f) := (hp.drew.alloc _).cell rfl
  go_region_held3 (fun w' => w'.cell? ⟨g, 0, none⟩ = some (.map (some b)) ∧ w'.cell? ⟨p, 1, none⟩ = some (.int .i64 f) ∧ (Instr.lookup 53 (.map (some b)) (.int .i64 f) true).run Try.prog w' = .ok (.tuple #[.agg m.arr, .bool o]) w')
    (first | exact ⟨g0, p1, lk0⟩ | exact ⟨gk1, pk1, lk1⟩ | exact ⟨gk2, pk2, lk2⟩ | go_keep)
    (fail)
  all_goals
    have hG2 := (hG1.alloc (.cells m.arr 57)).drew
    have hp2 := (hp.alloc (.cells m.arr 57)).drew
    have hq2 := (Bk.new wx 57 [.int .i64 m.t, .int .i64 m.f, .int .u32 m.s, .int .i64 m.c]).drew
    have hM2 := (hM1.alloc (.cells m.arr 57)).drew
    have hS2 := (hS1.alloc (.cells m.arr 57)).drew
    have zz := hM1.lt
    have hwc : IntKind.i64.wrap (m.c + 1) = m.c + 1 := IntWalk.i64_in _ (by omega)
    change Bk (wx.alloc (.cells m.arr 57)).drew _ _ _ at hq2
    clear gk1 gk2 pk1 pk2 lk0 lk1 lk2 g0 p0 p1 p2 n0 n1 hG1 hM1 hp hS1 hLz'
    obtain ⟨q, eq⟩ : ∃ q, wx.heap.size = q := ⟨_, rfl⟩
    rw [eq] at hq2
    rw [eq]
    clear eq
    change Exit.then _ _ _ _ (wx.alloc (.cells m.arr 57)).drew
    generalize (wx.alloc (.cells m.arr 57)).drew = wy at *
    have g0 : wy.cell? ⟨g, 0, none⟩ = some (.map (some b)) := hG2.cell rfl
    have p0 : wy.cell? ⟨p, 0, none⟩ = some (.int .i64 t) := hp2.cell rfl
    have p1 : wy.cell? ⟨p, 1, none⟩ = some (.int .i64 f) := hp2.cell rfl
    have p2 : wy.cell? ⟨p, 2, none⟩ = some (.int .u32 s) := hp2.cell rfl
    have q0 : wy.cell? ⟨q, 0, none⟩ = some (.int .i64 m.t) := hq2.cell rfl
    have q1 : wy.cell? ⟨q, 1, none⟩ = some (.int .i64 m.f) := hq2.cell rfl
    have q2 : wy.cell? ⟨q, 2, none⟩ = some (.int .u32 m.s) := hq2.cell rfl
    have q3 : wy.cell? ⟨q, 3, none⟩ = some (.int .i64 m.c) := hq2.cell rfl
    cases o
    · obtain rfl : r = 0 := by simpa using er.symm
      obtain ⟨w3, hrun, hM3, hS3⟩ := hM2.drew.store hf (by unfold maxLen; omega) ⟨t, f, s, m.c + 1⟩
      clear er
      go_wp2_with fail
      go_still_tail 11, (by kernel_rfl)
      change wpList _ _ _ _ _ wy.drew
      go_wp2
      go_returns
      exact ⟨rfl, hS3.bk (Ne.symm hbg) hG2.drew, by simpa using hM3, hS2.drew.trans hS3⟩
    · have ev : bh m.t m.f m.s t f s = r := by simpa using er
      clear er
      have BH := fun wz => behind_any m.t m.f m.s t f s wz
      simp only [ev] at BH
      have BH' := hid BH
      clear BH ev
      have hG3 := (hG2.alloc (.cells #[.int .i64 m.t, .int .i64 m.f, .int .u32 m.s] 35)).alloc (.cells #[.int .i64 t, .int .i64 f, .int .u32 s] 35)
      have hM3 := (hM2.alloc (.cells #[.int .i64 m.t, .int .i64 m.f, .int .u32 m.s] 35)).alloc (.cells #[.int .i64 t, .int .i64 f, .int .u32 s] 35)
      have hp3 := (hp2.alloc (.cells #[.int .i64 m.t, .int .i64 m.f, .int .u32 m.s] 35)).alloc (.cells #[.int .i64 t, .int .i64 f, .int .u32 s] 35)
      have hq3 := (hq2.alloc (.cells #[.int .i64 m.t, .int .i64 m.f, .int .u32 m.s] 35)).alloc (.cells #[.int .i64 t, .int .i64 f, .int .u32 s] 35)
      have hS3 := (hS2.alloc (.cells #[.int .i64 m.t, .int .i64 m.f, .int .u32 m.s] 35)).alloc (.cells #[.int .i64 t, .int .i64 f, .int .u32 s] 35)
      obtain ⟨wv, ew⟩ : ∃ wv, (wy.alloc (.cells #[.int .i64 m.t, .int .i64 m.f, .int .u32 m.s] 35)).alloc (.cells #[.int .i64 t, .int .i64 f, .int .u32 s] 35) = wv := ⟨_, rfl⟩
      rw [ew] at hG3 hM3 hp3 hq3 hS3
      have BH2 := BH'.out wy
      rw [ew] at BH2
      have BH3 := hid BH2
      clear BH' BH2 ew hG2 hM2 hp2 hq2 hS2
      go_wp2_with fail
      go_at_call 20
      refine BH3.out.mono ?_
      rintro e w' ⟨rfl, rfl⟩
      clear BH3 g0 p0 p1 p2 q0 q1 q2 q3
      have g0 : wv.cell? ⟨g, 0, none⟩ = some (.map (some b)) := hG3.cell rfl
      have p0 : wv.cell? ⟨p, 0, none⟩ = some (.int .i64 t) := hp3.cell rfl
      have p1 : wv.cell? ⟨p, 1, none⟩ = some (.int .i64 f) := hp3.cell rfl
      have p2 : wv.cell? ⟨p, 2, none⟩ = some (.int .u32 s) := hp3.cell rfl
      have q3 : wv.cell? ⟨q, 3, none⟩ = some (.int .i64 m.c) := hq3.cell rfl
      by_cases hv : r = 0
      · subst hv
        obtain ⟨w3, hrun, hM4, hS4⟩ := hM3.drew.store hf (by unfold maxLen; omega) ⟨t, f, s, m.c + 1⟩
        go_wp2_with fail
        go_still_tail 11, (by kernel_rfl)
        change wpList _ _ _ _ _ wv.drew
        go_wp2
        go_returns
        exact ⟨rfl, hS4.bk (Ne.symm hbg) hG3.drew, by simpa using hM4, hS3.drew.trans hS4⟩
      · have hv' : (r != 0) = true := by simpa using hv
        go_wp2_with fail
        go_returns
        exact ⟨rfl, hG3, hM3.mono (by omega), hS3⟩
end Go.Proofs.Ytjaoadeenmabpaa
