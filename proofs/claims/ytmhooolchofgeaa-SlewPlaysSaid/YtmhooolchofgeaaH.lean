/- The walk of SlewPlays. -/
import Derived.Test.YtmhooolchofgeaaF
import Derived.Test.YtmhooolchofgeaaG
import Derived.Test.YtmhooolchofgeaaStep
import Derived.Deep.RegionHeld3
import Derived.Deep.DrawnRows
import Derived.Deep.RegionWith
import Derived.Deep.DeepCutAuto
import Derived.Deep.CutBlock
namespace Go.Proofs.Ytmhooolchofgeaa
open Go Go.RowKit Go.ChangeShapes Go.WideShapes
set_option linter.unusedVariables false
attribute [local go_sem ↓] Go.wp_at_zero Go.wp_at_succ

theorem step_st (g : Nat) (l m x : Int) (w : World) (hQ : Bk w g 47 [.int .i64 l, .int .i64 m]) (h0 : 1 ≤ m) (h1 : m ≤ 256) (hl : -1152921504606846976 ≤ l ∧ l ≤ 1152921504606846976) :
    Calls Try.prog 10 #[.pointer (some ⟨g, 0, none⟩), .int .i64 x] w fun e w' => e = .returned (.int .i64 (inc x + made l m (inc x))) ∧ Bk w' g 47 [.int .i64 (l - made l m (inc x)), .int .i64 m] ∧ Step g w w' :=
  (step_any g l m x w hQ h0 h1 hl).mono fun _ _ hh => ⟨hh.1, hh.2 ▸ hQ.s0.alloc _, hh.2 ▸ ((Step.refl _ _).setCell _ _).alloc _⟩
theorem aim_st (g : Nat) (l m c : Int) (w : World) (hQ : Bk w g 47 [.int .i64 l, .int .i64 m]) :
    Calls Try.prog 11 #[.pointer (some ⟨g, 0, none⟩), .int .i64 c] w fun r w' => r = .returned (.tuple #[]) ∧ Bk w' g 47 [.int .i64 (aim c), .int .i64 m] ∧ Step g w w' :=
  (aim_any g l m c w hQ).mono fun _ _ hh => ⟨hh.1, hh.2 ▸ hQ.s0, hh.2 ▸ (Step.refl _ _).setCell _ _⟩

set_option maxRecDepth 100000 in
set_option maxHeartbeats 4000000 in
theorem slewPlaysWalk (a0 : Int) (a1 : Option Addr) (len1 cap1 : Nat) (x10 : Nat → Bool) (x11 : Nat → Int) (w : World) (w0 : (Lit.int .i64 a0).wf = true) (s1 : IsSl w a1 len1 2 (fun i => [.bool (x10 i), .int .i64 (x11 i)])) (l1 : len1 ≤ maxLen) (w11 : ∀ i, (Lit.int .i64 (x11 i)).wf = true) :
    Calls Try.prog 3 #[.int .i64 a0, .slice a1 len1 cap1] w fun e w' => e = .returned (.bool true) ∧ Below w.heap.size w w' := by
  unfold maxLen at l1
  have bm := cl_bd a0 (show (1 : Int) ≤ 256 by omega)
  go_enter Try.func3, Try.ntmps3
  go_wp2_with (first | (go_at_call 7; refine (new_any _ _).mono ?_; rintro e w' ⟨rfl, rfl⟩) | (go_at_call 8; refine (refnew_any _ _).mono ?_; rintro e w' ⟨rfl, rfl⟩))
  obtain ⟨M, hM⟩ : ∃ M, cl a0 1 256 = M := ⟨_, rfl⟩
  rw [hM] at bm ⊢
  clear hM
  obtain ⟨h, hh⟩ : ∃ h, w.heap.size + 1 + 1 = h := ⟨_, rfl⟩
  obtain ⟨g, hg⟩ : ∃ g, w.heap.size = g := ⟨_, rfl⟩
  rw [hh, hg]
  have hgB : w.heap.size ≤ g := by omega
  have hhB : w.heap.size ≤ h := by omega
  have hhg : h ≠ g := by omega
  have hgh : g ≠ h := by omega
  have hg' := hid hg
  have hh' := hid hh
  clear hg hh
  go_loopw [7] (fun i wr => ∃ (k : Nat) (l : Int), k ≤ len1 ∧ k ≤ 60 ∧ (-1152921504606846976 ≤ l ∧ l ≤ 1152921504606846976) ∧ i = .int .i64 k ∧ Bk wr g 47 [.int .i64 l, .int .i64 M] ∧ Bk wr h 26 [.int .i64 l, .int .i64 M] ∧ Below w.heap.size w wr)
    (fun i _ => len1 - (intOf i).toNat)
  case atStart =>
    have hg := hg'.out
    have hh := hh'.out
    subst hh; subst hg
    exact ⟨0, 0, by omega, by omega, by omega, rfl, ((Bk.new w 47 _).alloc _).alloc _, by simpa using Bk.new ((w.alloc _).alloc _) 26 [.int .i64 0, .int .i64 M], by go_grown⟩
  case round =>
    obtain ⟨k, l, hk, hk2, hl, rfl, hQ, hH, hb⟩ := hrel
    by_cases hlt : k < len1 ∧ k < 60
    · obtain ⟨hl2, hl3⟩ := hlt
      obtain ⟨b, off, rfl, hbb, hc⟩ := s1 (by omega)
      have q0 : w.cell? ⟨b, off + k * 2, none⟩ = some (.bool (x10 k)) := (by simpa using hc k hl2 0 _ rfl)
      have q1 : w.cell? ⟨b, off + k * 2 + 1, none⟩ = some (.int .i64 (x11 k)) := (by simpa [Nat.add_assoc] using hc k hl2 1 _ rfl)
      clear hc
      generalize x10 k = st at *
      generalize x11 k = x at *
      have hD : ∀ wz, Below w.heap.size w wz → wz.cell? ⟨b, off + k * 2, none⟩ = some (.bool st) ∧ wz.cell? ⟨b, off + k * 2 + 1, none⟩ = some (.int .i64 x) := fun wz hz =>
        ⟨(hz.cell (p := ⟨b, off + k * 2, none⟩) hbb).trans q0, (hz.cell (p := ⟨b, off + k * 2 + 1, none⟩) hbb).trans q1⟩
      have hD' := hid hD
      have hbh : b ≠ h := by omega
      have hbg : b ≠ g := by omega
      clear hD q0 q1
      obtain ⟨p0, p1⟩ := hD'.out wr hb
      have kk0 : (0 : Int) ≤ k := by omega
      have kk1 : (k : Int) < len1 := by omega
      have c0 : wr.cell? ⟨h, 0, none⟩ = some (.int .i64 l) := hH.cell rfl
      have c1 : wr.cell? ⟨h, 1, none⟩ = some (.int .i64 M) := hH.cell rfl
      have hlH := hid hl
      go_upto_if 28 with (fail)
      go_cut [7] (fun i wx => i = .int .i64 k ∧ ∃ l : Int, (-1152921504606846976 ≤ l ∧ l ≤ 1152921504606846976) ∧ Bk wx g 47 [.int .i64 l, .int .i64 M] ∧ Bk wx h 26 [.int .i64 l, .int .i64 M] ∧ Below w.heap.size w wx)
      case first =>
        cases st
        · go_wp2_with fail
          go_at_call 11
          refine (aim_st g l M x wr hQ).mono ?_
          rintro e w1 ⟨rfl, hQ1, hS1⟩
          have hH1 := hS1.bk hhg hH
          have hb1 := hS1.bel hQ.lt hgB hb
          clear hQ hH hb p0 p1 c0 c1 hS1
          obtain ⟨p0, p1⟩ := hD'.out w1 hb1
          have c0 : w1.cell? ⟨h, 0, none⟩ = some (.int .i64 l) := hH1.cell rfl
          have c1 : w1.cell? ⟨h, 1, none⟩ = some (.int .i64 M) := hH1.cell rfl
          go_wp2_with fail
          go_region_with ((go_at_call 12; refine (refaim_any l M x _).mono ?_; rintro e w2 ⟨rfl, hb2⟩; have hH2 := hH1.drew.call hb2; have d0 := hH2.cell (i := 0) rfl; have d1 := hH2.cell (i := 1) rfl; have f0 := hH2.free 0; have f1 := hH2.free 1))
          all_goals (go_wp2; go_meet; exact ⟨rfl, aim x, aim_bd x, ((hQ1.drew.call hb2).far (p := ⟨h, 0, none⟩) hgh (.int .i64 (aim x))).far (p := ⟨h, 1, none⟩) hgh (.int .i64 M), (hH2.s0 (a := .int .i64 (aim x))).s1 (a := .int .i64 M), ((bel_tr hb1.drew hb2).setCell (p := ⟨h, 0, none⟩) hhB _).setCell (p := ⟨h, 1, none⟩) hhB _⟩)
        · have RS := fun wz => refstep_any l M x wz bm.1 bm.2 hl
          have ST := fun wz hz => step_st g l M x wz hz bm.1 bm.2 hl
          have ml := made_left l (m := M) (i := inc x) (by omega) (inc_bd x).1 hl
          obtain ⟨l', el⟩ : ∃ l', l - made l M (inc x) = l' := ⟨_, rfl⟩
          obtain ⟨r, er⟩ : ∃ r, inc x + made l M (inc x) = r := ⟨_, rfl⟩
          rw [el] at ml
          simp only [el, er] at RS ST
          have RS' := hid RS
          have ST' := hid ST
          have ml' := hid ml
          clear el er ml RS ST
          go_upto_region 6 with fail
          have zh := hH.lt
          have z1 : ¬ h = wr.heap.size := by omega
          have z2 : ¬ wr.heap.size = h := by omega
          have z3 : ¬ b = wr.heap.size := by have := hb.size; omega
          have z4 : ¬ wr.heap.size = b := by omega
          go_cut [8, 9] (fun p v wx => ∃ q : Nat, p = .pointer (some ⟨q, 0, none⟩) ∧ v = .int .i64 r ∧ h ≠ q ∧ Bk wx q 26 [.int .i64 l', .int .i64 M] ∧ Bk wx g 47 [.int .i64 l, .int .i64 M] ∧ Bk wx h 26 [.int .i64 l, .int .i64 M] ∧ Below w.heap.size w wx)
          case first =>
            have n0 := World.new_ne wr _ c0
            have n1 := World.new_ne wr _ c1
            have n2 := World.new_ne wr _ p1
            go_region_held3 (fun w' => w'.cell? ⟨h, 0, none⟩ = some (.int .i64 l) ∧ w'.cell? ⟨h, 1, none⟩ = some (.int .i64 M) ∧ w'.cell? ⟨b, off + k * 2 + 1, none⟩ = some (.int .i64 x))
              (go_keep)
              (first
                | (go_at_call 9; refine (RS'.out wr.drew).mono ?_; rintro e w2 ⟨rfl, hb2⟩; have hH2 := hH.drew.call hb2; have hQ2 := hQ.drew.call hb2; have hb3 := bel_tr hb.drew hb2; have m0 : w2.cell? ⟨h, 0, none⟩ = some (.int .i64 l) := hH2.cell rfl; have m1 : w2.cell? ⟨h, 1, none⟩ = some (.int .i64 M) := hH2.cell rfl; have m2 := (hD'.out _ hb3).2; have n3 := World.new_ne w2 _ m0; have n4 := World.new_ne w2 _ m1; have n5 := World.new_ne w2 _ m2)
                | (go_at_call 9; refine (RS'.out (wr.drew.alloc (.cells #[.int .i64 0, .int .i64 0] 26))).mono ?_; rintro e w2 ⟨rfl, hb2⟩; have hH2 := (hH.drew.alloc (.cells #[.int .i64 0, .int .i64 0] 26)).call hb2; have hQ2 := (hQ.drew.alloc (.cells #[.int .i64 0, .int .i64 0] 26)).call hb2; have hb3 := bel_tr (hb.drew.alloc hb.size (.cells #[.int .i64 0, .int .i64 0] 26)) hb2; have hN2 : Bk w2 wr.heap.size 26 [.int .i64 0, .int .i64 0] := (Bk.new wr.drew 26 [.int .i64 0, .int .i64 0]).call hb2; have k0 : w2.cell? ⟨wr.heap.size, 0, none⟩ = some (.int .i64 0) := hN2.cell rfl; have k1 : w2.cell? ⟨wr.heap.size, 1, none⟩ = some (.int .i64 0) := hN2.cell rfl; have u0 : w2.frozen? ⟨wr.heap.size, 0, none⟩ = false := hN2.free 0; have u1 : w2.frozen? ⟨wr.heap.size, 1, none⟩ = false := hN2.free 1; have m0 : w2.cell? ⟨h, 0, none⟩ = some (.int .i64 l) := hH2.cell rfl; have m1 : w2.cell? ⟨h, 1, none⟩ = some (.int .i64 M) := hH2.cell rfl; have m2 := (hD'.out _ hb3).2))
            · go_wp2
              go_meet
              exact ⟨w2.heap.size, rfl, rfl, by have := hH2.lt; omega, Bk.new _ _ _, hQ2.alloc _, hH2.alloc _, hb3.alloc hb3.size _⟩
            · have zg := hQ.lt
              go_wp2
              go_meet
              exact ⟨wr.heap.size, rfl, rfl, z1, (hN2.s0 (a := .int .i64 l')).s1 (a := .int .i64 M), (hQ2.far (p := ⟨wr.heap.size, 0, none⟩) (by show g ≠ wr.heap.size; omega) (.int .i64 l')).far (p := ⟨wr.heap.size, 1, none⟩) (by show g ≠ wr.heap.size; omega) (.int .i64 M), (hH2.far (p := ⟨wr.heap.size, 0, none⟩) z1 (.int .i64 l')).far (p := ⟨wr.heap.size, 1, none⟩) z1 (.int .i64 M), (hb3.setCell (p := ⟨wr.heap.size, 0, none⟩) hb.size (.int .i64 l')).setCell (p := ⟨wr.heap.size, 1, none⟩) hb.size (.int .i64 M)⟩
          case rest =>
            obtain ⟨q, rfl, rfl, hhq, hN, hQ', hH', hb'⟩ := hcut
            clear hQ hH hb p0 p1 c0 c1
            have hqh : q ≠ h := Ne.symm hhq
            have p1 := (hD'.out _ hb').2
            have n0 : wc.cell? ⟨q, 0, none⟩ = some (.int .i64 l') := hN.cell rfl
            have n1 : wc.cell? ⟨q, 1, none⟩ = some (.int .i64 M) := hN.cell rfl
            have d0 : wc.cell? ⟨h, 0, none⟩ = some (.int .i64 l) := hH'.cell rfl
            have d1 : wc.cell? ⟨h, 1, none⟩ = some (.int .i64 M) := hH'.cell rfl
            have f0 := hH'.free 0
            have f1 := hH'.free 1
            have hQ3 := (hQ'.far (p := ⟨h, 0, none⟩) hgh (.int .i64 l')).far (p := ⟨h, 1, none⟩) hgh (.int .i64 M)
            have hH3 := (hH'.s0 (a := .int .i64 l')).s1 (a := .int .i64 M)
            have hb3 := (hb'.setCell (p := ⟨h, 0, none⟩) hhB (.int .i64 l')).setCell (p := ⟨h, 1, none⟩) hhB (.int .i64 M)
            have hQ3' := hid hQ3
            have hH3' := hid hH3
            have hb3' := hid hb3
            clear hQ3 hH3 hb3
            go_wp2_with fail
            go_at_call 10
            refine (ST'.out _ hQ3'.out).mono ?_
            rintro e w3 ⟨rfl, hQ4, hS4⟩
            go_wp2_with fail
            go_meet
            exact ⟨rfl, l', ml'.out, hQ4, hS4.bk hhg hH3'.out, hS4.bel hQ3'.out.lt hgB hb3'.out⟩
      case rest =>
        obtain ⟨rfl, l', hl', hQ', hH', hb'⟩ := hcut
        clear hQ hH hb p0 p1 c0 c1
        have hl'' := hid hl'
        have T1 := hid (fun wz hz => ticks_any g l' M wz hz bm.1 bm.2 hl')
        have T2 := hid (fun wz => refticks_any l' M wz bm.1 bm.2 hl')
        obtain ⟨L, hL⟩ : ∃ L : List (Nat × TypeId × List Value), L = [(g, 47, [.int .i64 l', .int .i64 M]), (h, 26, [.int .i64 l', .int .i64 M])] := ⟨_, rfl⟩
        have hk' : Kb w L wc := by
          subst hL
          exact ⟨List.forall_mem_cons.2 ⟨hQ', List.forall_mem_cons.2 ⟨hH', fun _ hh => nomatch hh⟩⟩, hb'⟩
        have y0 := KX.cell (w := w) (l := L) h 26 [.int .i64 l', .int .i64 M] 0 (by simp [hL]) rfl
        have y1 := KX.cell (w := w) (l := L) h 26 [.int .i64 l', .int .i64 M] 1 (by simp [hL]) rfl
        have yG := hid (show ∀ x : KX w L, Bk x.1 g 47 [.int .i64 l', .int .i64 M] from fun x => x.bk (by simp [hL]))
        have yH := hid (show ∀ x : KX w L, Bk x.1 h 26 [.int .i64 l', .int .i64 M] from fun x => x.bk (by simp [hL]))
        clear hL hl' hl
        go_wp2_with fail
        refine qx_in L hk' (by kernel_rfl) (by kernel_rfl) ?_
        have hne : Nonempty (KX w L) := ⟨⟨_, hk'⟩⟩
        clear hk' hQ' hH' hb'
        repeat (any_goals (first | go_big_quiet_step ((first | (go_at_call 13; exact qx_same (left_any g _ _ _ (yG.out _))) | (go_at_call 14; exact qx_draws (T1.out _ (yG.out _))) | (go_at_call 15; exact qx_lays (T2.out _)))) | quiet_step ((first | (go_at_call 13; exact qx_same (left_any g _ _ _ (yG.out _))) | (go_at_call 14; exact qx_draws (T1.out _ (yG.out _))) | (go_at_call 15; exact qx_lays (T2.out _))))))
        refine wpQuiet_nil ?_
        intro _ hw'
        obtain ⟨y, rfl⟩ := hw'
        go_wp2_with fail
        go_roundw
        case rel => exact ⟨k + 1, l', by omega, by omega, hl''.out, by go_num, yG.out y, yH.out y, y.bel⟩
        case measure => simp [intOf]; omega
    · have hs1 : ¬ (k < len1 ∧ (k : Int) < 60) := by omega
      go_wp2_with (go_at_call 16; refine (works_any _).mono ?_; rintro e w' ⟨rfl, hw⟩)
      all_goals (go_returns; exact ⟨rfl, bel_tr hb hw⟩)
end Go.Proofs.Ytmhooolchofgeaa
