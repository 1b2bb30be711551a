/- The walk of JoinPlays. -/
import Derived.Test.YtachhoocdpdifaaF
import Derived.Deep.RegionWith
namespace Go.Proofs.Ytachhoocdpdifaa
open Go Go.RowKit Go.ChangeShapes Go.WideShapes
set_option linter.unusedVariables false
attribute [local go_sem ↓] Go.wp_at_zero Go.wp_at_succ

/-- What a cell holds, whatever it is. -/
def gv (w : World) (b i : Nat) : Value := (w.cell? ⟨b, i, none⟩).getD undef
theorem gv_of {w : World} {b i : Nat} {v : Value} (h : w.cell? ⟨b, i, none⟩ = some v) : w.cell? ⟨b, i, none⟩ = some (gv w b i) := by unfold gv; rw [h]; rfl
theorem gv_eq {w : World} {b i : Nat} {v : Value} (h : w.cell? ⟨b, i, none⟩ = some v) : gv w b i = v := by unfold gv; rw [h]; rfl

set_option maxRecDepth 100000 in
set_option maxHeartbeats 4000000 in
theorem joinPlaysWalk (a0 : Option Addr) (len0 cap0 : Nat)  (x00 : Nat → Int) (x01 : Nat → Int) (x02 : Nat → Bool) (w : World) (s0 : IsSl w a0 len0 3 (fun i => [.int .u8 (x00 i), .int .i64 (x01 i), .bool (x02 i)])) (l0 : len0 ≤ maxLen) (w00 : ∀ i, (Lit.int .u8 (x00 i)).wf = true) (w01 : ∀ i, (Lit.int .i64 (x01 i)).wf = true) :
    Calls Try.prog 5 #[.slice a0 len0 cap0] w fun e w' => e = .returned (.bool true) ∧ Below w.heap.size w w' := by
  unfold maxLen at l0
  go_enter Try.func5, Try.ntmps5
  go_wp2_with (first | (go_at_call 7; refine (new_any _).mono ?_; rintro e w' ⟨rfl, rfl⟩) | (go_at_call 11; refine (refnew_any _).mono ?_; rintro e w2 ⟨rfl, hb0⟩))
  have hG0 := (Bk.new w 47 [.int .i64 0, .int .i64 (-1), .int .i64 0]).call hb0 |>.alloc (.cells #[.int .i64 0, .int .i64 (-1), .int .i64 0] 30)
  have hH0 := Bk.new w2 30 [.int .i64 0, .int .i64 (-1), .int .i64 0]
  have hB0 : Below w.heap.size w w2 := bel_tr (show Below w.heap.size w (w.alloc (.cells #[.int .i64 0, .int .i64 (-1), .int .i64 0] 47)) by go_grown) hb0
  have hB1 := hB0.alloc hB0.size (.cells #[.int .i64 0, .int .i64 (-1), .int .i64 0] 30)
  have zz : w.heap.size < w2.heap.size := by have := hb0.size; simp at this; omega
  obtain ⟨wx, ex⟩ : ∃ wx, w2.alloc (.cells #[.int .i64 0, .int .i64 (-1), .int .i64 0] 30) = wx := ⟨_, rfl⟩
  obtain ⟨h, hh⟩ : ∃ h, w2.heap.size = h := ⟨_, rfl⟩
  obtain ⟨g, hg⟩ : ∃ g, w.heap.size = g := ⟨_, rfl⟩
  change Bk (w2.alloc (.cells #[.int .i64 0, .int .i64 (-1), .int .i64 0] 30)) _ _ _ at hH0
  rw [ex] at hG0 hH0 hB1
  rw [hh] at hH0
  rw [hg] at hG0
  rw [ex, hh, hg]
  have hgB : w.heap.size ≤ g := by omega
  have hhB : w.heap.size ≤ h := by omega
  have hhg : h ≠ g := by omega
  have hgh : g ≠ h := by omega
  clear ex hh hg zz hb0 hB0
  go_loopw [6] (fun i wr => ∃ (k : Nat) (j : J), k ≤ len0 ∧ k ≤ 60 ∧ j.ok ∧ i = .int .i64 k ∧ Bk wr g 47 j.cells ∧ Bk wr h 30 j.cells ∧ Below w.heap.size w wr)
    (fun i _ => len0 - (intOf i).toNat)
  case atStart =>
    exact ⟨0, ⟨0, -1, 0⟩, by omega, by omega, ⟨by simp, by simp⟩, rfl, hG0, hH0, hB1⟩
  case round =>
    clear hG0 hH0 hB1
    obtain ⟨k, j, hk, hk2, hj, rfl, hQ, hH, hb⟩ := hrel
    by_cases hlt : k < len0 ∧ k < 60
    · obtain ⟨hl2, hl3⟩ := hlt
      obtain ⟨b, off, rfl, hbb, hc⟩ := s0 (by omega)
      have hx := bd_u8 (w00 k)
      have q0 : w.cell? ⟨b, off + k * 3, none⟩ = some (.int .u8 (x00 k)) := (by simpa using hc k hl2 0 _ rfl)
      have q1 : w.cell? ⟨b, off + k * 3 + 1, none⟩ = some (.int .i64 (x01 k)) := (by simpa [Nat.add_assoc] using hc k hl2 1 _ rfl)
      have q2 : w.cell? ⟨b, off + k * 3 + 2, none⟩ = some (.bool (x02 k)) := (by simpa [Nat.add_assoc] using hc k hl2 2 _ rfl)
      clear hc
      generalize x00 k = kk at *
      generalize x01 k = no at *
      generalize x02 k = has at *
      have hbh : b ≠ h := by omega
      have hD : ∀ wz, Below w.heap.size w wz → wz.cell? ⟨b, off + k * 3, none⟩ = some (.int .u8 kk) ∧ wz.cell? ⟨b, off + k * 3 + 1, none⟩ = some (.int .i64 no) ∧ wz.cell? ⟨b, off + k * 3 + 2, none⟩ = some (.bool has) := fun wz hz =>
        ⟨(hz.cell (p := ⟨b, off + k * 3, none⟩) hbb).trans q0, (hz.cell (p := ⟨b, off + k * 3 + 1, none⟩) hbb).trans q1, (hz.cell (p := ⟨b, off + k * 3 + 2, none⟩) hbb).trans q2⟩
      have hD' := hid hD
      clear hD q0 q1 q2
      have hj' := hid hj
      have M1 := hid (fun wz hz => one_any g j j kk no has wz hj hj hx hz)
      have hjn := act_ok kk no has hj
      obtain ⟨j', ej⟩ : ∃ j', (act j kk no has).1 = j' := ⟨_, rfl⟩
      rw [ej, show ((act j kk no has).2 == (act j kk no has).2) = true by simp] at M1
      rw [ej] at hjn
      clear ej hj
      obtain ⟨p0, p1, p2⟩ := hD'.out wr hb
      have kk0 : (0 : Int) ≤ k := by omega
      have kk1 : (k : Int) < len0 := by omega
      have c0 : wr.cell? ⟨h, 0, none⟩ = some (.int .i64 j.s) := hH.cell rfl
      have c1 : wr.cell? ⟨h, 1, none⟩ = some (.int .i64 j.f) := hH.cell rfl
      have c2 : wr.cell? ⟨h, 2, none⟩ = some (.int .i64 j.c) := hH.cell rfl
      go_upto_region 6 with fail
      go_cut [5] (fun v wx => v = .bool true ∧ Bk wx g 47 j'.cells ∧ Bk wx h 30 j'.cells ∧ Below w.heap.size w wx)
      case first =>
        go_region_with ((go_at_call 10; refine (M1.out _ ?_).mono ?_; exact hQ.drew; rintro e w3 ⟨rfl, hQ3, hS3⟩; have hH3 := hS3.bk hhg hH.drew; have hb3 := hS3.bel hQ.drew.lt hgB hb.drew; have d0 := hH3.cell (i := 0) rfl; have d1 := hH3.cell (i := 1) rfl; have d2 := hH3.cell (i := 2) rfl; have f0 := hH3.free 0; have f1 := hH3.free 1; have f2 := hH3.free 2))
        all_goals (go_wp2; go_meet; exact ⟨rfl, ((hQ3.far (p := ⟨h, 0, none⟩) hgh (.int .i64 j'.s)).far (p := ⟨h, 1, none⟩) hgh (.int .i64 j'.f)).far (p := ⟨h, 2, none⟩) hgh (.int .i64 j'.c), ((hH3.s0 (a := .int .i64 j'.s)).s1 (a := .int .i64 j'.f)).s2 (a := .int .i64 j'.c), ((hb3.setCell (p := ⟨h, 0, none⟩) hhB _).setCell (p := ⟨h, 1, none⟩) hhB _).setCell (p := ⟨h, 2, none⟩) hhB _⟩)
      case rest =>
        obtain ⟨rfl, hQ', hH', hb'⟩ := hcut
        clear hQ hH hb p0 p1 p2 c0 c1 c2 M1
        obtain ⟨s, f, c⟩ := j'
        have hs := hjn.1
        have hf := hjn.2
        have hjn' := hid hjn
        clear hjn
        simp only at hs hf
        simp only [J.cells] at hQ' hH'
        have M4 := hid (fun wz hz => attends_any g s f c no wz hs hf hz)
        have M5 := hid (fun wz => refattends_any s f c no wz hs)
        have M3 : Hid (∀ wz, Bk wz g 47 [.int .i64 s, .int .i64 f, .int .i64 c] → Calls Try.prog 15 #[.pointer (some ⟨g, 0, none⟩)] wz fun r w' => r = .returned (.bool (s == 2)) ∧ wz = w') := hid (fun wz hz => sends_any g s f c wz hs hz)
        have F3 : ((s == 2) != (s == 2)) = false := by simp
        have h0' : wc.cell? ⟨h, 0, none⟩ = some (.int .i64 s) := hH'.cell rfl
        obtain ⟨L, hL⟩ : ∃ L : List (Nat × TypeId × List Value), L = [(g, 47, [.int .i64 s, .int .i64 f, .int .i64 c]), (h, 30, [.int .i64 s, .int .i64 f, .int .i64 c])] := ⟨_, rfl⟩
        have hk' : Kb w L wc := by
          subst hL
          exact ⟨List.forall_mem_cons.2 ⟨hQ', List.forall_mem_cons.2 ⟨hH', fun _ hh => nomatch hh⟩⟩, hb'⟩
        have y0 := KW.cell (w := w) (l := L) h 30 [.int .i64 s, .int .i64 f, .int .i64 c] 0 (by simp [hL]) rfl
        have y1 := KW.cell (w := w) (l := L) h 30 [.int .i64 s, .int .i64 f, .int .i64 c] 1 (by simp [hL]) rfl
        have y2 := KW.cell (w := w) (l := L) h 30 [.int .i64 s, .int .i64 f, .int .i64 c] 2 (by simp [hL]) rfl
        have y3 : ∀ x : KW w L, x.1.cell? ⟨b, off + k * 3 + 1, none⟩ = some (.int .i64 no) := fun x => (hD'.out _ x.bel).2.1
        have yG := hid (show ∀ x : KW w L, Bk x.1 g 47 [.int .i64 s, .int .i64 f, .int .i64 c] from fun x => x.bk (by simp [hL]))
        have yH := hid (show ∀ x : KW w L, Bk x.1 h 30 [.int .i64 s, .int .i64 f, .int .i64 c] from fun x => x.bk (by simp [hL]))
        clear hL
        have hk2' := hid hk'
        have hne : Nonempty (KW w L) := ⟨⟨_, hk'⟩⟩
        clear hk'
        by_cases h2 : 2 ≤ s
        · have em : memb s = true := decide_eq_true h2
          have M1 := fun wz hz => since_any g s f c wz hs hz
          have M2 := fun wz hz => member_any g s f c wz hs hz
          simp only [em, if_pos h2] at M1 M2
          have M1 := hid M1
          have M2 := hid M2
          have F2 : decide (1 < s) = true := decide_eq_true (by omega)
          clear em
          go_wp2_with fail
          go_at_call 16
          refine (M1.out _ hQ').mono ?_
          rintro e w' ⟨rfl, rfl⟩
          go_wp2_with fail
          refine quiet_in L hk2'.out (by kernel_rfl) (by kernel_rfl) ?_
          repeat (any_goals (first | go_big_quiet_step ((first | (go_at_call 17; exact quiet_same (state_any g s f c _ (yG.out _))) | (go_at_call 8; exact quiet_same (M2.out _ (yG.out _))) | (go_at_call 15; exact quiet_same (M3.out _ (yG.out _))) | (go_at_call 9; exact quiet_same (M4.out _ (yG.out _))) | (go_at_call 18; exact quiet_lays (M5.out _)))) | quiet_step ((first | (go_at_call 17; exact quiet_same (state_any g s f c _ (yG.out _))) | (go_at_call 8; exact quiet_same (M2.out _ (yG.out _))) | (go_at_call 15; exact quiet_same (M3.out _ (yG.out _))) | (go_at_call 9; exact quiet_same (M4.out _ (yG.out _))) | (go_at_call 18; exact quiet_lays (M5.out _))))))
          refine wpQuiet_nil ?_
          intro _ hw'
          obtain ⟨x, rfl⟩ := hw'
          go_wp2_with fail
          go_roundw
          case rel => exact ⟨k + 1, ⟨s, f, c⟩, by omega, by omega, hjn'.out, by go_num, yG.out x, yH.out x, x.bel⟩
          case measure => simp [intOf]; omega
        · have em : memb s = false := decide_eq_false h2
          have M1 := fun wz hz => since_any g s f c wz hs hz
          have M2 := fun wz hz => member_any g s f c wz hs hz
          simp only [em, if_neg h2] at M1 M2
          have M1 := hid M1
          have M2 := hid M2
          have F2 : decide (1 < s) = false := decide_eq_false (by omega)
          clear em
          go_wp2_with fail
          go_at_call 16
          refine (M1.out _ hQ').mono ?_
          rintro e w' ⟨rfl, rfl⟩
          go_wp2_with fail
          refine quiet_in L hk2'.out (by kernel_rfl) (by kernel_rfl) ?_
          repeat (any_goals (first | go_big_quiet_step ((first | (go_at_call 17; exact quiet_same (state_any g s f c _ (yG.out _))) | (go_at_call 8; exact quiet_same (M2.out _ (yG.out _))) | (go_at_call 15; exact quiet_same (M3.out _ (yG.out _))) | (go_at_call 9; exact quiet_same (M4.out _ (yG.out _))) | (go_at_call 18; exact quiet_lays (M5.out _)))) | quiet_step ((first | (go_at_call 17; exact quiet_same (state_any g s f c _ (yG.out _))) | (go_at_call 8; exact quiet_same (M2.out _ (yG.out _))) | (go_at_call 15; exact quiet_same (M3.out _ (yG.out _))) | (go_at_call 9; exact quiet_same (M4.out _ (yG.out _))) | (go_at_call 18; exact quiet_lays (M5.out _))))))
          refine wpQuiet_nil ?_
          intro _ hw'
          obtain ⟨x, rfl⟩ := hw'
          go_wp2_with fail
          go_roundw
          case rel => exact ⟨k + 1, ⟨s, f, c⟩, by omega, by omega, hjn'.out, by go_num, yG.out x, yH.out x, x.bel⟩
          case measure => simp [intOf]; omega
    · have hs1 : ¬ (k < len0 ∧ (k : Int) < 60) := by omega
      go_wp2_with (go_at_call 12; refine (works_any _).mono ?_; rintro e w' ⟨rfl, hw⟩)
      all_goals (go_returns; exact ⟨rfl, bel_tr hb hw⟩)
end Go.Proofs.Ytachhoocdpdifaa
