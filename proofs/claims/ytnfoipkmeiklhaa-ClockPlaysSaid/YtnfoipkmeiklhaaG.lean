/- The walk of ClockPlays. -/
import Derived.Test.YtnfoipkmeiklhaaF
import Derived.Deep.DeepCutAuto
import Derived.Deep.CutBlock
namespace Go.Proofs.Ytnfoipkmeiklhaa
open Go Go.RowKit Go.ChangeShapes Go.WideShapes
set_option linter.unusedVariables false
attribute [local go_sem ↓] Go.wp_at_zero Go.wp_at_succ

/-- What holds of a clock all the time: in bounds; cold, it tells nothing; its correction is of a width. -/
def Inv (c : C) : Prop := c.ok ∧ 1 ≤ c.m ∧ (c.ph = 0 → c.at' = 0)
theorem act_cold {c : C} (k x : Int) (hc : c.ok) (h : c.ph = 0 → c.at' = 0) : (act c k x).1.ph = 0 → (act c k x).1.at' = 0 := by
  unfold act boot guess corr tick
  repeat' split
  all_goals (intro h0; (try dsimp only at h0); first | exact h h0 | omega)
/-- A call, of both, that are alike. -/
theorem one_same (g s : Nat) (c : C) (a k x : Int) (w : World) (hc : Inv c) (hk : 0 ≤ k ∧ k ≤ 255) (hG : Bk w g 49 (gc s c a)) (hS : Bk w s 59 (sc c)) :
    Calls Try.prog 10 #[.pointer (some ⟨g, 0, none⟩), .agg (ra c), .int .i64 a, .agg #[.int .u8 k, .int .i64 x]] w fun e w' => ∃ (c' : C) (s' : Nat), e = .returned (.tuple #[.agg (ra c'), .bool true]) ∧ Inv c' ∧ (s' = s ∨ w.heap.size ≤ s') ∧ Bk w' g 49 (gc s' c' a) ∧ Bk w' s' 59 (sc c') ∧ Step2 g s w w' := by
  obtain ⟨h1, h2, h3⟩ := hc
  by_cases hm : k % 8 = 3
  · refine (one3 g s c c a a k x w hk hm hG hS).mono ?_
    rintro e w' ⟨rfl, s', hs', hG', hS', hT'⟩
    have bm := cl_bd a (show (1 : Int) ≤ 256 by omega)
    exact ⟨⟨0, 0, 0, cl a 1 256⟩, s', rfl, ⟨C.mk_ok (by omega) (by omega) (by omega) (by omega) (by omega), bm.1, fun _ => rfl⟩, .inr hs', hG', hS', hT'⟩
  · refine (one_any g s c c a a k x w h1 h1 hk hm hG hS).mono ?_
    rintro e w' ⟨rfl, hG', hS', hT'⟩
    obtain ⟨ho, hme⟩ := act_ok k x h1 h2
    exact ⟨(act c k x).1, s, by simp, ⟨ho, by omega, act_cold k x h1 h3⟩, .inl rfl, hG', hS', hT'⟩

set_option maxRecDepth 100000 in
set_option maxHeartbeats 4000000 in
theorem clockPlaysWalk (a0 : Int) (a1 : Option Addr) (len1 cap1 : Nat) (x10 : Nat → Int) (x11 : Nat → Int) (w : World) (w0 : (Lit.int .i64 a0).wf = true) (s1 : IsSl w a1 len1 2 (fun i => [.int .u8 (x10 i), .int .i64 (x11 i)])) (l1 : len1 ≤ maxLen) (w10 : ∀ i, (Lit.int .u8 (x10 i)).wf = true) (w11 : ∀ i, (Lit.int .i64 (x11 i)).wf = true) :
    Calls Try.prog 5 #[.int .i64 a0, .slice a1 len1 cap1] w fun e w' => e = .returned (.bool true) ∧ Below w.heap.size w w' := by
  unfold maxLen at l1
  have bm := cl_bd a0 (show (1 : Int) ≤ 256 by omega)
  obtain ⟨M, hM⟩ : ∃ M, cl a0 1 256 = M := ⟨_, rfl⟩
  have CN := cnew_bk a0 M w hM
  have RN := fun wz => refcnew_any a0 wz
  rw [hM] at bm
  simp only [hM] at RN
  have CN' := hid CN
  have RN' := hid RN
  clear hM CN RN
  go_enter Try.func5, Try.ntmps5
  go_wp2_with fail
  go_at_call 7
  refine CN'.out.mono ?_
  rintro e wa ⟨rfl, hG, hS, hB⟩
  go_wp2_with fail
  go_at_call 16
  refine (RN'.out _).mono ?_
  rintro e w2 ⟨rfl, hb2⟩
  have hG0 := (hG.call hb2).alloc (.cells #[.int .i64 0, .int .i64 0, .int .i64 0, .int .i64 M] 34)
  have hS0 := (hS.call hb2).alloc (.cells #[.int .i64 0, .int .i64 0, .int .i64 0, .int .i64 M] 34)
  have hH0 := Bk.new w2 34 [.int .i64 0, .int .i64 0, .int .i64 0, .int .i64 M]
  have hB1 := (bel_tr hB hb2).alloc (bel_tr hB hb2).size (.cells #[.int .i64 0, .int .i64 0, .int .i64 0, .int .i64 M] 34)
  have zz := (hG.call hb2).lt
  go_wp2_with fail
  change Bk (w2.alloc (.cells #[.int .i64 0, .int .i64 0, .int .i64 0, .int .i64 M] 34)) _ _ _ at hH0
  generalize w2.alloc (.cells #[.int .i64 0, .int .i64 0, .int .i64 0, .int .i64 M] 34) = wx at *
  obtain ⟨h, hh⟩ : ∃ h, w2.heap.size = h := ⟨_, rfl⟩
  obtain ⟨g, hg⟩ : ∃ g, w.heap.size + 1 = g := ⟨_, rfl⟩
  obtain ⟨s, hs⟩ : ∃ s, w.heap.size = s := ⟨_, rfl⟩
  rw [hh] at hH0
  rw [hg, hs] at hG0
  rw [hs] at hS0
  rw [hh, hg]
  have hgB : w.heap.size ≤ g := by omega
  have hsB : w.heap.size ≤ s := by omega
  have hhB : w.heap.size ≤ h := by omega
  have hhg : h ≠ g := by omega
  have hgh : g ≠ h := by omega
  clear hh hg hs hb2 hG hS hB zz
  go_loopw [8] (fun i wr => ∃ (k : Nat) (c : C) (s : Nat), k ≤ len1 ∧ k ≤ 60 ∧ Inv c ∧ w.heap.size ≤ s ∧ i = .int .i64 k ∧ Bk wr g 49 (gc s c a0) ∧ Bk wr s 59 (sc c) ∧ Bk wr h 34 (rc c) ∧ Below w.heap.size w wr)
    (fun i _ => len1 - (intOf i).toNat)
  case atStart =>
    exact ⟨0, ⟨0, 0, 0, M⟩, s, by omega, by omega, ⟨C.mk_ok (by omega) (by omega) (by omega) (by omega) (by omega), bm.1, fun _ => rfl⟩, hsB, rfl, hG0, hS0, hH0, hB1⟩
  case round =>
    clear hG0 hS0 hH0 hB1 hsB
    clear s
    obtain ⟨k, c, s, hk, hk2, hc, hsB, rfl, hQ, hS, hH, hb⟩ := hrel
    by_cases hlt : k < len1 ∧ k < 60
    · obtain ⟨hl2, hl3⟩ := hlt
      obtain ⟨b, off, rfl, hbb, hcc⟩ := s1 (by omega)
      have hx := bd_u8 (w10 k)
      have q0 : w.cell? ⟨b, off + k * 2, none⟩ = some (.int .u8 (x10 k)) := (by simpa using hcc k hl2 0 _ rfl)
      have q1 : w.cell? ⟨b, off + k * 2 + 1, none⟩ = some (.int .i64 (x11 k)) := (by simpa [Nat.add_assoc] using hcc k hl2 1 _ rfl)
      clear hcc
      generalize x10 k = kk at *
      generalize x11 k = x at *
      have p0 : wr.cell? ⟨b, off + k * 2, none⟩ = some (.int .u8 kk) := (hb.cell (p := ⟨b, off + k * 2, none⟩) hbb).trans q0
      have p1 : wr.cell? ⟨b, off + k * 2 + 1, none⟩ = some (.int .i64 x) := (hb.cell (p := ⟨b, off + k * 2 + 1, none⟩) hbb).trans q1
      clear q0 q1
      have M1 := hid (fun wz hz hz2 => one_same g s c a0 kk x wz hc hx hz hz2)
      have hhs : h ≠ s := hH.ne_ hS (by decide)
      have kk0 : (0 : Int) ≤ k := by omega
      have kk1 : (k : Int) < len1 := by omega
      have c0 : wr.cell? ⟨h, 0, none⟩ = some (.int .i64 c.ph) := hH.cell rfl
      have c1 : wr.cell? ⟨h, 1, none⟩ = some (.int .i64 c.at') := hH.cell rfl
      have c2 : wr.cell? ⟨h, 2, none⟩ = some (.int .i64 c.l) := hH.cell rfl
      have c3 : wr.cell? ⟨h, 3, none⟩ = some (.int .i64 c.m) := hH.cell rfl
      have hc' := hid hc
      clear hc
      go_upto_region 6 with fail
      go_cut [7] (fun v wx => v = .bool true ∧ ∃ (c' : C) (s' : Nat), Inv c' ∧ w.heap.size ≤ s' ∧ Bk wx g 49 (gc s' c' a0) ∧ Bk wx s' 59 (sc c') ∧ Bk wx h 34 (rc c') ∧ Below w.heap.size w wx)
      case first =>
        go_region_with ((go_at_call 10; refine (M1.out _ ?_ ?_).mono ?_; exact hQ.drew; exact hS.drew; rintro e w3 ⟨c', s', rfl, hI, hs', hQ3, hS3, hT3⟩; have hH3 := hT3.bk hhg hhs hH.drew; have hb3 := hT3.bel hQ.drew.lt hgB hsB hb.drew; have d0 := hH3.cell (i := 0) rfl; have d1 := hH3.cell (i := 1) rfl; have d2 := hH3.cell (i := 2) rfl; have d3 := hH3.cell (i := 3) rfl; have f0 := hH3.free 0; have f1 := hH3.free 1; have f2 := hH3.free 2; have f3 := hH3.free 3))
        all_goals
          have hsh : s' ≠ h := hS3.ne_ hH3 (by decide)
          have hsB' : w.heap.size ≤ s' := by
            rcases hs' with e | e
            · omega
            · exact Nat.le_trans hb.size e
          go_wp2
          go_meet
          exact ⟨rfl, c', s', hI, hsB', (((hQ3.far (p := ⟨h, 0, none⟩) hgh (.int .i64 c'.ph)).far (p := ⟨h, 1, none⟩) hgh (.int .i64 c'.at')).far (p := ⟨h, 2, none⟩) hgh (.int .i64 c'.l)).far (p := ⟨h, 3, none⟩) hgh (.int .i64 c'.m),
            (((hS3.far (p := ⟨h, 0, none⟩) hsh (.int .i64 c'.ph)).far (p := ⟨h, 1, none⟩) hsh (.int .i64 c'.at')).far (p := ⟨h, 2, none⟩) hsh (.int .i64 c'.l)).far (p := ⟨h, 3, none⟩) hsh (.int .i64 c'.m),
            (((hH3.s0 (a := .int .i64 c'.ph)).s1 (a := .int .i64 c'.at')).s2 (a := .int .i64 c'.l)).s3 (a := .int .i64 c'.m),
            (((hb3.setCell (p := ⟨h, 0, none⟩) hhB _).setCell (p := ⟨h, 1, none⟩) hhB _).setCell (p := ⟨h, 2, none⟩) hhB _).setCell (p := ⟨h, 3, none⟩) hhB _⟩
      case rest =>
        obtain ⟨rfl, c', s', hI, hsB', hQ', hS', hH', hb'⟩ := hcut
        clear hQ hS hH hb p0 p1 c0 c1 c2 c3 M1
        have hI' := hid hI
        have hnow : now c' = c'.at' := by
          unfold now; split
          · rename_i h0; exact (hI.2.2 h0).symm
          · rfl
        have M2 := hid (fun wz hz => now_at g s' c' a0 c'.at' (decide (0 < c'.ph)) wz hI.1 hz hnow rfl)
        have M3 := hid (fun wz hz => phase_any g s' c' a0 wz hz)
        have M4 := hid (fun wz hz hz2 => cleft_any g s' c' a0 wz hz hz2)
        have F3 : (decide (0 < c'.ph) != decide (0 < c'.ph)) = false := by simp
        clear hI hnow
        obtain ⟨L, hL⟩ : ∃ L : List (Nat × TypeId × List Value), L = [(g, 49, gc s' c' a0), (s', 59, sc c'), (h, 34, rc c')] := ⟨_, rfl⟩
        have hk' : Kb w L wc := by
          subst hL
          exact ⟨List.forall_mem_cons.2 ⟨hQ', List.forall_mem_cons.2 ⟨hS', List.forall_mem_cons.2 ⟨hH', fun _ hh => nomatch hh⟩⟩⟩, hb'⟩
        have y0 := KW.cell (w := w) (l := L) h 34 (rc c') 0 (by simp [hL]) rfl
        have y1 := KW.cell (w := w) (l := L) h 34 (rc c') 1 (by simp [hL]) rfl
        have y2 := KW.cell (w := w) (l := L) h 34 (rc c') 2 (by simp [hL]) rfl
        have y3 := KW.cell (w := w) (l := L) h 34 (rc c') 3 (by simp [hL]) rfl
        have yG := hid (show ∀ x : KW w L, Bk x.1 g 49 (gc s' c' a0) from fun x => x.bk (by simp [hL]))
        have yS := hid (show ∀ x : KW w L, Bk x.1 s' 59 (sc c') from fun x => x.bk (by simp [hL]))
        have yH := hid (show ∀ x : KW w L, Bk x.1 h 34 (rc c') from fun x => x.bk (by simp [hL]))
        clear hL
        have hk2' := hid hk'
        have hne : Nonempty (KW w L) := ⟨⟨_, hk'⟩⟩
        clear hk'
        go_wp2_with fail
        go_at_call 9
        refine (M2.out _ hQ').mono ?_
        rintro e w' ⟨rfl, rfl⟩
        go_wp2_with fail
        refine quiet_in L hk2'.out (by kernel_rfl) (by kernel_rfl) ?_
        repeat (any_goals (first | go_big_quiet_step ((first | (go_at_call 11; exact quiet_same (M3.out _ (yG.out _))) | (go_at_call 15; exact quiet_same (M4.out _ (yG.out _) (yS.out _))))) | quiet_step ((first | (go_at_call 11; exact quiet_same (M3.out _ (yG.out _))) | (go_at_call 15; exact quiet_same (M4.out _ (yG.out _) (yS.out _)))))))
        refine wpQuiet_nil ?_
        intro _ hw'
        obtain ⟨y, rfl⟩ := hw'
        go_wp2_with fail
        go_roundw
        case rel => exact ⟨k + 1, c', s', by omega, by omega, hI'.out, hsB', by go_num, yG.out y, yS.out y, yH.out y, y.bel⟩
        case measure => simp [intOf]; omega
    · have hs1 : ¬ (k < len1 ∧ (k : Int) < 60) := by omega
      go_wp2_with (go_at_call 12; refine (works_any _).mono ?_; rintro e w' ⟨rfl, hw⟩)
      all_goals (go_returns; exact ⟨rfl, bel_tr hb hw⟩)
end Go.Proofs.Ytnfoipkmeiklhaa
