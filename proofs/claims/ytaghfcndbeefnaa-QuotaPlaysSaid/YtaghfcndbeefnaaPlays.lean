/- The walk of the law QuotaPlays. -/
import Derived.Test.YtaghfcndbeefnaaA
import Derived.Test.YtaghfcndbeefnaaStep
import Derived.Deep.DeepCutAuto
import Derived.Deep.CutBlock
namespace Go.Proofs.Ytaghfcndbeefnaa
open Go Go.RowKit Go.ChangeShapes Go.WideShapes
set_option linter.unusedVariables false

theorem ask_lt {m b n N R : Int} (h : ask m b n N R = 0) : n < m := by
  unfold ask at h; (repeat' split at h) <;> omega

theorem refdone_ex (m b n N : Int) (w : World) (h0 : 0 ≤ n) (h1 : n ≤ 65536) :
    Calls Try.prog 15 #[.agg #[.int .i64 m, .int .i64 b, .int .i64 n], .int .i64 N] w fun r w' => r = .returned (.tuple #[.agg #[.int .i64 m, .int .i64 b, .int .i64 (n - cl N 0 n)], .int .i64 (cl N 0 n)]) ∧
      (w.alloc (.cells #[.int .i64 m, .int .i64 b, .int .i64 n] 33)).alloc (.cells #[.int .i64 m, .int .i64 b, .int .i64 (n - cl N 0 n)] 33) = w' := by
  have hb := cl_bd N h0
  go_enter Try.func15, Try.ntmps15
  go_wp2_with (go_at_call 17; refine (within_any _ _ _ (by omega)).mono ?_; rintro e w' ⟨rfl, rfl⟩)
  exact bodyPost_ret (v := .tuple #[.agg #[.int .i64 m, .int .i64 b, .int .i64 (n - cl N 0 n)], .int .i64 (cl N 0 n)]) (by simp [results, Try.results15, go_sem]) rfl ⟨rfl, rfl⟩

theorem refdone_bel (m b n N : Int) (w : World) (h0 : 0 ≤ n) (h1 : n ≤ 65536) :
    Calls Try.prog 15 #[.agg #[.int .i64 m, .int .i64 b, .int .i64 n], .int .i64 N] w fun r w' => r = .returned (.tuple #[.agg #[.int .i64 m, .int .i64 b, .int .i64 (n - cl N 0 n)], .int .i64 (cl N 0 n)]) ∧ Below w.heap.size w w' :=
  (refdone_ex m b n N w h0 h1).mono fun _ _ hh => ⟨hh.1, hh.2 ▸ (((Below.refl _ _).alloc (Nat.le_refl _) _).alloc (by simp) _)⟩

theorem takeB (g : Nat) (m b n N R : Int) (w : World) (hQ : Bk w g 43 [.int .i64 m, .int .i64 b, .int .i64 n]) (h0 : 0 ≤ n) (h1 : n ≤ 65536) (h : ask m b n N R = 0) :
    Calls Try.prog 7 #[.pointer (some ⟨g, 0, none⟩), .int .i64 N, .int .i64 R] w fun r w' => r = .returned (.int .i64 0) ∧ ∃ k, w' = (w.setCell ⟨g, 2, none⟩ (.int .i64 (n + 1))).drewN k :=
  take_ok g m b n N R w (hQ.cell rfl) (hQ.cell rfl) (hQ.cell rfl) (hQ.free _) h0 h1 h
theorem refask_bel (m b n N R : Int) (w : World) (h0 : n ≤ m) :
    Calls Try.prog 13 #[.agg #[.int .i64 m, .int .i64 b, .int .i64 n], .int .i64 N, .int .i64 R] w fun r w' => r = .returned (.int .i64 (ask m b n N R)) ∧ Below w.heap.size w w' :=
  (refask_any m b n N R w h0).mono fun _ _ hh => ⟨hh.1, hh.2 ▸ (Below.refl _ _).alloc (Nat.le_refl _) _⟩
theorem takeX (g : Nat) (m b n N R : Int) (w : World) (hQ : Bk w g 43 [.int .i64 m, .int .i64 b, .int .i64 n]) (h0 : 0 ≤ n) (h1 : n ≤ 65536) (h : ask m b n N R = 0) :
    Calls Try.prog 7 #[.pointer (some ⟨g, 0, none⟩), .int .i64 N, .int .i64 R] w fun r w' => r = .returned (.int .i64 0) ∧ Bk w' g 43 [.int .i64 m, .int .i64 b, .int .i64 (n + 1)] ∧ (∀ p t cs, p ≠ g → Bk w p t cs → Bk w' p t cs) ∧ ∀ B w0, B ≤ g → Below B w0 w → Below B w0 w' :=
  (takeB g m b n N R w hQ h0 h1 h).mono fun _ _ ⟨e, k, hk⟩ => ⟨e, hk ▸ hQ.s2.drewN k, fun p t cs hp hb => hk ▸ (hb.far hp _).drewN k, fun B w0 hB hb => hk ▸ bel_drewN (hb.setCell hB _) k⟩
theorem takeN (g : Nat) (m b n N R : Int) (w : World) (hQ : Bk w g 43 [.int .i64 m, .int .i64 b, .int .i64 n]) (h : (ask m b n N R == 0) = false) :
    Calls Try.prog 7 #[.pointer (some ⟨g, 0, none⟩), .int .i64 N, .int .i64 R] w fun r w' => r = .returned (.int .i64 (ask m b n N R)) ∧ ∃ k, w' = w.drewN k :=
  take_no g m b n N R w (hQ.cell rfl) (hQ.cell rfl) (hQ.cell rfl) h
theorem doneB (g : Nat) (m b n N : Int) (w : World) (hQ : Bk w g 43 [.int .i64 m, .int .i64 b, .int .i64 n]) (h0 : 0 ≤ n) (h1 : n ≤ 65536) :
    Calls Try.prog 9 #[.pointer (some ⟨g, 0, none⟩), .int .i64 N] w fun r w' => r = .returned (.int .i64 (cl N 0 n)) ∧ w.setCell ⟨g, 2, none⟩ (.int .i64 (n - cl N 0 n)) = w' :=
  done_any g n N w (hQ.cell rfl) (hQ.free _) h0 h1
theorem doneS (g : Nat) (m b n N : Int) (w : World) (hQ : Bk w g 43 [.int .i64 m, .int .i64 b, .int .i64 n]) (h0 : 0 ≤ n) (h1 : n ≤ 65536) :
    Calls Try.prog 9 #[.pointer (some ⟨g, 0, none⟩), .int .i64 N] w fun r w' => r = .returned (.int .i64 (cl N 0 n)) ∧ Bk w' g 43 [.int .i64 m, .int .i64 b, .int .i64 (n - cl N 0 n)] ∧ Step g w w' :=
  (doneB g m b n N w hQ h0 h1).mono fun _ _ hh => ⟨hh.1, hh.2 ▸ hQ.s2, hh.2 ▸ (Step.refl _ _).setCell _ _⟩
theorem resetB (g : Nat) (m b n : Int) (w : World) (hQ : Bk w g 43 [.int .i64 m, .int .i64 b, .int .i64 n]) :
    Calls Try.prog 16 #[.pointer (some ⟨g, 0, none⟩)] w fun r w' => r = .returned (.tuple #[]) ∧ w.setCell ⟨g, 2, none⟩ (.int .i64 0) = w' :=
  reset_any g n w (hQ.cell rfl) (hQ.free _)

set_option maxRecDepth 100000 in
set_option maxHeartbeats 20000000 in
theorem quotaPlaysWalk (a0 : Int) (a1 : Int) (a2 : Option Addr) (len2 cap2 : Nat)  (x20 : Nat → Int) (x21 : Nat → Int) (x22 : Nat → Int) (w : World) (w0 : (Lit.int .i64 a0).wf = true) (w1 : (Lit.int .i64 a1).wf = true) (s2 : IsSl w a2 len2 3 (fun i => [.int .u8 (x20 i), .int .i64 (x21 i), .int .i64 (x22 i)])) (l2 : len2 ≤ maxLen) (w20 : ∀ i, (Lit.int .u8 (x20 i)).wf = true) (w21 : ∀ i, (Lit.int .i64 (x21 i)).wf = true) (w22 : ∀ i, (Lit.int .i64 (x22 i)).wf = true) :
    Calls Try.prog 4 #[.int .i64 a0, .int .i64 a1, .slice a2 len2 cap2] w fun e w' => e = .returned (.bool true) ∧ Below w.heap.size w w' := by
  unfold maxLen at l2
  have bm := cl_bd a0 (show (0 : Int) ≤ 65536 by omega)
  have bb := cl_bd a1 (show (0 : Int) ≤ 1024 by omega)
  go_enter Try.func4, Try.ntmps4
  go_wp2_with (first | (go_at_call 6; refine (new_any _ _ _).mono ?_; rintro e w1 ⟨rfl, rfl⟩) | (go_at_call 12; refine (refnew_any _ _ _).mono ?_; rintro e w1 ⟨rfl, rfl⟩))
  obtain ⟨h, hh⟩ : ∃ h, h = w.heap.size + 1 + 1 := ⟨_, rfl⟩
  rw [← hh]
  obtain ⟨g, hg⟩ : ∃ g, g = w.heap.size := ⟨_, rfl⟩
  rw [← hg]
  have hgB : w.heap.size ≤ g := by omega
  have hgh : g ≠ h := by omega
  have hhg : h ≠ g := by omega
  have hhB : w.heap.size ≤ h := by omega
  have hg' := hid hg
  have hh' := hid hh
  clear hg hh
  go_loopw [9] (fun i wr => ∃ (k : Nat) (n : Int), k ≤ len2 ∧ k ≤ 60 ∧ 0 ≤ n ∧ n ≤ (cl a0 0 65536) ∧ i = .int .i64 k ∧
      Bk wr g 43 [.int .i64 (cl a0 0 65536), .int .i64 (cl a1 0 1024), .int .i64 n] ∧ Bk wr h 33 [.int .i64 (cl a0 0 65536), .int .i64 (cl a1 0 1024), .int .i64 n] ∧ Below w.heap.size w wr)
    (fun i _ => len2 - (intOf i).toNat)
  case atStart =>
    have hg := hg'.out
    have hh := hh'.out
    subst hh; subst hg
    exact ⟨0, 0, by omega, by omega, by omega, by omega, rfl, ((Bk.new w 43 _).alloc _).alloc _, by simpa using Bk.new ((w.alloc _).alloc _) 33 [.int .i64 (cl a0 0 65536), .int .i64 (cl a1 0 1024), .int .i64 0], by go_grown⟩
  case round =>
    obtain ⟨k, n, hk, hk2, hn0, hn1, rfl, hQ, hH, hb⟩ := hrel
    have z0 := hQ.lt
    have z1 := hH.lt
    by_cases hlt : k < len2 ∧ k < 60
    · obtain ⟨hl1, hl2⟩ := hlt
      obtain ⟨b, off, rfl, hbb, hc⟩ := s2 (by omega)
      have hx := bd_u8 (w20 k)
      have q0 : wr.cell? ⟨b, off + k * 3, none⟩ = some (.int .u8 (x20 k)) := (hb.cell (p := ⟨b, off + k * 3, none⟩) hbb).trans (by simpa using hc k hl1 0 _ rfl)
      have q1 : wr.cell? ⟨b, off + k * 3 + 1, none⟩ = some (.int .i64 (x21 k)) := (hb.cell (p := ⟨b, off + k * 3 + 1, none⟩) hbb).trans (by simpa [Nat.add_assoc] using hc k hl1 1 _ rfl)
      have q2 : wr.cell? ⟨b, off + k * 3 + 2, none⟩ = some (.int .i64 (x22 k)) := (hb.cell (p := ⟨b, off + k * 3 + 2, none⟩) hbb).trans (by simpa [Nat.add_assoc] using hc k hl1 2 _ rfl)
      clear hc
      go_upto_block 2 with fail
      go_cut [9] (fun i wx => i = .int .i64 k ∧ ∃ n : Int, 0 ≤ n ∧ n ≤ (cl a0 0 65536) ∧ Bk wx g 43 [.int .i64 (cl a0 0 65536), .int .i64 (cl a1 0 1024), .int .i64 n] ∧ Bk wx h 33 [.int .i64 (cl a0 0 65536), .int .i64 (cl a1 0 1024), .int .i64 n] ∧ Below w.heap.size w wx)
      case first =>
        have d0 : wr.cell? ⟨h, 0, none⟩ = some (.int .i64 (cl a0 0 65536)) := hH.cell rfl
        have d1 : wr.cell? ⟨h, 1, none⟩ = some (.int .i64 (cl a1 0 1024)) := hH.cell rfl
        have d2 : wr.cell? ⟨h, 2, none⟩ = some (.int .i64 n) := hH.cell rfl
        have p0 := hH.free 0
        have p1 := hH.free 1
        have p2 := hH.free 2
        have r1 : ¬ h = wr.heap.size := by omega
        have r3 : ¬ wr.heap.size = h := by omega
        rcases (show x20 k % 5 = 0 ∨ x20 k % 5 = 1 ∨ x20 k % 5 = 2 ∨ x20 k % 5 = 3 ∨ x20 k % 5 = 4 by omega) with hm | hm | hm | hm | hm
        · -- kind 0
          have t0 : (x20 k % 5 == 0) = true := by simp [hm]
          clear hm
          go_wp2_with fail
          go_at_call 13
          refine (refask_bel (cl a0 0 65536) (cl a1 0 1024) n _ _ _ (by omega)).mono ?_
          rintro e w1 ⟨rfl, hb1⟩
          have hQ1 := (hQ.alloc (.cells #[.int .u8 (x20 k), .int .i64 (x21 k), .int .i64 (x22 k)] 36)).call hb1
          have hH1 := (hH.alloc (.cells #[.int .u8 (x20 k), .int .i64 (x21 k), .int .i64 (x22 k)] 36)).call hb1
          have hC1 := (Bk.new wr 36 [.int .u8 (x20 k), .int .i64 (x21 k), .int .i64 (x22 k)]).call hb1
          have hB1 : Below w.heap.size w w1 := bel_tr (hb.alloc hb.size (.cells #[.int .u8 (x20 k), .int .i64 (x21 k), .int .i64 (x22 k)] 36)) (hb1)
          clear hQ hH hb q0 q1 q2 d0 d1 d2 p0 p1 p2
          obtain ⟨c, hc⟩ : ∃ c, c = wr.heap.size := ⟨_, rfl⟩
          rw [← hc] at hC1 r1 r3
          rw [← hc]
          have hc' := hid hc
          clear hc hb1
          have d3 : w1.cell? ⟨c, 1, none⟩ = some (.int .i64 (x21 k)) := hC1.cell rfl
          have d4 : w1.cell? ⟨c, 2, none⟩ = some (.int .i64 (x22 k)) := hC1.cell rfl
          by_cases ha : ask (cl a0 0 65536) (cl a1 0 1024) n (x21 k) (x22 k) = 0
          · have hd : (ask (cl a0 0 65536) (cl a1 0 1024) n (x21 k) (x22 k) == 0) = true := by simpa using ha
            have hs : IntKind.i64.wrap (n + 1) = n + 1 := IntWalk.i64_in _ (by omega)
            have hnm : n < (cl a0 0 65536) := ask_lt ha
            have ha' := hid ha
            clear ha
            go_wp2_with fail
            go_at_call 7
            refine (takeX g (cl a0 0 65536) (cl a1 0 1024) n _ _ _ hQ1 (by omega) (by omega) ha'.out).mono ?_
            rintro e w2 ⟨rfl, hQ2, hk2', hB2⟩
            have hH2 := hk2' h _ _ hhg hH1
            have hWW := hB2 _ _ hgB hB1
            have d2 : w2.cell? ⟨h, 2, none⟩ = some (.int .i64 n) := hH2.cell rfl
            have p2 := hH2.free 2
            clear hQ1 hH1 hC1 hB1 hB2 hk2' d3 d4
            go_wp2_with fail
            have hc := hc'.out
            subst hc
            all_goals (go_meet; exact ⟨rfl, n + 1, by omega, by omega, hQ2.far (by exact hgh) _, hH2.s2, hWW.setCell hhB _⟩)
          · have hd : (ask (cl a0 0 65536) (cl a1 0 1024) n (x21 k) (x22 k) == 0) = false := by simpa using ha
            clear ha
            go_wp2_with fail
            go_at_call 7
            refine (takeN g (cl a0 0 65536) (cl a1 0 1024) n _ _ _ hQ1 hd).mono ?_
            rintro e w2 ⟨rfl, q, rfl⟩
            clear d3 d4
            go_wp2_with fail
            have hc := hc'.out
            subst hc
            all_goals (go_meet; exact ⟨rfl, n, by omega, by omega, hQ1.drewN _, hH1.drewN _, bel_drewN hB1 _⟩)
        · -- kind 1
          have t0 : (x20 k % 5 == 0) = false := by simp [hm]
          have t1 : (x20 k % 5 == 1) = true := by simp [hm]
          clear hm
          go_wp2_with fail
          go_at_call 13
          refine (refask_bel (cl a0 0 65536) (cl a1 0 1024) n _ _ _ (by omega)).mono ?_
          rintro e w1 ⟨rfl, hb1⟩
          have hQ1 := (hQ.alloc (.cells #[.int .u8 (x20 k), .int .i64 (x21 k), .int .i64 (x22 k)] 36)).call hb1
          have hH1 := (hH.alloc (.cells #[.int .u8 (x20 k), .int .i64 (x21 k), .int .i64 (x22 k)] 36)).call hb1
          have hC1 := (Bk.new wr 36 [.int .u8 (x20 k), .int .i64 (x21 k), .int .i64 (x22 k)]).call hb1
          have hB1 : Below w.heap.size w w1 := bel_tr (hb.alloc hb.size (.cells #[.int .u8 (x20 k), .int .i64 (x21 k), .int .i64 (x22 k)] 36)) (hb1)
          clear hQ hH hb q0 q1 q2 d0 d1 d2 p0 p1 p2
          obtain ⟨c, hc⟩ : ∃ c, c = wr.heap.size := ⟨_, rfl⟩
          rw [← hc] at hC1 r1 r3
          rw [← hc]
          have hc' := hid hc
          clear hc hb1
          have d3 : w1.cell? ⟨c, 1, none⟩ = some (.int .i64 (x21 k)) := hC1.cell rfl
          have d4 : w1.cell? ⟨c, 2, none⟩ = some (.int .i64 (x22 k)) := hC1.cell rfl
          by_cases ha : ask (cl a0 0 65536) (cl a1 0 1024) n (x21 k) (x22 k) = 0
          · have hd : (ask (cl a0 0 65536) (cl a1 0 1024) n (x21 k) (x22 k) == 0) = true := by simpa using ha
            have hs : IntKind.i64.wrap (n + 1) = n + 1 := IntWalk.i64_in _ (by omega)
            have hnm : n < (cl a0 0 65536) := ask_lt ha
            have ha' := hid ha
            clear ha
            go_wp2_with fail
            go_at_call 7
            refine (takeX g (cl a0 0 65536) (cl a1 0 1024) n _ _ _ hQ1 (by omega) (by omega) ha'.out).mono ?_
            rintro e w2 ⟨rfl, hQ2, hk2', hB2⟩
            have hH2 := hk2' h _ _ hhg hH1
            have hWW := hB2 _ _ hgB hB1
            have d2 : w2.cell? ⟨h, 2, none⟩ = some (.int .i64 n) := hH2.cell rfl
            have p2 := hH2.free 2
            clear hQ1 hH1 hC1 hB1 hB2 hk2' d3 d4
            go_wp2_with fail
            have hc := hc'.out
            subst hc
            all_goals (go_meet; exact ⟨rfl, n + 1, by omega, by omega, hQ2.far (by exact hgh) _, hH2.s2, hWW.setCell hhB _⟩)
          · have hd : (ask (cl a0 0 65536) (cl a1 0 1024) n (x21 k) (x22 k) == 0) = false := by simpa using ha
            clear ha
            go_wp2_with fail
            go_at_call 7
            refine (takeN g (cl a0 0 65536) (cl a1 0 1024) n _ _ _ hQ1 hd).mono ?_
            rintro e w2 ⟨rfl, q, rfl⟩
            clear d3 d4
            go_wp2_with fail
            have hc := hc'.out
            subst hc
            all_goals (go_meet; exact ⟨rfl, n, by omega, by omega, hQ1.drewN _, hH1.drewN _, bel_drewN hB1 _⟩)
        · -- kind 2
          have t0 : (x20 k % 5 == 0) = false := by simp [hm]
          have t1 : (x20 k % 5 == 1) = false := by simp [hm]
          have t2 : (x20 k % 5 == 2) = true := by simp [hm]
          clear hm
          go_wp2_with fail
          obtain ⟨L, hL⟩ : ∃ L : List (Nat × TypeId × List Value), L = [(g, 43, [.int .i64 (cl a0 0 65536), .int .i64 (cl a1 0 1024), .int .i64 n]), (h, 33, [.int .i64 (cl a0 0 65536), .int .i64 (cl a1 0 1024), .int .i64 n]), (wr.heap.size, 36, [.int .u8 (x20 k), .int .i64 (x21 k), .int .i64 (x22 k)])] := ⟨_, rfl⟩
          have hk : Kb w L (wr.alloc (.cells #[.int .u8 (x20 k), .int .i64 (x21 k), .int .i64 (x22 k)] 36)) := by
            subst hL
            exact ⟨List.forall_mem_cons.2 ⟨hQ.alloc _, List.forall_mem_cons.2 ⟨hH.alloc _, List.forall_mem_cons.2 ⟨Bk.new _ _ _, fun _ hh => nomatch hh⟩⟩⟩, hb.alloc hb.size _⟩
          have y0 := KW.cell (w := w) (l := L) g 43 [.int .i64 (cl a0 0 65536), .int .i64 (cl a1 0 1024), .int .i64 n] 0 (by simp [hL]) rfl
          have y1 := KW.cell (w := w) (l := L) g 43 [.int .i64 (cl a0 0 65536), .int .i64 (cl a1 0 1024), .int .i64 n] 1 (by simp [hL]) rfl
          have y2 := KW.cell (w := w) (l := L) g 43 [.int .i64 (cl a0 0 65536), .int .i64 (cl a1 0 1024), .int .i64 n] 2 (by simp [hL]) rfl
          have y3 := KW.cell (w := w) (l := L) h 33 [.int .i64 (cl a0 0 65536), .int .i64 (cl a1 0 1024), .int .i64 n] 0 (by simp [hL]) rfl
          have y4 := KW.cell (w := w) (l := L) h 33 [.int .i64 (cl a0 0 65536), .int .i64 (cl a1 0 1024), .int .i64 n] 1 (by simp [hL]) rfl
          have y5 := KW.cell (w := w) (l := L) h 33 [.int .i64 (cl a0 0 65536), .int .i64 (cl a1 0 1024), .int .i64 n] 2 (by simp [hL]) rfl
          have y6 := KW.cell (w := w) (l := L) wr.heap.size 36 [.int .u8 (x20 k), .int .i64 (x21 k), .int .i64 (x22 k)] 0 (by simp [hL]) rfl
          have y7 := KW.cell (w := w) (l := L) wr.heap.size 36 [.int .u8 (x20 k), .int .i64 (x21 k), .int .i64 (x22 k)] 1 (by simp [hL]) rfl
          have y8 := KW.cell (w := w) (l := L) wr.heap.size 36 [.int .u8 (x20 k), .int .i64 (x21 k), .int .i64 (x22 k)] 2 (by simp [hL]) rfl
          have yQ : ∀ x : KW w L, Bk x.1 g 43 [.int .i64 (cl a0 0 65536), .int .i64 (cl a1 0 1024), .int .i64 n] := fun x => x.bk (by simp [hL])
          have yH : ∀ x : KW w L, Bk x.1 h 33 [.int .i64 (cl a0 0 65536), .int .i64 (cl a1 0 1024), .int .i64 n] := fun x => x.bk (by simp [hL])
          have yQ' := hid yQ
          have yH' := hid yH
          clear hL yQ yH
          refine quiet_in L hk (by kernel_rfl) (by kernel_rfl) ?_
          have hne : Nonempty (KW w L) := ⟨⟨_, hk⟩⟩
          clear hk
          repeat (any_goals (first | go_big_quiet_step ((first | (go_at_call 14; exact quiet_draws (ask_any g (cl a0 0 65536) (cl a1 0 1024) n _ _ _ (y0 _) (y1 _) (y2 _))) | (go_at_call 13; exact quiet_lays (refask_any (cl a0 0 65536) (cl a1 0 1024) n _ _ _ (by omega))))) | quiet_step ((first | (go_at_call 14; exact quiet_draws (ask_any g (cl a0 0 65536) (cl a1 0 1024) n _ _ _ (y0 _) (y1 _) (y2 _))) | (go_at_call 13; exact quiet_lays (refask_any (cl a0 0 65536) (cl a1 0 1024) n _ _ _ (by omega)))))))
          refine wpQuiet_nil ?_
          intro _ hw'
          obtain ⟨x, rfl⟩ := hw'
          go_wp2_with fail
          all_goals (go_meet; exact ⟨rfl, n, by omega, by omega, yQ'.out x, yH'.out x, x.bel⟩)
        · -- kind 3
          have t0 : (x20 k % 5 == 0) = false := by simp [hm]
          have t1 : (x20 k % 5 == 1) = false := by simp [hm]
          have t2 : (x20 k % 5 == 2) = false := by simp [hm]
          have t3 : (x20 k % 5 == 3) = true := by simp [hm]
          clear hm
          have hcb := cl_bd (x21 k) hn0
          have hs0 : IntKind.i64.wrap (n - cl (x21 k) 0 n) = n - cl (x21 k) 0 n := IntWalk.i64_in _ (by omega)
          go_wp2_with fail
          go_at_call 15
          refine (refdone_bel (cl a0 0 65536) (cl a1 0 1024) n _ _ (by omega) (by omega)).mono ?_
          rintro e w1 ⟨rfl, hb1⟩
          have hQ1 := (hQ.alloc (.cells #[.int .u8 (x20 k), .int .i64 (x21 k), .int .i64 (x22 k)] 36)).call hb1
          have hH1 := (hH.alloc (.cells #[.int .u8 (x20 k), .int .i64 (x21 k), .int .i64 (x22 k)] 36)).call hb1
          have hC1 := (Bk.new wr 36 [.int .u8 (x20 k), .int .i64 (x21 k), .int .i64 (x22 k)]).call hb1
          have hB1 : Below w.heap.size w w1 := bel_tr (hb.alloc hb.size (.cells #[.int .u8 (x20 k), .int .i64 (x21 k), .int .i64 (x22 k)] 36)) (hb1)
          clear hQ hH hb q0 q1 q2 d0 d1 d2 p0 p1 p2
          obtain ⟨c, hc⟩ : ∃ c, c = wr.heap.size := ⟨_, rfl⟩
          rw [← hc] at hC1 r1 r3
          rw [← hc]
          have hc' := hid hc
          clear hc hb1
          have d3 : w1.cell? ⟨c, 1, none⟩ = some (.int .i64 (x21 k)) := hC1.cell rfl
          have d0 : w1.cell? ⟨h, 0, none⟩ = some (.int .i64 (cl a0 0 65536)) := hH1.cell rfl
          have d1 : w1.cell? ⟨h, 1, none⟩ = some (.int .i64 (cl a1 0 1024)) := hH1.cell rfl
          have d2 : w1.cell? ⟨h, 2, none⟩ = some (.int .i64 n) := hH1.cell rfl
          have p0 := hH1.free 0
          have p1 := hH1.free 1
          have p2 := hH1.free 2
          have z1 := hH1.lt
          have z2 := hC1.lt
          have z3 := hQ1.lt
          have v1 : ¬ h = w1.heap.size := by omega
          have v2 : ¬ w1.heap.size = h := by omega
          have v3 : ¬ c = w1.heap.size := by omega
          go_wp2_with fail
          go_at_call 9
          refine (doneS g (cl a0 0 65536) (cl a1 0 1024) n _ _ ?_ (by omega) (by omega)).mono ?_
          · repeat (first | assumption | refine Bk.drewN ?_ _ | refine Bk.drew ?_ | refine Bk.alloc ?_ _ | apply Bk.s2 | apply Bk.s1 | apply Bk.s0 | refine Bk.far ?_ (by first | assumption | (simp; omega)) _)
          rintro e w2 ⟨rfl, hQ2, hS2⟩
          have hH2 := hS2.bk (t := 33) (cs := [.int .i64 (cl a0 0 65536), .int .i64 (cl a1 0 1024), .int .i64 (n - cl (x21 k) 0 n)]) hhg (by repeat (first | assumption | refine Bk.drewN ?_ _ | refine Bk.drew ?_ | refine Bk.alloc ?_ _ | exact ((hH1.s0 (a := .int .i64 (cl a0 0 65536))).s1 (a := .int .i64 (cl a1 0 1024))).s2 (a := .int .i64 (n - cl (x21 k) 0 n))  | exact (((hH1.alloc _).s0 (a := .int .i64 (cl a0 0 65536))).s1 (a := .int .i64 (cl a1 0 1024))).s2 (a := .int .i64 (n - cl (x21 k) 0 n)) | refine Bk.far ?_ (by first | assumption | (simp; omega)) _))
          have hB2 := hS2.below (w'' := w) hgB (by repeat (first | assumption | refine bel_drewN ?_ _ | refine Below.setCell ?_ (by first | omega | (simp; omega)) _ | refine Below.alloc ?_ (by first | omega | (simp; omega)) _ | refine Below.drew ?_))
          clear d0 d1 d2 d3 p0 p1 p2 z1 z2 z3 v1 v2 v3 hS2 hQ1 hH1 hC1 hB1
          go_wp2_with fail
          have hc := hc'.out
          subst hc
          all_goals (go_meet; exact ⟨rfl, n - cl (x21 k) 0 n, by omega, by omega, hQ2, hH2, hB2⟩)
        · -- kind 4
          have t0 : (x20 k % 5 == 0) = false := by simp [hm]
          have t1 : (x20 k % 5 == 1) = false := by simp [hm]
          have t2 : (x20 k % 5 == 2) = false := by simp [hm]
          have t3 : (x20 k % 5 == 3) = false := by simp [hm]
          clear hm
          go_wp2_with (go_at_call 16; refine (resetB g (cl a0 0 65536) (cl a1 0 1024) n _ (by repeat (first | assumption | refine Bk.drewN ?_ _ | refine Bk.drew ?_ | refine Bk.alloc ?_ _ | apply Bk.s2 | apply Bk.s1 | apply Bk.s0 | refine Bk.far ?_ (by first | assumption | (simp; omega)) _))).mono ?_; rintro e w1 ⟨rfl, rfl⟩)
          all_goals (go_meet; exact ⟨rfl, 0, by omega, by omega, (by repeat (first | assumption | refine Bk.drewN ?_ _ | refine Bk.drew ?_ | refine Bk.alloc ?_ _ | apply Bk.s2 | apply Bk.s1 | apply Bk.s0 | refine Bk.far ?_ (by first | assumption | (simp; omega)) _)), (by repeat (first | assumption | refine Bk.drewN ?_ _ | refine Bk.drew ?_ | refine Bk.alloc ?_ _ | apply Bk.s2 | apply Bk.s1 | apply Bk.s0 | refine Bk.far ?_ (by first | assumption | (simp; omega)) _)), (by repeat (first | assumption | refine bel_drewN ?_ _ | refine Below.setCell ?_ (by first | omega | (simp; omega)) _ | refine Below.alloc ?_ (by first | omega | (simp; omega)) _ | refine Below.drew ?_))⟩)

      case rest =>
        obtain ⟨rfl, n', hn0', hn1', hQ', hH', hb'⟩ := hcut
        clear hQ hH hb q0 q1 q2 z0 z1
        have hs1 : IntKind.i64.wrap ((cl a0 0 65536) - n') = (cl a0 0 65536) - n' := IntWalk.i64_in _ (by omega)
        have d0 : wc.cell? ⟨h, 0, none⟩ = some (.int .i64 (cl a0 0 65536)) := hH'.cell rfl
        have d2 : wc.cell? ⟨h, 2, none⟩ = some (.int .i64 n') := hH'.cell rfl
        have g0 : wc.cell? ⟨g, 0, none⟩ = some (.int .i64 (cl a0 0 65536)) := hQ'.cell rfl
        have g2 : wc.cell? ⟨g, 2, none⟩ = some (.int .i64 n') := hQ'.cell rfl
        go_wp2_with fail
        go_quiet (first | (go_at_call 8; exact Calls.quiet_of_same ((waiting_any g n' _ (by go_cell)).mono fun _ _ h => ⟨h.1, h.2.symm⟩)) | (go_at_call 10; exact Calls.quiet_of (left_any g (cl a0 0 65536) n' _ (by go_cell) (by go_cell) (by omega) (by omega) (by omega))))
        go_wp2_with fail
        go_roundw
        case rel => exact ⟨k + 1, n', by omega, by omega, hn0', hn1', by go_num, hQ', hH', bel_drewN hb' _⟩
        case measure => simp [intOf]; omega
    · have hs1 : ¬ (k < len2 ∧ (k : Int) < 60) := by omega
      go_wp2_with (go_at_call 11; refine (works_any _).mono ?_; rintro e w1 ⟨rfl, hw⟩)
      all_goals (go_returns; exact ⟨rfl, bel_tr hb hw⟩)
end Go.Proofs.Ytaghfcndbeefnaa
