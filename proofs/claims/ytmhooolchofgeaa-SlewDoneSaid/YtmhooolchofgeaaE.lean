/- The walk of SlewDone. -/
import Derived.Test.YtmhooolchofgeaaC
namespace Go.Proofs.Ytmhooolchofgeaa
open Go Go.RowKit Go.ChangeShapes Go.WideShapes
set_option linter.unusedVariables false

theorem upq_up {a m : Int} (h0 : 0 ≤ a) (h1 : 1 ≤ m) (h2 : a < 100 * m) : a ≤ upq a m * m ∧ 0 ≤ upq a m ∧ upq a m ≤ 100 := by
  have r0 : 0 ≤ a % m := Int.emod_nonneg _ (by omega)
  have r1 : a % m < m := Int.emod_lt_of_pos _ (by omega)
  have q0 : 0 ≤ a / m := Int.ediv_nonneg h0 (by omega)
  have q1 : a / m < 100 := Int.ediv_lt_of_lt_mul (by omega) h2
  have e := Int.mul_ediv_add_emod a m
  rw [Int.mul_comm] at e
  unfold upq; split
  · omega
  · rw [Int.add_mul]; omega
theorem made_wide {l m x : Int} (h1 : 1 ≤ m) (h2 : m ≤ x) (h3 : x ≤ 1048576) : inc x = x ∧ made l m x = cl l (-m) m := by
  have b := cl_bd l (show -m ≤ m by omega)
  exact ⟨by unfold inc; exact cl_in (by omega) h3, by unfold made; rw [if_neg (by omega)]⟩
theorem ab_down {l m P : Int} (h1 : 1 ≤ m) (h : ab l ≤ P) (hP : m ≤ P) : ab (l - cl l (-m) m) ≤ P - m := by
  unfold ab cl at *; repeat' split
  all_goals (repeat' split at h)
  all_goals omega
theorem ab_rem (c : Int) {M : Int} (h : 0 < M) : ab (c.tmod M) < M := by
  have h1 := Int.tmod_lt_of_pos c h
  have h2 := Int.tmod_lt_of_pos (-c) h
  rw [Int.neg_tmod] at h2
  unfold ab; split <;> omega

set_option maxRecDepth 100000 in
set_option maxHeartbeats 2000000 in
theorem slewDoneWalk (a0 : Int) (a1 : Int) (a2 : Option Addr) (len2 cap2 : Nat) (x20 : Nat → Int) (w : World) (w0 : (Lit.int .u8 a0).wf = true) (w1 : (Lit.int .i16 a1).wf = true) (s2 : IsSl w a2 len2 1 (fun i => [.int .u8 (x20 i)])) (l2 : len2 ≤ maxLen) (w20 : ∀ i, (Lit.int .u8 (x20 i)).wf = true) :
    Calls Try.prog 5 #[.int .u8 a0, .int .i16 a1, .slice a2 len2 cap2] w fun e w' => e = .returned (.bool true) ∧ Below w.heap.size w w' := by
  unfold maxLen at l2
  have b0 := bd_u8 w0
  have b1 := bd_i16 w1
  have ec : cl (a0 + 1) 1 256 = a0 + 1 := cl_in (by omega) (by omega)
  obtain ⟨M, hM⟩ : ∃ M, M = a0 + 1 := ⟨_, rfl⟩
  have bM : 1 ≤ M ∧ M ≤ 256 := by omega
  obtain ⟨t, ht⟩ : ∃ t, t = a1.tmod (100 * (a0 + 1)) := ⟨_, rfl⟩
  have hr := ab_rem a1 (show 0 < 100 * (a0 + 1) by omega)
  rw [← ht, ← hM] at hr
  have ha0 : 0 ≤ ab t := by unfold ab; split <;> omega
  have ht1 : -25600 ≤ t ∧ t ≤ 25600 := by unfold ab at hr; split at hr <;> omega
  have et : aim t = t := cl_in (by omega) (by omega)
  obtain ⟨u1, u2, u3⟩ := upq_up ha0 bM.1 hr
  obtain ⟨n, hn⟩ : ∃ n, n = upq (ab t) M := ⟨_, rfl⟩
  rw [← hn] at u1 u2 u3
  have ht' := hid ht
  have hM' := hid hM
  have hn' := hid hn
  clear ht hM hn
  go_enter Try.func5, Try.ntmps5
  go_wp2_with (first | (go_at_call 7; refine (new_any _ _).mono ?_; rintro e w' ⟨rfl, rfl⟩))
  obtain ⟨g, hg⟩ : ∃ g, g = w.heap.size := ⟨_, rfl⟩
  have hgB : w.heap.size ≤ g := by omega
  rw [← ht'.out, ← hM'.out]
  have hQ := Bk.new w 47 [.int .i64 0, .int .i64 M]
  rw [← hg] at hQ
  rw [← hg]
  have hb : Below w.heap.size w (w.alloc (.cells #[.int .i64 0, .int .i64 M] 47)) := by go_grown
  change Bk (w.alloc (.cells #[.int .i64 0, .int .i64 M] 47)) g 47 _ at hQ
  have hg' := hid hg
  clear hg
  generalize w.alloc (.cells #[.int .i64 0, .int .i64 M] 47) = wx at *
  go_at_call 11
  refine (aim_any g 0 M t wx hQ).mono ?_
  rintro e w2 ⟨rfl, rfl⟩
  have hQ2 := hQ.s0 (a := .int .i64 (aim t))
  rw [et] at *
  have hb2 := hb.setCell (p := ⟨g, 0, none⟩) hgB (.int .i64 t)
  generalize wx.setCell ⟨g, 0, none⟩ (.int .i64 t) = w2 at *
  clear hQ hb
  go_wp2_with fail
  go_at_call 13
  refine (left_any g t M w2 hQ2).mono ?_
  rintro e w3 ⟨rfl, rfl⟩
  go_wp2_with fail
  go_at_call 14
  refine (ticks_any g t M w2 hQ2 bM.1 bM.2 (by omega)).mono ?_
  rintro e w3 ⟨rfl, q, rfl⟩
  rw [← hn'.out]
  have hQ3 := hQ2.drewN q
  have hb3 := bel_drewN hb2 q
  generalize w2.drewN q = w3 at *
  clear hQ2 hb2
  go_wp2_with fail
  go_loopw [11, 12, 13] (fun A W i wr => ∃ (k : Nat) (a v l P : Int), (k : Int) ≤ n ∧ (n - k) * M = P ∧ ab l ≤ P ∧ 0 ≤ a ∧ a ≤ 511 * k ∧ v = a + t - l ∧ -25600 ≤ l ∧ l ≤ 25600 ∧ A = .int .i64 a ∧ W = .int .i64 v ∧ i = .int .i64 k ∧ Bk wr g 47 [.int .i64 l, .int .i64 M] ∧ Below w.heap.size w wr)
    (fun _ _ i _ => n.toNat - (intOf i).toNat)
  case atStart => exact ⟨0, 0, 0, t, (n - ((0 : Nat) : Int)) * M, by omega, rfl, by simpa using u1, by omega, by omega, by omega, by omega, by omega, rfl, rfl, rfl, hQ3, hb3⟩
  case round =>
    obtain ⟨k, a, v, l, P, hk, hP, hlP, ha1, ha2, hv, hl1, hl2, rfl, rfl, rfl, hQ, hb⟩ := hrel
    have hP' := hid hP
    have hv' := hid hv
    by_cases hlt : (k : Int) < n
    · have hPM : M ≤ P := by
        have h := Int.mul_le_mul_of_nonneg_right (show (1 : Int) ≤ n - k by omega) (show 0 ≤ M by omega)
        rw [hP, Int.one_mul] at h; exact h
      have hP2 : (n - ((k + 1 : Nat) : Int)) * M = P - M := by
        have e : n - ((k + 1 : Nat) : Int) = (n - k) - 1 := by omega
        rw [e, Int.sub_mul, hP, Int.one_mul]
      have hd := ab_down bM.1 hlP hPM
      have bc := cl_bd l (show -M ≤ M by omega)
      have hl' : -25600 ≤ l - cl l (-M) M ∧ l - cl l (-M) M ≤ 25600 := by unfold cl; repeat' split
                                                                          all_goals omega
      have hP2' := hid hP2
      have bv : v = a + t - l := hv
      have bv1 : -102400 ≤ v ∧ v ≤ 153600 := by omega
      clear hP hP2 hv bv
      by_cases hm : k < len2
      · obtain ⟨b, off, rfl, hbb, hc⟩ := s2 (by omega)
        have hx := bd_u8 (w20 k)
        have hcell : wr.cell? ⟨b, off + k, none⟩ = some (.int .u8 (x20 k)) := (hb.cell (p := ⟨b, off + k, none⟩) hbb).trans (by simpa using hc k hm 0 _ rfl)
        clear hc
        obtain ⟨i1, i2⟩ := made_wide (l := l) (m := M) (x := M + x20 k) bM.1 (by omega) (by omega)
        have hst := hid (step_bk g l M (M + x20 k) (M + x20 k + cl l (-M) M) (l - cl l (-M) M) wr hQ bM.1 bM.2 (by omega) (by rw [i1, i2]) (by rw [i1, i2]))
        clear i1 i2
        go_wp2_with (go_at_call 10; refine hst.out.mono ?_; rintro e w' ⟨rfl, hQ', hB'⟩)
        have hv := hv'.out
        go_roundw
        all_goals first | exact ⟨k + 1, a + (M + x20 k), a + (M + x20 k) + t - (l - cl l (-M) M), l - cl l (-M) M, P - M, by omega, hP2'.out, hd, by omega, by omega, rfl, hl'.1, hl'.2, by go_num, by go_num, by go_num, hQ', hB' _ _ hgB hb⟩ | (simp [intOf]; omega)
      · have hm2 : ¬ ((k : Int) < len2) := by omega
        obtain ⟨i1, i2⟩ := made_wide (l := l) (m := M) (x := M) bM.1 (by omega) (by omega)
        have hst := hid (step_bk g l M M (M + cl l (-M) M) (l - cl l (-M) M) wr hQ bM.1 bM.2 (by omega) (by rw [i1, i2]) (by rw [i1, i2]))
        clear i1 i2
        go_wp2_with (go_at_call 10; refine hst.out.mono ?_; rintro e w' ⟨rfl, hQ', hB'⟩)
        have hv := hv'.out
        go_roundw
        all_goals first | exact ⟨k + 1, a + M, a + M + t - (l - cl l (-M) M), l - cl l (-M) M, P - M, by omega, hP2'.out, hd, by omega, by omega, rfl, hl'.1, hl'.2, by go_num, by go_num, by go_num, hQ', hB' _ _ hgB hb⟩ | (simp [intOf]; omega)
    · have hkn : n - (k : Int) = 0 := by omega
      have hl0 : l = 0 := by
        rw [hkn, Int.zero_mul] at hP
        unfold ab at hlP; split at hlP <;> omega
      subst hl0
      have hu : upq (ab 0) M = 0 := by simp [upq, ab]
      have hv2 : v = a + t := by omega
      subst hv2
      clear hP hP' hv' hv hkn hlP
      go_wp2_with (first | (go_at_call 13; refine (left_any g 0 M _ hQ).mono ?_; rintro e w' ⟨rfl, rfl⟩) | (go_at_call 14; refine (ticks_any g 0 M _ hQ bM.1 bM.2 (by omega)).mono ?_; rintro e w' ⟨rfl, q2, rfl⟩) | (go_at_call 16; refine (works_any _).mono ?_; rintro e w' ⟨rfl, hw⟩))
      all_goals (go_returns; exact ⟨rfl, bel_tr (bel_drewN hb _) hw⟩)
end Go.Proofs.Ytmhooolchofgeaa
