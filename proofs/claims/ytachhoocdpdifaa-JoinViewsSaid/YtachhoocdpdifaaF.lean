/- The walk of JoinViews. -/
import Derived.Test.YtachhoocdpdifaaE
import Derived.Deep.DeepCutAuto
import Derived.Deep.CutBlock
namespace Go.Proofs.Ytachhoocdpdifaa
open Go Go.RowKit Go.ChangeShapes Go.WideShapes
set_option linter.unusedVariables false
attribute [local go_sem ↓] Go.wp_at_zero Go.wp_at_succ

theorem views_plain (j : J) (k no : Int) (has : Bool) (hj : j.ok) (h0 : k % 8 ≠ 0) (h4 : k % 8 ≠ 4) (hk : 0 ≤ k) :
    (memb j.s = memb (act j k no has).1.s) ∨ (memb j.s = false ∧ memb (act j k no has).1.s = true ∧ 4 < k % 8 ∧ has = true ∧ att j.s j.f no = true) ∨ (memb j.s = true ∧ memb (act j k no has).1.s = false ∧ 4 < k % 8 ∧ has = false) := by
  obtain ⟨hs, hf⟩ := hj
  obtain ⟨s, f, c⟩ := j
  simp only at hs
  have hm : 4 < k % 8 ∨ k % 8 ≤ 3 := by omega
  unfold act boot want leave ready inst memb
  repeat' split
  all_goals (try contradiction)
  all_goals simp only at *
  all_goals (rcases hs with rfl | rfl | rfl | rfl <;> simp_all <;> omega)

set_option maxRecDepth 100000 in
set_option maxHeartbeats 4000000 in
theorem joinViewsWalk (a0 : Option Addr) (len0 cap0 : Nat)  (x00 : Nat → Int) (x01 : Nat → Int) (x02 : Nat → Bool) (w : World) (s0 : IsSl w a0 len0 3 (fun i => [.int .u8 (x00 i), .int .i64 (x01 i), .bool (x02 i)])) (l0 : len0 ≤ maxLen) (w00 : ∀ i, (Lit.int .u8 (x00 i)).wf = true) (w01 : ∀ i, (Lit.int .i64 (x01 i)).wf = true) :
    Calls Try.prog 3 #[.slice a0 len0 cap0] w fun e w' => e = .returned (.bool true) ∧ Below w.heap.size w w' := by
  unfold maxLen at l0
  go_enter Try.func3, Try.ntmps3
  go_wp2_with (go_at_call 7; refine (new_any _).mono ?_; rintro e w' ⟨rfl, rfl⟩)
  obtain ⟨g, hg⟩ : ∃ g, g = w.heap.size := ⟨_, rfl⟩
  rw [← hg]
  have hgB : w.heap.size ≤ g := by omega
  have hg' := hid hg
  clear hg
  go_loopw [4] (fun i wr => ∃ (k : Nat) (j : J), k ≤ len0 ∧ k ≤ 60 ∧ j.ok ∧ i = .int .i64 k ∧ Bk wr g 47 j.cells ∧ Below w.heap.size w wr)
    (fun i _ => len0 - (intOf i).toNat)
  case atStart =>
    have hg := hg'.out
    subst hg
    exact ⟨0, ⟨0, -1, 0⟩, by omega, by omega, ⟨by simp, by simp⟩, rfl, Bk.new _ _ _, by go_grown⟩
  case round =>
    obtain ⟨k, j, hk, hk2, hj, rfl, hQ, hb⟩ := hrel
    have hj' := hid hj
    by_cases hlt : k < len0 ∧ k < 60
    · obtain ⟨hl2, hl3⟩ := hlt
      obtain ⟨b, off, rfl, hbb, hc⟩ := s0 (by omega)
      have hx := bd_u8 (w00 k)
      have z := hQ.lt
      have q0 : wr.cell? ⟨b, off + k * 3, none⟩ = some (.int .u8 (x00 k)) := (hb.cell (p := ⟨b, off + k * 3, none⟩) hbb).trans (by simpa using hc k hl2 0 _ rfl)
      have q1 : wr.cell? ⟨b, off + k * 3 + 1, none⟩ = some (.int .i64 (x01 k)) := (hb.cell (p := ⟨b, off + k * 3 + 1, none⟩) hbb).trans (by simpa [Nat.add_assoc] using hc k hl2 1 _ rfl)
      have q2 : wr.cell? ⟨b, off + k * 3 + 2, none⟩ = some (.bool (x02 k)) := (hb.cell (p := ⟨b, off + k * 3 + 2, none⟩) hbb).trans (by simpa [Nat.add_assoc] using hc k hl2 2 _ rfl)
      clear hc
      generalize x00 k = kk at *
      generalize x01 k = no at *
      generalize x02 k = has at *
      by_cases h0 : kk % 8 = 0
      · have t0 : (kk % 8 == 0) = true := by simp; omega
        clear h0
        go_wp2
        go_roundw
        case rel => exact ⟨k + 1, j, by omega, by omega, hj'.out, by go_num, hQ.alloc _, hb.alloc hb.size _⟩
        case measure => simp [intOf]; omega
      by_cases h4 : kk % 8 = 4
      · have t0 : (kk % 8 == 0) = false := by simp; omega
        have t4 : (kk % 8 == 4) = true := by simp; omega
        clear h0 h4
        go_wp2
        go_roundw
        case rel => exact ⟨k + 1, j, by omega, by omega, hj'.out, by go_num, hQ.alloc _, hb.alloc hb.size _⟩
        case measure => simp [intOf]; omega
      have V := views_plain j kk no has hj h0 h4 hx.1
      have t0 : (kk % 8 == 0) = false := by simp; omega
      have t4 : (kk % 8 == 4) = false := by simp; omega
      have M1 := hid (fun wz hz => member_any g j.s j.f j.c wz hj.1 hz)
      have M2 := hid (fun wz hz => attends_any g j.s j.f j.c no wz hj.1 hj.2 hz)
      have M3 := hid (fun wz hz => one_any g j ⟨0, -1, 0⟩ kk no has wz hj ⟨by simp, by simp⟩ hx hz)
      have hjn := act_ok kk no has hj
      have M4 := hid (fun wz hz => member_any g (act j kk no has).1.s (act j kk no has).1.f (act j kk no has).1.c wz hjn.1 hz)
      have hjn' := hid hjn
      clear h0 h4 hj hjn
      go_wp2_with fail
      have hp := Bk.new wr 26 [.int .u8 kk, .int .i64 no, .bool has]
      have hQ' := hQ.alloc (.cells #[.int .u8 kk, .int .i64 no, .bool has] 26)
      have hb' := hb.alloc hb.size (.cells #[.int .u8 kk, .int .i64 no, .bool has] 26)
      clear hQ hb q0 q1 q2
      obtain ⟨wx, ex⟩ : ∃ wx, wr.alloc (.cells #[.int .u8 kk, .int .i64 no, .bool has] 26) = wx := ⟨_, rfl⟩
      obtain ⟨p, ep⟩ : ∃ p, wr.heap.size = p := ⟨_, rfl⟩
      change Bk (wr.alloc (.cells #[.int .u8 kk, .int .i64 no, .bool has] 26)) _ _ _ at hp
      rw [ex, ep] at hp
      rw [ex] at hQ' hb'
      rw [ex, ep]
      have epg : p ≠ g := by omega
      clear ex ep z
      have p0 : wx.cell? ⟨p, 0, none⟩ = some (.int .u8 kk) := hp.cell rfl
      have p1 : wx.cell? ⟨p, 1, none⟩ = some (.int .i64 no) := hp.cell rfl
      have p2 : wx.cell? ⟨p, 2, none⟩ = some (.bool has) := hp.cell rfl
      go_quiet (first | (go_at_call 8; exact Calls.quiet_of_same ((M1.out _ (hQ'.drewN _)).mono fun _ _ h => ⟨h.1, h.2.symm⟩)) | (go_at_call 9; exact Calls.quiet_of_same ((M2.out _ (hQ'.drewN _)).mono fun _ _ h => ⟨h.1, h.2.symm⟩)))
      go_wp2_with fail
      go_region_held3 (fun w' => w'.cell? ⟨p, 0, none⟩ = some (.int .u8 kk) ∧ w'.cell? ⟨p, 1, none⟩ = some (.int .i64 no) ∧ w'.cell? ⟨p, 2, none⟩ = some (.bool has))
        (first | exact ⟨hp3.cell rfl, hp3.cell rfl, hp3.cell rfl⟩ | exact ⟨hp2.cell rfl, hp2.cell rfl, hp2.cell rfl⟩ | go_keep)
        (first | (go_at_call 11; refine (refnew_any _).mono ?_; rintro e w2 ⟨rfl, hb2⟩; have hp2 := (hp.drewN _).drew.call hb2) | (go_at_call 10; refine (M3.out _ ?_).mono ?_; exact (hQ'.drewN _).drew.call hb2; rintro e w3 ⟨rfl, hQ3, hS3⟩; have hp3 := hS3.bk epg hp2))
      have p3 : w3.cell? ⟨p, 0, none⟩ = some (.int .u8 kk) := hp3.cell rfl
      have p4 : w3.cell? ⟨p, 2, none⟩ = some (.bool has) := hp3.cell rfl
      have hb3 := hS3.bel ((hQ'.drewN _).drew.call hb2).lt hgB (bel_tr (bel_drewN hb' _) hb2)
      have M5 := M4.out w3 hQ3
      obtain ⟨j', hj'e⟩ : ∃ j', (act j kk no has).1 = j' := ⟨_, rfl⟩
      rw [hj'e] at V M5 hQ3 hjn'
      clear hj'e M1 M2 M3 M4
      generalize memb j.s = wa at *
      generalize att j.s j.f no = at' at *
      obtain ⟨na, ena⟩ : ∃ na, memb j'.s = na := ⟨_, rfl⟩
      rw [ena] at V M5
      have M5' := hid M5
      clear M5 ena hp hp2 hp3 p0 p1 p2 hb2 hS3 hb'
      have hV : (wa = na) ∨ (wa = false ∧ na = true ∧ decide (4 < kk % 8) = true ∧ has = true ∧ at' = true) ∨ (wa = true ∧ na = false ∧ decide (4 < kk % 8) = true ∧ has = false) := by
        rcases V with h | ⟨h1, h2, h3, h4, h5⟩ | ⟨h1, h2, h3, h4⟩
        · exact .inl h
        · exact .inr (.inl ⟨h1, h2, decide_eq_true h3, h4, h5⟩)
        · exact .inr (.inr ⟨h1, h2, decide_eq_true h3, h4⟩)
      clear V
      rcases hV with rfl | ⟨rfl, rfl, h3, rfl, rfl⟩ | ⟨rfl, rfl, h3, rfl⟩
      · cases wa
        all_goals go_wp2_with (go_at_call 8; refine M5'.out.mono ?_; rintro e w4 ⟨rfl, rfl⟩)
        all_goals go_roundw
        all_goals first | exact ⟨k + 1, j', by omega, by omega, hjn'.out, by go_num, hQ3, hb3⟩ | (simp [intOf]; omega)
      · go_wp2_with (go_at_call 8; refine M5'.out.mono ?_; rintro e w4 ⟨rfl, rfl⟩)
        go_roundw
        all_goals first | exact ⟨k + 1, j', by omega, by omega, hjn'.out, by go_num, hQ3, hb3⟩ | (simp [intOf]; omega)
      · go_wp2_with (go_at_call 8; refine M5'.out.mono ?_; rintro e w4 ⟨rfl, rfl⟩)
        go_roundw
        all_goals first | exact ⟨k + 1, j', by omega, by omega, hjn'.out, by go_num, hQ3, hb3⟩ | (simp [intOf]; omega)
    · have hs1 : ¬ (k < len0 ∧ (k : Int) < 60) := by omega
      go_wp2_with (go_at_call 12; refine (works_any _).mono ?_; rintro e w' ⟨rfl, hw⟩)
      all_goals (go_returns; exact ⟨rfl, bel_tr hb hw⟩)
end Go.Proofs.Ytachhoocdpdifaa
