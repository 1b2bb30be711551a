/- The chapter's example; the walks of ClockNil, ClockJumps and ClockOn. -/
import Derived.Test.YtnfoipkmeiklhaaE
namespace Go.Proofs.Ytnfoipkmeiklhaa
open Go Go.RowKit Go.ChangeShapes Go.WideShapes
set_option linter.unusedVariables false

theorem at_of {f : FuncId} {args : Array Value} {w : World} {g s : Nat} {mo : Int} {x : C × Int} {c' : C} {n : Int} (e : x = (c', n))
    (h : Calls Try.prog f args w fun r w' => r = .returned (.int .i64 x.2) ∧ Bk w' g 49 (gc s x.1 mo) ∧ Bk w' s 59 (sc x.1) ∧ Step2 g s w w') :
    Calls Try.prog f args w fun r w' => r = .returned (.int .i64 n) ∧ Bk w' g 49 (gc s c' mo) ∧ Bk w' s 59 (sc c') ∧ Step2 g s w w' := by
  subst e; exact h
theorem C.mk_ok {ph a l m : Int} (h1 : ph = 0 ∨ ph = 1 ∨ ph = 2) (h2 : 0 ≤ a ∧ a ≤ 1152921504606846976) (h3 : -1152921504606846976 ≤ l ∧ l ≤ 1152921504606846976) (h4 : ph = 0 ∨ 1 ≤ m) (h5 : m ≤ 256) : (C.mk ph a l m).ok := ⟨h1, h2, h3, h4, h5⟩
theorem now_at (g s : Nat) (c : C) (mo v : Int) (b : Bool) (w : World) (hc : c.ok) (hG : Bk w g 49 (gc s c mo)) (h1 : now c = v) (h2 : decide (0 < c.ph) = b) :
    Calls Try.prog 9 #[.pointer (some ⟨g, 0, none⟩)] w fun r w' => r = .returned (.tuple #[.int .i64 v, .bool b]) ∧ w = w' := h1 ▸ h2 ▸ now_any g s c mo w hc hG
/-- A new clock, and what lies where. -/
theorem cnew_bk (a m : Int) (w : World) (hm : cl a 1 256 = m) :
    Calls Try.prog 7 #[.int .i64 a] w fun r w' => r = .returned (.pointer (some ⟨w.heap.size + 1, 0, none⟩)) ∧ Bk w' (w.heap.size + 1) 49 (gc w.heap.size ⟨0, 0, 0, m⟩ a) ∧ Bk w' w.heap.size 59 (sc ⟨0, 0, 0, m⟩) ∧ Below w.heap.size w w' := by
  subst hm
  refine (cnew_any a w).mono ?_
  rintro e w' ⟨rfl, rfl⟩
  exact ⟨rfl, by simpa using Bk.new (w.alloc (.cells #[.int .i64 0, .int .i64 (cl a 1 256)] 59)) 49 [.pointer (some ⟨w.heap.size, 0, none⟩), .int .i64 0, .int .i64 0, .int .i64 a], (Bk.new w 59 [.int .i64 0, .int .i64 (cl a 1 256)]).alloc _, by go_grown⟩

theorem works_any (w : World) : Calls Try.prog 12 #[] w fun r w' => r = .returned (.bool true) ∧ Below w.heap.size w w' := by
  go_enter Try.func12, Try.ntmps12
  go_wp2_with fail
  go_at_call 7
  refine (cnew_bk 10 10 w (by decide)).mono ?_
  rintro e w1 ⟨rfl, hG, hS, hB⟩
  obtain ⟨g, hg⟩ : ∃ g, w.heap.size + 1 = g := ⟨_, rfl⟩
  obtain ⟨s, hs⟩ : ∃ s, w.heap.size = s := ⟨_, rfl⟩
  rw [hg, hs] at hG
  rw [hs] at hS
  rw [hg]
  have hgB : w.heap.size ≤ g := by omega
  have hsB : w.heap.size ≤ s := by omega
  clear hg hs
  go_wp2_with fail
  go_at_call 13
  refine (at_of (c' := ⟨1, 1000, 0, 10⟩) (n := 0) (by simp [guess, tm, cl]) (guess_any g s ⟨0, 0, 0, 10⟩ 10 1000 w1 (C.mk_ok (by omega) (by omega) (by omega) (by omega) (by omega)) hG hS)).mono ?_
  rintro e w2 ⟨rfl, hG2, hS2, hT2⟩
  have hB2 := hT2.bel hG.lt hgB hsB hB
  clear hG hS hB hT2
  go_wp2_with fail
  go_at_call 18
  refine (at_of (c' := ⟨1, 2024, 0, 10⟩) (n := 1024) (by simp [tick, tm, cl, inc, made]) (tick_any g s ⟨1, 1000, 0, 10⟩ 10 1024 w2 (C.mk_ok (by omega) (by omega) (by omega) (by omega) (by omega)) hG2 hS2)).mono ?_
  rintro e w3 ⟨rfl, hG3, hS3, hT3⟩
  have hB3 := hT3.bel hG2.lt hgB hsB hB2
  clear hG2 hS2 hB2 hT3
  go_wp2_with fail
  go_at_call 14
  refine (at_of (c' := ⟨2, 2000, 0, 10⟩) (n := 0) (by simp [corr, tm, aim, cl]) (corr_any g s ⟨1, 2024, 0, 10⟩ 10 (-24) w3 (C.mk_ok (by omega) (by omega) (by omega) (by omega) (by omega)) hG3 hS3)).mono ?_
  rintro e w4 ⟨rfl, hG4, hS4, hT4⟩
  have hB4 := hT4.bel hG3.lt hgB hsB hB3
  clear hG3 hS3 hB3 hT4
  go_wp2_with fail
  go_at_call 9
  refine (now_at g s ⟨2, 2000, 0, 10⟩ 10 2000 true w4 (C.mk_ok (by omega) (by omega) (by omega) (by omega) (by omega)) hG4 rfl rfl).mono ?_
  rintro e w' ⟨rfl, rfl⟩
  go_wp2_with fail
  go_at_call 11
  refine (phase_any g s ⟨2, 2000, 0, 10⟩ 10 w4 hG4).mono ?_
  rintro e w' ⟨rfl, rfl⟩
  go_wp2_with fail
  go_returns
  exact ⟨rfl, hB4⟩

set_option maxRecDepth 100000 in
set_option maxHeartbeats 2000000 in
theorem clockNilWalk (a0 : Int) (w : World) (w0 : (Lit.int .i64 a0).wf = true) :
    Calls Try.prog 6 #[.int .i64 a0] w fun e w' => e = .returned (.bool true) ∧ Below w.heap.size w w' := by
  go_enter Try.func6, Try.ntmps6
  go_wp2_with (first | (go_at_call 12; refine (works_any _).mono ?_; rintro e w' ⟨rfl, hw⟩) | go_in)
  all_goals (go_returns; exact ⟨rfl, hw⟩)

theorem on_plain (c : C) (k x : Int) (hc : c.ok) (hp : c.ph = 2) (hm : 1 ≤ c.m) : (act c k x).1.ph = 2 ∧ c.at' ≤ (act c k x).1.at' := by
  obtain ⟨-, ha, hl, -, hm2⟩ := hc
  have bi := inc_bd x
  have bd := made_bd c.l (m := c.m) (i := inc x) (by omega) bi.1
  have ht : ∀ v, 0 ≤ v → c.at' ≤ tm (c.at' + v) := fun v hv => by unfold tm cl; repeat' split
                                                                  all_goals omega
  unfold act boot guess corr tick
  repeat' split
  all_goals (refine ⟨?_, ?_⟩ <;> (try dsimp only) <;> first | assumption | omega | exact ht _ (by omega))

set_option maxRecDepth 100000 in
set_option maxHeartbeats 4000000 in
theorem clockOnWalk (a0 : Int) (a1 : Option Addr) (len1 cap1 : Nat) (x10 : Nat → Int) (x11 : Nat → Int) (w : World) (w0 : (Lit.int .i64 a0).wf = true) (s1 : IsSl w a1 len1 2 (fun i => [.int .u8 (x10 i), .int .i64 (x11 i)])) (l1 : len1 ≤ maxLen) (w10 : ∀ i, (Lit.int .u8 (x10 i)).wf = true) (w11 : ∀ i, (Lit.int .i64 (x11 i)).wf = true) :
    Calls Try.prog 3 #[.int .i64 a0, .slice a1 len1 cap1] w fun e w' => e = .returned (.bool true) ∧ Below w.heap.size w w' := by
  unfold maxLen at l1
  go_enter Try.func3, Try.ntmps3
  go_wp2_with fail
  go_at_call 7
  refine (cnew_bk 256 256 w (by decide)).mono ?_
  rintro e wa ⟨rfl, hG, hS, hB⟩
  obtain ⟨g, hg⟩ : ∃ g, w.heap.size + 1 = g := ⟨_, rfl⟩
  obtain ⟨s, hs⟩ : ∃ s, w.heap.size = s := ⟨_, rfl⟩
  rw [hg, hs] at hG
  rw [hs] at hS
  rw [hg]
  have hgB : w.heap.size ≤ g := by omega
  have hsB : w.heap.size ≤ s := by omega
  clear hg hs
  have bt := tm_bd a0
  obtain ⟨T, hT⟩ : ∃ T, tm a0 = T := ⟨_, rfl⟩
  have eb : boot ⟨0, 0, 0, 256⟩ a0 = (⟨2, T, 0, 256⟩, 0) := by simp [boot, hT]
  rw [hT] at bt
  have eb' := hid eb
  clear eb hT
  go_wp2_with fail
  go_at_call 8
  refine (at_of eb'.out (boot_any g s ⟨0, 0, 0, 256⟩ 256 a0 wa (C.mk_ok (by omega) (by omega) (by omega) (by omega) (by omega)) hG hS)).mono ?_
  rintro e w2 ⟨rfl, hG2, hS2, hT2⟩
  have hB2 := hT2.bel hG.lt hgB hsB hB
  clear hG hS hB hT2
  go_wp2_with fail
  go_at_call 9
  refine (now_at g s ⟨2, T, 0, 256⟩ 256 T true w2 (C.mk_ok (by omega) (by omega) (by omega) (by omega) (by omega)) hG2 rfl rfl).mono ?_
  rintro e w' ⟨rfl, rfl⟩
  go_wp2_with fail
  go_loopw [6, 8] (fun o i wr => ∃ (k : Nat) (c : C), k ≤ len1 ∧ k ≤ 60 ∧ c.ok ∧ c.ph = 2 ∧ 1 ≤ c.m ∧ o = .int .i64 c.at' ∧ i = .int .i64 k ∧ Bk wr g 49 (gc s c 256) ∧ Bk wr s 59 (sc c) ∧ Below w.heap.size w wr)
    (fun _ i _ => len1 - (intOf i).toNat)
  case atStart => exact ⟨0, ⟨2, T, 0, 256⟩, by omega, by omega, C.mk_ok (by omega) (by omega) (by omega) (by omega) (by omega), rfl, by simp, rfl, rfl, hG2, hS2, hB2⟩
  case round =>
    clear hG2 hS2 hB2
    obtain ⟨k, c, hk, hk2, hc, hp, hm, rfl, rfl, hG, hS, hb⟩ := hrel
    have hc' := hid hc
    have hp' := hid hp
    by_cases hlt : k < len1 ∧ k < 60
    · obtain ⟨hl2, hl3⟩ := hlt
      obtain ⟨b, off, rfl, hbb, hcc⟩ := s1 (by omega)
      have hx := bd_u8 (w10 k)
      have q0 : wr.cell? ⟨b, off + k * 2, none⟩ = some (.int .u8 (x10 k)) := (hb.cell (p := ⟨b, off + k * 2, none⟩) hbb).trans (by simpa using hcc k hl2 0 _ rfl)
      have q1 : wr.cell? ⟨b, off + k * 2 + 1, none⟩ = some (.int .i64 (x11 k)) := (hb.cell (p := ⟨b, off + k * 2 + 1, none⟩) hbb).trans (by simpa [Nat.add_assoc] using hcc k hl2 1 _ rfl)
      clear hcc
      generalize x10 k = kk at *
      generalize x11 k = x at *
      by_cases h3 : kk % 8 = 3
      · have t3 : (kk % 8 == 3) = true := by simp; omega
        clear h3 hc hp
        go_wp2
        go_roundw
        case rel => exact ⟨k + 1, c, by omega, by omega, hc'.out, hp'.out, hm, rfl, by go_num, hG, hS, hb⟩
        case measure => simp [intOf]; omega
      · have t3 : (kk % 8 == 3) = false := by simp; omega
        obtain ⟨hp2, hle⟩ := on_plain c kk x hc hp hm
        obtain ⟨hok2, hm2⟩ := act_ok kk x hc hm
        have ON := one_any g s c ⟨0, 0, 0, 0⟩ 256 256 kk x wr hc (C.mk_ok (by omega) (by omega) (by omega) (by omega) (by omega)) hx h3 hG hS
        obtain ⟨c2, e2⟩ : ∃ c2, (act c kk x).1 = c2 := ⟨_, rfl⟩
        rw [e2] at hp2 hle hok2 hm2 ON
        have hm3 : 1 ≤ c2.m := by omega
        have ON' := hid ON
        have hok3 := hid hok2
        have hp3 := hid hp2
        have NW := fun wz hz => now_at g s c2 256 c2.at' true wz hok2 hz (by simp [now, hp2]) (by simp [hp2])
        have PH := fun wz hz => phase_any g s c2 256 wz hz
        simp only [hp2] at PH
        have NW' := hid NW
        have PH' := hid PH
        have hd : decide (c2.at' < c.at') = false := decide_eq_false (by omega)
        clear h3 hc hp e2 hp2 hok2 hm2 ON NW PH
        go_wp2_with fail
        go_at_call 10
        refine ON'.out.mono ?_
        rintro e w3 ⟨rfl, hG3, hS3, hT3⟩
        have hb3 := hT3.bel hG.lt hgB hsB hb
        clear hG hS hb q0 q1 hT3
        go_wp2_with (first | (go_at_call 9; refine (NW'.out _ hG3).mono ?_; rintro e w' ⟨rfl, rfl⟩) | (go_at_call 11; refine (PH'.out _ hG3).mono ?_; rintro e w' ⟨rfl, rfl⟩))
        go_roundw
        case rel => exact ⟨k + 1, c2, by omega, by omega, hok3.out, hp3.out, hm3, rfl, by go_num, hG3, hS3, hb3⟩
        case measure => simp [intOf]; omega
    · have hs1 : ¬ (k < len1 ∧ (k : Int) < 60) := by omega
      clear hp hc
      go_wp2_with (go_at_call 12; refine (works_any _).mono ?_; rintro e w' ⟨rfl, hw⟩)
      all_goals (go_returns; exact ⟨rfl, bel_tr hb hw⟩)
end Go.Proofs.Ytnfoipkmeiklhaa
