/- The walk of ClockJumps. -/
import Derived.Test.YtnfoipkmeiklhaaF
namespace Go.Proofs.Ytnfoipkmeiklhaa
open Go Go.RowKit Go.ChangeShapes Go.WideShapes
set_option linter.unusedVariables false

theorem bd_u32 {n : Int} (h : (Lit.int .u32 n).wf = true) : 0 ≤ n ∧ n ≤ 4294967295 := by
  simp [Lit.wf, IntKind.min, IntKind.max, IntKind.signed, IntKind.bits] at h; omega
theorem tm_in {x : Int} (h0 : 0 ≤ x) (h1 : x ≤ 1152921504606846976) : tm x = x := cl_in h0 h1
theorem aim_in {x : Int} (h0 : -1152921504606846976 ≤ x) (h1 : x ≤ 1152921504606846976) : aim x = x := cl_in h0 h1
theorem left_at (g s : Nat) (c : C) (mo v : Int) (w : World) (hG : Bk w g 49 (gc s c mo)) (hS : Bk w s 59 (sc c)) (h : c.l = v) :
    Calls Try.prog 15 #[.pointer (some ⟨g, 0, none⟩)] w fun r w' => r = .returned (.int .i64 v) ∧ w = w' := h ▸ cleft_any g s c mo w hG hS

set_option maxRecDepth 100000 in
set_option maxHeartbeats 4000000 in
theorem clockJumpsWalk (a0 : Int) (a1 : Int) (w : World) (w0 : (Lit.int .u32 a0).wf = true) (w1 : (Lit.int .u32 a1).wf = true) :
    Calls Try.prog 4 #[.int .u32 a0, .int .u32 a1] w fun e w' => e = .returned (.bool true) ∧ Below w.heap.size w w' := by
  obtain ⟨x0, x1⟩ := bd_u32 w0
  obtain ⟨y0, y1⟩ := bd_u32 w1
  have t0 := tm_in (x := a0) (by omega) (by omega)
  have t1 := tm_in (x := a0 + a1) (by omega) (by omega)
  have t2 := aim_in (x := a1) (by omega) (by omega)
  have E1 := hid (show guess ⟨0, 0, 0, 5⟩ a0 = (⟨1, a0, 0, 5⟩, 0) by simp [guess, t0])
  have E2 := hid (show boot ⟨0, 0, 0, 5⟩ a0 = (⟨2, a0, 0, 5⟩, 0) by simp [boot, t0])
  have E3 := hid (show corr ⟨1, a0, 0, 5⟩ a1 = (⟨2, a0 + a1, 0, 5⟩, 0) by simp [corr, t2, t1])
  have E4 := hid (show corr ⟨2, a0, 0, 5⟩ a1 = (⟨2, a0, a1, 5⟩, 0) by simp [corr, t2])
  have k0 : IntKind.i64.wrap a0 = a0 := IntWalk.i64_in _ (by omega)
  have k1 : IntKind.i64.wrap a1 = a1 := IntWalk.i64_in _ (by omega)
  have k2 : IntKind.i64.wrap (a0 + a1) = a0 + a1 := IntWalk.i64_in _ (by omega)
  clear t0 t1 t2
  go_enter Try.func4, Try.ntmps4
  go_wp2_with fail
  go_at_call 7
  refine (cnew_bk 5 5 w (by decide)).mono ?_
  rintro e wa ⟨rfl, hG, hS, hB⟩
  go_wp2_with fail
  go_at_call 7
  refine (cnew_bk 5 5 wa (by decide)).mono ?_
  rintro e wb ⟨rfl, hP, hR, hB2⟩
  have zg := hG.lt
  have zs := hS.lt
  replace hG := hG.call hB2
  replace hS := hS.call hB2
  have hBB := bel_tr hB hB2
  have zz := hB.size
  obtain ⟨g, hg⟩ : ∃ g, w.heap.size + 1 = g := ⟨_, rfl⟩
  obtain ⟨s, hs⟩ : ∃ s, w.heap.size = s := ⟨_, rfl⟩
  obtain ⟨p, hp⟩ : ∃ p, wa.heap.size + 1 = p := ⟨_, rfl⟩
  obtain ⟨r, hr⟩ : ∃ r, wa.heap.size = r := ⟨_, rfl⟩
  rw [hg, hs] at hG
  rw [hs] at hS
  rw [hp, hr] at hP
  rw [hr] at hR
  rw [hg, hp]
  have hgB : w.heap.size ≤ g := by omega
  have hsB : w.heap.size ≤ s := by omega
  have hpB : w.heap.size ≤ p := by omega
  have hrB : w.heap.size ≤ r := by omega
  have e1 : p ≠ g := by omega
  have e2 : p ≠ s := by omega
  have e3 : r ≠ g := by omega
  have e4 : r ≠ s := by omega
  clear hg hs hp hr zg zs zz hB hB2
  go_wp2_with fail
  go_at_call 13
  refine (at_of E1.out (guess_any g s ⟨0, 0, 0, 5⟩ 5 a0 _ (C.mk_ok (by omega) (by omega) (by omega) (by omega) (by omega)) hG hS)).mono ?_
  rintro e w2 ⟨rfl, hG2, hS2, hT⟩
  have hP2 := hT.bk e1 e2 hP
  have hR2 := hT.bk e3 e4 hR
  have hB2 := hT.bel hG.lt hgB hsB hBB
  clear hG hS hP hR hBB hT
  go_wp2_with fail
  go_at_call 8
  refine (at_of E2.out (boot_any p r ⟨0, 0, 0, 5⟩ 5 a0 _ (C.mk_ok (by omega) (by omega) (by omega) (by omega) (by omega)) hP2 hR2)).mono ?_
  rintro e w3 ⟨rfl, hP3, hR3, hT⟩
  have hG3 := hT.bk (Ne.symm e1) (Ne.symm e3) hG2
  have hS3 := hT.bk (Ne.symm e2) (Ne.symm e4) hS2
  have hB3 := hT.bel hP2.lt hpB hrB hB2
  clear hG2 hS2 hP2 hR2 hB2 hT
  go_wp2_with fail
  go_at_call 14
  refine (at_of E3.out (corr_any g s ⟨1, a0, 0, 5⟩ 5 a1 _ (C.mk_ok (by omega) (by omega) (by omega) (by omega) (by omega)) hG3 hS3)).mono ?_
  rintro e w4 ⟨rfl, hG4, hS4, hT⟩
  have hP4 := hT.bk e1 e2 hP3
  have hR4 := hT.bk e3 e4 hR3
  have hB4 := hT.bel hG3.lt hgB hsB hB3
  clear hG3 hS3 hP3 hR3 hB3 hT
  go_wp2_with fail
  go_at_call 14
  refine (at_of E4.out (corr_any p r ⟨2, a0, 0, 5⟩ 5 a1 _ (C.mk_ok (by omega) (by omega) (by omega) (by omega) (by omega)) hP4 hR4)).mono ?_
  rintro e w5 ⟨rfl, hP5, hR5, hT⟩
  have hG5 := hT.bk (Ne.symm e1) (Ne.symm e3) hG4
  have hS5 := hT.bk (Ne.symm e2) (Ne.symm e4) hS4
  have hB5 := hT.bel hP4.lt hpB hrB hB4
  clear hG4 hS4 hP4 hR4 hB4 hT
  go_wp2_with fail
  go_at_call 9
  refine (now_at g s ⟨2, a0 + a1, 0, 5⟩ 5 (a0 + a1) true _ (C.mk_ok (by omega) (by omega) (by omega) (by omega) (by omega)) hG5 rfl rfl).mono ?_
  rintro e w' ⟨rfl, rfl⟩
  go_wp2_with fail
  go_at_call 9
  refine (now_at p r ⟨2, a0, a1, 5⟩ 5 a0 true _ (C.mk_ok (by omega) (by omega) (by omega) (by omega) (by omega)) hP5 rfl rfl).mono ?_
  rintro e w' ⟨rfl, rfl⟩
  go_wp2_with fail
  go_at_call 15
  refine (left_at g s ⟨2, a0 + a1, 0, 5⟩ 5 0 _ hG5 hS5 rfl).mono ?_
  rintro e w' ⟨rfl, rfl⟩
  go_wp2_with fail
  go_at_call 15
  refine (left_at p r ⟨2, a0, a1, 5⟩ 5 a1 _ hP5 hR5 rfl).mono ?_
  rintro e w' ⟨rfl, rfl⟩
  go_wp2_with fail
  go_at_call 12
  refine (works_any _).mono ?_
  rintro e w' ⟨rfl, hw⟩
  go_wp2_with fail
  go_returns
  exact ⟨rfl, bel_tr hB5 hw⟩
end Go.Proofs.Ytnfoipkmeiklhaa
