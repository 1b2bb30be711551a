/- Contracts of the document's functions for clock. -/
import Derived.Test.YtnfoipkmeiklhaaC
import Derived.Deep.RegionHeld3
import Derived.Deep.DrawnRows
namespace Go.Proofs.Ytnfoipkmeiklhaa
open Go Go.RowKit Go.ChangeShapes Go.WideShapes
set_option linter.unusedVariables false
attribute [local go_sem ↓] Go.wp_at_zero Go.wp_at_succ

theorem refcnew_any (a : Int) (w : World) :
    Calls Try.prog 16 #[.int .i64 a] w fun r w' => r = .returned (.agg #[.int .i64 0, .int .i64 0, .int .i64 0, .int .i64 (cl a 1 256)]) ∧ Below w.heap.size w w' := by
  go_enter Try.func16, Try.ntmps16
  go_wp2_with (go_at_call 28; refine (refnew_any _ _).mono ?_; rintro e w' ⟨rfl, rfl⟩)
  refine bodyPost_ret ?_ rfl ⟨rfl, by go_grown⟩
  simp [results, Try.results16, go_sem]

theorem refboot_any (c : C) (x : Int) (w : World) (hc : c.ok) :
    Calls Try.prog 21 #[.agg (ra c), .int .i64 x] w fun r w' => r = .returned (.tuple #[.agg (ra (boot c x).1), .int .i64 (boot c x).2]) ∧ Below w.heap.size w w' := by
  obtain ⟨ph, a, l, m⟩ := c
  obtain ⟨hp, -⟩ := hc
  simp only at hp
  simp only [ra]
  rcases hp with rfl | rfl | rfl
  · go_enter Try.func21, Try.ntmps21
    go_wp2_with fail
    go_region_held3 (fun w' => w'.cell? ⟨w.heap.size, 2, none⟩ = some (.int .i64 l) ∧ w'.cell? ⟨w.heap.size, 3, none⟩ = some (.int .i64 m))
      (go_keep)
      ((go_at_call 31; refine (reftime_any _ _).mono ?_; rintro e w' ⟨rfl, rfl⟩))
    go_wp2
    refine bodyPost_ret ?_ rfl ⟨rfl, by go_grown⟩
    simp [results, Try.results21, go_sem, boot]
  all_goals
    go_enter Try.func21, Try.ntmps21
    go_wp2_with fail
    refine bodyPost_ret ?_ rfl ⟨rfl, by go_grown⟩
    simp [results, Try.results21, go_sem, boot]
theorem refguess_any (c : C) (x : Int) (w : World) (hc : c.ok) :
    Calls Try.prog 22 #[.agg (ra c), .int .i64 x] w fun r w' => r = .returned (.tuple #[.agg (ra (guess c x).1), .int .i64 (guess c x).2]) ∧ Below w.heap.size w w' := by
  obtain ⟨ph, a, l, m⟩ := c
  obtain ⟨hp, -⟩ := hc
  simp only at hp
  simp only [ra]
  have hp' : ph = 2 ∨ ph = 0 ∨ ph = 1 := by omega
  rcases hp' with rfl | rfl | rfl
  · go_enter Try.func22, Try.ntmps22
    go_wp2_with fail
    refine bodyPost_ret ?_ rfl ⟨rfl, by go_grown⟩
    simp [results, Try.results22, go_sem, guess]
  all_goals
    go_enter Try.func22, Try.ntmps22
    go_wp2_with fail
    go_region_held3 (fun w' => w'.cell? ⟨w.heap.size, 2, none⟩ = some (.int .i64 l) ∧ w'.cell? ⟨w.heap.size, 3, none⟩ = some (.int .i64 m))
      (go_keep)
      ((go_at_call 31; refine (reftime_any _ _).mono ?_; rintro e w' ⟨rfl, rfl⟩))
    go_wp2
    refine bodyPost_ret ?_ rfl ⟨rfl, by go_grown⟩
    simp [results, Try.results22, go_sem, guess]
set_option maxHeartbeats 2000000 in
theorem refcorr_any (c : C) (x : Int) (w : World) (hc : c.ok) :
    Calls Try.prog 23 #[.agg (ra c), .int .i64 x] w fun r w' => r = .returned (.tuple #[.agg (ra (corr c x).1), .int .i64 (corr c x).2]) ∧ Below w.heap.size w w' := by
  obtain ⟨ph, a, l, m⟩ := c
  obtain ⟨hp, ⟨ha0, ha1⟩, -⟩ := hc
  simp only at hp ha0 ha1
  simp only [ra]
  rcases hp with rfl | rfl | rfl
  · go_enter Try.func23, Try.ntmps23
    go_wp2_with fail
    refine bodyPost_ret ?_ rfl ⟨rfl, by go_grown⟩
    simp [results, Try.results23, go_sem, corr]
  · have ba := aim_bd x
    have hi : cl x (-1152921504606846976) 1152921504606846976 = aim x := rfl
    have hw : IntKind.i64.wrap (a + aim x) = a + aim x := IntWalk.i64_in _ (by omega)
    go_enter Try.func23, Try.ntmps23
    go_wp2_with fail
    go_region_held3 (fun w' => w'.cell? ⟨w.heap.size, 1, none⟩ = some (.int .i64 a) ∧ w'.cell? ⟨w.heap.size, 2, none⟩ = some (.int .i64 l) ∧ w'.cell? ⟨w.heap.size, 3, none⟩ = some (.int .i64 m))
      (go_keep)
      (first | (go_at_call 32; refine (refclamp_any _ _ _ _ (by omega)).mono ?_; rintro e w' ⟨rfl, rfl⟩) | (go_at_call 31; refine (reftime_any _ _).mono ?_; rintro e w' ⟨rfl, rfl⟩))
    go_wp2
    refine bodyPost_ret ?_ rfl ⟨rfl, by go_grown⟩
    simp [results, Try.results23, go_sem, corr]
  · go_enter Try.func23, Try.ntmps23
    go_wp2_with fail
    have hp := (Bk.new w 34 [.int .i64 2, .int .i64 a, .int .i64 l, .int .i64 m]).alloc (.cells #[.int .i64 0, .int .i64 0, .int .i64 0, .int .i64 0] 34)
    have hq : Bk ((w.alloc (.cells #[.int .i64 2, .int .i64 a, .int .i64 l, .int .i64 m] 34)).alloc (.cells #[.int .i64 0, .int .i64 0, .int .i64 0, .int .i64 0] 34)) (w.heap.size + 1) 34 [.int .i64 0, .int .i64 0, .int .i64 0, .int .i64 0] := by simpa using Bk.new (w.alloc (.cells #[.int .i64 2, .int .i64 a, .int .i64 l, .int .i64 m] 34)) 34 [.int .i64 0, .int .i64 0, .int .i64 0, .int .i64 0]
    have hb : Below w.heap.size w ((w.alloc (.cells #[.int .i64 2, .int .i64 a, .int .i64 l, .int .i64 m] 34)).alloc (.cells #[.int .i64 0, .int .i64 0, .int .i64 0, .int .i64 0] 34)) := by go_grown
    change Bk ((w.alloc (.cells #[.int .i64 2, .int .i64 a, .int .i64 l, .int .i64 m] 34)).alloc (.cells #[.int .i64 0, .int .i64 0, .int .i64 0, .int .i64 0] 34)) _ _ _ at hp
    generalize (w.alloc (.cells #[.int .i64 2, .int .i64 a, .int .i64 l, .int .i64 m] 34)).alloc (.cells #[.int .i64 0, .int .i64 0, .int .i64 0, .int .i64 0] 34) = wx at *
    obtain ⟨q, eq⟩ : ∃ q, w.heap.size + 1 = q := ⟨_, rfl⟩
    obtain ⟨p, ep⟩ : ∃ p, w.heap.size = p := ⟨_, rfl⟩
    rw [eq] at hq
    rw [ep] at hp
    rw [eq, ep]
    have hpq : p ≠ q := by omega
    have hqB : w.heap.size ≤ q := by omega
    have eq' := hid eq
    have ep' := hid ep
    clear eq ep
    have p1 : wx.cell? ⟨p, 1, none⟩ = some (.int .i64 a) := hp.cell rfl
    have p2 : wx.cell? ⟨p, 2, none⟩ = some (.int .i64 l) := hp.cell rfl
    have p3 : wx.cell? ⟨p, 3, none⟩ = some (.int .i64 m) := hp.cell rfl
    go_region_held3 (fun w' => w'.cell? ⟨p, 1, none⟩ = some (.int .i64 a) ∧ w'.cell? ⟨p, 2, none⟩ = some (.int .i64 l) ∧ w'.cell? ⟨p, 3, none⟩ = some (.int .i64 m))
      (first | exact ⟨hp3.cell rfl, hp3.cell rfl, hp3.cell rfl⟩ | go_keep)
      ((go_at_call 33; refine (refaim_any _ _ _ _).mono ?_; rintro e w2 ⟨rfl, hb2⟩; have hp2 := hp.drew.call hb2; have hp3 := (((hp2.far (p := ⟨q, 0, none⟩) hpq (.int .i64 2)).far (p := ⟨q, 1, none⟩) hpq (.int .i64 a)).far (p := ⟨q, 2, none⟩) hpq (.int .i64 (aim x))).far (p := ⟨q, 3, none⟩) hpq (.int .i64 m); have hq2 := hq.drew.call hb2; have m1 : w2.cell? ⟨p, 1, none⟩ = some (.int .i64 a) := hp2.cell rfl; have m2 : w2.cell? ⟨p, 2, none⟩ = some (.int .i64 l) := hp2.cell rfl; have m3 : w2.cell? ⟨p, 3, none⟩ = some (.int .i64 m) := hp2.cell rfl; have k0 := hq2.cell (i := 0) rfl; have k1 := hq2.cell (i := 1) rfl; have k2 := hq2.cell (i := 2) rfl; have k3 := hq2.cell (i := 3) rfl; have u0 := hq2.free 0; have u1 := hq2.free 1; have u2 := hq2.free 2; have u3 := hq2.free 3))
    have hq3 := (((hq2.s0 (a := .int .i64 2)).s1 (a := .int .i64 a)).s2 (a := .int .i64 (aim x))).s3 (a := .int .i64 m)
    have hb3 := ((((bel_tr hb.drew hb2).setCell (p := ⟨q, 0, none⟩) hqB (.int .i64 2)).setCell (p := ⟨q, 1, none⟩) hqB (.int .i64 a)).setCell (p := ⟨q, 2, none⟩) hqB (.int .i64 (aim x))).setCell (p := ⟨q, 3, none⟩) hqB (.int .i64 m)
    have d0 := hq3.cell (i := 0) rfl
    have d1 := hq3.cell (i := 1) rfl
    have d2 := hq3.cell (i := 2) rfl
    have d3 := hq3.cell (i := 3) rfl
    clear hp hq hb p1 p2 p3 hp2 hp3 hq2 m1 m2 m3 k0 k1 k2 k3 u0 u1 u2 u3
    go_wp2
    refine bodyPost_ret ?_ rfl ⟨rfl, hb3⟩
    simp [results, Try.results23, go_sem, corr, d0, d1, d2, d3]
theorem time2 (x t : Int) (w : World) (h : tm x = t) : Calls Try.prog 31 #[.int .i64 x] w fun e w' => e = .returned (.int .i64 t) ∧ w = w' := h ▸ reftime_any x w
set_option maxHeartbeats 4000000 in
theorem reftick_any (c : C) (x : Int) (w : World) (hc : c.ok) :
    Calls Try.prog 24 #[.agg (ra c), .int .i64 x] w fun r w' => r = .returned (.tuple #[.agg (ra (tick c x).1), .int .i64 (tick c x).2]) ∧ Below w.heap.size w w' := by
  obtain ⟨ph, a, l, m⟩ := c
  obtain ⟨hp, ⟨ha0, ha1⟩, hl, hm, hm2⟩ := hc
  simp only at hp ha0 ha1 hl hm hm2
  simp only [ra]
  by_cases h0 : ph = 0
  · subst h0
    go_enter Try.func24, Try.ntmps24
    go_wp2_with fail
    refine bodyPost_ret ?_ rfl ⟨rfl, by go_grown⟩
    simp [results, Try.results24, go_sem, tick]
  · have hm1 : 1 ≤ m := by omega
    have bi := inc_bd x
    have bd := made_bd l (m := m) (i := inc x) (by omega) bi.1
    have h0' : (ph == 0) = false := by simpa using h0
    have e := hid (show tick ⟨ph, a, l, m⟩ x = (⟨ph, tm (a + (inc x + made l m (inc x))), l - made l m (inc x), m⟩, tm (a + (inc x + made l m (inc x))) - a) by simp [tick, h0])
    rw [e.out]
    obtain ⟨v, hv⟩ : ∃ v, inc x + made l m (inc x) = v := ⟨_, rfl⟩
    have ST := fun w => refstep_any l m x w hm1 hm2 hl
    obtain ⟨d, hd⟩ : ∃ d, l - made l m (inc x) = d := ⟨_, rfl⟩
    simp only [hv, hd] at ST ⊢
    have bv : 0 ≤ v ∧ v ≤ 1048832 := by omega
    have ST' := hid ST
    obtain ⟨t, ht⟩ : ∃ t, tm (a + v) = t := ⟨_, rfl⟩
    have bt := tm_bd (a + v)
    have TM := fun w => time2 (a + v) t w ht
    rw [ht] at bt ⊢
    have TM' := hid TM
    clear hv hd ST bi bd h0 e ht TM
    go_enter Try.func24, Try.ntmps24
    go_wp2_with fail
    have hp := (Bk.new w 34 [.int .i64 ph, .int .i64 a, .int .i64 l, .int .i64 m]).alloc (.cells #[.int .i64 0, .int .i64 0, .int .i64 0, .int .i64 0] 34)
    have hq : Bk ((w.alloc (.cells #[.int .i64 ph, .int .i64 a, .int .i64 l, .int .i64 m] 34)).alloc (.cells #[.int .i64 0, .int .i64 0, .int .i64 0, .int .i64 0] 34)) (w.heap.size + 1) 34 [.int .i64 0, .int .i64 0, .int .i64 0, .int .i64 0] := by simpa using Bk.new (w.alloc (.cells #[.int .i64 ph, .int .i64 a, .int .i64 l, .int .i64 m] 34)) 34 [.int .i64 0, .int .i64 0, .int .i64 0, .int .i64 0]
    have hb : Below w.heap.size w ((w.alloc (.cells #[.int .i64 ph, .int .i64 a, .int .i64 l, .int .i64 m] 34)).alloc (.cells #[.int .i64 0, .int .i64 0, .int .i64 0, .int .i64 0] 34)) := by go_grown
    change Bk ((w.alloc (.cells #[.int .i64 ph, .int .i64 a, .int .i64 l, .int .i64 m] 34)).alloc (.cells #[.int .i64 0, .int .i64 0, .int .i64 0, .int .i64 0] 34)) _ _ _ at hp
    generalize (w.alloc (.cells #[.int .i64 ph, .int .i64 a, .int .i64 l, .int .i64 m] 34)).alloc (.cells #[.int .i64 0, .int .i64 0, .int .i64 0, .int .i64 0] 34) = wx at *
    obtain ⟨q, eq⟩ : ∃ q, w.heap.size + 1 = q := ⟨_, rfl⟩
    obtain ⟨p, ep⟩ : ∃ p, w.heap.size = p := ⟨_, rfl⟩
    rw [eq] at hq
    rw [ep] at hp
    rw [eq, ep]
    have hpq : p ≠ q := by omega
    have hqB : w.heap.size ≤ q := by omega
    clear eq ep
    go_at_call 34
    refine (ST'.out _).mono ?_
    rintro e w2 ⟨rfl, hb2⟩
    have hp2 := (hp.call hb2).alloc (.cells #[.int .i64 d, .int .i64 m] 32)
    have hq2 := (hq.call hb2).alloc (.cells #[.int .i64 d, .int .i64 m] 32)
    have hn2 := Bk.new w2 32 [.int .i64 d, .int .i64 m]
    have hb3 := (bel_tr hb hb2).alloc (bel_tr hb hb2).size (.cells #[.int .i64 d, .int .i64 m] 32)
    have z2 := (hq.call hb2).lt
    have z3 := (hp.call hb2).lt
    have zp0 : w2.cell? ⟨p, 0, none⟩ = some (.int .i64 ph) := (hp.call hb2).cell rfl
    have zp1 : w2.cell? ⟨p, 1, none⟩ = some (.int .i64 a) := (hp.call hb2).cell rfl
    have zz : ¬ p = w2.heap.size := by omega
    have zz2 : ¬ w2.heap.size = p := by omega
    go_wp2_with (go_at_call 31; refine (TM'.out _).mono ?_; rintro e w' ⟨rfl, rfl⟩)
    obtain ⟨n, en⟩ : ∃ n, w2.heap.size = n := ⟨_, rfl⟩
    change Bk (w2.alloc (.cells #[.int .i64 d, .int .i64 m] 32)) _ _ _ at hn2
    generalize w2.alloc (.cells #[.int .i64 d, .int .i64 m] 32) = w3 at *
    rw [en] at hn2
    rw [en]
    have hnq : n ≠ q := by omega
    clear zp0 zp1 zz zz2 z2 z3 en hp hq hb hb2
    have p0 : w3.cell? ⟨p, 0, none⟩ = some (.int .i64 ph) := hp2.cell rfl
    have p1 : w3.cell? ⟨p, 1, none⟩ = some (.int .i64 a) := hp2.cell rfl
    have n0 : w3.cell? ⟨n, 0, none⟩ = some (.int .i64 d) := hn2.cell rfl
    have n1 : w3.cell? ⟨n, 1, none⟩ = some (.int .i64 m) := hn2.cell rfl
    have k0 := hq2.cell (i := 0) rfl
    have k1 := hq2.cell (i := 1) rfl
    have k2 := hq2.cell (i := 2) rfl
    have k3 := hq2.cell (i := 3) rfl
    have u0 := hq2.free 0
    have u1 := hq2.free 1
    have u2 := hq2.free 2
    have u3 := hq2.free 3
    have hp4 := (((hp2.drew.far (p := ⟨q, 0, none⟩) hpq (.int .i64 ph)).far (p := ⟨q, 1, none⟩) hpq (.int .i64 t)).far (p := ⟨q, 2, none⟩) hpq (.int .i64 d)).far (p := ⟨q, 3, none⟩) hpq (.int .i64 m)
    have hn4 := (((hn2.drew.far (p := ⟨q, 0, none⟩) hnq (.int .i64 ph)).far (p := ⟨q, 1, none⟩) hnq (.int .i64 t)).far (p := ⟨q, 2, none⟩) hnq (.int .i64 d)).far (p := ⟨q, 3, none⟩) hnq (.int .i64 m)
    have hw : IntKind.i64.wrap (t - a) = t - a := IntWalk.i64_in _ (by omega)
    have hp4' := hid hp4
    have hn4' := hid hn4
    clear hp4 hn4
    go_region_held3 (fun w' => w'.cell? ⟨p, 0, none⟩ = some (.int .i64 ph) ∧ w'.cell? ⟨p, 1, none⟩ = some (.int .i64 a) ∧ w'.cell? ⟨n, 0, none⟩ = some (.int .i64 d) ∧ w'.cell? ⟨n, 1, none⟩ = some (.int .i64 m))
      (first | exact ⟨hp4'.out.cell rfl, hp4'.out.cell rfl, hn4'.out.cell rfl, hn4'.out.cell rfl⟩ | go_keep)
      (fail)
    have hq4 := (((hq2.s0 (a := .int .i64 ph)).s1 (a := .int .i64 t)).s2 (a := .int .i64 d)).s3 (a := .int .i64 m)
    have d0 := hq4.cell (i := 0) rfl
    have d1 := hq4.cell (i := 1) rfl
    have d2 := hq4.cell (i := 2) rfl
    have d3 := hq4.cell (i := 3) rfl
    clear p0 p1 n0 n1 k0 k1 k2 k3 u0 u1 u2 u3
    go_wp2
    refine bodyPost_ret ?_ rfl ⟨rfl, by repeat (first | exact hb3 | refine Below.drew ?_ | refine Below.setCell ?_ hqB _)⟩
    simp [results, Try.results24, go_sem, d0, d1, d2, d3]
end Go.Proofs.Ytnfoipkmeiklhaa
