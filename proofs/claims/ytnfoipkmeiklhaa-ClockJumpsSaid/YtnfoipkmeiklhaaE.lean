/- The law's helper 'one': a call of both, kind by kind. -/
import Derived.Test.YtnfoipkmeiklhaaD
namespace Go.Proofs.Ytnfoipkmeiklhaa
open Go Go.RowKit Go.ChangeShapes Go.WideShapes
set_option linter.unusedVariables false
attribute [local go_sem ↓] Go.wp_at_zero Go.wp_at_succ

theorem one_w3 {g s : Nat} {G S : List Value} {w : World} {A B Z : List Value} (hG : Bk w g 49 G) (hS : Bk w s 59 S) :
    Bk (((w.alloc (.cells A.toArray 34)).alloc (.cells B.toArray 30)).alloc (.cells Z.toArray 34)) g 49 G ∧ Bk (((w.alloc (.cells A.toArray 34)).alloc (.cells B.toArray 30)).alloc (.cells Z.toArray 34)) s 59 S ∧
    Bk (((w.alloc (.cells A.toArray 34)).alloc (.cells B.toArray 30)).alloc (.cells Z.toArray 34)) w.heap.size 34 A ∧
    Bk (((w.alloc (.cells A.toArray 34)).alloc (.cells B.toArray 30)).alloc (.cells Z.toArray 34)) (w.heap.size + 1) 30 B ∧ Bk (((w.alloc (.cells A.toArray 34)).alloc (.cells B.toArray 30)).alloc (.cells Z.toArray 34)) (w.heap.size + 1 + 1) 34 Z ∧
    Step2 g s w (((w.alloc (.cells A.toArray 34)).alloc (.cells B.toArray 30)).alloc (.cells Z.toArray 34)) ∧ g < w.heap.size ∧ s < w.heap.size := by
  refine ⟨((hG.alloc _).alloc _).alloc _, ((hS.alloc _).alloc _).alloc _, ((Bk.new w 34 A).alloc _).alloc _, ?_, ?_, (((Step2.refl _ _ _).alloc _).alloc _).alloc _, hG.lt, hS.lt⟩
  · exact ((Bk.new (w.alloc (.cells A.toArray 34)) 30 B).alloc _ : Bk _ ((w.alloc (.cells A.toArray 34)).heap.size) 30 B) |> fun h => by simpa using h
  · exact (Bk.new ((w.alloc (.cells A.toArray 34)).alloc (.cells B.toArray 30)) 34 Z : Bk _ (((w.alloc (.cells A.toArray 34)).alloc (.cells B.toArray 30)).heap.size) 34 Z) |> fun h => by simpa using h

/-- The worlds of 'one' behind its first call. -/
theorem one_first {g s : Nat} {G S : List Value} {w w1 : World} {A B Z : List Value} {x : List Value} (hG : Bk w g 49 G) (hS : Bk w s 59 S)
    (hb : Below (((w.alloc (.cells A.toArray 34)).alloc (.cells B.toArray 30)).alloc (.cells Z.toArray 34)).heap.size (((w.alloc (.cells A.toArray 34)).alloc (.cells B.toArray 30)).alloc (.cells Z.toArray 34)) w1) :
    Bk (w1.alloc (.cells x.toArray 34)) g 49 G ∧ Bk (w1.alloc (.cells x.toArray 34)) s 59 S ∧ Bk (w1.alloc (.cells x.toArray 34)) (w.heap.size + 1) 30 B ∧ Bk (w1.alloc (.cells x.toArray 34)) (w.heap.size + 1 + 1) 34 Z ∧ Bk (w1.alloc (.cells x.toArray 34)) w1.heap.size 34 x ∧ Step2 g s w (w1.alloc (.cells x.toArray 34)) ∧ g < w.heap.size ∧ s < w.heap.size ∧ w.heap.size + 1 + 1 < w1.heap.size := by
  obtain ⟨h1, h2, _, h3, h4, h5, z, z'⟩ := one_w3 (A := A) (B := B) (Z := Z) hG hS
  refine ⟨(h1.call hb).alloc _, (h2.call hb).alloc _, (h3.call hb).alloc _, (h4.call hb).alloc _, Bk.new _ _ _, (h5.call hb).alloc _, z, z', ?_⟩
  have := hb.size; simp at this; omega

set_option maxRecDepth 100000 in
set_option maxHeartbeats 4000000 in
theorem one0 (g s : Nat) (c r : C) (mo sl k x : Int) (w : World) (hc : c.ok) (hr : r.ok) (hk : 0 ≤ k ∧ k ≤ 255) (hm : k % 8 = 0) (hG : Bk w g 49 (gc s c mo)) (hS : Bk w s 59 (sc c)) :
    Calls Try.prog 10 #[.pointer (some ⟨g, 0, none⟩), .agg (ra r), .int .i64 sl, .agg #[.int .u8 k, .int .i64 x]] w fun e w' => e = .returned (.tuple #[.agg (ra (boot r x).1), .bool ((boot c x).2 == (boot r x).2)]) ∧ Bk w' g 49 (gc s (boot c x).1 mo) ∧ Bk w' s 59 (sc (boot c x).1) ∧ Step2 g s w w' := by
  obtain ⟨hk0, hk1⟩ := hk
  have t0 : (k % 8 == 0) = true := by simp; omega
  clear hm
  go_enter Try.func10, Try.ntmps10
  go_wp2_with fail
  go_at_call 21
  refine (refboot_any r x _ hr).mono ?_
  rintro e w1 ⟨rfl, hb⟩
  obtain ⟨rr, hrr⟩ : ∃ rr, boot r x = rr := ⟨_, rfl⟩
  rw [hrr]
  have hrr' := hid hrr
  clear hrr
  go_wp2_with fail
  obtain ⟨hG, hS, hp, hq, hh, hT, z0, z0', z1⟩ := one_first (A := rc r) (B := [.int .u8 k, .int .i64 x]) (Z := [.int .i64 0, .int .i64 0, .int .i64 0, .int .i64 0]) (x := rc rr.1) hG hS hb
  clear hb
  generalize w1.alloc (.cells #[.int .i64 rr.1.ph, .int .i64 rr.1.at', .int .i64 rr.1.l, .int .i64 rr.1.m] 34) = wx at *
  obtain ⟨h, eh⟩ : ∃ h, w1.heap.size = h := ⟨_, rfl⟩
  obtain ⟨q, eq⟩ : ∃ q, w.heap.size + 1 + 1 = q := ⟨_, rfl⟩
  obtain ⟨p, ep⟩ : ∃ p, w.heap.size + 1 = p := ⟨_, rfl⟩
  rw [eh] at hh
  rw [eq] at hq
  rw [ep] at hp
  rw [eh, eq, ep]
  have e1 : h ≠ g := by omega
  have e1' : h ≠ s := by omega
  have e2 : q ≠ g := by omega
  have e2' : q ≠ s := by omega
  have e3 : p ≠ g := by omega
  have e3' : p ≠ s := by omega
  have e6 : h ≠ q := by omega
  have e7 : p ≠ q := by omega
  have e4 : g ≠ q := by omega
  have e4' : s ≠ q := by omega
  have e5 : w.heap.size ≤ q := by omega
  clear eh eq ep z0 z0' z1
  have h0 : wx.cell? ⟨h, 0, none⟩ = some (.int .i64 rr.1.ph) := hh.cell rfl
  have h1 : wx.cell? ⟨h, 1, none⟩ = some (.int .i64 rr.1.at') := hh.cell rfl
  have h2 : wx.cell? ⟨h, 2, none⟩ = some (.int .i64 rr.1.l) := hh.cell rfl
  have h3 : wx.cell? ⟨h, 3, none⟩ = some (.int .i64 rr.1.m) := hh.cell rfl
  have p1 : wx.cell? ⟨p, 1, none⟩ = some (.int .i64 x) := hp.cell rfl
  go_region_held3 (fun w' => w'.cell? ⟨p, 1, none⟩ = some (.int .i64 x) ∧ w'.cell? ⟨h, 0, none⟩ = some (.int .i64 rr.1.ph) ∧ w'.cell? ⟨h, 1, none⟩ = some (.int .i64 rr.1.at') ∧ w'.cell? ⟨h, 2, none⟩ = some (.int .i64 rr.1.l) ∧ w'.cell? ⟨h, 3, none⟩ = some (.int .i64 rr.1.m))
    (first | exact ⟨hp3.cell rfl, hh3.cell rfl, hh3.cell rfl, hh3.cell rfl, hh3.cell rfl⟩ | exact ⟨hp2.cell rfl, hh2.cell rfl, hh2.cell rfl, hh2.cell rfl, hh2.cell rfl⟩ | go_keep)
    ((go_at_call 8; refine (boot_any g s c mo x _ hc hG.drew hS.drew).mono ?_; rintro e w2 ⟨rfl, hG', hS', hT'⟩; have hh2 := hT'.bk e1 e1' hh.drew; have hp2 := hT'.bk e3 e3' hp.drew; have hq2 := hT'.bk e2 e2' hq.drew; have hh3 := (((hh2.far (p := ⟨q, 0, none⟩) e6 (.int .i64 rr.1.ph)).far (p := ⟨q, 1, none⟩) e6 (.int .i64 rr.1.at')).far (p := ⟨q, 2, none⟩) e6 (.int .i64 rr.1.l)).far (p := ⟨q, 3, none⟩) e6 (.int .i64 rr.1.m); have hp3 := (((hp2.far (p := ⟨q, 0, none⟩) e7 (.int .i64 rr.1.ph)).far (p := ⟨q, 1, none⟩) e7 (.int .i64 rr.1.at')).far (p := ⟨q, 2, none⟩) e7 (.int .i64 rr.1.l)).far (p := ⟨q, 3, none⟩) e7 (.int .i64 rr.1.m); have k0 := hq2.cell (i := 0) rfl; have k1 := hq2.cell (i := 1) rfl; have k2 := hq2.cell (i := 2) rfl; have k3 := hq2.cell (i := 3) rfl; have u0 := hq2.free 0; have u1 := hq2.free 1; have u2 := hq2.free 2; have u3 := hq2.free 3))
  have hq3 := (((hq2.s0 (a := .int .i64 rr.1.ph)).s1 (a := .int .i64 rr.1.at')).s2 (a := .int .i64 rr.1.l)).s3 (a := .int .i64 rr.1.m)
  have hG3 := (((hG'.far (p := ⟨q, 0, none⟩) e4 (.int .i64 rr.1.ph)).far (p := ⟨q, 1, none⟩) e4 (.int .i64 rr.1.at')).far (p := ⟨q, 2, none⟩) e4 (.int .i64 rr.1.l)).far (p := ⟨q, 3, none⟩) e4 (.int .i64 rr.1.m)
  have hS3 := (((hS'.far (p := ⟨q, 0, none⟩) e4' (.int .i64 rr.1.ph)).far (p := ⟨q, 1, none⟩) e4' (.int .i64 rr.1.at')).far (p := ⟨q, 2, none⟩) e4' (.int .i64 rr.1.l)).far (p := ⟨q, 3, none⟩) e4' (.int .i64 rr.1.m)
  have hT3 := ((((hT.drew.trans hT').setNew (p := ⟨q, 0, none⟩) e5 (.int .i64 rr.1.ph)).setNew (p := ⟨q, 1, none⟩) e5 (.int .i64 rr.1.at')).setNew (p := ⟨q, 2, none⟩) e5 (.int .i64 rr.1.l)).setNew (p := ⟨q, 3, none⟩) e5 (.int .i64 rr.1.m)
  generalize (((w2.setCell ⟨q, 0, none⟩ (.int .i64 rr.1.ph)).setCell ⟨q, 1, none⟩ (.int .i64 rr.1.at')).setCell ⟨q, 2, none⟩ (.int .i64 rr.1.l)).setCell ⟨q, 3, none⟩ (.int .i64 rr.1.m) = w3 at *
  have d0 : w3.cell? ⟨q, 0, none⟩ = some (.int .i64 rr.1.ph) := hq3.cell rfl
  have d1 : w3.cell? ⟨q, 1, none⟩ = some (.int .i64 rr.1.at') := hq3.cell rfl
  have d2 : w3.cell? ⟨q, 2, none⟩ = some (.int .i64 rr.1.l) := hq3.cell rfl
  have d3 : w3.cell? ⟨q, 3, none⟩ = some (.int .i64 rr.1.m) := hq3.cell rfl
  clear hG hS hT hh hq hp h0 h1 h2 h3 p1 hG' hS' hT' hh2 hp2 hq2 hh3 hp3 k0 k1 k2 k3 u0 u1 u2 u3
  go_wp2
  refine bodyPost_ret ?_ rfl ⟨rfl, hG3, hS3, hT3⟩
  have hrr := hrr'.out
  subst hrr
  simp [results, Try.results10, go_sem, d0, d1, d2, d3]

set_option maxRecDepth 100000 in
set_option maxHeartbeats 4000000 in
theorem one1 (g s : Nat) (c r : C) (mo sl k x : Int) (w : World) (hc : c.ok) (hr : r.ok) (hk : 0 ≤ k ∧ k ≤ 255) (hm : k % 8 = 1) (hG : Bk w g 49 (gc s c mo)) (hS : Bk w s 59 (sc c)) :
    Calls Try.prog 10 #[.pointer (some ⟨g, 0, none⟩), .agg (ra r), .int .i64 sl, .agg #[.int .u8 k, .int .i64 x]] w fun e w' => e = .returned (.tuple #[.agg (ra (guess r x).1), .bool ((guess c x).2 == (guess r x).2)]) ∧ Bk w' g 49 (gc s (guess c x).1 mo) ∧ Bk w' s 59 (sc (guess c x).1) ∧ Step2 g s w w' := by
  obtain ⟨hk0, hk1⟩ := hk
  have t0 : (k % 8 == 0) = false := by simp; omega
  have t1 : (k % 8 == 1) = true := by simp; omega
  clear hm
  go_enter Try.func10, Try.ntmps10
  go_wp2_with fail
  go_at_call 22
  refine (refguess_any r x _ hr).mono ?_
  rintro e w1 ⟨rfl, hb⟩
  obtain ⟨rr, hrr⟩ : ∃ rr, guess r x = rr := ⟨_, rfl⟩
  rw [hrr]
  have hrr' := hid hrr
  clear hrr
  go_wp2_with fail
  obtain ⟨hG, hS, hp, hq, hh, hT, z0, z0', z1⟩ := one_first (A := rc r) (B := [.int .u8 k, .int .i64 x]) (Z := [.int .i64 0, .int .i64 0, .int .i64 0, .int .i64 0]) (x := rc rr.1) hG hS hb
  clear hb
  generalize w1.alloc (.cells #[.int .i64 rr.1.ph, .int .i64 rr.1.at', .int .i64 rr.1.l, .int .i64 rr.1.m] 34) = wx at *
  obtain ⟨h, eh⟩ : ∃ h, w1.heap.size = h := ⟨_, rfl⟩
  obtain ⟨q, eq⟩ : ∃ q, w.heap.size + 1 + 1 = q := ⟨_, rfl⟩
  obtain ⟨p, ep⟩ : ∃ p, w.heap.size + 1 = p := ⟨_, rfl⟩
  rw [eh] at hh
  rw [eq] at hq
  rw [ep] at hp
  rw [eh, eq, ep]
  have e1 : h ≠ g := by omega
  have e1' : h ≠ s := by omega
  have e2 : q ≠ g := by omega
  have e2' : q ≠ s := by omega
  have e3 : p ≠ g := by omega
  have e3' : p ≠ s := by omega
  have e6 : h ≠ q := by omega
  have e7 : p ≠ q := by omega
  have e4 : g ≠ q := by omega
  have e4' : s ≠ q := by omega
  have e5 : w.heap.size ≤ q := by omega
  clear eh eq ep z0 z0' z1
  have h0 : wx.cell? ⟨h, 0, none⟩ = some (.int .i64 rr.1.ph) := hh.cell rfl
  have h1 : wx.cell? ⟨h, 1, none⟩ = some (.int .i64 rr.1.at') := hh.cell rfl
  have h2 : wx.cell? ⟨h, 2, none⟩ = some (.int .i64 rr.1.l) := hh.cell rfl
  have h3 : wx.cell? ⟨h, 3, none⟩ = some (.int .i64 rr.1.m) := hh.cell rfl
  have p1 : wx.cell? ⟨p, 1, none⟩ = some (.int .i64 x) := hp.cell rfl
  go_region_held3 (fun w' => w'.cell? ⟨p, 1, none⟩ = some (.int .i64 x) ∧ w'.cell? ⟨h, 0, none⟩ = some (.int .i64 rr.1.ph) ∧ w'.cell? ⟨h, 1, none⟩ = some (.int .i64 rr.1.at') ∧ w'.cell? ⟨h, 2, none⟩ = some (.int .i64 rr.1.l) ∧ w'.cell? ⟨h, 3, none⟩ = some (.int .i64 rr.1.m))
    (first | exact ⟨hp3.cell rfl, hh3.cell rfl, hh3.cell rfl, hh3.cell rfl, hh3.cell rfl⟩ | exact ⟨hp2.cell rfl, hh2.cell rfl, hh2.cell rfl, hh2.cell rfl, hh2.cell rfl⟩ | go_keep)
    ((go_at_call 13; refine (guess_any g s c mo x _ hc hG.drew hS.drew).mono ?_; rintro e w2 ⟨rfl, hG', hS', hT'⟩; have hh2 := hT'.bk e1 e1' hh.drew; have hp2 := hT'.bk e3 e3' hp.drew; have hq2 := hT'.bk e2 e2' hq.drew; have hh3 := (((hh2.far (p := ⟨q, 0, none⟩) e6 (.int .i64 rr.1.ph)).far (p := ⟨q, 1, none⟩) e6 (.int .i64 rr.1.at')).far (p := ⟨q, 2, none⟩) e6 (.int .i64 rr.1.l)).far (p := ⟨q, 3, none⟩) e6 (.int .i64 rr.1.m); have hp3 := (((hp2.far (p := ⟨q, 0, none⟩) e7 (.int .i64 rr.1.ph)).far (p := ⟨q, 1, none⟩) e7 (.int .i64 rr.1.at')).far (p := ⟨q, 2, none⟩) e7 (.int .i64 rr.1.l)).far (p := ⟨q, 3, none⟩) e7 (.int .i64 rr.1.m); have k0 := hq2.cell (i := 0) rfl; have k1 := hq2.cell (i := 1) rfl; have k2 := hq2.cell (i := 2) rfl; have k3 := hq2.cell (i := 3) rfl; have u0 := hq2.free 0; have u1 := hq2.free 1; have u2 := hq2.free 2; have u3 := hq2.free 3))
  have hq3 := (((hq2.s0 (a := .int .i64 rr.1.ph)).s1 (a := .int .i64 rr.1.at')).s2 (a := .int .i64 rr.1.l)).s3 (a := .int .i64 rr.1.m)
  have hG3 := (((hG'.far (p := ⟨q, 0, none⟩) e4 (.int .i64 rr.1.ph)).far (p := ⟨q, 1, none⟩) e4 (.int .i64 rr.1.at')).far (p := ⟨q, 2, none⟩) e4 (.int .i64 rr.1.l)).far (p := ⟨q, 3, none⟩) e4 (.int .i64 rr.1.m)
  have hS3 := (((hS'.far (p := ⟨q, 0, none⟩) e4' (.int .i64 rr.1.ph)).far (p := ⟨q, 1, none⟩) e4' (.int .i64 rr.1.at')).far (p := ⟨q, 2, none⟩) e4' (.int .i64 rr.1.l)).far (p := ⟨q, 3, none⟩) e4' (.int .i64 rr.1.m)
  have hT3 := ((((hT.drew.trans hT').setNew (p := ⟨q, 0, none⟩) e5 (.int .i64 rr.1.ph)).setNew (p := ⟨q, 1, none⟩) e5 (.int .i64 rr.1.at')).setNew (p := ⟨q, 2, none⟩) e5 (.int .i64 rr.1.l)).setNew (p := ⟨q, 3, none⟩) e5 (.int .i64 rr.1.m)
  generalize (((w2.setCell ⟨q, 0, none⟩ (.int .i64 rr.1.ph)).setCell ⟨q, 1, none⟩ (.int .i64 rr.1.at')).setCell ⟨q, 2, none⟩ (.int .i64 rr.1.l)).setCell ⟨q, 3, none⟩ (.int .i64 rr.1.m) = w3 at *
  have d0 : w3.cell? ⟨q, 0, none⟩ = some (.int .i64 rr.1.ph) := hq3.cell rfl
  have d1 : w3.cell? ⟨q, 1, none⟩ = some (.int .i64 rr.1.at') := hq3.cell rfl
  have d2 : w3.cell? ⟨q, 2, none⟩ = some (.int .i64 rr.1.l) := hq3.cell rfl
  have d3 : w3.cell? ⟨q, 3, none⟩ = some (.int .i64 rr.1.m) := hq3.cell rfl
  clear hG hS hT hh hq hp h0 h1 h2 h3 p1 hG' hS' hT' hh2 hp2 hq2 hh3 hp3 k0 k1 k2 k3 u0 u1 u2 u3
  go_wp2
  refine bodyPost_ret ?_ rfl ⟨rfl, hG3, hS3, hT3⟩
  have hrr := hrr'.out
  subst hrr
  simp [results, Try.results10, go_sem, d0, d1, d2, d3]

set_option maxRecDepth 100000 in
set_option maxHeartbeats 4000000 in
theorem one2 (g s : Nat) (c r : C) (mo sl k x : Int) (w : World) (hc : c.ok) (hr : r.ok) (hk : 0 ≤ k ∧ k ≤ 255) (hm : k % 8 = 2) (hG : Bk w g 49 (gc s c mo)) (hS : Bk w s 59 (sc c)) :
    Calls Try.prog 10 #[.pointer (some ⟨g, 0, none⟩), .agg (ra r), .int .i64 sl, .agg #[.int .u8 k, .int .i64 x]] w fun e w' => e = .returned (.tuple #[.agg (ra (corr r x).1), .bool ((corr c x).2 == (corr r x).2)]) ∧ Bk w' g 49 (gc s (corr c x).1 mo) ∧ Bk w' s 59 (sc (corr c x).1) ∧ Step2 g s w w' := by
  obtain ⟨hk0, hk1⟩ := hk
  have t0 : (k % 8 == 0) = false := by simp; omega
  have t1 : (k % 8 == 1) = false := by simp; omega
  have t2 : (k % 8 == 2) = true := by simp; omega
  clear hm
  go_enter Try.func10, Try.ntmps10
  go_wp2_with fail
  go_at_call 23
  refine (refcorr_any r x _ hr).mono ?_
  rintro e w1 ⟨rfl, hb⟩
  obtain ⟨rr, hrr⟩ : ∃ rr, corr r x = rr := ⟨_, rfl⟩
  rw [hrr]
  have hrr' := hid hrr
  clear hrr
  go_wp2_with fail
  obtain ⟨hG, hS, hp, hq, hh, hT, z0, z0', z1⟩ := one_first (A := rc r) (B := [.int .u8 k, .int .i64 x]) (Z := [.int .i64 0, .int .i64 0, .int .i64 0, .int .i64 0]) (x := rc rr.1) hG hS hb
  clear hb
  generalize w1.alloc (.cells #[.int .i64 rr.1.ph, .int .i64 rr.1.at', .int .i64 rr.1.l, .int .i64 rr.1.m] 34) = wx at *
  obtain ⟨h, eh⟩ : ∃ h, w1.heap.size = h := ⟨_, rfl⟩
  obtain ⟨q, eq⟩ : ∃ q, w.heap.size + 1 + 1 = q := ⟨_, rfl⟩
  obtain ⟨p, ep⟩ : ∃ p, w.heap.size + 1 = p := ⟨_, rfl⟩
  rw [eh] at hh
  rw [eq] at hq
  rw [ep] at hp
  rw [eh, eq, ep]
  have e1 : h ≠ g := by omega
  have e1' : h ≠ s := by omega
  have e2 : q ≠ g := by omega
  have e2' : q ≠ s := by omega
  have e3 : p ≠ g := by omega
  have e3' : p ≠ s := by omega
  have e6 : h ≠ q := by omega
  have e7 : p ≠ q := by omega
  have e4 : g ≠ q := by omega
  have e4' : s ≠ q := by omega
  have e5 : w.heap.size ≤ q := by omega
  clear eh eq ep z0 z0' z1
  have h0 : wx.cell? ⟨h, 0, none⟩ = some (.int .i64 rr.1.ph) := hh.cell rfl
  have h1 : wx.cell? ⟨h, 1, none⟩ = some (.int .i64 rr.1.at') := hh.cell rfl
  have h2 : wx.cell? ⟨h, 2, none⟩ = some (.int .i64 rr.1.l) := hh.cell rfl
  have h3 : wx.cell? ⟨h, 3, none⟩ = some (.int .i64 rr.1.m) := hh.cell rfl
  have p1 : wx.cell? ⟨p, 1, none⟩ = some (.int .i64 x) := hp.cell rfl
  go_region_held3 (fun w' => w'.cell? ⟨p, 1, none⟩ = some (.int .i64 x) ∧ w'.cell? ⟨h, 0, none⟩ = some (.int .i64 rr.1.ph) ∧ w'.cell? ⟨h, 1, none⟩ = some (.int .i64 rr.1.at') ∧ w'.cell? ⟨h, 2, none⟩ = some (.int .i64 rr.1.l) ∧ w'.cell? ⟨h, 3, none⟩ = some (.int .i64 rr.1.m))
    (first | exact ⟨hp3.cell rfl, hh3.cell rfl, hh3.cell rfl, hh3.cell rfl, hh3.cell rfl⟩ | exact ⟨hp2.cell rfl, hh2.cell rfl, hh2.cell rfl, hh2.cell rfl, hh2.cell rfl⟩ | go_keep)
    ((go_at_call 14; refine (corr_any g s c mo x _ hc hG.drew hS.drew).mono ?_; rintro e w2 ⟨rfl, hG', hS', hT'⟩; have hh2 := hT'.bk e1 e1' hh.drew; have hp2 := hT'.bk e3 e3' hp.drew; have hq2 := hT'.bk e2 e2' hq.drew; have hh3 := (((hh2.far (p := ⟨q, 0, none⟩) e6 (.int .i64 rr.1.ph)).far (p := ⟨q, 1, none⟩) e6 (.int .i64 rr.1.at')).far (p := ⟨q, 2, none⟩) e6 (.int .i64 rr.1.l)).far (p := ⟨q, 3, none⟩) e6 (.int .i64 rr.1.m); have hp3 := (((hp2.far (p := ⟨q, 0, none⟩) e7 (.int .i64 rr.1.ph)).far (p := ⟨q, 1, none⟩) e7 (.int .i64 rr.1.at')).far (p := ⟨q, 2, none⟩) e7 (.int .i64 rr.1.l)).far (p := ⟨q, 3, none⟩) e7 (.int .i64 rr.1.m); have k0 := hq2.cell (i := 0) rfl; have k1 := hq2.cell (i := 1) rfl; have k2 := hq2.cell (i := 2) rfl; have k3 := hq2.cell (i := 3) rfl; have u0 := hq2.free 0; have u1 := hq2.free 1; have u2 := hq2.free 2; have u3 := hq2.free 3))
  have hq3 := (((hq2.s0 (a := .int .i64 rr.1.ph)).s1 (a := .int .i64 rr.1.at')).s2 (a := .int .i64 rr.1.l)).s3 (a := .int .i64 rr.1.m)
  have hG3 := (((hG'.far (p := ⟨q, 0, none⟩) e4 (.int .i64 rr.1.ph)).far (p := ⟨q, 1, none⟩) e4 (.int .i64 rr.1.at')).far (p := ⟨q, 2, none⟩) e4 (.int .i64 rr.1.l)).far (p := ⟨q, 3, none⟩) e4 (.int .i64 rr.1.m)
  have hS3 := (((hS'.far (p := ⟨q, 0, none⟩) e4' (.int .i64 rr.1.ph)).far (p := ⟨q, 1, none⟩) e4' (.int .i64 rr.1.at')).far (p := ⟨q, 2, none⟩) e4' (.int .i64 rr.1.l)).far (p := ⟨q, 3, none⟩) e4' (.int .i64 rr.1.m)
  have hT3 := ((((hT.drew.trans hT').setNew (p := ⟨q, 0, none⟩) e5 (.int .i64 rr.1.ph)).setNew (p := ⟨q, 1, none⟩) e5 (.int .i64 rr.1.at')).setNew (p := ⟨q, 2, none⟩) e5 (.int .i64 rr.1.l)).setNew (p := ⟨q, 3, none⟩) e5 (.int .i64 rr.1.m)
  generalize (((w2.setCell ⟨q, 0, none⟩ (.int .i64 rr.1.ph)).setCell ⟨q, 1, none⟩ (.int .i64 rr.1.at')).setCell ⟨q, 2, none⟩ (.int .i64 rr.1.l)).setCell ⟨q, 3, none⟩ (.int .i64 rr.1.m) = w3 at *
  have d0 : w3.cell? ⟨q, 0, none⟩ = some (.int .i64 rr.1.ph) := hq3.cell rfl
  have d1 : w3.cell? ⟨q, 1, none⟩ = some (.int .i64 rr.1.at') := hq3.cell rfl
  have d2 : w3.cell? ⟨q, 2, none⟩ = some (.int .i64 rr.1.l) := hq3.cell rfl
  have d3 : w3.cell? ⟨q, 3, none⟩ = some (.int .i64 rr.1.m) := hq3.cell rfl
  clear hG hS hT hh hq hp h0 h1 h2 h3 p1 hG' hS' hT' hh2 hp2 hq2 hh3 hp3 k0 k1 k2 k3 u0 u1 u2 u3
  go_wp2
  refine bodyPost_ret ?_ rfl ⟨rfl, hG3, hS3, hT3⟩
  have hrr := hrr'.out
  subst hrr
  simp [results, Try.results10, go_sem, d0, d1, d2, d3]

set_option maxRecDepth 100000 in
set_option maxHeartbeats 4000000 in
theorem one3 (g s : Nat) (c r : C) (mo sl k x : Int) (w : World) (hk : 0 ≤ k ∧ k ≤ 255) (hm : k % 8 = 3) (hG : Bk w g 49 (gc s c mo)) (hS : Bk w s 59 (sc c)) :
    Calls Try.prog 10 #[.pointer (some ⟨g, 0, none⟩), .agg (ra r), .int .i64 sl, .agg #[.int .u8 k, .int .i64 x]] w fun e w' => e = .returned (.tuple #[.agg #[.int .i64 0, .int .i64 0, .int .i64 0, .int .i64 (cl sl 1 256)], .bool true]) ∧ ∃ s', w.heap.size ≤ s' ∧ Bk w' g 49 (gc s' ⟨0, 0, 0, cl mo 1 256⟩ mo) ∧ Bk w' s' 59 [.int .i64 0, .int .i64 (cl mo 1 256)] ∧ Step2 g s w w' := by
  obtain ⟨hk0, hk1⟩ := hk
  have t0 : (k % 8 == 0) = false := by simp; omega
  have t1 : (k % 8 == 1) = false := by simp; omega
  have t2 : (k % 8 == 2) = false := by simp; omega
  have t3 : (k % 8 == 3) = true := by simp; omega
  clear hm
  have hne := hS.ne_ hG (by decide)
  obtain ⟨hG1, hS1, ho, hp, hq, hT, z0, z0'⟩ := one_w3 (A := rc r) (B := [.int .u8 k, .int .i64 x]) (Z := [.int .i64 0, .int .i64 0, .int .i64 0, .int .i64 0]) hG hS
  have hG2 := hid hG1
  have hq1 := hid hq
  have hT1 := hid hT
  clear hG1 hS1 ho hp hq hT
  go_enter Try.func10, Try.ntmps10
  go_wp2_with fail
  have hG := hG2.out
  have hq := hq1.out
  have hT := hT1.out
  obtain ⟨wx, ex⟩ : ∃ wx, ((w.alloc (.cells (rc r).toArray 34)).alloc (.cells [.int .u8 k, .int .i64 x].toArray 30)).alloc (.cells [.int .i64 0, .int .i64 0, .int .i64 0, .int .i64 0].toArray 34) = wx := ⟨_, rfl⟩
  change Calls _ _ _ (((w.alloc (.cells (rc r).toArray 34)).alloc (.cells [.int .u8 k, .int .i64 x].toArray 30)).alloc (.cells [.int .i64 0, .int .i64 0, .int .i64 0, .int .i64 0].toArray 34)) _
  clear hG2 hq1 hT1
  rw [ex] at hG hq hT ⊢
  have zx := hT.size
  obtain ⟨q, eq⟩ : ∃ q, w.heap.size + 1 + 1 = q := ⟨_, rfl⟩
  rw [eq] at hq
  rw [eq]
  have hqlt := hq.lt
  have e2 : q ≠ g := by omega
  have e4 : g ≠ q := by omega
  have e5 : w.heap.size ≤ q := by omega
  clear ex
  refine (reset_any g s c mo _ hG).mono ?_
  rintro e w1 ⟨rfl, hG1, hS1, hT1⟩
  have hq1 := hT1.bk e2 hq
  obtain ⟨s', es⟩ : ∃ s', wx.heap.size = s' := ⟨_, rfl⟩
  rw [es] at hG1 hS1
  have e4' : s' ≠ q := by omega
  have hsB : w.heap.size ≤ s' := by omega
  clear eq es
  go_wp2_with fail
  refine (refcnew_any _ _).mono ?_
  rintro e w2 ⟨rfl, hb⟩
  have hq2 := hq1.call hb
  have hG' := hG1.call hb
  have hS' := hS1.call hb
  have hT' := (hT.trans (.of_g hT1)).call hb
  have k0 := hq2.cell (i := 0) rfl
  have k1 := hq2.cell (i := 1) rfl
  have k2 := hq2.cell (i := 2) rfl
  have k3 := hq2.cell (i := 3) rfl
  have u0 := hq2.free 0
  have u1 := hq2.free 1
  have u2 := hq2.free 2
  have u3 := hq2.free 3
  clear hG hq hT hG1 hS1 hq1
  have hq3 := (((hq2.s0 (a := .int .i64 0)).s1 (a := .int .i64 0)).s2 (a := .int .i64 0)).s3 (a := .int .i64 (cl sl 1 256))
  have hG3 := (((hG'.far (p := ⟨q, 0, none⟩) e4 (.int .i64 0)).far (p := ⟨q, 1, none⟩) e4 (.int .i64 0)).far (p := ⟨q, 2, none⟩) e4 (.int .i64 0)).far (p := ⟨q, 3, none⟩) e4 (.int .i64 (cl sl 1 256))
  have hS3 := (((hS'.far (p := ⟨q, 0, none⟩) e4' (.int .i64 0)).far (p := ⟨q, 1, none⟩) e4' (.int .i64 0)).far (p := ⟨q, 2, none⟩) e4' (.int .i64 0)).far (p := ⟨q, 3, none⟩) e4' (.int .i64 (cl sl 1 256))
  have hT3 := (((hT'.setNew (p := ⟨q, 0, none⟩) e5 (.int .i64 0)).setNew (p := ⟨q, 1, none⟩) e5 (.int .i64 0)).setNew (p := ⟨q, 2, none⟩) e5 (.int .i64 0)).setNew (p := ⟨q, 3, none⟩) e5 (.int .i64 (cl sl 1 256))
  have d0 := hq3.cell (i := 0) rfl
  have d1 := hq3.cell (i := 1) rfl
  have d2 := hq3.cell (i := 2) rfl
  have d3 := hq3.cell (i := 3) rfl
  go_wp2
  refine bodyPost_ret ?_ rfl ⟨rfl, s', hsB, hG3, hS3, hT3⟩
  simp [results, Try.results10, go_sem, d0, d1, d2, d3]

set_option maxRecDepth 100000 in
set_option maxHeartbeats 4000000 in
theorem one4 (g s : Nat) (c r : C) (mo sl k x : Int) (w : World) (hc : c.ok) (hr : r.ok) (hk : 0 ≤ k ∧ k ≤ 255) (hm : 4 ≤ k % 8) (hG : Bk w g 49 (gc s c mo)) (hS : Bk w s 59 (sc c)) :
    Calls Try.prog 10 #[.pointer (some ⟨g, 0, none⟩), .agg (ra r), .int .i64 sl, .agg #[.int .u8 k, .int .i64 x]] w fun e w' => e = .returned (.tuple #[.agg (ra (tick r x).1), .bool ((tick c x).2 == (tick r x).2)]) ∧ Bk w' g 49 (gc s (tick c x).1 mo) ∧ Bk w' s 59 (sc (tick c x).1) ∧ Step2 g s w w' := by
  obtain ⟨hk0, hk1⟩ := hk
  have t0 : (k % 8 == 0) = false := by simp; omega
  have t1 : (k % 8 == 1) = false := by simp; omega
  have t2 : (k % 8 == 2) = false := by simp; omega
  have t3 : (k % 8 == 3) = false := by simp; omega
  clear hm
  go_enter Try.func10, Try.ntmps10
  go_wp2_with fail
  go_at_call 24
  refine (reftick_any r x _ hr).mono ?_
  rintro e w1 ⟨rfl, hb⟩
  obtain ⟨rr, hrr⟩ : ∃ rr, tick r x = rr := ⟨_, rfl⟩
  rw [hrr]
  have hrr' := hid hrr
  clear hrr
  go_wp2_with fail
  obtain ⟨hG, hS, hp, hq, hh, hT, z0, z0', z1⟩ := one_first (A := rc r) (B := [.int .u8 k, .int .i64 x]) (Z := [.int .i64 0, .int .i64 0, .int .i64 0, .int .i64 0]) (x := rc rr.1) hG hS hb
  clear hb
  generalize w1.alloc (.cells #[.int .i64 rr.1.ph, .int .i64 rr.1.at', .int .i64 rr.1.l, .int .i64 rr.1.m] 34) = wx at *
  obtain ⟨h, eh⟩ : ∃ h, w1.heap.size = h := ⟨_, rfl⟩
  obtain ⟨q, eq⟩ : ∃ q, w.heap.size + 1 + 1 = q := ⟨_, rfl⟩
  obtain ⟨p, ep⟩ : ∃ p, w.heap.size + 1 = p := ⟨_, rfl⟩
  rw [eh] at hh
  rw [eq] at hq
  rw [ep] at hp
  rw [eh, eq, ep]
  have e1 : h ≠ g := by omega
  have e1' : h ≠ s := by omega
  have e2 : q ≠ g := by omega
  have e2' : q ≠ s := by omega
  have e3 : p ≠ g := by omega
  have e3' : p ≠ s := by omega
  have e6 : h ≠ q := by omega
  have e7 : p ≠ q := by omega
  have e4 : g ≠ q := by omega
  have e4' : s ≠ q := by omega
  have e5 : w.heap.size ≤ q := by omega
  clear eh eq ep z0 z0' z1
  have h0 : wx.cell? ⟨h, 0, none⟩ = some (.int .i64 rr.1.ph) := hh.cell rfl
  have h1 : wx.cell? ⟨h, 1, none⟩ = some (.int .i64 rr.1.at') := hh.cell rfl
  have h2 : wx.cell? ⟨h, 2, none⟩ = some (.int .i64 rr.1.l) := hh.cell rfl
  have h3 : wx.cell? ⟨h, 3, none⟩ = some (.int .i64 rr.1.m) := hh.cell rfl
  have p1 : wx.cell? ⟨p, 1, none⟩ = some (.int .i64 x) := hp.cell rfl
  go_region_held3 (fun w' => w'.cell? ⟨p, 1, none⟩ = some (.int .i64 x) ∧ w'.cell? ⟨h, 0, none⟩ = some (.int .i64 rr.1.ph) ∧ w'.cell? ⟨h, 1, none⟩ = some (.int .i64 rr.1.at') ∧ w'.cell? ⟨h, 2, none⟩ = some (.int .i64 rr.1.l) ∧ w'.cell? ⟨h, 3, none⟩ = some (.int .i64 rr.1.m))
    (first | exact ⟨hp3.cell rfl, hh3.cell rfl, hh3.cell rfl, hh3.cell rfl, hh3.cell rfl⟩ | exact ⟨hp2.cell rfl, hh2.cell rfl, hh2.cell rfl, hh2.cell rfl, hh2.cell rfl⟩ | go_keep)
    ((go_at_call 18; refine (tick_any g s c mo x _ hc hG.drew hS.drew).mono ?_; rintro e w2 ⟨rfl, hG', hS', hT'⟩; have hh2 := hT'.bk e1 e1' hh.drew; have hp2 := hT'.bk e3 e3' hp.drew; have hq2 := hT'.bk e2 e2' hq.drew; have hh3 := (((hh2.far (p := ⟨q, 0, none⟩) e6 (.int .i64 rr.1.ph)).far (p := ⟨q, 1, none⟩) e6 (.int .i64 rr.1.at')).far (p := ⟨q, 2, none⟩) e6 (.int .i64 rr.1.l)).far (p := ⟨q, 3, none⟩) e6 (.int .i64 rr.1.m); have hp3 := (((hp2.far (p := ⟨q, 0, none⟩) e7 (.int .i64 rr.1.ph)).far (p := ⟨q, 1, none⟩) e7 (.int .i64 rr.1.at')).far (p := ⟨q, 2, none⟩) e7 (.int .i64 rr.1.l)).far (p := ⟨q, 3, none⟩) e7 (.int .i64 rr.1.m); have k0 := hq2.cell (i := 0) rfl; have k1 := hq2.cell (i := 1) rfl; have k2 := hq2.cell (i := 2) rfl; have k3 := hq2.cell (i := 3) rfl; have u0 := hq2.free 0; have u1 := hq2.free 1; have u2 := hq2.free 2; have u3 := hq2.free 3))
  have hq3 := (((hq2.s0 (a := .int .i64 rr.1.ph)).s1 (a := .int .i64 rr.1.at')).s2 (a := .int .i64 rr.1.l)).s3 (a := .int .i64 rr.1.m)
  have hG3 := (((hG'.far (p := ⟨q, 0, none⟩) e4 (.int .i64 rr.1.ph)).far (p := ⟨q, 1, none⟩) e4 (.int .i64 rr.1.at')).far (p := ⟨q, 2, none⟩) e4 (.int .i64 rr.1.l)).far (p := ⟨q, 3, none⟩) e4 (.int .i64 rr.1.m)
  have hS3 := (((hS'.far (p := ⟨q, 0, none⟩) e4' (.int .i64 rr.1.ph)).far (p := ⟨q, 1, none⟩) e4' (.int .i64 rr.1.at')).far (p := ⟨q, 2, none⟩) e4' (.int .i64 rr.1.l)).far (p := ⟨q, 3, none⟩) e4' (.int .i64 rr.1.m)
  have hT3 := ((((hT.drew.trans hT').setNew (p := ⟨q, 0, none⟩) e5 (.int .i64 rr.1.ph)).setNew (p := ⟨q, 1, none⟩) e5 (.int .i64 rr.1.at')).setNew (p := ⟨q, 2, none⟩) e5 (.int .i64 rr.1.l)).setNew (p := ⟨q, 3, none⟩) e5 (.int .i64 rr.1.m)
  generalize (((w2.setCell ⟨q, 0, none⟩ (.int .i64 rr.1.ph)).setCell ⟨q, 1, none⟩ (.int .i64 rr.1.at')).setCell ⟨q, 2, none⟩ (.int .i64 rr.1.l)).setCell ⟨q, 3, none⟩ (.int .i64 rr.1.m) = w3 at *
  have d0 : w3.cell? ⟨q, 0, none⟩ = some (.int .i64 rr.1.ph) := hq3.cell rfl
  have d1 : w3.cell? ⟨q, 1, none⟩ = some (.int .i64 rr.1.at') := hq3.cell rfl
  have d2 : w3.cell? ⟨q, 2, none⟩ = some (.int .i64 rr.1.l) := hq3.cell rfl
  have d3 : w3.cell? ⟨q, 3, none⟩ = some (.int .i64 rr.1.m) := hq3.cell rfl
  clear hG hS hT hh hq hp h0 h1 h2 h3 p1 hG' hS' hT' hh2 hp2 hq2 hh3 hp3 k0 k1 k2 k3 u0 u1 u2 u3
  go_wp2
  refine bodyPost_ret ?_ rfl ⟨rfl, hG3, hS3, hT3⟩
  have hrr := hrr'.out
  subst hrr
  simp [results, Try.results10, go_sem, d0, d1, d2, d3]

/-- A call, of both, but a reset. -/
def act (c : C) (k x : Int) : C × Int := if k % 8 = 0 then boot c x else if k % 8 = 1 then guess c x else if k % 8 = 2 then corr c x else tick c x
theorem one_any (g s : Nat) (c r : C) (mo sl k x : Int) (w : World) (hc : c.ok) (hr : r.ok) (hk : 0 ≤ k ∧ k ≤ 255) (hm : k % 8 ≠ 3) (hG : Bk w g 49 (gc s c mo)) (hS : Bk w s 59 (sc c)) :
    Calls Try.prog 10 #[.pointer (some ⟨g, 0, none⟩), .agg (ra r), .int .i64 sl, .agg #[.int .u8 k, .int .i64 x]] w fun e w' => e = .returned (.tuple #[.agg (ra (act r k x).1), .bool ((act c k x).2 == (act r k x).2)]) ∧ Bk w' g 49 (gc s (act c k x).1 mo) ∧ Bk w' s 59 (sc (act c k x).1) ∧ Step2 g s w w' := by
  unfold act
  by_cases h0 : k % 8 = 0
  · simp only [if_pos h0]; exact one0 g s c r mo sl k x w hc hr hk h0 hG hS
  by_cases h1 : k % 8 = 1
  · simp only [if_neg h0, if_pos h1]; exact one1 g s c r mo sl k x w hc hr hk h1 hG hS
  by_cases h2 : k % 8 = 2
  · simp only [if_neg h0, if_neg h1, if_pos h2]; exact one2 g s c r mo sl k x w hc hr hk h2 hG hS
  · simp only [if_neg h0, if_neg h1, if_neg h2]; exact one4 g s c r mo sl k x w hc hr hk (by omega) hG hS
theorem act_ok {c : C} (k x : Int) (h : c.ok) (h1 : 1 ≤ c.m) : (act c k x).1.ok ∧ (act c k x).1.m = c.m := by
  obtain ⟨hp, ha, hl, hm, hm2⟩ := h
  have bt := tm_bd
  have ba := aim_bd x
  have ml := made_left c.l (m := c.m) (i := inc x) (by omega) (inc_bd x).1 hl
  unfold act boot guess corr tick C.ok
  repeat' split
  all_goals (refine ⟨⟨?_, ?_, ?_, ?_, ?_⟩, ?_⟩ <;> (try dsimp only) <;> first | assumption | rfl | exact bt _ | omega)
end Go.Proofs.Ytnfoipkmeiklhaa
