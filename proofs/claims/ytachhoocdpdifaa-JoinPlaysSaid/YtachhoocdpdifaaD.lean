/- The law's helper 'one': a call of both, kind by kind. -/
import Derived.Test.YtachhoocdpdifaaC
import Derived.Deep.RegionHeld3
import Derived.Deep.DrawnRows
namespace Go.Proofs.Ytachhoocdpdifaa
open Go Go.RowKit Go.ChangeShapes Go.WideShapes
set_option linter.unusedVariables false
attribute [local go_sem ↓] Go.wp_at_zero Go.wp_at_succ

theorem one_w3 {g : Nat} {j : J} {w : World} {A B C : List Value} (hQ : Bk w g 47 j.cells) :
    Bk (((w.alloc (.cells A.toArray 30)).alloc (.cells B.toArray 26)).alloc (.cells C.toArray 30)) g 47 j.cells ∧ Bk (((w.alloc (.cells A.toArray 30)).alloc (.cells B.toArray 26)).alloc (.cells C.toArray 30)) w.heap.size 30 A ∧
    Bk (((w.alloc (.cells A.toArray 30)).alloc (.cells B.toArray 26)).alloc (.cells C.toArray 30)) (w.heap.size + 1) 26 B ∧ Bk (((w.alloc (.cells A.toArray 30)).alloc (.cells B.toArray 26)).alloc (.cells C.toArray 30)) (w.heap.size + 1 + 1) 30 C ∧
    Step g w (((w.alloc (.cells A.toArray 30)).alloc (.cells B.toArray 26)).alloc (.cells C.toArray 30)) ∧ g < w.heap.size := by
  refine ⟨((hQ.alloc _).alloc _).alloc _, ((Bk.new w 30 A).alloc _).alloc _, ?_, ?_, (((Step.refl _ _).alloc _).alloc _).alloc _, hQ.lt⟩
  · exact ((Bk.new (w.alloc (.cells A.toArray 30)) 26 B).alloc _ : Bk _ ((w.alloc (.cells A.toArray 30)).heap.size) 26 B) |> fun h => by simpa using h
  · exact (Bk.new ((w.alloc (.cells A.toArray 30)).alloc (.cells B.toArray 26)) 30 C : Bk _ (((w.alloc (.cells A.toArray 30)).alloc (.cells B.toArray 26)).heap.size) 30 C) |> fun h => by simpa using h

/-- The worlds of 'one' behind its first call. -/
theorem one_first {g : Nat} {j : J} {w w1 : World} {A B C : List Value} {x : List Value} (hQ : Bk w g 47 j.cells)
    (hb : Below (((w.alloc (.cells A.toArray 30)).alloc (.cells B.toArray 26)).alloc (.cells C.toArray 30)).heap.size (((w.alloc (.cells A.toArray 30)).alloc (.cells B.toArray 26)).alloc (.cells C.toArray 30)) w1) :
    Bk (w1.alloc (.cells x.toArray 30)) g 47 j.cells ∧ Bk (w1.alloc (.cells x.toArray 30)) (w.heap.size + 1) 26 B ∧ Bk (w1.alloc (.cells x.toArray 30)) (w.heap.size + 1 + 1) 30 C ∧ Bk (w1.alloc (.cells x.toArray 30)) w1.heap.size 30 x ∧ Step g w (w1.alloc (.cells x.toArray 30)) ∧ g < w.heap.size ∧ w.heap.size + 1 + 1 < w1.heap.size := by
  obtain ⟨h1, _, h3, h4, h5, z⟩ := one_w3 (A := A) (B := B) (C := C) hQ
  refine ⟨(h1.call hb).alloc _, (h3.call hb).alloc _, (h4.call hb).alloc _, Bk.new _ _ _, (h5.call hb).alloc _, z, ?_⟩
  have := hb.size; simp at this; omega

set_option maxRecDepth 100000 in
set_option maxHeartbeats 2000000 in
theorem one0 (g : Nat) (j r : J) (k no : Int) (has : Bool) (w : World) (hj : j.ok) (hr : r.ok) (hk : 0 ≤ k ∧ k ≤ 255) (hm : k % 8 = 0) (hQ : Bk w g 47 j.cells) :
    Calls Try.prog 10 #[.pointer (some ⟨g, 0, none⟩), .agg r.arr, .agg #[.int .u8 k, .int .i64 no, .bool has]] w fun e w' => e = .returned (.tuple #[.agg (boot r).1.arr, .bool ((boot j).2 == (boot r).2)]) ∧ Bk w' g 47 (boot j).1.cells ∧ Step g w w' := by
  obtain ⟨hk0, hk1⟩ := hk
  have t0 : (k % 8 == 0) = true := by simp; omega
  clear hm
  go_enter Try.func10, Try.ntmps10
  go_wp2_with fail
  go_at_call 23
  refine (refboot_any r _ hr).mono ?_
  rintro e w1 ⟨rfl, hb⟩
  obtain ⟨ra, hra⟩ : ∃ ra, boot r = ra := ⟨_, rfl⟩
  rw [hra]
  have hra' := hid hra
  clear hra
  go_wp2_with fail
  obtain ⟨hG, hp, hq, hh, hS, z0, z1⟩ := one_first (A := r.cells) (B := [.int .u8 k, .int .i64 no, .bool has]) (C := [.int .i64 0, .int .i64 0, .int .i64 0]) (x := ra.1.cells) hQ hb
  clear hb
  generalize w1.alloc (.cells #[.int .i64 ra.1.s, .int .i64 ra.1.f, .int .i64 ra.1.c] 30) = wx at *
  obtain ⟨h, eh⟩ : ∃ h, w1.heap.size = h := ⟨_, rfl⟩
  obtain ⟨q, eq⟩ : ∃ q, w.heap.size + 1 + 1 = q := ⟨_, rfl⟩
  obtain ⟨p, ep⟩ : ∃ p, w.heap.size + 1 = p := ⟨_, rfl⟩
  rw [eh] at hh
  rw [eq] at hq
  rw [ep] at hp
  rw [eh, eq, ep]
  have e1 : h ≠ g := by omega
  have e2 : q ≠ g := by omega
  have e3 : p ≠ g := by omega
  have e6 : h ≠ q := by omega
  have e7 : p ≠ q := by omega
  have e4 : g ≠ q := by omega
  have e5 : w.heap.size ≤ q := by omega
  clear eh eq ep z0 z1 hQ
  have h0 : wx.cell? ⟨h, 0, none⟩ = some (.int .i64 ra.1.s) := hh.cell rfl
  have h1 : wx.cell? ⟨h, 1, none⟩ = some (.int .i64 ra.1.f) := hh.cell rfl
  have h2 : wx.cell? ⟨h, 2, none⟩ = some (.int .i64 ra.1.c) := hh.cell rfl
  go_region_held3 (fun w' => w'.cell? ⟨h, 0, none⟩ = some (.int .i64 ra.1.s) ∧ w'.cell? ⟨h, 1, none⟩ = some (.int .i64 ra.1.f) ∧ w'.cell? ⟨h, 2, none⟩ = some (.int .i64 ra.1.c))
    (first | exact ⟨(hS'.bk e1 hh).cell rfl, (hS'.bk e1 hh).cell rfl, (hS'.bk e1 hh).cell rfl⟩ | exact ⟨(((hh2.far (p := ⟨q, 0, none⟩) e6 _).far (p := ⟨q, 1, none⟩) e6 _).far (p := ⟨q, 2, none⟩) e6 _).cell rfl, (((hh2.far (p := ⟨q, 0, none⟩) e6 _).far (p := ⟨q, 1, none⟩) e6 _).far (p := ⟨q, 2, none⟩) e6 _).cell rfl, (((hh2.far (p := ⟨q, 0, none⟩) e6 _).far (p := ⟨q, 1, none⟩) e6 _).far (p := ⟨q, 2, none⟩) e6 _).cell rfl⟩ | go_keep)
    ((go_at_call 13; refine (boot_any g j _ hj ?_).mono ?_; exact hG.drew; rintro e w2 ⟨rfl, hG', hS'⟩; have hh2 := hS'.bk e1 hh.drew; have hp2 := hS'.bk e3 hp.drew; have hq2 := hS'.bk e2 hq.drew; have k0 := hq2.cell (i := 0) rfl; have k1 := hq2.cell (i := 1) rfl; have k2 := hq2.cell (i := 2) rfl; have u0 := hq2.free 0; have u1 := hq2.free 1; have u2 := hq2.free 2))
  have hq3 := ((hq2.s0 (a := .int .i64 ra.1.s)).s1 (a := .int .i64 ra.1.f)).s2 (a := .int .i64 ra.1.c)
  have hG3 := ((hG'.far (p := ⟨q, 0, none⟩) e4 (.int .i64 ra.1.s)).far (p := ⟨q, 1, none⟩) e4 (.int .i64 ra.1.f)).far (p := ⟨q, 2, none⟩) e4 (.int .i64 ra.1.c)
  have hS3 := ((hS.drew.trans hS').setNew (p := ⟨q, 0, none⟩) e5 (.int .i64 ra.1.s)).setNew (p := ⟨q, 1, none⟩) e5 (.int .i64 ra.1.f) |>.setNew (p := ⟨q, 2, none⟩) e5 (.int .i64 ra.1.c)
  generalize ((w2.setCell ⟨q, 0, none⟩ (.int .i64 ra.1.s)).setCell ⟨q, 1, none⟩ (.int .i64 ra.1.f)).setCell ⟨q, 2, none⟩ (.int .i64 ra.1.c) = w3 at *
  have d0 : w3.cell? ⟨q, 0, none⟩ = some (.int .i64 ra.1.s) := hq3.cell rfl
  have d1 : w3.cell? ⟨q, 1, none⟩ = some (.int .i64 ra.1.f) := hq3.cell rfl
  have d2 : w3.cell? ⟨q, 2, none⟩ = some (.int .i64 ra.1.c) := hq3.cell rfl
  clear hG hS hh hq hp h0 h1 h2 hG' hS' hh2 hp2 hq2 k0 k1 k2 u0 u1 u2
  go_wp2
  refine bodyPost_ret ?_ rfl ⟨rfl, hG3, hS3⟩
  have hra := hra'.out
  subst hra
  simp [results, Try.results10, go_sem, d0, d1, d2]

set_option maxRecDepth 100000 in
set_option maxHeartbeats 2000000 in
theorem one1 (g : Nat) (j r : J) (k no : Int) (has : Bool) (w : World) (hj : j.ok) (hr : r.ok) (hk : 0 ≤ k ∧ k ≤ 255) (hm : k % 8 = 1) (hQ : Bk w g 47 j.cells) :
    Calls Try.prog 10 #[.pointer (some ⟨g, 0, none⟩), .agg r.arr, .agg #[.int .u8 k, .int .i64 no, .bool has]] w fun e w' => e = .returned (.tuple #[.agg (want r).1.arr, .bool ((want j).2 == (want r).2)]) ∧ Bk w' g 47 (want j).1.cells ∧ Step g w w' := by
  obtain ⟨hk0, hk1⟩ := hk
  have t0 : (k % 8 == 0) = false := by simp; omega
  have t1 : (k % 8 == 1) = true := by simp; omega
  clear hm
  go_enter Try.func10, Try.ntmps10
  go_wp2_with fail
  go_at_call 24
  refine (refwant_any r _ hr).mono ?_
  rintro e w1 ⟨rfl, hb⟩
  obtain ⟨ra, hra⟩ : ∃ ra, want r = ra := ⟨_, rfl⟩
  rw [hra]
  have hra' := hid hra
  clear hra
  go_wp2_with fail
  obtain ⟨hG, hp, hq, hh, hS, z0, z1⟩ := one_first (A := r.cells) (B := [.int .u8 k, .int .i64 no, .bool has]) (C := [.int .i64 0, .int .i64 0, .int .i64 0]) (x := ra.1.cells) hQ hb
  clear hb
  generalize w1.alloc (.cells #[.int .i64 ra.1.s, .int .i64 ra.1.f, .int .i64 ra.1.c] 30) = wx at *
  obtain ⟨h, eh⟩ : ∃ h, w1.heap.size = h := ⟨_, rfl⟩
  obtain ⟨q, eq⟩ : ∃ q, w.heap.size + 1 + 1 = q := ⟨_, rfl⟩
  obtain ⟨p, ep⟩ : ∃ p, w.heap.size + 1 = p := ⟨_, rfl⟩
  rw [eh] at hh
  rw [eq] at hq
  rw [ep] at hp
  rw [eh, eq, ep]
  have e1 : h ≠ g := by omega
  have e2 : q ≠ g := by omega
  have e3 : p ≠ g := by omega
  have e6 : h ≠ q := by omega
  have e7 : p ≠ q := by omega
  have e4 : g ≠ q := by omega
  have e5 : w.heap.size ≤ q := by omega
  clear eh eq ep z0 z1 hQ
  have h0 : wx.cell? ⟨h, 0, none⟩ = some (.int .i64 ra.1.s) := hh.cell rfl
  have h1 : wx.cell? ⟨h, 1, none⟩ = some (.int .i64 ra.1.f) := hh.cell rfl
  have h2 : wx.cell? ⟨h, 2, none⟩ = some (.int .i64 ra.1.c) := hh.cell rfl
  go_region_held3 (fun w' => w'.cell? ⟨h, 0, none⟩ = some (.int .i64 ra.1.s) ∧ w'.cell? ⟨h, 1, none⟩ = some (.int .i64 ra.1.f) ∧ w'.cell? ⟨h, 2, none⟩ = some (.int .i64 ra.1.c))
    (first | exact ⟨(hS'.bk e1 hh).cell rfl, (hS'.bk e1 hh).cell rfl, (hS'.bk e1 hh).cell rfl⟩ | exact ⟨(((hh2.far (p := ⟨q, 0, none⟩) e6 _).far (p := ⟨q, 1, none⟩) e6 _).far (p := ⟨q, 2, none⟩) e6 _).cell rfl, (((hh2.far (p := ⟨q, 0, none⟩) e6 _).far (p := ⟨q, 1, none⟩) e6 _).far (p := ⟨q, 2, none⟩) e6 _).cell rfl, (((hh2.far (p := ⟨q, 0, none⟩) e6 _).far (p := ⟨q, 1, none⟩) e6 _).far (p := ⟨q, 2, none⟩) e6 _).cell rfl⟩ | go_keep)
    ((go_at_call 21; refine (want_any g j _ hj ?_).mono ?_; exact hG.drew; rintro e w2 ⟨rfl, hG', hS'⟩; have hh2 := hS'.bk e1 hh.drew; have hp2 := hS'.bk e3 hp.drew; have hq2 := hS'.bk e2 hq.drew; have k0 := hq2.cell (i := 0) rfl; have k1 := hq2.cell (i := 1) rfl; have k2 := hq2.cell (i := 2) rfl; have u0 := hq2.free 0; have u1 := hq2.free 1; have u2 := hq2.free 2))
  have hq3 := ((hq2.s0 (a := .int .i64 ra.1.s)).s1 (a := .int .i64 ra.1.f)).s2 (a := .int .i64 ra.1.c)
  have hG3 := ((hG'.far (p := ⟨q, 0, none⟩) e4 (.int .i64 ra.1.s)).far (p := ⟨q, 1, none⟩) e4 (.int .i64 ra.1.f)).far (p := ⟨q, 2, none⟩) e4 (.int .i64 ra.1.c)
  have hS3 := ((hS.drew.trans hS').setNew (p := ⟨q, 0, none⟩) e5 (.int .i64 ra.1.s)).setNew (p := ⟨q, 1, none⟩) e5 (.int .i64 ra.1.f) |>.setNew (p := ⟨q, 2, none⟩) e5 (.int .i64 ra.1.c)
  generalize ((w2.setCell ⟨q, 0, none⟩ (.int .i64 ra.1.s)).setCell ⟨q, 1, none⟩ (.int .i64 ra.1.f)).setCell ⟨q, 2, none⟩ (.int .i64 ra.1.c) = w3 at *
  have d0 : w3.cell? ⟨q, 0, none⟩ = some (.int .i64 ra.1.s) := hq3.cell rfl
  have d1 : w3.cell? ⟨q, 1, none⟩ = some (.int .i64 ra.1.f) := hq3.cell rfl
  have d2 : w3.cell? ⟨q, 2, none⟩ = some (.int .i64 ra.1.c) := hq3.cell rfl
  clear hG hS hh hq hp h0 h1 h2 hG' hS' hh2 hp2 hq2 k0 k1 k2 u0 u1 u2
  go_wp2
  refine bodyPost_ret ?_ rfl ⟨rfl, hG3, hS3⟩
  have hra := hra'.out
  subst hra
  simp [results, Try.results10, go_sem, d0, d1, d2]

set_option maxRecDepth 100000 in
set_option maxHeartbeats 2000000 in
theorem one2 (g : Nat) (j r : J) (k no : Int) (has : Bool) (w : World) (hj : j.ok) (hr : r.ok) (hk : 0 ≤ k ∧ k ≤ 255) (hm : k % 8 = 2) (hQ : Bk w g 47 j.cells) :
    Calls Try.prog 10 #[.pointer (some ⟨g, 0, none⟩), .agg r.arr, .agg #[.int .u8 k, .int .i64 no, .bool has]] w fun e w' => e = .returned (.tuple #[.agg (leave r).1.arr, .bool ((leave j).2 == (leave r).2)]) ∧ Bk w' g 47 (leave j).1.cells ∧ Step g w w' := by
  obtain ⟨hk0, hk1⟩ := hk
  have t0 : (k % 8 == 0) = false := by simp; omega
  have t1 : (k % 8 == 1) = false := by simp; omega
  have t2 : (k % 8 == 2) = true := by simp; omega
  clear hm
  go_enter Try.func10, Try.ntmps10
  go_wp2_with fail
  go_at_call 25
  refine (refleave_any r _ hr).mono ?_
  rintro e w1 ⟨rfl, hb⟩
  obtain ⟨ra, hra⟩ : ∃ ra, leave r = ra := ⟨_, rfl⟩
  rw [hra]
  have hra' := hid hra
  clear hra
  go_wp2_with fail
  obtain ⟨hG, hp, hq, hh, hS, z0, z1⟩ := one_first (A := r.cells) (B := [.int .u8 k, .int .i64 no, .bool has]) (C := [.int .i64 0, .int .i64 0, .int .i64 0]) (x := ra.1.cells) hQ hb
  clear hb
  generalize w1.alloc (.cells #[.int .i64 ra.1.s, .int .i64 ra.1.f, .int .i64 ra.1.c] 30) = wx at *
  obtain ⟨h, eh⟩ : ∃ h, w1.heap.size = h := ⟨_, rfl⟩
  obtain ⟨q, eq⟩ : ∃ q, w.heap.size + 1 + 1 = q := ⟨_, rfl⟩
  obtain ⟨p, ep⟩ : ∃ p, w.heap.size + 1 = p := ⟨_, rfl⟩
  rw [eh] at hh
  rw [eq] at hq
  rw [ep] at hp
  rw [eh, eq, ep]
  have e1 : h ≠ g := by omega
  have e2 : q ≠ g := by omega
  have e3 : p ≠ g := by omega
  have e6 : h ≠ q := by omega
  have e7 : p ≠ q := by omega
  have e4 : g ≠ q := by omega
  have e5 : w.heap.size ≤ q := by omega
  clear eh eq ep z0 z1 hQ
  have h0 : wx.cell? ⟨h, 0, none⟩ = some (.int .i64 ra.1.s) := hh.cell rfl
  have h1 : wx.cell? ⟨h, 1, none⟩ = some (.int .i64 ra.1.f) := hh.cell rfl
  have h2 : wx.cell? ⟨h, 2, none⟩ = some (.int .i64 ra.1.c) := hh.cell rfl
  go_region_held3 (fun w' => w'.cell? ⟨h, 0, none⟩ = some (.int .i64 ra.1.s) ∧ w'.cell? ⟨h, 1, none⟩ = some (.int .i64 ra.1.f) ∧ w'.cell? ⟨h, 2, none⟩ = some (.int .i64 ra.1.c))
    (first | exact ⟨(hS'.bk e1 hh).cell rfl, (hS'.bk e1 hh).cell rfl, (hS'.bk e1 hh).cell rfl⟩ | exact ⟨(((hh2.far (p := ⟨q, 0, none⟩) e6 _).far (p := ⟨q, 1, none⟩) e6 _).far (p := ⟨q, 2, none⟩) e6 _).cell rfl, (((hh2.far (p := ⟨q, 0, none⟩) e6 _).far (p := ⟨q, 1, none⟩) e6 _).far (p := ⟨q, 2, none⟩) e6 _).cell rfl, (((hh2.far (p := ⟨q, 0, none⟩) e6 _).far (p := ⟨q, 1, none⟩) e6 _).far (p := ⟨q, 2, none⟩) e6 _).cell rfl⟩ | go_keep)
    ((go_at_call 22; refine (leave_any g j _ hj ?_).mono ?_; exact hG.drew; rintro e w2 ⟨rfl, hG', hS'⟩; have hh2 := hS'.bk e1 hh.drew; have hp2 := hS'.bk e3 hp.drew; have hq2 := hS'.bk e2 hq.drew; have k0 := hq2.cell (i := 0) rfl; have k1 := hq2.cell (i := 1) rfl; have k2 := hq2.cell (i := 2) rfl; have u0 := hq2.free 0; have u1 := hq2.free 1; have u2 := hq2.free 2))
  have hq3 := ((hq2.s0 (a := .int .i64 ra.1.s)).s1 (a := .int .i64 ra.1.f)).s2 (a := .int .i64 ra.1.c)
  have hG3 := ((hG'.far (p := ⟨q, 0, none⟩) e4 (.int .i64 ra.1.s)).far (p := ⟨q, 1, none⟩) e4 (.int .i64 ra.1.f)).far (p := ⟨q, 2, none⟩) e4 (.int .i64 ra.1.c)
  have hS3 := ((hS.drew.trans hS').setNew (p := ⟨q, 0, none⟩) e5 (.int .i64 ra.1.s)).setNew (p := ⟨q, 1, none⟩) e5 (.int .i64 ra.1.f) |>.setNew (p := ⟨q, 2, none⟩) e5 (.int .i64 ra.1.c)
  generalize ((w2.setCell ⟨q, 0, none⟩ (.int .i64 ra.1.s)).setCell ⟨q, 1, none⟩ (.int .i64 ra.1.f)).setCell ⟨q, 2, none⟩ (.int .i64 ra.1.c) = w3 at *
  have d0 : w3.cell? ⟨q, 0, none⟩ = some (.int .i64 ra.1.s) := hq3.cell rfl
  have d1 : w3.cell? ⟨q, 1, none⟩ = some (.int .i64 ra.1.f) := hq3.cell rfl
  have d2 : w3.cell? ⟨q, 2, none⟩ = some (.int .i64 ra.1.c) := hq3.cell rfl
  clear hG hS hh hq hp h0 h1 h2 hG' hS' hh2 hp2 hq2 k0 k1 k2 u0 u1 u2
  go_wp2
  refine bodyPost_ret ?_ rfl ⟨rfl, hG3, hS3⟩
  have hra := hra'.out
  subst hra
  simp [results, Try.results10, go_sem, d0, d1, d2]

set_option maxRecDepth 100000 in
set_option maxHeartbeats 2000000 in
theorem one3 (g : Nat) (j r : J) (k no : Int) (has : Bool) (w : World) (hj : j.ok) (hr : r.ok) (hk : 0 ≤ k ∧ k ≤ 255) (hm : k % 8 = 3) (hQ : Bk w g 47 j.cells) :
    Calls Try.prog 10 #[.pointer (some ⟨g, 0, none⟩), .agg r.arr, .agg #[.int .u8 k, .int .i64 no, .bool has]] w fun e w' => e = .returned (.tuple #[.agg (ready r no).arr, .bool true]) ∧ Bk w' g 47 (ready j no).cells ∧ Step g w w' := by
  obtain ⟨hk0, hk1⟩ := hk
  have t0 : (k % 8 == 0) = false := by simp; omega
  have t1 : (k % 8 == 1) = false := by simp; omega
  have t2 : (k % 8 == 2) = false := by simp; omega
  have t3 : (k % 8 == 3) = true := by simp; omega
  clear hm
  obtain ⟨hG, ho, hp, hq, hS, z0⟩ := one_w3 (A := r.cells) (B := [.int .u8 k, .int .i64 no, .bool has]) (C := [.int .i64 0, .int .i64 0, .int .i64 0]) hQ
  have hG := hid hG
  have ho := hid ho
  have hp := hid hp
  have hq := hid hq
  go_enter Try.func10, Try.ntmps10
  go_wp2_with fail
  have hG := hG.out
  have ho := ho.out
  have hp := hp.out
  have hq := hq.out
  obtain ⟨wx, ex⟩ : ∃ wx, ((w.alloc (.cells r.cells.toArray 30)).alloc (.cells [.int .u8 k, .int .i64 no, .bool has].toArray 26)).alloc (.cells [.int .i64 0, .int .i64 0, .int .i64 0].toArray 30) = wx := ⟨_, rfl⟩
  change Calls _ _ _ (((w.alloc (.cells r.cells.toArray 30)).alloc (.cells [.int .u8 k, .int .i64 no, .bool has].toArray 26)).alloc (.cells [.int .i64 0, .int .i64 0, .int .i64 0].toArray 30)) _
  rw [ex] at hG ho hp hq hS ⊢
  obtain ⟨q, eq⟩ : ∃ q, w.heap.size + 1 + 1 = q := ⟨_, rfl⟩
  obtain ⟨p, ep⟩ : ∃ p, w.heap.size + 1 = p := ⟨_, rfl⟩
  obtain ⟨o, eo⟩ : ∃ o, w.heap.size = o := ⟨_, rfl⟩
  rw [eq] at hq
  rw [ep] at hp
  rw [eo] at ho
  rw [eq, ep, eo]
  have e2 : q ≠ g := by omega
  have e3 : p ≠ g := by omega
  have e1 : o ≠ g := by omega
  have e4 : g ≠ q := by omega
  have e5 : w.heap.size ≤ q := by omega
  clear eq ep eo z0 hQ ex
  have p0 : wx.cell? ⟨p, 1, none⟩ = some (.int .i64 no) := hp.cell rfl
  refine (ready_any g j no _ hG).mono ?_
  rintro e w1 ⟨rfl, hG1, hS1⟩
  have hp1 := hS1.bk e3 hp
  have hq1 := hS1.bk e2 hq
  have ho1 := hS1.bk e1 ho
  have p1 : w1.cell? ⟨p, 1, none⟩ = some (.int .i64 no) := hp1.cell rfl
  have o0 : w1.cell? ⟨o, 0, none⟩ = some (.int .i64 r.s) := ho1.cell rfl
  have o1 : w1.cell? ⟨o, 1, none⟩ = some (.int .i64 r.f) := ho1.cell rfl
  have o2 : w1.cell? ⟨o, 2, none⟩ = some (.int .i64 r.c) := ho1.cell rfl
  go_wp2_with fail
  refine (refready_any r no _).mono ?_
  rintro e w2 ⟨rfl, hb⟩
  have hq2 := hq1.call hb
  have hG2 := hG1.call hb
  have hS2 := (hS.trans hS1).call hb
  obtain ⟨ra, hra⟩ : ∃ ra, ready r no = ra := ⟨_, rfl⟩
  rw [hra]
  have hra' := hid hra
  clear hra
  have k0 := hq2.cell (i := 0) rfl
  have k1 := hq2.cell (i := 1) rfl
  have k2 := hq2.cell (i := 2) rfl
  have u0 := hq2.free 0
  have u1 := hq2.free 1
  have u2 := hq2.free 2
  clear hG ho hp hq hG1 hp1 hq1 ho1 p0 p1 o0 o1 o2
  have hq3 := ((hq2.s0 (a := .int .i64 ra.s)).s1 (a := .int .i64 ra.f)).s2 (a := .int .i64 ra.c)
  have hG3 := ((hG2.far (p := ⟨q, 0, none⟩) e4 (.int .i64 ra.s)).far (p := ⟨q, 1, none⟩) e4 (.int .i64 ra.f)).far (p := ⟨q, 2, none⟩) e4 (.int .i64 ra.c)
  have hS3 := (hS2.setNew (p := ⟨q, 0, none⟩) e5 (.int .i64 ra.s)).setNew (p := ⟨q, 1, none⟩) e5 (.int .i64 ra.f) |>.setNew (p := ⟨q, 2, none⟩) e5 (.int .i64 ra.c)
  have d0 := hq3.cell (i := 0) rfl
  have d1 := hq3.cell (i := 1) rfl
  have d2 := hq3.cell (i := 2) rfl
  go_wp2
  refine bodyPost_ret ?_ rfl ⟨rfl, hG3, hS3⟩
  have hra := hra'.out
  subst hra
  simp [results, Try.results10, go_sem, d0, d1, d2]

set_option maxRecDepth 100000 in
set_option maxHeartbeats 2000000 in
theorem one4 (g : Nat) (j r : J) (k no : Int) (has : Bool) (w : World) (hj : j.ok) (hr : r.ok) (hk : 0 ≤ k ∧ k ≤ 255) (hm : k % 8 = 4) (hQ : Bk w g 47 j.cells) :
    Calls Try.prog 10 #[.pointer (some ⟨g, 0, none⟩), .agg r.arr, .agg #[.int .u8 k, .int .i64 no, .bool has]] w fun e w' => e = .returned (.tuple #[.agg (⟨0, -1, 0⟩ : J).arr, .bool true]) ∧ Bk w' g 47 (⟨0, -1, 0⟩ : J).cells ∧ Step g w w' := by
  obtain ⟨hk0, hk1⟩ := hk
  have t0 : (k % 8 == 0) = false := by simp; omega
  have t1 : (k % 8 == 1) = false := by simp; omega
  have t2 : (k % 8 == 2) = false := by simp; omega
  have t3 : (k % 8 == 3) = false := by simp; omega
  have t4 : (k % 8 == 4) = true := by simp; omega
  clear hm
  obtain ⟨hG, ho, hp, hq, hS, z0⟩ := one_w3 (A := r.cells) (B := [.int .u8 k, .int .i64 no, .bool has]) (C := [.int .i64 0, .int .i64 0, .int .i64 0]) hQ
  have hG := hid hG
  have ho := hid ho
  have hp := hid hp
  have hq := hid hq
  go_enter Try.func10, Try.ntmps10
  go_wp2_with fail
  have hG := hG.out
  have ho := ho.out
  have hp := hp.out
  have hq := hq.out
  obtain ⟨wx, ex⟩ : ∃ wx, ((w.alloc (.cells r.cells.toArray 30)).alloc (.cells [.int .u8 k, .int .i64 no, .bool has].toArray 26)).alloc (.cells [.int .i64 0, .int .i64 0, .int .i64 0].toArray 30) = wx := ⟨_, rfl⟩
  change Calls _ _ _ (((w.alloc (.cells r.cells.toArray 30)).alloc (.cells [.int .u8 k, .int .i64 no, .bool has].toArray 26)).alloc (.cells [.int .i64 0, .int .i64 0, .int .i64 0].toArray 30)) _
  rw [ex] at hG ho hp hq hS ⊢
  obtain ⟨q, eq⟩ : ∃ q, w.heap.size + 1 + 1 = q := ⟨_, rfl⟩
  obtain ⟨p, ep⟩ : ∃ p, w.heap.size + 1 = p := ⟨_, rfl⟩
  obtain ⟨o, eo⟩ : ∃ o, w.heap.size = o := ⟨_, rfl⟩
  rw [eq] at hq
  rw [ep] at hp
  rw [eo] at ho
  rw [eq, ep, eo]
  have e2 : q ≠ g := by omega
  have e3 : p ≠ g := by omega
  have e1 : o ≠ g := by omega
  have e4 : g ≠ q := by omega
  have e5 : w.heap.size ≤ q := by omega
  clear eq ep eo z0 hQ ex
  have p0 : wx.cell? ⟨p, 1, none⟩ = some (.int .i64 no) := hp.cell rfl
  refine (reset_any g j _ hG).mono ?_
  rintro e w1 ⟨rfl, hG1, hS1⟩
  have hp1 := hS1.bk e3 hp
  have hq1 := hS1.bk e2 hq
  have ho1 := hS1.bk e1 ho
  have p1 : w1.cell? ⟨p, 1, none⟩ = some (.int .i64 no) := hp1.cell rfl
  have o0 : w1.cell? ⟨o, 0, none⟩ = some (.int .i64 r.s) := ho1.cell rfl
  have o1 : w1.cell? ⟨o, 1, none⟩ = some (.int .i64 r.f) := ho1.cell rfl
  have o2 : w1.cell? ⟨o, 2, none⟩ = some (.int .i64 r.c) := ho1.cell rfl
  go_wp2_with fail
  refine (refnew_any _).mono ?_
  rintro e w2 ⟨rfl, hb⟩
  have hq2 := hq1.call hb
  have hG2 := hG1.call hb
  have hS2 := (hS.trans hS1).call hb
  have k0 := hq2.cell (i := 0) rfl
  have k1 := hq2.cell (i := 1) rfl
  have k2 := hq2.cell (i := 2) rfl
  have u0 := hq2.free 0
  have u1 := hq2.free 1
  have u2 := hq2.free 2
  clear hG ho hp hq hG1 hp1 hq1 ho1 p0 p1 o0 o1 o2
  have hq3 := ((hq2.s0 (a := .int .i64 0)).s1 (a := .int .i64 (-1))).s2 (a := .int .i64 0)
  have hG3 := ((hG2.far (p := ⟨q, 0, none⟩) e4 (.int .i64 0)).far (p := ⟨q, 1, none⟩) e4 (.int .i64 (-1))).far (p := ⟨q, 2, none⟩) e4 (.int .i64 0)
  have hS3 := (hS2.setNew (p := ⟨q, 0, none⟩) e5 (.int .i64 0)).setNew (p := ⟨q, 1, none⟩) e5 (.int .i64 (-1)) |>.setNew (p := ⟨q, 2, none⟩) e5 (.int .i64 0)
  have d0 := hq3.cell (i := 0) rfl
  have d1 := hq3.cell (i := 1) rfl
  have d2 := hq3.cell (i := 2) rfl
  go_wp2
  refine bodyPost_ret ?_ rfl ⟨rfl, hG3, hS3⟩
  simp [results, Try.results10, go_sem, d0, d1, d2]

set_option maxRecDepth 100000 in
set_option maxHeartbeats 2000000 in
theorem one5 (g : Nat) (j r : J) (k no : Int) (has : Bool) (w : World) (hj : j.ok) (hr : r.ok) (hk : 0 ≤ k ∧ k ≤ 255) (hm : 5 ≤ k % 8) (hQ : Bk w g 47 j.cells) :
    Calls Try.prog 10 #[.pointer (some ⟨g, 0, none⟩), .agg r.arr, .agg #[.int .u8 k, .int .i64 no, .bool has]] w fun e w' => e = .returned (.tuple #[.agg (inst r no has).1.arr, .bool ((inst j no has).2 == (inst r no has).2)]) ∧ Bk w' g 47 (inst j no has).1.cells ∧ Step g w w' := by
  obtain ⟨hk0, hk1⟩ := hk
  have t0 : (k % 8 == 0) = false := by simp; omega
  have t1 : (k % 8 == 1) = false := by simp; omega
  have t2 : (k % 8 == 2) = false := by simp; omega
  have t3 : (k % 8 == 3) = false := by simp; omega
  have t4 : (k % 8 == 4) = false := by simp; omega
  clear hm
  go_enter Try.func10, Try.ntmps10
  go_wp2_with fail
  go_at_call 27
  refine (refinst_any r no has _ hr).mono ?_
  rintro e w1 ⟨rfl, hb⟩
  obtain ⟨ra, hra⟩ : ∃ ra, inst r no has = ra := ⟨_, rfl⟩
  rw [hra]
  have hra' := hid hra
  clear hra
  go_wp2_with fail
  obtain ⟨hG, hp, hq, hh, hS, z0, z1⟩ := one_first (A := r.cells) (B := [.int .u8 k, .int .i64 no, .bool has]) (C := [.int .i64 0, .int .i64 0, .int .i64 0]) (x := ra.1.cells) hQ hb
  clear hb
  generalize w1.alloc (.cells #[.int .i64 ra.1.s, .int .i64 ra.1.f, .int .i64 ra.1.c] 30) = wx at *
  obtain ⟨h, eh⟩ : ∃ h, w1.heap.size = h := ⟨_, rfl⟩
  obtain ⟨q, eq⟩ : ∃ q, w.heap.size + 1 + 1 = q := ⟨_, rfl⟩
  obtain ⟨p, ep⟩ : ∃ p, w.heap.size + 1 = p := ⟨_, rfl⟩
  rw [eh] at hh
  rw [eq] at hq
  rw [ep] at hp
  rw [eh, eq, ep]
  have e1 : h ≠ g := by omega
  have e2 : q ≠ g := by omega
  have e3 : p ≠ g := by omega
  have e6 : h ≠ q := by omega
  have e7 : p ≠ q := by omega
  have e4 : g ≠ q := by omega
  have e5 : w.heap.size ≤ q := by omega
  clear eh eq ep z0 z1 hQ
  have h0 : wx.cell? ⟨h, 0, none⟩ = some (.int .i64 ra.1.s) := hh.cell rfl
  have h1 : wx.cell? ⟨h, 1, none⟩ = some (.int .i64 ra.1.f) := hh.cell rfl
  have h2 : wx.cell? ⟨h, 2, none⟩ = some (.int .i64 ra.1.c) := hh.cell rfl
  have p1 : wx.cell? ⟨p, 1, none⟩ = some (.int .i64 no) := hp.cell rfl
  have p2 : wx.cell? ⟨p, 2, none⟩ = some (.bool has) := hp.cell rfl
  go_region_held3 (fun w' => w'.cell? ⟨p, 1, none⟩ = some (.int .i64 no) ∧ w'.cell? ⟨p, 2, none⟩ = some (.bool has) ∧ w'.cell? ⟨h, 0, none⟩ = some (.int .i64 ra.1.s) ∧ w'.cell? ⟨h, 1, none⟩ = some (.int .i64 ra.1.f) ∧ w'.cell? ⟨h, 2, none⟩ = some (.int .i64 ra.1.c))
    (first | exact ⟨(hS'.bk e3 hp).cell rfl, (hS'.bk e3 hp).cell rfl, (hS'.bk e1 hh).cell rfl, (hS'.bk e1 hh).cell rfl, (hS'.bk e1 hh).cell rfl⟩ | exact ⟨(((hp2.far (p := ⟨q, 0, none⟩) e7 _).far (p := ⟨q, 1, none⟩) e7 _).far (p := ⟨q, 2, none⟩) e7 _).cell rfl, (((hp2.far (p := ⟨q, 0, none⟩) e7 _).far (p := ⟨q, 1, none⟩) e7 _).far (p := ⟨q, 2, none⟩) e7 _).cell rfl, (((hh2.far (p := ⟨q, 0, none⟩) e6 _).far (p := ⟨q, 1, none⟩) e6 _).far (p := ⟨q, 2, none⟩) e6 _).cell rfl, (((hh2.far (p := ⟨q, 0, none⟩) e6 _).far (p := ⟨q, 1, none⟩) e6 _).far (p := ⟨q, 2, none⟩) e6 _).cell rfl, (((hh2.far (p := ⟨q, 0, none⟩) e6 _).far (p := ⟨q, 1, none⟩) e6 _).far (p := ⟨q, 2, none⟩) e6 _).cell rfl⟩ | go_keep)
    ((go_at_call 14; refine (inst_any g j no has _ hj ?_).mono ?_; exact hG.drew; rintro e w2 ⟨rfl, hG', hS'⟩; have hh2 := hS'.bk e1 hh.drew; have hp2 := hS'.bk e3 hp.drew; have hq2 := hS'.bk e2 hq.drew; have k0 := hq2.cell (i := 0) rfl; have k1 := hq2.cell (i := 1) rfl; have k2 := hq2.cell (i := 2) rfl; have u0 := hq2.free 0; have u1 := hq2.free 1; have u2 := hq2.free 2))
  have hq3 := ((hq2.s0 (a := .int .i64 ra.1.s)).s1 (a := .int .i64 ra.1.f)).s2 (a := .int .i64 ra.1.c)
  have hG3 := ((hG'.far (p := ⟨q, 0, none⟩) e4 (.int .i64 ra.1.s)).far (p := ⟨q, 1, none⟩) e4 (.int .i64 ra.1.f)).far (p := ⟨q, 2, none⟩) e4 (.int .i64 ra.1.c)
  have hS3 := ((hS.drew.trans hS').setNew (p := ⟨q, 0, none⟩) e5 (.int .i64 ra.1.s)).setNew (p := ⟨q, 1, none⟩) e5 (.int .i64 ra.1.f) |>.setNew (p := ⟨q, 2, none⟩) e5 (.int .i64 ra.1.c)
  generalize ((w2.setCell ⟨q, 0, none⟩ (.int .i64 ra.1.s)).setCell ⟨q, 1, none⟩ (.int .i64 ra.1.f)).setCell ⟨q, 2, none⟩ (.int .i64 ra.1.c) = w3 at *
  have d0 : w3.cell? ⟨q, 0, none⟩ = some (.int .i64 ra.1.s) := hq3.cell rfl
  have d1 : w3.cell? ⟨q, 1, none⟩ = some (.int .i64 ra.1.f) := hq3.cell rfl
  have d2 : w3.cell? ⟨q, 2, none⟩ = some (.int .i64 ra.1.c) := hq3.cell rfl
  clear hG hS hh hq hp h0 h1 h2 hG' hS' hh2 hp2 hq2 k0 k1 k2 u0 u1 u2
  go_wp2
  refine bodyPost_ret ?_ rfl ⟨rfl, hG3, hS3⟩
  have hra := hra'.out
  subst hra
  simp [results, Try.results10, go_sem, d0, d1, d2]

/-- A call, of both. -/
def act (j : J) (k no : Int) (has : Bool) : J × Int :=
  if k % 8 = 0 then boot j else if k % 8 = 1 then want j else if k % 8 = 2 then leave j else if k % 8 = 3 then (ready j no, 0) else if k % 8 = 4 then (⟨0, -1, 0⟩, 0) else inst j no has
theorem one_any (g : Nat) (j r : J) (k no : Int) (has : Bool) (w : World) (hj : j.ok) (hr : r.ok) (hk : 0 ≤ k ∧ k ≤ 255) (hQ : Bk w g 47 j.cells) :
    Calls Try.prog 10 #[.pointer (some ⟨g, 0, none⟩), .agg r.arr, .agg #[.int .u8 k, .int .i64 no, .bool has]] w fun e w' => e = .returned (.tuple #[.agg (act r k no has).1.arr, .bool ((act j k no has).2 == (act r k no has).2)]) ∧ Bk w' g 47 (act j k no has).1.cells ∧ Step g w w' := by
  unfold act
  by_cases h0 : k % 8 = 0
  · simp only [if_pos h0]; exact one0 g j r k no has w hj hr hk h0 hQ
  by_cases h1 : k % 8 = 1
  · simp only [if_neg h0, if_pos h1]; exact one1 g j r k no has w hj hr hk h1 hQ
  by_cases h2 : k % 8 = 2
  · simp only [if_neg h0, if_neg h1, if_pos h2]; exact one2 g j r k no has w hj hr hk h2 hQ
  by_cases h3 : k % 8 = 3
  · simp only [if_neg h0, if_neg h1, if_neg h2, if_pos h3]; exact one3 g j r k no has w hj hr hk h3 hQ
  by_cases h4 : k % 8 = 4
  · simp only [if_neg h0, if_neg h1, if_neg h2, if_neg h3, if_pos h4]; exact one4 g j r k no has w hj hr hk h4 hQ
  · simp only [if_neg h0, if_neg h1, if_neg h2, if_neg h3, if_neg h4]; exact one5 g j r k no has w hj hr hk (by omega) hQ
theorem act_ok {j : J} (k no : Int) (has : Bool) (h : j.ok) : (act j k no has).1.ok := by
  obtain ⟨h1, h2⟩ := h
  unfold act boot want leave ready inst J.ok
  repeat' split
  all_goals (refine ⟨?_, ?_⟩ <;> (try dsimp only) <;> first | assumption | omega)
end Go.Proofs.Ytachhoocdpdifaa
