/- The walk of SerialRises. -/
import Derived.Test.YtjaoadeenmabpaaO
namespace Go.Proofs.Ytjaoadeenmabpaa
open Go Go.RowKit Go.ChangeShapes Go.WideShapes Go.Maps
set_option linter.unusedVariables false

/-- Marks of one node alone. -/
def solo (x : Int) (o : Option Mk) : Int → Option Mk := fun k => if k = x then o else none
theorem solo_upd (x : Int) (o : Option Mk) (m : Mk) : upd (solo x o) x m = solo x (some m) := by
  funext k; unfold upd solo; by_cases h : k = x <;> simp [h]
theorem solo_at (x : Int) (o : Option Mk) : solo x o x = o := by simp [solo]

set_option maxRecDepth 100000 in
set_option maxHeartbeats 4000000 in
theorem serialRisesWalk (a0 : Option Addr) (len0 cap0 : Nat) (x00 : Nat → Int) (x01 : Nat → Int) (x02 : Nat → Int) (a1 : Int) (w : World) (s0 : IsSl w a0 len0 3 (fun i => [.int .i64 (x00 i), .int .i64 (x01 i), .int .u32 (x02 i)])) (l0 : len0 ≤ maxLen) (w00 : ∀ i, (Lit.int .i64 (x00 i)).wf = true) (w01 : ∀ i, (Lit.int .i64 (x01 i)).wf = true) (w02 : ∀ i, (Lit.int .u32 (x02 i)).wf = true) (w1 : (Lit.int .u8 a1).wf = true) :
    Calls Try.prog 4 #[.slice a0 len0 cap0, .int .u8 a1] w fun e w' => e = .returned (.bool true) ∧ Below w.heap.size w w' := by
  unfold maxLen at l0
  obtain ⟨y0, y1⟩ := bd_u8 w1
  have W0 : IntKind.i64.wrap (a1 % 4) = a1 % 4 := IntWalk.i64_in _ (by omega)
  obtain ⟨nn, hn⟩ : ∃ nn, a1 % 4 = nn := ⟨_, rfl⟩
  have bn : 0 ≤ nn ∧ nn < 4 := by omega
  have hn' := hid hn
  clear hn
  have hwn : (Lit.int .i64 nn).wf = true := wf_key (by omega) (by omega)
  go_enter Try.func4, Try.ntmps4
  go_wp2_with (go_at_call 12; refine (none_any _).mono ?_; rintro e w' ⟨rfl, rfl⟩)
  rw [hn'.out]
  have hG0 : Bk (((w.alloc (.map #[] 0)).alloc (.cells #[.map (some w.heap.size)] 55)).alloc (.cells #[.int .i64 0, .int .i64 0, .int .u32 0] 35)) (w.heap.size + 1) 55 [.map (some w.heap.size)] := by
    have := (Bk.new (w.alloc (.map #[] 0)) 55 [.map (some w.heap.size)]).alloc (.cells #[.int .i64 0, .int .i64 0, .int .u32 0] 35)
    simpa using this
  have hH0 : Bk (((w.alloc (.map #[] 0)).alloc (.cells #[.map (some w.heap.size)] 55)).alloc (.cells #[.int .i64 0, .int .i64 0, .int .u32 0] 35)) (w.heap.size + 1 + 1) 35 [.int .i64 0, .int .i64 0, .int .u32 0] := by
    have := Bk.new ((w.alloc (.map #[] 0)).alloc (.cells #[.map (some w.heap.size)] 55)) 35 [.int .i64 0, .int .i64 0, .int .u32 0]
    simpa using this
  have hM0 : Mks (((w.alloc (.map #[] 0)).alloc (.cells #[.map (some w.heap.size)] 55)).alloc (.cells #[.int .i64 0, .int .i64 0, .int .u32 0] 35)) w.heap.size 0 fun _ => none := ((Mks.made w).alloc _).alloc _
  have hB0 : Below w.heap.size w (((w.alloc (.map #[] 0)).alloc (.cells #[.map (some w.heap.size)] 55)).alloc (.cells #[.int .i64 0, .int .i64 0, .int .u32 0] 35)) := by go_grown
  generalize ((w.alloc (.map #[] 0)).alloc (.cells #[.map (some w.heap.size)] 55)).alloc (.cells #[.int .i64 0, .int .i64 0, .int .u32 0] 35) = wx at *
  obtain ⟨h, hh⟩ : ∃ h, w.heap.size + 1 + 1 = h := ⟨_, rfl⟩
  obtain ⟨g, hg⟩ : ∃ g, w.heap.size + 1 = g := ⟨_, rfl⟩
  obtain ⟨b, hbq⟩ : ∃ b, w.heap.size = b := ⟨_, rfl⟩
  rw [hg, hbq] at hG0
  rw [hh] at hH0
  rw [hbq] at hM0
  rw [hh, hg]
  have hgB : w.heap.size ≤ g := by omega
  have hbB : w.heap.size ≤ b := by omega
  have hhB : w.heap.size ≤ h := by omega
  have hgh : g ≠ h := by omega
  have hbh : b ≠ h := by omega
  have hbg : b ≠ g := by omega
  clear hh hg hbq
  go_loopw [8, 9] (fun sm i wr => ∃ (k : Nat) (o : Option Mk), k ≤ len0 ∧ k ≤ 60 ∧ ((o.getD zeroM).f = nn ∨ o = none) ∧ (0 ≤ (o.getD zeroM).c ∧ (o.getD zeroM).c ≤ k) ∧ sm = .bool o.isSome ∧ i = .int .i64 k ∧
      Bk wr g 55 [.map (some b)] ∧ Mks wr b k (solo nn o) ∧ Bk wr h 35 [.int .i64 (o.getD zeroM).t, .int .i64 (o.getD zeroM).f, .int .u32 (o.getD zeroM).s] ∧ Below w.heap.size w wr)
    (fun _ i _ => len0 - (intOf i).toNat)
  case atStart => exact ⟨0, none, by omega, by omega, .inr rfl, by simp [zeroM], rfl, rfl, hG0, (by rw [show solo nn none = fun _ => none from by funext x; unfold solo; split <;> rfl]; exact hM0), hH0, hB0⟩
  case round =>
    clear hG0 hH0 hM0 hB0
    obtain ⟨k, o, hk, hk2, ho, hcc, rfl, rfl, hG, hM, hH, hb⟩ := hrel
    obtain ⟨m, em⟩ : ∃ m, o.getD zeroM = m := ⟨_, rfl⟩
    obtain ⟨v, ev⟩ : ∃ v, o.isSome = v := ⟨_, rfl⟩
    rw [em] at ho hcc hH
    rw [ev]
    have hov : (v = false ∧ o = none) ∨ (v = true ∧ m.f = nn) := by
      cases o with
      | none => exact .inl ⟨ev.symm, rfl⟩
      | some x => exact .inr ⟨ev.symm, ho.resolve_right (by simp)⟩
    by_cases hlt : k < len0 ∧ k < 60
    · obtain ⟨hl2, hl3⟩ := hlt
      obtain ⟨bb, off, rfl, hbb, hc⟩ := s0 (by omega)
      have q0 : wr.cell? ⟨bb, off + k * 3, none⟩ = some (.int .i64 (x00 k)) := (hb.cell (p := ⟨bb, off + k * 3, none⟩) hbb).trans (by simpa using hc k hl2 0 _ rfl)
      have q1 : wr.cell? ⟨bb, off + k * 3 + 1, none⟩ = some (.int .i64 (x01 k)) := (hb.cell (p := ⟨bb, off + k * 3 + 1, none⟩) hbb).trans (by simpa [Nat.add_assoc] using hc k hl2 1 _ rfl)
      have q2 : wr.cell? ⟨bb, off + k * 3 + 2, none⟩ = some (.int .u32 (x02 k)) := (hb.cell (p := ⟨bb, off + k * 3 + 2, none⟩) hbb).trans (by simpa [Nat.add_assoc] using hc k hl2 2 _ rfl)
      clear hc
      have hbt := bd_i64 (w00 k)
      have hbs := bd_u32 (w02 k)
      generalize x00 k = t at *
      generalize x01 k = f at *
      generalize x02 k = s at *
      obtain ⟨r, er⟩ : ∃ r, (if v = true then bh m.t m.f m.s t nn s else 0) = r := ⟨_, rfl⟩
      have e1 : (solo nn o nn).getD zeroM = m := by rw [solo_at]; exact em
      have e2 : (solo nn o nn).isSome = v := by rw [solo_at]; exact ev
      have NT := fun wz h1 h2 => note_any g b k (solo nn o) t nn s m v wz h1 h2 bn.1 (by omega) (by omega) e1 e2 (by omega) r er
      have NT' := hid NT
      have em' := hid em
      have ev' := hid ev
      have er' := hid er
      have hov' := hid hov
      have ho' := hid ho
      clear NT e1 e2 em ev er hov ho
      have hGa := hG.alloc (.cells #[.int .i64 t, .int .i64 nn, .int .u32 s] 35)
      have hMa := hM.alloc (.cells #[.int .i64 t, .int .i64 nn, .int .u32 s] 35)
      have hHa := hH.alloc (.cells #[.int .i64 t, .int .i64 nn, .int .u32 s] 35)
      have hqa := Bk.new wr 35 [.int .i64 t, .int .i64 nn, .int .u32 s]
      have hBa := hb.alloc hb.size (.cells #[.int .i64 t, .int .i64 nn, .int .u32 s] 35)
      have zq := hM.lt
      have zh := hH.lt
      change Bk (wr.alloc (.cells #[.int .i64 t, .int .i64 nn, .int .u32 s] 35)) _ _ _ at hqa
      go_wp2_with fail
      go_at_call 13
      clear q0 q1 q2 hG hM hH hb
      generalize wr.alloc (.cells #[.int .i64 t, .int .i64 nn, .int .u32 s] 35) = wy at *
      obtain ⟨q, eq⟩ : ∃ q, wr.heap.size = q := ⟨_, rfl⟩
      rw [eq] at hqa
      rw [eq]
      have hqb : q ≠ b := by omega
      have hqh : q ≠ h := by omega
      clear eq zq zh
      refine (NT'.out wy hGa hMa).mono ?_
      rintro e w2 ⟨rfl, hG2, hM2, hS2⟩
      have hH2 := hS2.bk (Ne.symm hbh) hHa
      have hq2 := hS2.bk hqb hqa
      have hB2 := hS2.bel hMa.lt hbB hBa
      have p0 : w2.cell? ⟨q, 0, none⟩ = some (.int .i64 t) := hq2.cell rfl
      have p1 : w2.cell? ⟨q, 1, none⟩ = some (.int .i64 nn) := hq2.cell rfl
      have p2 : w2.cell? ⟨q, 2, none⟩ = some (.int .u32 s) := hq2.cell rfl
      have d0 : w2.cell? ⟨h, 0, none⟩ = some (.int .i64 m.t) := hH2.cell rfl
      have d1 : w2.cell? ⟨h, 1, none⟩ = some (.int .i64 m.f) := hH2.cell rfl
      have d2 : w2.cell? ⟨h, 2, none⟩ = some (.int .u32 m.s) := hH2.cell rfl
      have f0 := hH2.free 0
      have f1 := hH2.free 1
      have f2 := hH2.free 2
      clear NT' hGa hMa hHa hqa hBa hS2
      by_cases hr : r = 0
      · have er := er'.out
        have hov := hov'.out
        subst hr
        rw [if_pos rfl, solo_upd] at hM2
        have hH3 := ((hH2.s0 (a := .int .i64 t)).s1 (a := .int .i64 nn)).s2 (a := .int .u32 s)
        have hG3 := ((hG2.far (p := ⟨h, 0, none⟩) hgh (.int .i64 t)).far (p := ⟨h, 1, none⟩) hgh (.int .i64 nn)).far (p := ⟨h, 2, none⟩) hgh (.int .u32 s)
        have hM3 := ((hM2.far (p := ⟨h, 0, none⟩) hbh (.int .i64 t)).far (p := ⟨h, 1, none⟩) hbh (.int .i64 nn)).far (p := ⟨h, 2, none⟩) hbh (.int .u32 s)
        have hB3 := ((hB2.setCell (p := ⟨h, 0, none⟩) hhB (.int .i64 t)).setCell (p := ⟨h, 1, none⟩) hhB (.int .i64 nn)).setCell (p := ⟨h, 2, none⟩) hhB (.int .u32 s)
        have hM3' := hid hM3
        have hH3' := hid hH3
        have hG3' := hid hG3
        have hB3' := hid hB3
        clear hM3 hH3 hG3 hB3
        have hfin : ∀ (hx : True), ∃ (k' : Nat) (o' : Option Mk), k' ≤ len0 ∧ k' ≤ 60 ∧ ((o'.getD zeroM).f = nn ∨ o' = none) ∧ (0 ≤ (o'.getD zeroM).c ∧ (o'.getD zeroM).c ≤ k') ∧ Value.bool true = .bool o'.isSome ∧ Value.int .i64 ((k : Int) + 1) = .int .i64 k' ∧
            Bk (((w2.setCell ⟨h, 0, none⟩ (.int .i64 t)).setCell ⟨h, 1, none⟩ (.int .i64 nn)).setCell ⟨h, 2, none⟩ (.int .u32 s)) g 55 [.map (some b)] ∧ Mks (((w2.setCell ⟨h, 0, none⟩ (.int .i64 t)).setCell ⟨h, 1, none⟩ (.int .i64 nn)).setCell ⟨h, 2, none⟩ (.int .u32 s)) b k' (solo nn o') ∧
            Bk (((w2.setCell ⟨h, 0, none⟩ (.int .i64 t)).setCell ⟨h, 1, none⟩ (.int .i64 nn)).setCell ⟨h, 2, none⟩ (.int .u32 s)) h 35 [.int .i64 (o'.getD zeroM).t, .int .i64 (o'.getD zeroM).f, .int .u32 (o'.getD zeroM).s] ∧
            Below w.heap.size w (((w2.setCell ⟨h, 0, none⟩ (.int .i64 t)).setCell ⟨h, 1, none⟩ (.int .i64 nn)).setCell ⟨h, 2, none⟩ (.int .u32 s)) := fun _ =>
          ⟨k + 1, some ⟨t, nn, s, m.c + 1⟩, by omega, by omega, .inl rfl, by dsimp; omega, rfl, by go_num, hG3'.out, hM3'.out, hH3'.out, hB3'.out⟩
        have hfin' := hid hfin
        clear hfin
        rcases hov with ⟨rfl, -⟩ | ⟨rfl, hmf⟩
        · clear er
          go_wp2_with fail
          go_roundw
          case rel => exact hfin'.out trivial
          case measure => simp [intOf]; omega
        · rw [if_pos rfl] at er
          have hb1 : ¬ (t = m.t ∧ nn = m.f ∧ s = m.s) := fun hx => by unfold bh at er; rw [if_pos hx] at er; omega
          have hb2 : ¬ (t < m.t ∨ t = m.t ∧ s < m.s) := fun hx => by unfold bh at er; rw [if_neg hb1, if_pos hx] at er; omega
          have t1 : decide (t < m.t) = false := decide_eq_false (by omega)
          by_cases ht : t = m.t
          · have t2 : (t == m.t) = true := by simp [ht]
            have t3 : decide (s ≤ m.s) = false := decide_eq_false (by omega)
            clear er hb1 hb2 ht hmf
            go_wp2_with fail
            go_roundw
            case rel => exact hfin'.out trivial
            case measure => simp [intOf]; omega
          · have t2 : (t == m.t) = false := by simpa using ht
            clear er hb1 hb2 ht hmf
            go_wp2_with fail
            go_roundw
            case rel => exact hfin'.out trivial
            case measure => simp [intOf]; omega
      · have hr' : (r != 0) = true := by simpa using hr
        rw [if_neg hr] at hM2
        clear hr
        go_wp2_with fail
        go_roundw
        case rel =>
          have em := em'.out
          have ev := ev'.out
          exact ⟨k + 1, o, by omega, by omega, by rw [em]; exact ho'.out, by rw [em]; omega, by rw [ev], by go_num, hG2, hM2, by rw [em]; exact hH2, hB2⟩
        case measure => simp [intOf]; omega
    · have hs1 : ¬ (k < len0 ∧ (k : Int) < 60) := by omega
      have e1 : (solo nn o nn).getD zeroM = m := by rw [solo_at]; exact em
      have e2 : (solo nn o nn).isSome = v := by rw [solo_at]; exact ev
      have LS := hid (last_any g b k (solo nn o) nn m v wr hG hM hwn e1 e2)
      have hq := eq35 m.t m.f m.s m.t m.f m.s
      simp only [beq_self_eq_true, Bool.and_self] at hq
      clear e1 e2 em ev hov ho
      have hv : (v == v) = true := by simp
      have z := hH.lt
      go_wp2_with (first | (go_at_call 14; refine LS.out.mono ?_; rintro e w2 ⟨rfl, hb2⟩; have hH2 := hH.call hb2; have z2 := hH2.lt; have d0 : w2.cell? ⟨h, 0, none⟩ = some (.int .i64 m.t) := hH2.cell rfl; have d1 : w2.cell? ⟨h, 1, none⟩ = some (.int .i64 m.f) := hH2.cell rfl; have d2 : w2.cell? ⟨h, 2, none⟩ = some (.int .u32 m.s) := hH2.cell rfl; have zz : ¬ h = w2.heap.size := by omega) | (go_at_call 11; refine (works_any _).mono ?_; rintro e w' ⟨rfl, hw⟩))
      all_goals (go_returns; exact ⟨rfl, bel_tr ((bel_tr hb hb2).alloc (bel_tr hb hb2).size _) hw⟩)
end Go.Proofs.Ytjaoadeenmabpaa
