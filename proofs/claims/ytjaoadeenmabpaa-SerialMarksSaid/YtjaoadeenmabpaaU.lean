/- append of a list of keys onto another, as a law at a step of a drawn region; the document's Note. -/
import Derived.Test.YtjaoadeenmabpaaT
import Derived.Deep.RegionHeld3
import Derived.Deep.DrawnRows
namespace Go.Proofs.Ytjaoadeenmabpaa
open Go Go.RowKit Go.ChangeShapes Go.WideShapes Go.Maps
set_option linter.unusedVariables false
attribute [local go_sem ↓] Go.wp_at_zero Go.wp_at_succ

theorem kc_app : ∀ Y L : List K3, kc (Y ++ L) = kc Y ++ kc L
  | [], L => rfl
  | y :: r, L => by simp [kc, kc_app r L]
theorem Ks.of_bk {w : World} {g : Nat} {k : K3} (h : Bk w g 35 [.int .i64 k.t, .int .i64 k.f, .int .u32 k.s]) : Ks w 0 (.slice (some ⟨g, 0, none⟩) 1 1) [k] :=
  ⟨rfl, .inr ⟨g, 1, _, rfl, Nat.zero_le _, h, Nat.le_refl _, by unfold maxLen; omega, rfl, rfl⟩⟩
theorem Ks.empty (w : World) {base : Nat} (hb : base ≤ w.heap.size) : Ks (w.alloc (.cells #[] 35)) base (.slice (some ⟨w.heap.size, 0, none⟩) 0 0) [] := World.ownsRow_lit w #[] 0 hb (by unfold maxLen; omega) (by simp)
/-- What stands behind an append. -/
theorem app_facts {W wz w4 : World} {B : Nat} {o : Value} {Y : List K3} (hk : Ks wz B o Y) (hg : wz.grownBy w4 o.ownBlock) (hB : Below W.heap.size W wz) (hWB : W.heap.size ≤ B) (hBz : B ≤ wz.heap.size) :
    Below W.heap.size W w4 ∧ (∀ p t cs, p < B → Bk wz p t cs → Bk w4 p t cs) ∧ wz.heap.size ≤ w4.heap.size :=
  ⟨hB.grown hg hB.size (fun j hj => Nat.le_trans hWB (World.ownsRow.lt hk j hj).1), fun p t cs hp hb => (hg.block p hb.lt (fun e => by have := (World.ownsRow.lt hk p e.symm).1; omega)).trans hb, hg.size⟩
theorem append_ks (w : World) (ty : TypeId) {base base2 : Nat} {o v : Value} {Y L : List K3} (hO : Ks w base o Y) (hV : Ks w base2 v L) (hb : base ≤ w.heap.size) (hs : Y.length + L.length ≤ 100000) :
    ∃ o' w', (Builtin.append_ #[31, 31] ty #[o, v]).run Try.prog w = .ok o' w' ∧ Ks w' base o' (Y ++ L) ∧ w.grownBy w' o.ownBlock ∧ (o'.ownBlock = o.ownBlock ∨ o'.ownBlock = some w.heap.size) := by
  obtain ⟨i0, hi, hz0, hz1, hz2⟩ := info_parts info35
  have key := kc_app Y L
  rcases hV.2 with ⟨rfl, h0⟩ | ⟨g, cap, cur, rfl, hg⟩
  · have hL : L = [] := List.eq_nil_of_length_eq_zero h0
    subst hL
    refine ⟨o, w, ?_, by simpa using hO, World.grownBy.refl w _, .inl rfl⟩
    rcases hO.2 with ⟨rfl, _⟩ | ⟨g, cap, cur, rfl, _, _, hnc, _⟩
    · simp [Builtin.append_, run_underlying Try.underlying31, sizeOf, typeInfo, hi, Builtin.lenOf, Builtin.firstCells]
    · simp [Builtin.append_, run_underlying Try.underlying31, sizeOf, typeInfo, hi, Builtin.lenOf, Builtin.firstCells, hnc, storeCells]
  · obtain ⟨v', w', hr, h2, h3, _, h5⟩ := run_append_own_at (P := Try.prog) w base 31 ty 35 i0 _ 3 24 Try.underlying31 hi hz0 hz1 hz2 rfl (by omega) o Y.length (kc Y) hO ⟨g, 0, none⟩ L.length cap (kc L) (kc_length L)
      (World.ownsRow.cells hV (g := g) rfl) (kc_one L) (by unfold maxLen; omega) (by omega) hb
    exact ⟨v', w', hr, by unfold Ks; rw [key, List.length_append]; exact h2, h3, h5⟩
theorem step_ks {ops : Array Oper} {o : Oper} {a : Act} {K : Act → World → Prop} {Q : Exit → Act → World → Prop} {E : Prop} (hgd : o.guard = none) (s x : Operand)
    (ho : o.op = .call { callee := .builtin .append, args := #[s, x], argTypes := #[31, 31] }) (w : World) {base base2 : Nat} {ov v : Value} {Y L : List K3} (hs : a.eval s = ov) (hx : a.eval x = v) (hO : Ks w base ov Y) (hV : Ks w base2 v L) (hb : base ≤ w.heap.size) (hz : Y.length + L.length ≤ 100000)
    (h : ∀ o' w', Ks w' base o' (Y ++ L) → w.grownBy w' ov.ownBlock → (o'.ownBlock = ov.ownBlock ∨ o'.ownBlock = some w.heap.size) → K (a.put o.dst o') w') :
    if Region.wanted o (yielded ops a.tmps) = true then Oper.wp Try.prog o a w K Q else E := by
  have hw : Region.wanted o (yielded ops a.tmps) = true := by simp [Region.wanted, hgd]
  rw [if_pos hw]
  obtain ⟨o', w', hr, h1, h2, h3⟩ := append_ks w o.type hO hV hb hz
  unfold Oper.wp execOp
  simp only [ho, resolve, invoke, builtin, Sem.run_bind, Sem.run_pure, Result.andThen_ok, List.map_toArray, List.map_cons, List.map_nil, hs, hx, hr]
  exact h o' w' h1 h2 h3

theorem refnote_bad (base : Nat) (v : Value) (L : List K3) (k : K3) (w : World) (hK : Ks w base v L) (h : k.f < 0 ∨ 63 < k.f) :
    Calls Try.prog 17 #[v, .agg k.arr] w fun e w' => e = .returned (.tuple #[v, .int .i64 8]) ∧ Below w.heap.size w w' := by
  rcases h with h | h
  · go_enter Try.func17, Try.ntmps17
    go_wp2
    go_returns
    exact ⟨rfl, by go_grown⟩
  · have h0 : decide (k.f < 0) = false := decide_eq_false (by omega)
    go_enter Try.func17, Try.ntmps17
    go_wp2
    go_returns
    exact ⟨rfl, by go_grown⟩

/-- What becomes of the list. -/
def NoteOut (w w' : World) (v v' : Value) (L : List K3) (k : K3) (r : Int) : Prop := (r = 0 → Ks w' w.heap.size v' (L ++ [k])) ∧ (r ≠ 0 → v' = v)
set_option maxRecDepth 100000 in
set_option maxHeartbeats 4000000 in
/-- The end of Note: a list made anew, one longer. -/
theorem refnote_any (base : Nat) (v : Value) (L : List K3) (k : K3) (r : Int) (w : World) (hK : Ks w base v L) (hl : L.length ≤ 1000) (h0 : 0 ≤ k.f) (h1 : k.f ≤ 63)
    (hr : (match (ofK L k.f).getLast? with | none => 0 | some m => bh m.t m.f m.s k.t k.f k.s) = r) :
    Calls Try.prog 17 #[v, .agg k.arr] w fun e w' => ∃ v', e = .returned (.tuple #[v', .int .i64 r]) ∧ NoteOut w w' v v' L k r ∧ Below w.heap.size w w' := by
  have z0 : decide (k.f < 0) = false := decide_eq_false (by omega)
  have z1 : decide (63 < k.f) = false := decide_eq_false (by omega)
  have hp := Bk.new w 35 [.int .i64 k.t, .int .i64 k.f, .int .u32 k.s]
  have hK1 := hK.alloc (.cells #[.int .i64 k.t, .int .i64 k.f, .int .u32 k.s] 35)
  have hb1 : Below w.heap.size w (w.alloc (.cells #[.int .i64 k.t, .int .i64 k.f, .int .u32 k.s] 35)) := by go_grown
  have RO := refof_any base v L k.f _ hK1 (by omega)
  have RO' := hid RO
  have hK1' := hid hK1
  clear RO hK hK1
  go_enter Try.func17, Try.ntmps17
  go_wp2_with fail
  go_at_call 18
  refine RO'.out.mono ?_
  rintro e w2 ⟨v2, rfl, hO2, hb2⟩
  have hp2 := hp.call hb2
  have hK2 := hK1'.out.call hb2
  have hB2 := bel_tr hb1 hb2
  clear RO' hK1' hp
  obtain ⟨p, ep⟩ : ∃ p, w.heap.size = p := ⟨_, rfl⟩
  rw [ep] at hp2
  rw [ep]
  have hpB : w.heap.size ≤ p := by omega
  have hp2' := hid hp2
  have p0 : w2.cell? ⟨p, 0, none⟩ = some (.int .i64 k.t) := hp2.cell rfl
  have p1 : w2.cell? ⟨p, 1, none⟩ = some (.int .i64 k.f) := hp2.cell rfl
  have p2 : w2.cell? ⟨p, 2, none⟩ = some (.int .u32 k.s) := hp2.cell rfl
  rcases hq : (ofK L k.f).getLast? with _ | m
  · have hnil : ofK L k.f = [] := List.getLast?_eq_none_iff.1 hq
    rw [hq] at hr
    obtain rfl : r = 0 := hr.symm
    rw [hnil] at hO2
    obtain ⟨A, cap, rfl⟩ := hO2.shape
    clear hnil hq hr hb2 hb1 ep
    go_wp2_with fail
    · have hpY := hp2'.out
      have hKY := hK2
      have hBY := hB2
      clear p0 p1 p2 hp2' hp2 hK2 hB2
      generalize w2 = wy at *
      have zp := hpY.lt
      have hWB := hBY.size
      have y0 : wy.cell? ⟨p, 0, none⟩ = some (.int .i64 k.t) := hpY.cell rfl
      have y1 : wy.cell? ⟨p, 1, none⟩ = some (.int .i64 k.f) := hpY.cell rfl
      have y2 : wy.cell? ⟨p, 2, none⟩ = some (.int .u32 k.s) := hpY.cell rfl
      have x0 := World.new_ne wy _ y0
      have x1 := World.new_ne wy _ y1
      have x2 := World.new_ne wy _ y2
      have hE3 : Ks ((wy.drew.alloc (.cells #[.int .i64 k.t, .int .i64 k.f, .int .u32 k.s] 35)).alloc (.cells #[] 35)) wy.heap.size (.slice (some ⟨wy.heap.size + 1, 0, none⟩) 0 0) [] := by
        have hh := Ks.empty (wy.drew.alloc (.cells #[.int .i64 k.t, .int .i64 k.f, .int .u32 k.s] 35)) (base := wy.heap.size) (by first | (simp; done) | (simp; omega))
        simpa using hh
      go_region_held3 (fun w' => w'.cell? ⟨p, 0, none⟩ = some (.int .i64 k.t) ∧ w'.cell? ⟨p, 1, none⟩ = some (.int .i64 k.f) ∧ w'.cell? ⟨p, 2, none⟩ = some (.int .u32 k.s))
        (go_keep)
        (first
        | (refine step_ks rfl (.tmp 54) (.tmp 55) (by rfl) (wy.drew.alloc (.cells #[] 35)) (base := wy.heap.size) (base2 := base) (Y := []) (L := L) (by rfl) (by rfl) (Ks.empty wy.drew (Nat.le_refl _)) (hKY.drew.alloc (.cells #[] 35)) (by first | (simp; done) | (simp; omega)) (by simp; omega) ?_; intro v3 w3 hk3 hg3 ho3; obtain ⟨hB3, hf3, hz3⟩ := app_facts (Ks.empty wy.drew (Nat.le_refl _)) hg3 (W := w) (hBY.drew.alloc hBY.size (.cells #[] 35)) hWB (by first | (simp; done) | (simp; omega)); have hp3 := hf3 p 35 _ zp (hpY.drew.alloc (.cells #[] 35)); have m0 : w3.cell? ⟨p, 0, none⟩ = some (.int .i64 k.t) := hp3.cell rfl; have m1 : w3.cell? ⟨p, 1, none⟩ = some (.int .i64 k.f) := hp3.cell rfl; have m2 : w3.cell? ⟨p, 2, none⟩ = some (.int .u32 k.s) := hp3.cell rfl; have x0 := World.new_ne w3 _ m0; have x1 := World.new_ne w3 _ m1; have x2 := World.new_ne w3 _ m2)
        | (refine step_ks rfl (.tmp 54) (.tmp 55) (by rfl) ((wy.drew.alloc (.cells #[] 35)).alloc (.cells #[.int .i64 k.t, .int .i64 k.f, .int .u32 k.s] 35)) (base := wy.heap.size) (base2 := base) (Y := []) (L := L) (by rfl) (by rfl) ((Ks.empty wy.drew (Nat.le_refl _)).alloc (.cells #[.int .i64 k.t, .int .i64 k.f, .int .u32 k.s] 35)) ((hKY.drew.alloc (.cells #[] 35)).alloc (.cells #[.int .i64 k.t, .int .i64 k.f, .int .u32 k.s] 35)) (by first | (simp; done) | (simp; omega)) (by simp; omega) ?_; intro v3 w3 hk3 hg3 ho3; obtain ⟨hB3, hf3, hz3⟩ := app_facts ((Ks.empty wy.drew (Nat.le_refl _)).alloc (.cells #[.int .i64 k.t, .int .i64 k.f, .int .u32 k.s] 35)) hg3 (W := w) ((hBY.drew.alloc hBY.size (.cells #[] 35)).alloc (by have := hBY.size; simp; omega) (.cells #[.int .i64 k.t, .int .i64 k.f, .int .u32 k.s] 35)) hWB (by first | (simp; done) | (simp; omega)); have hp3 := hf3 p 35 _ zp ((hpY.drew.alloc (.cells #[] 35)).alloc (.cells #[.int .i64 k.t, .int .i64 k.f, .int .u32 k.s] 35)); have m0 : w3.cell? ⟨p, 0, none⟩ = some (.int .i64 k.t) := hp3.cell rfl; have m1 : w3.cell? ⟨p, 1, none⟩ = some (.int .i64 k.f) := hp3.cell rfl; have m2 : w3.cell? ⟨p, 2, none⟩ = some (.int .u32 k.s) := hp3.cell rfl; have x0 := World.new_ne w3 _ m0; have x1 := World.new_ne w3 _ m1; have x2 := World.new_ne w3 _ m2; have hN3 : Bk w3 (wy.heap.size + 1) 35 [.int .i64 k.t, .int .i64 k.f, .int .u32 k.s] := (hg3.block ((wy.heap.size + 1)) (by first | (simp; done) | (simp; omega)) (by first | (simp [Value.ownBlock]; done) | (simp [Value.ownBlock]; omega))).trans ((show Bk ((wy.drew.alloc (.cells #[] 35)).alloc (.cells #[.int .i64 k.t, .int .i64 k.f, .int .u32 k.s] 35)) (wy.heap.size + 1) 35 [.int .i64 k.t, .int .i64 k.f, .int .u32 k.s] by simpa using Bk.new (wy.drew.alloc (.cells #[] 35)) 35 [.int .i64 k.t, .int .i64 k.f, .int .u32 k.s])))
        | (refine step_ks rfl (.tmp 54) (.tmp 55) (by rfl) ((wy.drew.alloc (.cells #[.int .i64 k.t, .int .i64 k.f, .int .u32 k.s] 35)).alloc (.cells #[] 35)) (base := wy.heap.size) (base2 := base) (Y := []) (L := L) (by rfl) (by rfl) hE3 ((hKY.drew.alloc (.cells #[.int .i64 k.t, .int .i64 k.f, .int .u32 k.s] 35)).alloc (.cells #[] 35)) (by first | (simp; done) | (simp; omega)) (by simp; omega) ?_; intro v3 w3 hk3 hg3 ho3; obtain ⟨hB3, hf3, hz3⟩ := app_facts hE3 hg3 (W := w) ((hBY.drew.alloc hBY.size (.cells #[.int .i64 k.t, .int .i64 k.f, .int .u32 k.s] 35)).alloc (by have := hBY.size; simp; omega) (.cells #[] 35)) hWB (by first | (simp; done) | (simp; omega)); have hp3 := hf3 p 35 _ zp ((hpY.drew.alloc (.cells #[.int .i64 k.t, .int .i64 k.f, .int .u32 k.s] 35)).alloc (.cells #[] 35)); have m0 : w3.cell? ⟨p, 0, none⟩ = some (.int .i64 k.t) := hp3.cell rfl; have m1 : w3.cell? ⟨p, 1, none⟩ = some (.int .i64 k.f) := hp3.cell rfl; have m2 : w3.cell? ⟨p, 2, none⟩ = some (.int .u32 k.s) := hp3.cell rfl; have x0 := World.new_ne w3 _ m0; have x1 := World.new_ne w3 _ m1; have x2 := World.new_ne w3 _ m2; have hN3 : Bk w3 wy.heap.size 35 [.int .i64 k.t, .int .i64 k.f, .int .u32 k.s] := (hg3.block (wy.heap.size) (by first | (simp; done) | (simp; omega)) (by first | (simp [Value.ownBlock]; done) | (simp [Value.ownBlock]; omega))).trans (((Bk.new wy.drew 35 [.int .i64 k.t, .int .i64 k.f, .int .u32 k.s]).alloc (.cells #[] 35))))
        | (refine step_ks rfl (.tmp 56) (.tmp 58) (by rfl) (w3.alloc (.cells #[.int .i64 k.t, .int .i64 k.f, .int .u32 k.s] 35)) (base := wy.heap.size) (base2 := 0) (Y := [] ++ L) (L := [k]) (by rfl) (by rfl) (hk3.alloc (.cells #[.int .i64 k.t, .int .i64 k.f, .int .u32 k.s] 35)) (Ks.of_bk (Bk.new w3 35 [.int .i64 k.t, .int .i64 k.f, .int .u32 k.s])) (by have := hz3; simp at this ⊢; omega) (by simp; omega) ?_; intro v4 w4 hk4 hg4 ho4; obtain ⟨hB4, hf4, hz4⟩ := app_facts (hk3.alloc (.cells #[.int .i64 k.t, .int .i64 k.f, .int .u32 k.s] 35)) hg4 (W := w) (hB3.alloc hB3.size (.cells #[.int .i64 k.t, .int .i64 k.f, .int .u32 k.s] 35)) hWB (by have := hz3; simp at this ⊢; omega); have hp4 := hf4 p 35 _ zp (hp3.alloc (.cells #[.int .i64 k.t, .int .i64 k.f, .int .u32 k.s] 35)); have m0 : w4.cell? ⟨p, 0, none⟩ = some (.int .i64 k.t) := hp4.cell rfl; have m1 : w4.cell? ⟨p, 1, none⟩ = some (.int .i64 k.f) := hp4.cell rfl; have m2 : w4.cell? ⟨p, 2, none⟩ = some (.int .u32 k.s) := hp4.cell rfl)
        | (refine step_ks rfl (.tmp 56) (.tmp 58) (by rfl) (w3) (base := wy.heap.size) (base2 := 0) (Y := [] ++ L) (L := [k]) (by rfl) (by rfl) (hk3) (Ks.of_bk (hN3)) (by have := hz3; simp at this ⊢; omega) (by simp; omega) ?_; intro v4 w4 hk4 hg4 ho4; obtain ⟨hB4, hf4, hz4⟩ := app_facts (hk3) hg4 (W := w) (hB3) hWB (by have := hz3; simp at this ⊢; omega); have hp4 := hf4 p 35 _ zp (hp3); have m0 : w4.cell? ⟨p, 0, none⟩ = some (.int .i64 k.t) := hp4.cell rfl; have m1 : w4.cell? ⟨p, 1, none⟩ = some (.int .i64 k.f) := hp4.cell rfl; have m2 : w4.cell? ⟨p, 2, none⟩ = some (.int .u32 k.s) := hp4.cell rfl))
      all_goals (go_wp2; go_returns; exact ⟨v4, rfl, ⟨fun _ => by simpa using hk4.mono hWB, fun h => absurd rfl h⟩, hB4⟩)
  · rw [hq] at hr
    dsimp only at hr
    have hlenF : (ofK L k.f).length ≤ 1000 := Nat.le_trans (List.length_filter_le _ _) hl
    generalize ofK L k.f = F at *
    obtain ⟨n, hn⟩ : ∃ n, F.length = n + 1 := ⟨F.length - 1, by
      cases F with
      | nil => simp at hq
      | cons a b => simp⟩
    have hlast : F[n]? = some m := by rw [List.getLast?_eq_getElem?, hn] at hq; simpa using hq
    obtain ⟨g, cap, rfl, -, hg, -, hat⟩ := hO2.form (by omega)
    obtain ⟨a0, a1, a2⟩ := hat n m hlast
    have hq2 := Bk.new w2 35 [.int .i64 m.t, .int .i64 m.f, .int .u32 m.s]
    have hp3 := hp2.alloc (.cells #[.int .i64 m.t, .int .i64 m.f, .int .u32 m.s] 35)
    have hK3 := hK2.alloc (.cells #[.int .i64 m.t, .int .i64 m.f, .int .u32 m.s] 35)
    have hB3 := hB2.alloc hB2.size (.cells #[.int .i64 m.t, .int .i64 m.f, .int .u32 m.s] 35)
    have hp3' := hid hp3
    have hK3' := hid hK3
    have hB3' := hid hB3
    have hr' := hid hr
    have hn' := hid hn
    have zpq := hp2.lt
    have n1 : n + 1 ≤ 1000 := by omega
    rw [hn]
    clear hr hat hlast hq hn hO2 hq2 hp3 hK3 hB3 hb1 hb2 ep hp2 hlenF
    have q := eq35 m.t m.f m.s k.t k.f k.s
    have pq : ¬ p = w2.heap.size := by omega
    have pq2 : ¬ w2.heap.size = p := by omega
    by_cases he : k.t = m.t ∧ k.f = m.f ∧ k.s = m.s
    · obtain rfl : r = 12 := by rw [← hr'.out]; unfold bh; rw [if_pos he]
      have hE : (m.t == k.t && m.f == k.f && m.s == k.s) = true := by simp [he.1, he.2.1, he.2.2]
      simp only [hE] at q
      clear he hE
      go_wp2_with fail
      go_returns
      exact ⟨v, rfl, ⟨fun h => absurd h (by decide), fun _ => rfl⟩, hB3'.out⟩
    · have hE : (m.t == k.t && m.f == k.f && m.s == k.s) = false := by
        rw [Bool.eq_false_iff]; intro h; simp only [Bool.and_eq_true, beq_iff_eq] at h; exact he ⟨h.1.1.symm, h.1.2.symm, h.2.symm⟩
      simp only [hE] at q
      by_cases hlt : k.t < m.t ∨ k.t = m.t ∧ k.s < m.s
      · obtain rfl : r = 11 := by rw [← hr'.out]; unfold bh; rw [if_neg he, if_pos hlt]
        clear he hE
        rcases hlt with hlt | ⟨hlt, h2⟩
        · go_wp2_with fail
          go_returns
          exact ⟨v, rfl, ⟨fun h => absurd h (by decide), fun _ => rfl⟩, hB3'.out⟩
        · have t1 : decide (k.t < m.t) = false := decide_eq_false (by omega)
          have t2 : (k.t == m.t) = true := by simp [hlt]
          clear hlt
          go_wp2_with fail
          go_returns
          exact ⟨v, rfl, ⟨fun h => absurd h (by decide), fun _ => rfl⟩, hB3'.out⟩
      · obtain rfl : r = 0 := by rw [← hr'.out]; unfold bh; rw [if_neg he, if_neg hlt]
        have t1 : decide (k.t < m.t) = false := decide_eq_false (by omega)
        have hs : ((k.t == m.t) = true ∧ decide (k.s < m.s) = false) ∨ (k.t == m.t) = false := by
          by_cases h2 : k.t = m.t
          · exact .inl ⟨by simp [h2], decide_eq_false (by omega)⟩
          · exact .inr (by simpa using h2)
        clear he hE hlt
        rcases hs with ⟨t2, t3⟩ | t2
        all_goals
          go_wp2_with fail
          have hpY := hp3'.out
          have hKY := hK3'.out
          have hBY := hB3'.out
          clear a0 a1 a2 hp3' hK3' hB3' hK2 hB2 p0 p1 p2 hp2' pq pq2 zpq hg
          generalize w2.alloc (.cells #[.int .i64 m.t, .int .i64 m.f, .int .u32 m.s] 35) = wy at *
          have zp := hpY.lt
          have hWB := hBY.size
          have y0 : wy.cell? ⟨p, 0, none⟩ = some (.int .i64 k.t) := hpY.cell rfl
          have y1 : wy.cell? ⟨p, 1, none⟩ = some (.int .i64 k.f) := hpY.cell rfl
          have y2 : wy.cell? ⟨p, 2, none⟩ = some (.int .u32 k.s) := hpY.cell rfl
          have x0 := World.new_ne wy _ y0
          have x1 := World.new_ne wy _ y1
          have x2 := World.new_ne wy _ y2
          have hE3 : Ks ((wy.drew.alloc (.cells #[.int .i64 k.t, .int .i64 k.f, .int .u32 k.s] 35)).alloc (.cells #[] 35)) wy.heap.size (.slice (some ⟨wy.heap.size + 1, 0, none⟩) 0 0) [] := by
            have hh := Ks.empty (wy.drew.alloc (.cells #[.int .i64 k.t, .int .i64 k.f, .int .u32 k.s] 35)) (base := wy.heap.size) (by first | (simp; done) | (simp; omega))
            simpa using hh
          go_region_held3 (fun w' => w'.cell? ⟨p, 0, none⟩ = some (.int .i64 k.t) ∧ w'.cell? ⟨p, 1, none⟩ = some (.int .i64 k.f) ∧ w'.cell? ⟨p, 2, none⟩ = some (.int .u32 k.s))
            (go_keep)
            (first
            | (refine step_ks rfl (.tmp 54) (.tmp 55) (by rfl) (wy.drew.alloc (.cells #[] 35)) (base := wy.heap.size) (base2 := base) (Y := []) (L := L) (by rfl) (by rfl) (Ks.empty wy.drew (Nat.le_refl _)) (hKY.drew.alloc (.cells #[] 35)) (by first | (simp; done) | (simp; omega)) (by simp; omega) ?_; intro v3 w3 hk3 hg3 ho3; obtain ⟨hB3, hf3, hz3⟩ := app_facts (Ks.empty wy.drew (Nat.le_refl _)) hg3 (W := w) (hBY.drew.alloc hBY.size (.cells #[] 35)) hWB (by first | (simp; done) | (simp; omega)); have hp3 := hf3 p 35 _ zp (hpY.drew.alloc (.cells #[] 35)); have m0 : w3.cell? ⟨p, 0, none⟩ = some (.int .i64 k.t) := hp3.cell rfl; have m1 : w3.cell? ⟨p, 1, none⟩ = some (.int .i64 k.f) := hp3.cell rfl; have m2 : w3.cell? ⟨p, 2, none⟩ = some (.int .u32 k.s) := hp3.cell rfl; have x0 := World.new_ne w3 _ m0; have x1 := World.new_ne w3 _ m1; have x2 := World.new_ne w3 _ m2)
            | (refine step_ks rfl (.tmp 54) (.tmp 55) (by rfl) ((wy.drew.alloc (.cells #[] 35)).alloc (.cells #[.int .i64 k.t, .int .i64 k.f, .int .u32 k.s] 35)) (base := wy.heap.size) (base2 := base) (Y := []) (L := L) (by rfl) (by rfl) ((Ks.empty wy.drew (Nat.le_refl _)).alloc (.cells #[.int .i64 k.t, .int .i64 k.f, .int .u32 k.s] 35)) ((hKY.drew.alloc (.cells #[] 35)).alloc (.cells #[.int .i64 k.t, .int .i64 k.f, .int .u32 k.s] 35)) (by first | (simp; done) | (simp; omega)) (by simp; omega) ?_; intro v3 w3 hk3 hg3 ho3; obtain ⟨hB3, hf3, hz3⟩ := app_facts ((Ks.empty wy.drew (Nat.le_refl _)).alloc (.cells #[.int .i64 k.t, .int .i64 k.f, .int .u32 k.s] 35)) hg3 (W := w) ((hBY.drew.alloc hBY.size (.cells #[] 35)).alloc (by have := hBY.size; simp; omega) (.cells #[.int .i64 k.t, .int .i64 k.f, .int .u32 k.s] 35)) hWB (by first | (simp; done) | (simp; omega)); have hp3 := hf3 p 35 _ zp ((hpY.drew.alloc (.cells #[] 35)).alloc (.cells #[.int .i64 k.t, .int .i64 k.f, .int .u32 k.s] 35)); have m0 : w3.cell? ⟨p, 0, none⟩ = some (.int .i64 k.t) := hp3.cell rfl; have m1 : w3.cell? ⟨p, 1, none⟩ = some (.int .i64 k.f) := hp3.cell rfl; have m2 : w3.cell? ⟨p, 2, none⟩ = some (.int .u32 k.s) := hp3.cell rfl; have x0 := World.new_ne w3 _ m0; have x1 := World.new_ne w3 _ m1; have x2 := World.new_ne w3 _ m2; have hN3 : Bk w3 (wy.heap.size + 1) 35 [.int .i64 k.t, .int .i64 k.f, .int .u32 k.s] := (hg3.block ((wy.heap.size + 1)) (by first | (simp; done) | (simp; omega)) (by first | (simp [Value.ownBlock]; done) | (simp [Value.ownBlock]; omega))).trans ((show Bk ((wy.drew.alloc (.cells #[] 35)).alloc (.cells #[.int .i64 k.t, .int .i64 k.f, .int .u32 k.s] 35)) (wy.heap.size + 1) 35 [.int .i64 k.t, .int .i64 k.f, .int .u32 k.s] by simpa using Bk.new (wy.drew.alloc (.cells #[] 35)) 35 [.int .i64 k.t, .int .i64 k.f, .int .u32 k.s])))
            | (refine step_ks rfl (.tmp 54) (.tmp 55) (by rfl) ((wy.drew.alloc (.cells #[.int .i64 k.t, .int .i64 k.f, .int .u32 k.s] 35)).alloc (.cells #[] 35)) (base := wy.heap.size) (base2 := base) (Y := []) (L := L) (by rfl) (by rfl) hE3 ((hKY.drew.alloc (.cells #[.int .i64 k.t, .int .i64 k.f, .int .u32 k.s] 35)).alloc (.cells #[] 35)) (by first | (simp; done) | (simp; omega)) (by simp; omega) ?_; intro v3 w3 hk3 hg3 ho3; obtain ⟨hB3, hf3, hz3⟩ := app_facts hE3 hg3 (W := w) ((hBY.drew.alloc hBY.size (.cells #[.int .i64 k.t, .int .i64 k.f, .int .u32 k.s] 35)).alloc (by have := hBY.size; simp; omega) (.cells #[] 35)) hWB (by first | (simp; done) | (simp; omega)); have hp3 := hf3 p 35 _ zp ((hpY.drew.alloc (.cells #[.int .i64 k.t, .int .i64 k.f, .int .u32 k.s] 35)).alloc (.cells #[] 35)); have m0 : w3.cell? ⟨p, 0, none⟩ = some (.int .i64 k.t) := hp3.cell rfl; have m1 : w3.cell? ⟨p, 1, none⟩ = some (.int .i64 k.f) := hp3.cell rfl; have m2 : w3.cell? ⟨p, 2, none⟩ = some (.int .u32 k.s) := hp3.cell rfl; have x0 := World.new_ne w3 _ m0; have x1 := World.new_ne w3 _ m1; have x2 := World.new_ne w3 _ m2; have hN3 : Bk w3 wy.heap.size 35 [.int .i64 k.t, .int .i64 k.f, .int .u32 k.s] := (hg3.block (wy.heap.size) (by first | (simp; done) | (simp; omega)) (by first | (simp [Value.ownBlock]; done) | (simp [Value.ownBlock]; omega))).trans (((Bk.new wy.drew 35 [.int .i64 k.t, .int .i64 k.f, .int .u32 k.s]).alloc (.cells #[] 35))))
            | (refine step_ks rfl (.tmp 56) (.tmp 58) (by rfl) (w3.alloc (.cells #[.int .i64 k.t, .int .i64 k.f, .int .u32 k.s] 35)) (base := wy.heap.size) (base2 := 0) (Y := [] ++ L) (L := [k]) (by rfl) (by rfl) (hk3.alloc (.cells #[.int .i64 k.t, .int .i64 k.f, .int .u32 k.s] 35)) (Ks.of_bk (Bk.new w3 35 [.int .i64 k.t, .int .i64 k.f, .int .u32 k.s])) (by have := hz3; simp at this ⊢; omega) (by simp; omega) ?_; intro v4 w4 hk4 hg4 ho4; obtain ⟨hB4, hf4, hz4⟩ := app_facts (hk3.alloc (.cells #[.int .i64 k.t, .int .i64 k.f, .int .u32 k.s] 35)) hg4 (W := w) (hB3.alloc hB3.size (.cells #[.int .i64 k.t, .int .i64 k.f, .int .u32 k.s] 35)) hWB (by have := hz3; simp at this ⊢; omega); have hp4 := hf4 p 35 _ zp (hp3.alloc (.cells #[.int .i64 k.t, .int .i64 k.f, .int .u32 k.s] 35)); have m0 : w4.cell? ⟨p, 0, none⟩ = some (.int .i64 k.t) := hp4.cell rfl; have m1 : w4.cell? ⟨p, 1, none⟩ = some (.int .i64 k.f) := hp4.cell rfl; have m2 : w4.cell? ⟨p, 2, none⟩ = some (.int .u32 k.s) := hp4.cell rfl)
            | (refine step_ks rfl (.tmp 56) (.tmp 58) (by rfl) (w3) (base := wy.heap.size) (base2 := 0) (Y := [] ++ L) (L := [k]) (by rfl) (by rfl) (hk3) (Ks.of_bk (hN3)) (by have := hz3; simp at this ⊢; omega) (by simp; omega) ?_; intro v4 w4 hk4 hg4 ho4; obtain ⟨hB4, hf4, hz4⟩ := app_facts (hk3) hg4 (W := w) (hB3) hWB (by have := hz3; simp at this ⊢; omega); have hp4 := hf4 p 35 _ zp (hp3); have m0 : w4.cell? ⟨p, 0, none⟩ = some (.int .i64 k.t) := hp4.cell rfl; have m1 : w4.cell? ⟨p, 1, none⟩ = some (.int .i64 k.f) := hp4.cell rfl; have m2 : w4.cell? ⟨p, 2, none⟩ = some (.int .u32 k.s) := hp4.cell rfl))
          all_goals (go_wp2; go_returns; exact ⟨v4, rfl, ⟨fun _ => by simpa using hk4.mono hWB, fun h => absurd rfl h⟩, hB4⟩)
end Go.Proofs.Ytjaoadeenmabpaa
