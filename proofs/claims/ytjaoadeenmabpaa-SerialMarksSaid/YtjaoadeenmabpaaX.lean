/- The walk of SerialMarks. -/
import Derived.Test.YtjaoadeenmabpaaV
namespace Go.Proofs.Ytjaoadeenmabpaa
open Go Go.RowKit Go.ChangeShapes Go.WideShapes Go.Maps
set_option linter.unusedVariables false

theorem mm_cases (L : List K3) (f : Int) : (ofK L f = [] ∧ MM L f = none) ∨ ∃ n y, (ofK L f).length = n + 1 ∧ (ofK L f)[n]? = some y ∧ MM L f = some ⟨y.t, y.f, y.s, (n : Int) + 1⟩ := by
  unfold MM
  rcases h : (ofK L f).getLast? with _ | y
  · exact .inl ⟨List.getLast?_eq_none_iff.1 h, rfl⟩
  · generalize ofK L f = F at *
    obtain ⟨n, hn⟩ : ∃ n, F.length = n + 1 := ⟨F.length - 1, by
      cases F with
      | nil => simp at h
      | cons a b => simp⟩
    refine .inr ⟨n, y, hn, ?_, ?_⟩
    · rw [List.getLast?_eq_getElem?, hn] at h; simpa using h
    · rw [hn]; simp

theorem info3 : (Try.prog.info? 3).map (fun i => (i.zero, i.size, i.bytes)) = some (some (.int .i64 0), 1, 8) := by kernel_rfl
/-- A slice of whole numbers that is the call's own, as one that is read. -/
theorem isl_of_own {w : World} {base n : Nat} {v : Value} {xs : List Value} {z : Nat → Int} (h : w.ownsRow base 3 1 v n xs) (hx : ∀ i, i < n → xs[i]? = some (.int .i64 (z i))) :
    ∃ A cap, v = .slice A n cap ∧ IsSl w A n 1 (fun i => [.int .i64 (z i)]) := by
  rcases Nat.eq_zero_or_pos n with h0 | h0
  · subst h0
    rcases h.2 with ⟨rfl, _⟩ | ⟨g, cap, cur, rfl, _⟩
    · exact ⟨none, 0, rfl, fun hh => absurd hh (by omega)⟩
    · exact ⟨_, cap, rfl, fun hh => absurd hh (by omega)⟩
  · obtain ⟨g, cap, rfl, _, hlt⟩ := World.ownsRow.form h h0
    refine ⟨_, cap, rfl, fun _ => ⟨g, 0, rfl, hlt, fun i hi j u hu => ?_⟩⟩
    have hc := World.ownsRow.cells h (g := g) rfl i _ (hx i hi)
    rw [add_none0] at hc
    match j, hu with
    | 0, hu => simp at hu; subst hu; simpa using hc

set_option maxRecDepth 100000 in
set_option maxHeartbeats 8000000 in
theorem serialMarksWalk (a0 : Option Addr) (len0 cap0 : Nat) (x00 : Nat → Int) (x01 : Nat → Int) (x02 : Nat → Int) (w : World) (s0 : IsSl w a0 len0 3 (fun i => [.int .i64 (x00 i), .int .i64 (x01 i), .int .u32 (x02 i)])) (l0 : len0 ≤ maxLen) (w00 : ∀ i, (Lit.int .i64 (x00 i)).wf = true) (w01 : ∀ i, (Lit.int .i64 (x01 i)).wf = true) (w02 : ∀ i, (Lit.int .u32 (x02 i)).wf = true) :
    Calls Try.prog 6 #[.slice a0 len0 cap0] w fun e w' => e = .returned (.bool true) ∧ Below w.heap.size w w' := by
  unfold maxLen at l0
  go_enter Try.func6, Try.ntmps6
  go_wp2_with (go_at_call 12; refine (none_any _).mono ?_; rintro e w' ⟨rfl, rfl⟩)
  have hG0 : Bk ((w.alloc (.map #[] 0)).alloc (.cells #[.map (some w.heap.size)] 55)) (w.heap.size + 1) 55 [.map (some w.heap.size)] := by
    have := (Bk.new (w.alloc (.map #[] 0)) 55 [.map (some w.heap.size)])
    simpa using this
  have hM0 : Mks ((w.alloc (.map #[] 0)).alloc (.cells #[.map (some w.heap.size)] 55)) w.heap.size 0 fun _ => none := (Mks.made w).alloc _
  have hB0 : Below w.heap.size w ((w.alloc (.map #[] 0)).alloc (.cells #[.map (some w.heap.size)] 55)) := by go_grown
  generalize (w.alloc (.map #[] 0)).alloc (.cells #[.map (some w.heap.size)] 55) = wx at *
  obtain ⟨g, hg⟩ : ∃ g, w.heap.size + 1 = g := ⟨_, rfl⟩
  obtain ⟨b, hbq⟩ : ∃ b, w.heap.size = b := ⟨_, rfl⟩
  rw [hg, hbq] at hG0
  rw [hbq] at hM0
  rw [hg]
  have hgB : w.heap.size ≤ g := by omega
  have hbB : w.heap.size ≤ b := by omega
  have hbg : b ≠ g := by omega
  clear hg hbq
  go_loopw [4, 5] (fun v i wr => ∃ (k : Nat) (L : List K3), k ≤ len0 ∧ k ≤ 60 ∧ L.length ≤ k ∧ (∀ m ∈ L, 0 ≤ m.f ∧ m.f < 64) ∧ i = .int .i64 k ∧ Bk wr g 55 [.map (some b)] ∧ Mks wr b k (MM L) ∧ Ks wr w.heap.size v L ∧ Below w.heap.size w wr)
    (fun _ i _ => len0 - (intOf i).toNat)
  case atStart => exact ⟨0, [], by omega, by omega, by simp, by simp, rfl, hG0, hM0, Ks.nil _ _, hB0⟩
  case round =>
    clear hG0 hM0 hB0
    obtain ⟨k, L, hk, hk2, hLk, hLm, rfl, hG, hM, hK, hb⟩ := hrel
    have hLm' := hid hLm
    by_cases hlt : k < len0 ∧ k < 60
    · obtain ⟨hl2, hl3⟩ := hlt
      obtain ⟨bb, off, rfl, hbb, hc⟩ := s0 (by omega)
      have q0 : w.cell? ⟨bb, off + k * 3, none⟩ = some (.int .i64 (x00 k)) := (by simpa using hc k hl2 0 _ rfl)
      have q1 : w.cell? ⟨bb, off + k * 3 + 1, none⟩ = some (.int .i64 (x01 k)) := (by simpa [Nat.add_assoc] using hc k hl2 1 _ rfl)
      have q2 : w.cell? ⟨bb, off + k * 3 + 2, none⟩ = some (.int .u32 (x02 k)) := (by simpa [Nat.add_assoc] using hc k hl2 2 _ rfl)
      clear hc
      have hwf := w01 k
      obtain ⟨x, hx⟩ : ∃ x : K3, x = ⟨x00 k, x01 k, x02 k⟩ := ⟨_, rfl⟩
      have ht : x00 k = x.t := by rw [hx]
      have hf : x01 k = x.f := by rw [hx]
      have hs : x02 k = x.s := by rw [hx]
      rw [ht] at q0
      rw [hf] at q1 hwf
      rw [hs] at q2
      have hD : ∀ wz, Below w.heap.size w wz → wz.cell? ⟨bb, off + k * 3, none⟩ = some (.int .i64 x.t) ∧ wz.cell? ⟨bb, off + k * 3 + 1, none⟩ = some (.int .i64 x.f) ∧ wz.cell? ⟨bb, off + k * 3 + 2, none⟩ = some (.int .u32 x.s) := fun wz hz =>
        ⟨(hz.cell (p := ⟨bb, off + k * 3, none⟩) hbb).trans q0, (hz.cell (p := ⟨bb, off + k * 3 + 1, none⟩) hbb).trans q1, (hz.cell (p := ⟨bb, off + k * 3 + 2, none⟩) hbb).trans q2⟩
      have hD' := hid hD
      clear hD q0 q1 q2 hx ht hf hs hLm
      obtain ⟨p0, p1, p2⟩ := hD'.out wr hb
      have kk0 : (0 : Int) ≤ k := by omega
      have kk1 : (k : Int) < len0 := by omega
      obtain ⟨r, hr⟩ : ∃ r, nt L x = r := ⟨_, rfl⟩
      obtain ⟨L1, hL1⟩ : ∃ L1, nl L x = L1 := ⟨_, rfl⟩
      have hL1k : L1.length ≤ k + 1 := by rw [← hL1]; have := nl_length L x; omega
      have hL1m : ∀ m ∈ L1, 0 ≤ m.f ∧ m.f < 64 := by rw [← hL1]; exact nl_mem hLm'.out
      have R17 := fun wz v h1 h2 => ref17 w.heap.size v L x wz h1 h2 (by omega)
      have P13 := fun wz h1 h2 => prog13 g b k L x wz h1 h2 (by omega) (by omega)
      simp only [hr, hL1] at R17 P13
      have R17' := hid R17
      have P13' := hid P13
      have hL1m' := hid hL1m
      have hbs := hb.size
      clear R17 P13 hr hL1 hL1m
      go_wp2_with fail
      go_at_call 17
      refine (R17'.out _ _ hK hbs).mono ?_
      rintro e w2 ⟨v2, rfl, hK2, hb2⟩
      have hG2 := hG.call hb2
      have hM2 := hM.call hb2
      have hB2 := bel_tr hb hb2
      clear hG hM hK hb hb2 p0 p1 p2 hbs R17'
      obtain ⟨p0, p1, p2⟩ := hD'.out w2 hB2
      go_wp2_with fail
      go_at_call 13
      refine (P13'.out _ hG2 hM2).mono ?_
      rintro e w3 ⟨rfl, hG3, hM3, hS3⟩
      have hK3 := hK2.step hM2 hS3
      have hB3 := hS3.bel hM2.lt hbB hB2
      clear hG2 hM2 hK2 hB2 hS3 p0 p1 p2 P13'
      obtain ⟨p0, p1, p2⟩ := hD'.out w3 hB3
      have hrr : (r != r) = false := by simp
      go_wp2_with fail
      go_at_call 18
      refine (refof_any w.heap.size v2 L1 x.f w3 hK3 (by omega)).mono ?_
      rintro e w4 ⟨v4, rfl, hO4, hb4⟩
      have hG4 := hG3.call hb4
      have hM4 := hM3.call hb4
      have hK4 := hK3.call hb4
      have hB4 := bel_tr hB3 hb4
      replace hO4 := hO4.mono (Nat.zero_le _)
      clear hG3 hM3 hK3 hB3 hb4 p0 p1 p2 hrr
      obtain ⟨p0, p1, p2⟩ := hD'.out w4 hB4
      rcases mm_cases L1 x.f with ⟨hnil, hMM⟩ | ⟨n, y, hn, hy, hMM⟩
      · skip
        have LS : Hid (Calls Try.prog 14 #[.pointer (some ⟨g, 0, none⟩), .int .i64 x.f] w4 fun r w' => r = .returned (.tuple #[.agg #[.int .i64 0, .int .i64 0, .int .u32 0], .bool false]) ∧ Below w4.heap.size w4 w') := hid (last_any g b (k + 1) (MM L1) x.f zeroM false w4 hG4 hM4 hwf (by rw [hMM]; rfl) (by rw [hMM]; rfl))
        have CT : Hid (∀ wz, Bk wz g 55 [.map (some b)] → Mks wz b (k + 1) (MM L1) → Calls Try.prog 15 #[.pointer (some ⟨g, 0, none⟩), .int .i64 x.f] wz fun r w' => r = .returned (.int .i64 0) ∧ wz = w') := hid (fun wz h1 h2 => count_any g b (k + 1) (MM L1) x.f zeroM wz h1 h2 hwf (by rw [hMM]; rfl))
        rw [hnil] at hO4
        obtain ⟨A4, cap4, rfl⟩ := hO4.shape
        clear hnil hMM hO4
        go_wp2_with fail
        go_at_call 14
        refine LS.out.mono ?_
        rintro e w5 ⟨rfl, hb5⟩
        have hG5 := (hG4.call hb5).alloc (.cells #[.int .i64 0, .int .i64 0, .int .u32 0] 35)
        have hM5 := (hM4.call hb5).alloc (.cells #[.int .i64 0, .int .i64 0, .int .u32 0] 35)
        have hK5 := (hK4.call hb5).alloc (.cells #[.int .i64 0, .int .i64 0, .int .u32 0] 35)
        have hB5 := (bel_tr hB4 hb5).alloc (bel_tr hB4 hb5).size (.cells #[.int .i64 0, .int .i64 0, .int .u32 0] 35)
        have hQ5 := Bk.new w5 35 [.int .i64 0, .int .i64 0, .int .u32 0]
        change Bk (w5.alloc (.cells #[.int .i64 0, .int .i64 0, .int .u32 0] 35)) _ _ _ at hQ5
        clear hG4 hM4 hK4 hB4 hb5 p0 p1 p2 LS
        go_wp2_with fail
        obtain ⟨q, eq⟩ : ∃ q, w5.heap.size = q := ⟨_, rfl⟩
        rw [eq] at hQ5
        rw [eq]
        generalize w5.alloc (.cells #[.int .i64 0, .int .i64 0, .int .u32 0] 35) = wy at *
        clear eq
        obtain ⟨p0, p1, p2⟩ := hD'.out wy hB5
        have t0 : wy.cell? ⟨q, 0, none⟩ = some (.int .i64 0) := hQ5.cell rfl
        have t1 : wy.cell? ⟨q, 1, none⟩ = some (.int .i64 0) := hQ5.cell rfl
        have t2 : wy.cell? ⟨q, 2, none⟩ = some (.int .u32 0) := hQ5.cell rfl
        go_quiet ((go_at_call 15; exact Calls.quiet_of_same ((CT.out _ (hG5.drewN _) (hM5.drewN _)).mono fun _ _ h => ⟨h.1, h.2.symm⟩)))
        go_wp2_with fail
        go_roundw
        case rel => exact ⟨k + 1, L1, by omega, by omega, hL1k, hL1m'.out, by go_num, hG5.drewN _, hM5.drewN _, hK5.drewN _, bel_drewN hB5 _⟩
        case measure => simp [intOf]; omega
      · skip
        have LS : Hid (Calls Try.prog 14 #[.pointer (some ⟨g, 0, none⟩), .int .i64 x.f] w4 fun r w' => r = .returned (.tuple #[.agg #[.int .i64 y.t, .int .i64 y.f, .int .u32 y.s], .bool true]) ∧ Below w4.heap.size w4 w') := hid (last_any g b (k + 1) (MM L1) x.f ⟨y.t, y.f, y.s, (n : Int) + 1⟩ true w4 hG4 hM4 hwf (by rw [hMM]; rfl) (by rw [hMM]; rfl))
        have CT : Hid (∀ wz, Bk wz g 55 [.map (some b)] → Mks wz b (k + 1) (MM L1) → Calls Try.prog 15 #[.pointer (some ⟨g, 0, none⟩), .int .i64 x.f] wz fun r w' => r = .returned (.int .i64 ((n : Int) + 1)) ∧ wz = w') := hid (fun wz h1 h2 => count_any g b (k + 1) (MM L1) x.f ⟨y.t, y.f, y.s, (n : Int) + 1⟩ wz h1 h2 hwf (by rw [hMM]; rfl))
        have hlenF : (ofK L1 x.f).length ≤ 100 := Nat.le_trans (List.length_filter_le _ _) (by omega)
        obtain ⟨gg, cap4, rfl, -, hgg, -, hat⟩ := hO4.form (by omega)
        obtain ⟨b0, b1, b2⟩ := hat n y hy
        rw [hn] at hlenF ⊢
        have d1 : decide ((0 : Int) < (n : Int) + 1) = true := decide_eq_true (by omega)
        have hq := eq35 y.t y.f y.s y.t y.f y.s
        simp only [beq_self_eq_true, Bool.and_self] at hq
        clear hat hy hn hMM hO4
        go_wp2_with fail
        go_at_call 14
        refine LS.out.mono ?_
        rintro e w5 ⟨rfl, hb5⟩
        have hG5 := (hG4.call hb5).alloc (.cells #[.int .i64 y.t, .int .i64 y.f, .int .u32 y.s] 35)
        have hM5 := (hM4.call hb5).alloc (.cells #[.int .i64 y.t, .int .i64 y.f, .int .u32 y.s] 35)
        have hK5 := (hK4.call hb5).alloc (.cells #[.int .i64 y.t, .int .i64 y.f, .int .u32 y.s] 35)
        have hB5 := (bel_tr hB4 hb5).alloc (bel_tr hB4 hb5).size (.cells #[.int .i64 y.t, .int .i64 y.f, .int .u32 y.s] 35)
        have hQ5 := Bk.new w5 35 [.int .i64 y.t, .int .i64 y.f, .int .u32 y.s]
        have hb6 : Below w4.heap.size w4 (w5.alloc (.cells #[.int .i64 y.t, .int .i64 y.f, .int .u32 y.s] 35)) := hb5.alloc hb5.size _
        have v0 := (hb6.cell (p := ⟨gg, n * 3, none⟩) hgg).trans b0
        have v1 := (hb6.cell (p := ⟨gg, n * 3 + 1, none⟩) hgg).trans b1
        have v2' := (hb6.cell (p := ⟨gg, n * 3 + 2, none⟩) hgg).trans b2
        clear hb6 b0 b1 b2
        change Bk (w5.alloc (.cells #[.int .i64 y.t, .int .i64 y.f, .int .u32 y.s] 35)) _ _ _ at hQ5
        clear hG4 hM4 hK4 hB4 hb5 p0 p1 p2 LS
        go_wp2_with fail
        obtain ⟨q, eq⟩ : ∃ q, w5.heap.size = q := ⟨_, rfl⟩
        rw [eq] at hQ5
        rw [eq]
        generalize w5.alloc (.cells #[.int .i64 y.t, .int .i64 y.f, .int .u32 y.s] 35) = wy at *
        clear eq
        obtain ⟨p0, p1, p2⟩ := hD'.out wy hB5
        have t0 : wy.cell? ⟨q, 0, none⟩ = some (.int .i64 y.t) := hQ5.cell rfl
        have t1 : wy.cell? ⟨q, 1, none⟩ = some (.int .i64 y.f) := hQ5.cell rfl
        have t2 : wy.cell? ⟨q, 2, none⟩ = some (.int .u32 y.s) := hQ5.cell rfl
        go_quiet ((go_at_call 15; exact Calls.quiet_of_same ((CT.out _ (hG5.drewN _) (hM5.drewN _)).mono fun _ _ h => ⟨h.1, h.2.symm⟩)))
        go_wp2_with fail
        go_roundw
        case rel => exact ⟨k + 1, L1, by omega, by omega, hL1k, hL1m'.out, by go_num, hG5.drewN _, hM5.drewN _, hK5.drewN _, bel_drewN hB5 _⟩
        case measure => simp [intOf]; omega
    · have hs1 : ¬ k < len0 ∨ k < len0 ∧ ¬ k < 60 := by omega
      obtain ⟨A, cap, rfl⟩ := hK.shape
      obtain ⟨i3, hi, hz0, hz1, hz2⟩ := info_parts info3
      obtain ⟨z, hz⟩ : ∃ z : Nat → Int, ∀ j m, L[j]? = some m → z j = m.f := ⟨fun j => ((L[j]?).map (·.f)).getD 0, fun j m h => by show ((L[j]?).map (·.f)).getD 0 = m.f; rw [h]; rfl⟩
      have WH := fun wz h1 h2 => who_any g b k (MM L) wz h1 h2 (mm_range hLm'.out)
      rw [who_is L z hz] at WH
      have hz' := hid hz
      have WH' := hid WH
      have hlenL : L.length ≤ 60 := by omega
      clear WH hz hLm
      obtain ⟨wo, ewo⟩ : ∃ wo : World, wo = wr := ⟨_, rfl⟩
      subst ewo
      rcases hs1 with hs1 | ⟨hs1, hs2⟩
      all_goals
        go_wp2_with fail
        go_loopw [11, 92] (fun o i wz => ∃ j : Nat, j ≤ L.length ∧ i = .int .i64 j ∧ wz.ownsRow wo.heap.size 3 1 o j ((L.take j).map fun m => Value.int .i64 m.f) ∧ Below wo.heap.size wo wz)
          (fun _ i _ => L.length - (intOf i).toNat)
        case atStart => exact ⟨0, by omega, rfl, World.ownsRow_nil _ _ _ _, Below.refl _ _⟩
        case round =>
          obtain ⟨j, hj, rfl, hO, hbz⟩ := hrel
          by_cases hlt2 : j < L.length
          · obtain ⟨gg, cap', hv, -, hgg, -, hat⟩ := hK.form (by omega)
            injection hv with hA _ hcap
            subst hA
            subst hcap
            obtain ⟨y, hy⟩ : ∃ y, L[j]? = some y := ⟨L[j], List.getElem?_eq_getElem hlt2⟩
            obtain ⟨b0, b1, b2⟩ := hat j y hy
            have q0 : wr.cell? ⟨gg, j * 3, none⟩ = some (.int .i64 y.t) := (hbz.cell (p := ⟨gg, j * 3, none⟩) hgg).trans b0
            have q1 : wr.cell? ⟨gg, j * 3 + 1, none⟩ = some (.int .i64 y.f) := (hbz.cell (p := ⟨gg, j * 3 + 1, none⟩) hgg).trans b1
            have q2 : wr.cell? ⟨gg, j * 3 + 2, none⟩ = some (.int .u32 y.s) := (hbz.cell (p := ⟨gg, j * 3 + 2, none⟩) hgg).trans b2
            have htk : (L.take (j + 1)).map (fun m => Value.int .i64 m.f) = (L.take j).map (fun m => Value.int .i64 m.f) ++ [.int .i64 y.f] := by rw [List.take_add_one, hy]; simp
            have htk' := hid htk
            generalize (L.take j).map (fun m => Value.int .i64 m.f) = Y at *
            have hnews : ∀ i u, [Value.int .i64 y.f][i]? = some u → ((wr.alloc (.cells #[.int .i64 y.t, .int .i64 y.f, .int .u32 y.s] 35)).alloc (.cells #[.int .i64 y.f] 3)).cell? ((⟨wr.heap.size + 1, 0, none⟩ : Addr).add i) = some u := by
              have hh := World.news_of_block (heap_alloc_new (wr.alloc (.cells #[.int .i64 y.t, .int .i64 y.f, .int .u32 y.s] 35)) (.cells #[.int .i64 y.f] 3))
              simpa using hh
            have hnews' := hid hnews
            have hbs := hbz.size
            clear hnews htk hy hat b0 b1 b2
            go_wp2_with (at_builtin; refine wpList_append_lies _ rfl _ _ 48 rfl wo.heap.size 3 i3 _ 1 8 Try.underlying48 hi hz0 hz1 hz2 rfl (by omega) u11 j Y rfl ((hO.alloc _).alloc _) ⟨wr.heap.size + 1, 0, none⟩ 1 1 [.int .i64 y.f] rfl rfl hnews'.out (by intro u hu; simp at hu; subst hu; rfl) (by omega) (by unfold maxLen; omega) (by omega) (by simp; omega) _ rfl ?_; intro g2 cap2 w2 hown2 hgrow2 hat2 hlt2)
            have hown2' := hid hown2
            have hgrow2' := hid hgrow2
            clear hown2 hgrow2 hat2 hlt2
            go_roundw
            case rel =>
              exact ⟨j + 1, by omega, by go_num, by rw [htk'.out]; exact hown2'.out, ((hbz.alloc hbz.size _).alloc (by simp; omega) _).grown hgrow2'.out (by simp; omega) (fun i hi => (World.ownsRow.lt hO i hi).1)⟩
            case measure => simp [intOf]; omega
          · obtain rfl : j = L.length := by omega
            rw [List.take_length] at hO
            obtain ⟨Aw, capw, rfl, hsl⟩ := isl_of_own (z := z) hO (fun i hi => by
              have hx : L[i]? = some L[i] := List.getElem?_eq_getElem hi
              rw [List.getElem?_map, hx, hz'.out i _ hx]; rfl)
            have WH2 := WH'.out wr (hG.call hbz) (hM.call hbz)
            have OF2 := fun wz h1 => of_any Aw L.length capw z wz h1 (by unfold maxLen; omega)
            obtain ⟨S, hS⟩ : ∃ S : Nat, whoTo (fun i => inTo z i L.length) 64 = S := ⟨_, rfl⟩
            simp only [hS] at WH2 OF2
            have WH3 := hid WH2
            have OF3 := hid OF2
            have hbw := bel_tr hb hbz
            clear WH2 OF2 hS hO
            go_wp2_with fail
            go_at_call 16
            refine WH3.out.mono ?_
            rintro e w6 ⟨rfl, hb6⟩
            go_wp2_with fail
            go_at_call 19
            refine (OF3.out _ (hsl.below hb6)).mono ?_
            rintro e w' ⟨rfl, rfl⟩
            go_wp2_with fail
            go_at_call 11
            refine (works_any _).mono ?_
            rintro e w' ⟨rfl, hw⟩
            go_wp2_with fail
            go_returns
            exact ⟨rfl, bel_tr (bel_tr hbw hb6) hw⟩
end Go.Proofs.Ytjaoadeenmabpaa
