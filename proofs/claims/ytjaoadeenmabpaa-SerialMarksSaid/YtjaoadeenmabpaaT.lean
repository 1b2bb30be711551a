/- Lists of messages in memory; the document's Of: what came of a node. -/
import Derived.Test.YtjaoadeenmabpaaR
import Derived.Deep.AppendLies
import Derived.Laws.OwnMore
namespace Go.Proofs.Ytjaoadeenmabpaa
open Go Go.RowKit Go.ChangeShapes Go.WideShapes Go.Maps
set_option linter.unusedVariables false

/-- A message's key. -/
structure K3 where
  t : Int
  f : Int
  s : Int
abbrev K3.arr (k : K3) : Array Value := #[.int .i64 k.t, .int .i64 k.f, .int .u32 k.s]
/-- The cells of a list of keys. -/
def kc : List K3 → List Value
  | [] => []
  | k :: r => .int .i64 k.t :: .int .i64 k.f :: .int .u32 k.s :: kc r
theorem kc_length : ∀ L, (kc L).length = L.length * 3
  | [] => rfl
  | k :: r => by simp [kc, kc_length r]; omega
theorem kc_append : ∀ L k, kc (L ++ [k]) = kc L ++ [.int .i64 k.t, .int .i64 k.f, .int .u32 k.s]
  | [], k => rfl
  | x :: r, k => by simp [kc, kc_append r k]
theorem kc_at : ∀ (L : List K3) (i : Nat) (k : K3), L[i]? = some k → (kc L)[i * 3]? = some (.int .i64 k.t) ∧ (kc L)[i * 3 + 1]? = some (.int .i64 k.f) ∧ (kc L)[i * 3 + 2]? = some (.int .u32 k.s)
  | [], i, k, h => by simp at h
  | x :: r, 0, k, h => by simp at h; subst h; simp [kc]
  | x :: r, i + 1, k, h => by
    have ih := kc_at r i k (by simpa using h)
    have e : (i + 1) * 3 = i * 3 + 1 + 1 + 1 := by omega
    rw [e]
    simpa [kc] using ih
theorem kc_one : ∀ L, ∀ u ∈ kc L, u.oneCell' = true
  | [], u, h => by cases h
  | k :: r, u, h => by
    simp only [kc, List.mem_cons] at h
    rcases h with rfl | rfl | rfl | h
    · rfl
    · rfl
    · rfl
    · exact kc_one r u h

/-- v is a slice of keys of the call's own (from block base on) that reads L. -/
def Ks (w : World) (base : Nat) (v : Value) (L : List K3) : Prop := w.ownsRow base 35 3 v L.length (kc L)
section
variable {w w' : World} {base : Nat} {v : Value} {L : List K3}
theorem grown_of_below (h : Below w.heap.size w w') : w.grownBy w' none := ⟨h.os, h.tape, h.output, h.size, fun k hk _ => h.block k hk⟩
theorem Ks.nil (w : World) (base : Nat) : Ks w base (.slice none 0 0) [] := World.ownsRow_nil w base 35 3
theorem Ks.mono {base' : Nat} (h : Ks w base v L) (hb : base' ≤ base) : Ks w base' v L := by
  obtain ⟨h1, h2⟩ := h
  refine ⟨h1, ?_⟩
  rcases h2 with h2 | ⟨g, cap, cur, hv, hg, r⟩
  · exact .inl h2
  · exact .inr ⟨g, cap, cur, hv, Nat.le_trans hb hg, r⟩
theorem Ks.grown {row : Option Nat} (h : Ks w base v L) (hg : w.grownBy w' row) (hne : v.ownBlock ≠ row ∨ v.ownBlock = none) : Ks w' base v L := World.ownsRow.kept h hg hne.symm
theorem Ks.call (h : Ks w base v L) (hb : Below w.heap.size w w') : Ks w' base v L := h.grown (grown_of_below hb) (by cases hv : v.ownBlock with | none => exact .inr rfl | some g => exact .inl (by simp))
theorem Ks.alloc (h : Ks w base v L) (o : Obj) : Ks (w.alloc o) base v L := World.ownsRow.alloc h o
theorem Ks.drew (h : Ks w base v L) : Ks w.drew base v L := h
theorem Ks.drewN (h : Ks w base v L) (n : Nat) : Ks (w.drewN n) base v L := h
theorem Ks.ne_ {b n : Nat} {M : Int → Option Mk} (h : Ks w base v L) (hM : Mks w b n M) : v.ownBlock ≠ some b := by
  intro hv
  obtain ⟨D, ⟨es, clock, hb, _⟩, _⟩ := hM
  rcases h.2 with ⟨rfl, _⟩ | ⟨g, cap, cur, rfl, _, hg, _⟩
  · cases hv
  · have : g = b := by simpa [Value.ownBlock] using hv
    subst this
    rw [hb] at hg; cases hg
theorem Ks.step {b n : Nat} {M : Int → Option Mk} (h : Ks w base v L) (hM : Mks w b n M) (hs : Step b w w') : Ks w' base v L :=
  h.grown (row := some b) ⟨hs.os, hs.tape, hs.output, hs.size, fun k hk hb => hs.block k hk (by simpa using hb)⟩ (.inl (h.ne_ hM))
theorem Ks.shape (h : Ks w base v L) : ∃ A cap, v = .slice A L.length cap := by
  rcases h.2 with ⟨rfl, h0⟩ | ⟨g, cap, cur, hv, _⟩
  · exact ⟨none, 0, by rw [h0]⟩
  · exact ⟨_, cap, hv⟩
theorem add_none0 (g j : Nat) : (⟨g, 0, none⟩ : Addr).add j = ⟨g, j, none⟩ := by unfold Addr.add; split <;> simp_all
theorem Ks.form (h : Ks w base v L) (hn : 0 < L.length) : ∃ g cap, v = .slice (some ⟨g, 0, none⟩) L.length cap ∧ base ≤ g ∧ g < w.heap.size ∧
    (∀ j u, (kc L)[j]? = some u → w.cell? ⟨g, j, none⟩ = some u) ∧
    ∀ i k, L[i]? = some k → w.cell? ⟨g, i * 3, none⟩ = some (.int .i64 k.t) ∧ w.cell? ⟨g, i * 3 + 1, none⟩ = some (.int .i64 k.f) ∧ w.cell? ⟨g, i * 3 + 2, none⟩ = some (.int .u32 k.s) := by
  obtain ⟨g, cap, rfl, hb, hlt⟩ := World.ownsRow.form h hn
  have hc : ∀ j u, (kc L)[j]? = some u → w.cell? ⟨g, j, none⟩ = some u := fun j u hu => by
    have := World.ownsRow.cells h (g := g) rfl j u hu
    rwa [add_none0] at this
  exact ⟨g, cap, rfl, hb, hlt, hc, fun i k hk => by
    obtain ⟨a, b, c⟩ := kc_at L i k hk
    exact ⟨hc _ _ a, hc _ _ b, hc _ _ c⟩⟩
end
theorem info35 : (Try.prog.info? 35).map (fun i => (i.zero, i.size, i.bytes)) = some (some (.agg #[.int .i64 0, .int .i64 0, .int .u32 0]), 3, 24) := by kernel_rfl

/-- What came of a node. -/
abbrev ofK (L : List K3) (f : Int) : List K3 := L.filter fun k => decide (k.f = f)
set_option maxHeartbeats 2000000 in
theorem refof_any (base : Nat) (v : Value) (L : List K3) (f : Int) (w : World) (hK : Ks w base v L) (hl : L.length ≤ 100000) :
    Calls Try.prog 18 #[v, .int .i64 f] w fun e w' => ∃ v', e = .returned v' ∧ Ks w' w.heap.size v' (ofK L f) ∧ Below w.heap.size w w' := by
  obtain ⟨i0, hi, hz0, hz1, hz2⟩ := info_parts info35
  obtain ⟨A, cap, rfl⟩ := hK.shape
  go_enter Try.func18, Try.ntmps18
  go_wp2
  have hO0 : Ks (w.alloc (.cells #[] 35)) w.heap.size (.slice (some ⟨w.heap.size, 0, none⟩) 0 0) [] := World.ownsRow_lit w #[] 0 (Nat.le_refl _) (by unfold maxLen; omega) (by simp)
  have hB0 : Below w.heap.size w (w.alloc (.cells #[] 35)) := by go_grown
  generalize w.alloc (.cells #[] 35) = wx at *
  go_loopw [5, 6] (fun o i wr => ∃ k : Nat, k ≤ L.length ∧ i = .int .i64 k ∧ Ks wr w.heap.size o (ofK (L.take k) f) ∧ Below w.heap.size w wr) (fun _ i _ => L.length - (intOf i).toNat)
  case atStart => exact ⟨0, by omega, rfl, by simpa using hO0, hB0⟩
  case round =>

    obtain ⟨k, hk, rfl, hO, hb⟩ := hrel
    by_cases hlt : k < L.length
    · obtain ⟨g, cap', hv, -, hg, -, hat⟩ := hK.form (by omega)
      injection hv with hA _ hcap
      subst hA
      subst hcap
      obtain ⟨x, hx⟩ : ∃ x, L[k]? = some x := ⟨L[k], List.getElem?_eq_getElem hlt⟩
      obtain ⟨a0, a1, a2⟩ := hat k x hx
      have q0 : wr.cell? ⟨g, k * 3, none⟩ = some (.int .i64 x.t) := (hb.cell (p := ⟨g, k * 3, none⟩) hg).trans a0
      have q1 : wr.cell? ⟨g, k * 3 + 1, none⟩ = some (.int .i64 x.f) := (hb.cell (p := ⟨g, k * 3 + 1, none⟩) hg).trans a1
      have q2 : wr.cell? ⟨g, k * 3 + 2, none⟩ = some (.int .u32 x.s) := (hb.cell (p := ⟨g, k * 3 + 2, none⟩) hg).trans a2
      have hlen : (ofK (L.take k) f).length ≤ k := Nat.le_trans (List.length_filter_le _ _) (by rw [List.length_take]; omega)
      have htk : L.take (k + 1) = L.take k ++ [x] := by rw [List.take_add_one, hx]; rfl
      clear a0 a1 a2 hat
      have hx' := hid hx
      clear hx
      by_cases he : x.f = f
      · have hof : ofK (L.take (k + 1)) f = ofK (L.take k) f ++ [x] := by rw [htk]; simp [ofK, List.filter_append, he]
        have hof' := hid hof
        have t1 : (x.f == f) = true := by simpa using he
        generalize hY : ofK (L.take k) f = Y at *
        have hY' := hid hY
        clear hof htk he hY
        have hnews := World.news_of_block (heap_alloc_new wr (.cells #[.int .i64 x.t, .int .i64 x.f, .int .u32 x.s] 35))
        have hnews' := hid hnews
        clear hnews
        have hbs := hb.size
        go_wp2_with (at_builtin; refine wpList_append_lies _ rfl _ _ 31 rfl w.heap.size 35 i0 _ 3 24 Try.underlying31 hi hz0 hz1 hz2 rfl (by omega) u5 Y.length (kc Y) rfl (hO.alloc _) ⟨wr.heap.size, 0, none⟩ 1 1 [.int .i64 x.t, .int .i64 x.f, .int .u32 x.s] rfl rfl hnews'.out (kc_one [x]) (by omega) (by unfold maxLen; omega) (by omega) (by simp; omega) _ rfl ?_; intro g2 cap2 w2 hown2 hgrow2 hat2 hlt2)
        have hown2' := hid hown2
        have hgrow2' := hid hgrow2
        clear hown2 hgrow2 hat2 hlt2
        go_roundw
        case rel =>
          exact ⟨k + 1, by omega, by go_num, by rw [hof'.out]; unfold Ks; rw [kc_append, List.length_append]; exact hown2'.out,
            (hb.alloc hb.size _).grown hgrow2'.out (by simp; omega) (fun j hj => (World.ownsRow.lt hO j hj).1)⟩
        case measure => simp [intOf]; omega
      · have hof : ofK (L.take (k + 1)) f = ofK (L.take k) f := by rw [htk]; simp [ofK, List.filter_append, he]
        have hof' := hid hof
        have t1 : (x.f == f) = false := by simpa using he
        clear hof htk he
        go_wp2
        go_roundw
        case rel => exact ⟨k + 1, by omega, by go_num, by rw [hof'.out]; exact hO, hb⟩
        case measure => simp [intOf]; omega
    · have hall : L.take k = L := List.take_of_length_le (by omega)
      rw [hall] at hO
      clear hall
      go_wp2
      go_returns
      exact ⟨_, rfl, hO, hb⟩
end Go.Proofs.Ytjaoadeenmabpaa
