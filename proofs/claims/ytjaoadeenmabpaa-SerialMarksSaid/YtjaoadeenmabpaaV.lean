/- The plain law of SerialMarks: the marks are those of the list; and the contracts over it. -/
import Derived.Test.YtjaoadeenmabpaaU
namespace Go.Proofs.Ytjaoadeenmabpaa
open Go Go.RowKit Go.ChangeShapes Go.WideShapes Go.Maps
set_option linter.unusedVariables false

/-- The marks of a list. -/
def MM (L : List K3) (x : Int) : Option Mk := match (ofK L x).getLast? with | none => none | some k => some ⟨k.t, k.f, k.s, (ofK L x).length⟩
theorem ofK_snoc (L : List K3) (k : K3) (x : Int) : ofK (L ++ [k]) x = if k.f = x then ofK L x ++ [k] else ofK L x := by
  unfold ofK; rw [List.filter_append]
  by_cases h : k.f = x <;> simp [h]
theorem mm_count (L : List K3) (x : Int) : ((MM L x).getD zeroM).c = (ofK L x).length := by
  unfold MM
  cases h : (ofK L x).getLast? with
  | none => rw [List.getLast?_eq_none_iff.1 h]; rfl
  | some k => rfl
theorem mm_some (L : List K3) (x : Int) : (MM L x).isSome = decide (0 < (ofK L x).length) := by
  unfold MM
  cases h : (ofK L x).getLast? with
  | none => rw [List.getLast?_eq_none_iff.1 h]; rfl
  | some k =>
    have : ofK L x ≠ [] := fun e => by rw [e] at h; cases h
    have := List.length_pos_iff.2 this
    simp [this]
theorem mm_upd (L : List K3) (k : K3) : upd (MM L) k.f ⟨k.t, k.f, k.s, ((MM L k.f).getD zeroM).c + 1⟩ = MM (L ++ [k]) := by
  funext x
  unfold upd
  by_cases h : x = k.f
  · subst h
    rw [if_pos rfl, mm_count]
    unfold MM
    rw [ofK_snoc, if_pos rfl]
    simp
  · rw [if_neg h]
    unfold MM
    rw [ofK_snoc, if_neg (fun e => h e.symm)]

/-- What is told of a message, and the list behind it. -/
def nt (L : List K3) (k : K3) : Int := if k.f < 0 ∨ 63 < k.f then 8 else match (ofK L k.f).getLast? with | none => 0 | some m => bh m.t m.f m.s k.t k.f k.s
def nl (L : List K3) (k : K3) : List K3 := if nt L k = 0 then L ++ [k] else L
theorem nl_length (L : List K3) (k : K3) : (nl L k).length ≤ L.length + 1 := by unfold nl; split <;> simp
theorem nl_mem {L : List K3} {k : K3} (h : ∀ m ∈ L, 0 ≤ m.f ∧ m.f < 64) : ∀ m ∈ nl L k, 0 ≤ m.f ∧ m.f < 64 := by
  unfold nl
  split
  · rename_i h0
    intro m hm
    rcases List.mem_append.1 hm with hm | hm
    · exact h m hm
    · have e : m = k := by simpa using hm
      subst e
      unfold nt at h0
      split at h0
      · omega
      · omega
  · exact h

theorem ref17 (B : Nat) (v : Value) (L : List K3) (k : K3) (w : World) (hK : Ks w B v L) (hB : B ≤ w.heap.size) (hl : L.length ≤ 1000) :
    Calls Try.prog 17 #[v, .agg k.arr] w fun e w' => ∃ v', e = .returned (.tuple #[v', .int .i64 (nt L k)]) ∧ Ks w' B v' (nl L k) ∧ Below w.heap.size w w' := by
  by_cases h : k.f < 0 ∨ 63 < k.f
  · have e1 : nt L k = 8 := by unfold nt; rw [if_pos h]
    have e2 : nl L k = L := by unfold nl; rw [e1]; rfl
    rw [e1, e2]
    exact (refnote_bad B v L k w hK h).mono fun e w' hh => ⟨v, hh.1, hK.call hh.2, hh.2⟩
  · have e1 : (match (ofK L k.f).getLast? with | none => 0 | some m => bh m.t m.f m.s k.t k.f k.s) = nt L k := by unfold nt; rw [if_neg h]
    refine (refnote_any B v L k (nt L k) w hK hl (by omega) (by omega) e1).mono ?_
    rintro e w' ⟨v', rfl, hO, hb⟩
    refine ⟨v', rfl, ?_, hb⟩
    unfold nl
    by_cases h0 : nt L k = 0
    · rw [if_pos h0]; exact (hO.1 h0).mono hB
    · rw [if_neg h0]
      have e := hO.2 h0
      subst e
      exact hK.call hb
theorem prog13 (g b n : Nat) (L : List K3) (k : K3) (w : World) (hG : Bk w g 55 [.map (some b)]) (hM : Mks w b n (MM L)) (hn : n < 1000) (hl : L.length ≤ 1000) :
    Calls Try.prog 13 #[.pointer (some ⟨g, 0, none⟩), .agg k.arr] w fun e w' => e = .returned (.int .i64 (nt L k)) ∧ Bk w' g 55 [.map (some b)] ∧ Mks w' b (n + 1) (MM (nl L k)) ∧ Step b w w' := by
  by_cases h : k.f < 0 ∨ 63 < k.f
  · have e1 : nt L k = 8 := by unfold nt; rw [if_pos h]
    have e2 : nl L k = L := by unfold nl; rw [e1]; rfl
    rw [e1, e2]
    refine (note_bad g b k.t k.f k.s w hG (by omega)).mono ?_
    rintro e w' ⟨rfl, rfl⟩
    exact ⟨rfl, hG.alloc _, (hM.alloc _).mono (by omega), (Step.refl _ _).alloc _⟩
  · have hlen : (ofK L k.f).length ≤ 1000 := Nat.le_trans (List.length_filter_le _ _) hl
    have er : (if (MM L k.f).isSome = true then bh ((MM L k.f).getD zeroM).t ((MM L k.f).getD zeroM).f ((MM L k.f).getD zeroM).s k.t k.f k.s else 0) = nt L k := by
      unfold nt MM
      rw [if_neg h]
      cases (ofK L k.f).getLast? with
      | none => rfl
      | some m => rfl
    refine (note_any g b n (MM L) k.t k.f k.s _ _ w hG hM (by omega) (by omega) hn rfl rfl (by rw [mm_count]; omega) (nt L k) er).mono ?_
    rintro e w' ⟨rfl, hG', hM', hS'⟩
    refine ⟨rfl, hG', ?_, hS'⟩
    unfold nl
    by_cases h0 : nt L k = 0
    · rw [if_pos h0] at hM' ⊢; rw [mm_upd] at hM'; exact hM'
    · rw [if_neg h0] at hM' ⊢; exact hM'

theorem in_any_of (L : List K3) (z : Nat → Int) (hz : ∀ j k, L[j]? = some k → z j = k.f) (i : Int) : ∀ n, n ≤ L.length → inTo z i n = (L.take n).any fun k => decide (k.f = i)
  | 0, _ => rfl
  | n + 1, hn => by
    have hx : L[n]? = some L[n] := List.getElem?_eq_getElem (by omega)
    unfold inTo
    rw [in_any_of L z hz i n (by omega), List.take_add_one, hx, List.any_append, hz n _ hx]
    simp
theorem who_is (L : List K3) (z : Nat → Int) (hz : ∀ j k, L[j]? = some k → z j = k.f) : (fun i : Nat => (MM L i).isSome) = fun i : Nat => inTo z i L.length := by
  funext i
  rw [in_any_of L z hz i L.length (Nat.le_refl _), List.take_length, mm_some]
  rw [Bool.eq_iff_iff, decide_eq_true_iff, List.length_pos_iff, List.any_eq_true, ofK]
  constructor
  · intro h
    obtain ⟨k, hk⟩ := List.exists_mem_of_ne_nil _ h
    exact ⟨k, (List.mem_filter.1 hk).1, (List.mem_filter.1 hk).2⟩
  · rintro ⟨k, hk, he⟩
    exact List.ne_nil_of_mem (List.mem_filter.2 ⟨hk, he⟩)
theorem mm_range {L : List K3} (h : ∀ m ∈ L, 0 ≤ m.f ∧ m.f < 64) : ∀ k : Int, (MM L k).isSome = true → 0 ≤ k ∧ k < 64 := by
  intro k hk
  rw [mm_some, decide_eq_true_iff, List.length_pos_iff] at hk
  obtain ⟨m, hm⟩ := List.exists_mem_of_ne_nil _ hk
  obtain ⟨h1, h2⟩ := List.mem_filter.1 hm
  have e : m.f = k := by simpa using h2
  rw [← e]; exact h m h1
end Go.Proofs.Ytjaoadeenmabpaa
