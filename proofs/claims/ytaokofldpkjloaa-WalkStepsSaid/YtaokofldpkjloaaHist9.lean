/-
  Layer 10 (hist): what the law's loop holds; the two sides of it, told alike.
-/
import Derived.Test.YtaokofldpkjloaaHist8
namespace Go.Proofs.Ytaokofldpkjloaa
open Go.RowKit Go.Shelf
set_option linter.unusedVariables false
set_option linter.unusedSimpArgs false

theorem own_below {w w' : World} {base : Nat} {e : TypeId} {size n : Nat} {v : Value} {xs : List Value} (h : w.ownsRow base e size v n xs) (hb : Below w.heap.size w w') : w'.ownsRow base e size v n xs := by
  rcases h.2 with ⟨h1, h2⟩ | ⟨g, cap, cur, h1, h2, hg, h3⟩
  · exact ⟨h.1, .inl ⟨h1, h2⟩⟩
  · exact ⟨h.1, .inr ⟨g, cap, cur, h1, h2, (hb.block g (Array.getElem?_eq_some_iff.1 hg).1).trans hg, h3⟩⟩
theorem own_only {w w' : World} {b base : Nat} {e : TypeId} {size n : Nat} {v : Value} {xs : List Value} (h : w.ownsRow base e size v n xs) (ho : Only b w w') (hb : b < base) : w'.ownsRow base e size v n xs := by
  rcases h.2 with ⟨h1, h2⟩ | ⟨g, cap, cur, h1, h2, hg, h3⟩
  · exact ⟨h.1, .inl ⟨h1, h2⟩⟩
  · exact ⟨h.1, .inr ⟨g, cap, cur, h1, h2, (ho.block g (Array.getElem?_eq_some_iff.1 hg).1 (by simp; omega)).trans hg, h3⟩⟩
theorem own_mono {w : World} {base base' : Nat} {e : TypeId} {size n : Nat} {v : Value} {xs : List Value} (h : w.ownsRow base e size v n xs) (hb : base' ≤ base) : w.ownsRow base' e size v n xs := by
  rcases h.2 with ⟨h1, h2⟩ | ⟨g, cap, cur, h1, h2, h3⟩
  · exact ⟨h.1, .inl ⟨h1, h2⟩⟩
  · exact ⟨h.1, .inr ⟨g, cap, cur, h1, by omega, h3⟩⟩
/-- The document's counts: a row of the call's own, which reads as the histogram's. -/
structure XAt (w : World) (H g cap lv : Nat) (c : List Int) : Prop where
  own : w.ownsRow (H + 1) 3 1 (.slice (some ⟨g, 0, none⟩) lv cap) lv ((c.take lv).map (Value.int .i64))
  l : c.length = 128
  n : 1 ≤ lv ∧ lv ≤ 128
theorem XAt.same {w w' : World} {H g cap lv : Nat} {c : List Int} (h : XAt w H g cap lv c) (hb : Below w.heap.size w w') : XAt w' H g cap lv c := ⟨own_below h.own hb, h.l, h.n⟩
theorem XAt.only {w w' : World} {H g cap lv : Nat} {c : List Int} (h : XAt w H g cap lv c) (ho : Only H w w') : XAt w' H g cap lv c := ⟨own_only h.own ho (by omega), h.l, h.n⟩
theorem XAt.len {w : World} {H g cap lv : Nat} {c : List Int} (h : XAt w H g cap lv c) : (c.take lv).length = lv := by rw [List.length_take, h.l]; have := h.n; omega
theorem XAt.ints {w : World} {H g cap lv : Nat} {c : List Int} (h : XAt w H g cap lv c) : IntsAt w (some ⟨g, 0, none⟩) (c.take lv) := by
  obtain ⟨a, c', h1, h2, h3, h4⟩ := ints_of_own h.own
  have ha := (Value.slice.inj h1).1
  rw [ha]
  exact h4
theorem XAt.cell {w : World} {H g cap lv : Nat} {c : List Int} (h : XAt w H g cap lv c) (k : Nat) (hk : k < lv) : w.cell? ⟨g, k, none⟩ = some (.int .i64 (nth c k)) := by
  have hl := h.len
  rcases h.ints with h0 | ⟨b, off, h1, h2⟩
  · rw [h0] at hl
    simp at hl
    omega
  · cases h1
    have := h2 k (by omega)
    rw [nth_take _ _ _ hk, Nat.zero_add] at this
    exact this
section
variable {w : World} {H g cap lv : Nat} {c : List Int}
theorem xbelow_any (T : Int) (h : XAt w H g cap lv c) : Calls Try.prog 21 #[.slice (some ⟨g, 0, none⟩) lv cap, .int .i64 T] w fun e w' => e = .returned (.int .i64 (belowH lv c T)) ∧ w = w' := by
  have hl := h.len
  have hn := h.n
  have K := rbelow_any (some ⟨g, 0, none⟩) cap (c.take lv) T w (by omega) h.ints
  rw [hl] at K
  rwa [belowH_eq lv c _ rfl (by rw [h.l]; omega) T]
theorem xtotal_any (h : XAt w H g cap lv c) : Calls Try.prog 21 #[.slice (some ⟨g, 0, none⟩) lv cap, .int .i64 lv] w fun e w' => e = .returned (.int .i64 (belowH lv c 128)) ∧ w = w' := by
  have hn := h.n
  have K := xbelow_any (lv : Int) h
  rwa [show belowH lv c (lv : Int) = belowH lv c 128 by unfold belowH; rw [if_neg (by omega), if_neg (by omega), show min lv (128 : Int).toNat = min lv (lv : Int).toNat by simp; omega]] at K
theorem xmost_any (many : Int) (h : XAt w H g cap lv c) : Calls Try.prog 20 #[.slice (some ⟨g, 0, none⟩) lv cap, .int .i64 many] w fun e w' => e = .returned (.int .i64 (mostH lv c many)) ∧ w = w' := by
  have hl := h.len
  have hn := h.n
  obtain ⟨m0, m1, m2, m3⟩ := most_spec lv c many
  have hb := fun T => belowH_eq lv c _ rfl (by rw [h.l]; omega) T
  have K := rmost_any (some ⟨g, 0, none⟩) cap (c.take lv) many (mostH lv c many).toNat w (by omega) h.ints
    (fun j hj => by rw [← hb]; exact Int.le_trans (belowH_mono lv c _ _ (by omega)) m2)
    (fun j hj hj2 => by rw [← hb]; exact Int.lt_of_lt_of_le (m3 (by omega)) (belowH_mono lv c _ _ (by omega))) (by omega)
  rw [hl] at K
  rwa [show ((mostH lv c many).toNat : Int) = mostH lv c many by omega] at K
theorem xleast_any (many : Int) (h : XAt w H g cap lv c) : Calls Try.prog 19 #[.slice (some ⟨g, 0, none⟩) lv cap, .int .i64 many] w fun e w' => e = .returned (firstV (leastH lv c many)) ∧ w = w' := by
  have hl := h.len
  have hn := h.n
  have hb := fun T => belowH_eq lv c _ rfl (by rw [h.l]; omega) T
  cases hF : leastH lv c many with
  | none =>
    have n1 := least_nospec lv c many hn.1 hn.2 hF
    have K := rleast_none (some ⟨g, 0, none⟩) cap (c.take lv) many w (by omega) h.ints (fun j hj => by rw [← hb]; exact Int.lt_of_le_of_lt (belowH_mono lv c _ _ (by omega)) n1)
    rw [hl] at K
    exact K
  | some t =>
    obtain ⟨n1, n2, n3⟩ := least_spec lv c many t hF
    have K := rleast_some (some ⟨g, 0, none⟩) cap (c.take lv) many t w (by omega) h.ints (fun j hj => by
      rw [← hb]
      rcases n3 with n3 | n3
      · omega
      · exact Int.lt_of_le_of_lt (belowH_mono lv c _ _ (by omega)) n3) (by rw [← hb]; exact n2) (by omega)
    rw [hl] at K
    exact K
theorem xadd_any (level many : Int) (h : XAt w H g cap lv c) (hH : H + 1 ≤ w.heap.size) : Calls Try.prog 17 #[.slice (some ⟨g, 0, none⟩) lv cap, .int .i64 level, .int .i64 many] w fun e w' =>
    ∃ g' cap', e = .returned (.tuple #[.slice (some ⟨g', 0, none⟩) lv cap', .bool (hasL lv level)]) ∧ XAt w' H g' cap' lv (hadd lv c level many) ∧ Below w.heap.size w w' := by
  have hl := h.len
  have hn := h.n
  cases ho : hasL lv level with
  | false =>
    have K := hadd10_out (some ⟨g, 0, none⟩) cap (c.take lv) level many w (by omega) (by rw [hl]; exact ho)
    rw [hl] at K
    refine K.mono ?_
    rintro e w' ⟨rfl, rfl⟩
    exact ⟨g, cap, rfl, by rw [hadd, if_neg (by rw [ho]; simp)]; exact h, Below.refl _ _⟩
  | true =>
    obtain ⟨k, rfl⟩ : ∃ k : Nat, level = k := ⟨level.toNat, by simp [hasL] at ho; omega⟩
    have hk : k < lv := by simp [hasL] at ho; omega
    have K := hadd10_in (some ⟨g, 0, none⟩) cap (c.take lv) k many w (by omega) h.ints (by omega)
    rw [hl] at K
    refine K.mono ?_
    rintro e w' ⟨g', cap', rfl, h1, h2⟩
    refine ⟨g', cap', rfl, ⟨?_, by rw [hadd, if_pos ho, List.length_set]; exact h.l, h.n⟩, h2⟩
    rw [hadd, if_pos ho, Int.toNat_natCast, List.take_set]
    rw [nth_take _ _ _ hk] at h1
    exact own_mono h1 hH
end
end Go.Proofs.Ytaokofldpkjloaa
