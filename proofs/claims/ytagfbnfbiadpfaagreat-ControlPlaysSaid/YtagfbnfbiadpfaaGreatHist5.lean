
/-
  Layer 10 (hist): awake; the statement HistAdds.
-/
import Derived.Test.YtagfbnfbiadpfaaGreatHist4
namespace Go.Proofs.YtagfbnfbiadpfaaGreat
open Go.RowKit Go.Shelf
set_option linter.unusedVariables false
set_option linter.unusedSimpArgs false

/-! ### awake -/
def cA1 : List Int := hadd 3 zeros 0 2
def cA2 : List Int := hadd 3 cA1 2 3
theorem hnew3 (w : World) : Calls Tryz.prog 21 #[.int .i64 3] w fun e w' => e = .returned (.tuple #[.pointer (some ⟨w.heap.size, 0, none⟩), .int .i64 0]) ∧ HistAt w' w.heap.size 3 zeros ∧ Below w.heap.size w w' := hnew_ok 3 w (by omega) (by omega)
theorem litA1 (b : Nat) (w : World) (h : HistAt w b 3 zeros) : Calls Tryz.prog 62 #[.pointer (some ⟨b, 0, none⟩), .int .i64 0, .int .i64 2] w fun e w' => e = .returned (.bool true) ∧ HistAt w' b 3 cA1 ∧ Only b w w' := hadd_any b 3 zeros 0 2 w h
theorem litA2 (b : Nat) (w : World) (h : HistAt w b 3 cA1) : Calls Tryz.prog 62 #[.pointer (some ⟨b, 0, none⟩), .int .i64 2, .int .i64 3] w fun e w' => e = .returned (.bool true) ∧ HistAt w' b 3 cA2 ∧ Only b w w' := hadd_any b 3 cA1 2 3 w h
theorem litB (b : Nat) (w : World) (h : HistAt w b 3 cA2) : Calls Tryz.prog 95 #[.pointer (some ⟨b, 0, none⟩), .int .i64 2] w fun e w' => e = .returned (.int .i64 2) ∧ Below w.heap.size w w' := by
  have K := below_anyH b 3 cA2 2 w h
  rwa [show belowH 3 cA2 2 = 2 by decide +kernel] at K
theorem litT (b : Nat) (w : World) (h : HistAt w b 3 cA2) : Calls Tryz.prog 97 #[.pointer (some ⟨b, 0, none⟩)] w fun e w' => e = .returned (.int .i64 5) ∧ Below w.heap.size w w' := by
  have K := total_any b 3 cA2 w h
  rwa [show belowH 3 cA2 128 = 5 by decide +kernel] at K
theorem stpH {w W W1 : World} {B : Nat} (h : Below B w W) (hb : Below W.heap.size W W1) (hB : B ≤ W.heap.size) : Below B w W1 := h.trans (hb.mono hB)
/-! ### What is plain of the sums -/
theorem bAdd_ge (s x : Int) (h : 0 ≤ s) (h2 : s ≤ 2147483647) : s ≤ bAdd s x := by
  have h3 := cnt_nn x
  unfold bAdd
  rw [cnt_id s h h2]
  unfold cnt keep at *
  omega
theorem sumH_rng (lv : Nat) (c : List Int) : ∀ k, 0 ≤ sumH lv c k ∧ sumH lv c k ≤ 2147483647
  | 0 => ⟨Int.le_refl _, by simp [sumH]⟩
  | k + 1 => bAdd_rng _ _
theorem sumH_step (lv : Nat) (c : List Int) (k : Nat) : sumH lv c k ≤ sumH lv c (k + 1) := bAdd_ge _ _ (sumH_rng lv c k).1 (sumH_rng lv c k).2
theorem sumH_mono (lv : Nat) (c : List Int) (k : Nat) : ∀ d, sumH lv c k ≤ sumH lv c (k + d)
  | 0 => Int.le_refl _
  | d + 1 => Int.le_trans (sumH_mono lv c k d) (sumH_step lv c (k + d))
theorem belowH_mono (lv : Nat) (c : List Int) (a b : Int) (h : a ≤ b) : belowH lv c a ≤ belowH lv c b := by
  unfold belowH
  by_cases ha : a < 0
  · rw [if_pos ha]
    split
    · exact Int.le_refl _
    · exact (sumH_rng lv c _).1
  · rw [if_neg ha, if_neg (by omega)]
    have := sumH_mono lv c (min lv a.toNat) (min lv b.toNat - min lv a.toNat)
    rwa [show min lv a.toNat + (min lv b.toNat - min lv a.toNat) = min lv b.toNat by omega] at this
theorem belowH_nat (lv : Nat) (c : List Int) (t : Nat) (h : t ≤ lv) : belowH lv c (t : Int) = sumH lv c t := by
  unfold belowH
  rw [if_neg (by omega), Int.toNat_natCast, Nat.min_eq_right h]
theorem first_spec (lv : Nat) (c : List Int) (q : Int → Bool) (t : Nat) (h : firstH lv c q = some t) : t ≤ lv ∧ q (sumH lv c t) = true ∧ ∀ j, j < t → q (sumH lv c j) = false := by
  unfold firstH at h
  obtain ⟨h1, i, hi, h2, h3⟩ := List.find?_eq_some_iff_getElem.1 h
  rw [List.getElem_range] at h2
  subst h2
  rw [List.length_range] at hi
  refine ⟨by omega, h1, fun j hj => ?_⟩
  have := h3 j hj
  rw [List.getElem_range] at this
  simpa using this
theorem first_nospec (lv : Nat) (c : List Int) (q : Int → Bool) (h : firstH lv c q = none) (j : Nat) (hj : j ≤ lv) : q (sumH lv c j) = false := by
  unfold firstH at h
  have := List.find?_eq_none.1 h j (List.mem_range.2 (by omega))
  simpa using this
theorem most_spec (lv : Nat) (c : List Int) (many : Int) : 0 ≤ mostH lv c many ∧ mostH lv c many ≤ lv ∧ belowH lv c (mostH lv c many) ≤ cnt many ∧ (mostH lv c many < lv → cnt many < belowH lv c (mostH lv c many + 1)) := by
  unfold mostH
  cases h : firstH lv c (fun s => decide (cnt many < s)) with
  | none =>
    have := first_nospec lv c _ h lv (Nat.le_refl _)
    simp only [decide_eq_false_iff_not] at this
    refine ⟨by simp, Int.le_refl _, ?_, fun h => absurd h (Int.lt_irrefl _)⟩
    show belowH lv c (lv : Int) ≤ _
    rw [belowH_nat lv c lv (Nat.le_refl _)]
    omega
  | some t =>
    obtain ⟨h1, h2, h3⟩ := first_spec lv c _ t h
    simp only [decide_eq_true_eq] at h2
    have ht : t ≠ 0 := by
      intro e
      subst e
      have := cnt_nn many
      rw [show sumH lv c 0 = 0 from rfl] at h2
      omega
    obtain ⟨u, rfl⟩ : ∃ u, t = u + 1 := ⟨t - 1, by omega⟩
    have h4 := h3 u (by omega)
    simp only [decide_eq_false_iff_not] at h4
    have e : ((u + 1 : Nat) : Int) - 1 = (u : Int) := by omega
    show 0 ≤ ((u + 1 : Nat) : Int) - 1 ∧ ((u + 1 : Nat) : Int) - 1 ≤ lv ∧ belowH lv c (((u + 1 : Nat) : Int) - 1) ≤ cnt many ∧ (((u + 1 : Nat) : Int) - 1 < lv → cnt many < belowH lv c (((u + 1 : Nat) : Int) - 1 + 1))
    rw [e, show (u : Int) + 1 = ((u + 1 : Nat) : Int) by omega, belowH_nat lv c u (by omega), belowH_nat lv c (u + 1) h1]
    exact ⟨by omega, by omega, by omega, fun _ => h2⟩
theorem least_nospec (lv : Nat) (c : List Int) (many : Int) (h0 : 1 ≤ lv) (h1 : lv ≤ 128) (h : leastH lv c many = none) : belowH lv c 128 < cnt many := by
  rw [leastH, if_neg (by omega)] at h
  have := first_nospec lv c _ h lv (Nat.le_refl _)
  simp only [decide_eq_false_iff_not] at this
  unfold belowH
  rw [if_neg (by omega), show min lv (128 : Int).toNat = lv by simp; omega]
  omega
theorem least_spec (lv : Nat) (c : List Int) (many : Int) (t : Nat) (h : leastH lv c many = some t) : t ≤ lv ∧ cnt many ≤ belowH lv c t ∧ (t = 0 ∨ belowH lv c ((t : Int) - 1) < cnt many) := by
  unfold leastH at h
  split at h
  · cases h
  · obtain ⟨h1, h2, h3⟩ := first_spec lv c _ t h
    simp only [decide_eq_true_eq] at h2
    rw [belowH_nat lv c t h1]
    refine ⟨h1, h2, ?_⟩
    by_cases h0 : t = 0
    · exact .inl h0
    · right
      obtain ⟨u, rfl⟩ : ∃ u, t = u + 1 := ⟨t - 1, by omega⟩
      have h4 := h3 u (by omega)
      simp only [decide_eq_false_iff_not] at h4
      rw [show ((u + 1 : Nat) : Int) - 1 = (u : Int) by omega, belowH_nat lv c u (by omega)]
      omega
end Go.Proofs.YtagfbnfbiadpfaaGreat
