/-
  The document's sort is the program's, in plain Lean; lockkeeperref11.Same, lockkeeperref11.Victim.
-/
import Derived.Test.YtmanmebgmhpilaaRefS
namespace Go.Proofs.Ytmanmebgmhpilaa
open Go.RowKit Go.Sort Go.Shelf
set_option linter.unusedVariables false

theorem ltOf_befo (x y : It) : ltOf gI x y = befo x y := rfl
theorem posR_law (x : It) (T : List It) : ∀ k, (posR x T k = 0 ∨ befo x (nth T (posR x T k - 1)) = false) ∧ ∀ q, posR x T k ≤ q → q < k → befo x (nth T q) = true := by
  intro k
  induction k with
  | zero => exact ⟨.inl rfl, fun q h1 h2 => by omega⟩
  | succ k ih =>
    rw [posR]
    split
    · rename_i hb
      refine ⟨ih.1, fun q h1 h2 => ?_⟩
      by_cases hq : q = k
      · rw [hq]; exact hb
      · exact ih.2 q h1 (by omega)
    · rename_i hb
      exact ⟨.inr (by simpa using hb), fun q h1 h2 => by omega⟩
theorem rins_same (x : It) (T : List It) : SameL (ltOf gI) (T ++ [x]) (rins x T) := by
  intro z
  obtain ⟨_, h2⟩ := posR_law x T T.length
  unfold rins
  generalize posR x T T.length = p at *
  conv => rhs; rw [← List.take_append_drop p T]
  rw [List.filter_append, List.filter_append, List.filter_append, List.append_assoc]
  congr 1
  by_cases hz : eqv (ltOf gI) z x = true
  · have hd : (T.drop p).filter (eqv (ltOf gI) z) = [] := by
      rw [List.filter_eq_nil_iff]
      intro y hy hzy
      obtain ⟨i, hi, rfl⟩ := List.mem_iff_getElem.1 hy
      rw [List.length_drop] at hi
      have := h2 (p + i) (by omega) (by omega)
      rw [nth_lt _ _ (by omega)] at this
      rw [List.getElem_drop] at hzy
      exact not_both swo_gI this z hzy hz
    rw [List.filter_cons, if_pos hz, hd]
    simp [hz]
  · rw [List.filter_cons, if_neg hz]
    simp [hz]
theorem rins_sorted (x : It) (T : List It) (hT : SortedL (ltOf gI) T) : SortedL (ltOf gI) (rins x T) := by
  obtain ⟨h1, h2⟩ := posR_law x T T.length
  have hp := posR_le x T T.length
  unfold rins
  generalize posR x T T.length = p at *
  have hT' := List.pairwise_iff_getElem.1 hT
  have hx : ∀ y ∈ T.take p, ltOf gI x y = false := by
    intro y hy
    obtain ⟨i, hi, rfl⟩ := List.mem_iff_getElem.1 hy
    rw [List.length_take] at hi
    rcases h1 with h1 | h1
    · omega
    · rw [List.getElem_take]
      rw [nth_lt _ _ (by omega)] at h1
      by_cases he : i = p - 1
      · subst he; exact h1
      · exact swo_gI.ntrans _ _ _ h1 (hT' i (p - 1) (by omega) (by omega) (by omega))
  have hy : ∀ y ∈ T.drop p, ltOf gI y x = false := by
    intro y hy
    obtain ⟨i, hi, rfl⟩ := List.mem_iff_getElem.1 hy
    rw [List.length_drop] at hi
    have := h2 (p + i) (by omega) (by omega)
    rw [nth_lt _ _ (by omega)] at this
    rw [List.getElem_drop]
    exact lt_asym swo_gI this
  have hd := List.pairwise_append.1 (show (T.take p ++ T.drop p).Pairwise (fun x y => ltOf gI y x = false) by rw [List.take_append_drop]; exact hT)
  refine List.pairwise_append.2 ⟨hd.1, List.pairwise_cons.2 ⟨hy, hd.2.1⟩, fun u hu v hv => ?_⟩
  rcases List.mem_cons.1 hv with rfl | hv
  · exact hx u hu
  · exact hd.2.2 u hu v hv
theorem rsortN_ok (l : List It) : ∀ n, n ≤ l.length → SortedL (ltOf gI) (rsortN l n) ∧ SameL (ltOf gI) (l.take n) (rsortN l n) := by
  intro n
  induction n with
  | zero => intro _; exact ⟨List.Pairwise.nil, fun z => by simp [rsortN]⟩
  | succ n ih =>
    intro hn
    obtain ⟨h1, h2⟩ := ih (by omega)
    refine ⟨rins_sorted _ _ h1, ?_⟩
    have h3 : SameL (ltOf gI) (l.take (n + 1)) (rsortN l n ++ [nth l n]) := fun z => by
      rw [take_nth l n (by omega), List.filter_append, List.filter_append, h2 z]
    exact h3.trans (rins_same _ _)
theorem rsort_eq (l : List It) : rsortN l l.length = ssort l := by
  obtain ⟨h1, h2⟩ := rsortN_ok l l.length (Nat.le_refl _)
  rw [List.take_length] at h2
  obtain ⟨h3, h4⟩ := ssort_ok l
  exact sorted_one swo_gI _ _ h1 h4 (h2.symm.trans h3)

/-- The first one than which no other one is worse, as the document says it. -/
def isW (l : List It) (i : Nat) : Bool := (List.range l.length).all fun k => !wrs (nth l k) (nth l i)
def isWn (l : List It) (i n : Nat) : Bool := (List.range n).all fun k => !wrs (nth l k) (nth l i)
theorem isWn_succ (l : List It) (i n : Nat) : isWn l i (n + 1) = (isWn l i n && !wrs (nth l n) (nth l i)) := by
  unfold isWn
  rw [List.range_succ, List.all_append]
  simp
theorem vict_worst (l : List It) : ∀ n, 0 < n → vict l n < n ∧ (∀ k, k < n → wrs (nth l k) (nth l (vict l n)) = false) ∧ ∀ k, k < vict l n → wrs (nth l (vict l n)) (nth l k) = true := by
  intro n
  induction n with
  | zero => intro h; omega
  | succ n ih =>
    intro _
    rw [vict_succ]
    by_cases h0 : n = 0
    · subst h0
      have hv : vict l 0 = 0 := rfl
      rw [hv]
      have hs : wrs (nth l 0) (nth l 0) = false := by
        rw [Bool.eq_false_iff, ne_eq, wrs_iff]; unfold Wors Ahead; omega
      rw [if_neg (by rw [hs]; decide)]
      refine ⟨by omega, fun k hk => ?_, fun k hk => by omega⟩
      obtain rfl : k = 0 := by omega
      exact hs
    · obtain ⟨h1, h2, h3⟩ := ih (by omega)
      generalize vict l n = v at *
      by_cases hw : wrs (nth l n) (nth l v) = true
      · rw [if_pos hw]
        refine ⟨by omega, fun k hk => ?_, fun k hk => ?_⟩
        · by_cases hk2 : k = n
          · rw [hk2, Bool.eq_false_iff, ne_eq, wrs_iff]; unfold Wors Ahead; omega
          · have q := h2 k (by omega)
            rw [Bool.eq_false_iff, ne_eq, wrs_iff] at q ⊢
            rw [wrs_iff] at hw
            unfold Wors Ahead at *
            omega
        · have q := h2 k (by omega)
          rw [Bool.eq_false_iff, ne_eq, wrs_iff] at q
          rw [wrs_iff] at hw ⊢
          unfold Wors Ahead at *
          omega
      · rw [if_neg hw]
        refine ⟨by omega, fun k hk => ?_, h3⟩
        by_cases hk2 : k = n
        · rw [hk2]; simpa using hw
        · exact h2 k (by omega)
theorem isW_vict (l : List It) (h : 0 < l.length) : isWn l (vict l l.length) l.length = true ∧ ∀ i, i < vict l l.length → isWn l i l.length = false := by
  obtain ⟨h1, h2, h3⟩ := vict_worst l l.length h
  constructor
  · unfold isWn
    rw [List.all_eq_true]
    intro k hk
    rw [h2 k (List.mem_range.1 hk)]
    rfl
  · intro i hi
    unfold isWn
    rw [List.all_eq_false]
    exact ⟨vict l l.length, List.mem_range.2 h1, by rw [h3 i hi]; decide⟩
end Go.Proofs.Ytmanmebgmhpilaa
