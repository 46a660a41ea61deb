/-
  Layer 6 (words): words come back from their line, and lines from their text. Plain Lean.
-/
import Derived.Test.YtgkmmoiniidhlaaWords8
namespace Go.Proofs.Ytgkmmoiniidhlaa
open Go.RowKit
set_option linter.unusedVariables false
set_option linter.unusedSimpArgs false

theorem sbyte_list (s : ByteArray) (i : Nat) (h : i < s.size) : (s.data.toList.getD i 0).toNat = sbyte s i := by
  rw [List.getD_eq_getElem?_getD, at_list s i h, Option.getD_some, sbyte_at]
theorem sbyte_left (a b : ByteArray) (i : Nat) (h : i < a.size) : sbyte (a ++ b) i = sbyte a i := by
  have h2 : i < (a ++ b).size := by rw [ByteArray.size_append]; omega
  rw [← sbyte_list _ _ h, ← sbyte_list _ _ h2, append_list, List.getD_eq_getElem?_getD, List.getD_eq_getElem?_getD, List.getElem?_append_left (by rw [size_list]; exact h)]
theorem sbyte_right (a b : ByteArray) (i : Nat) (h : i < b.size) : sbyte (a ++ b) (a.size + i) = sbyte b i := by
  have h2 : a.size + i < (a ++ b).size := by rw [ByteArray.size_append]; omega
  rw [← sbyte_list _ _ h, ← sbyte_list _ _ h2, append_list, List.getD_eq_getElem?_getD, List.getD_eq_getElem?_getD, List.getElem?_append_right (by rw [size_list]; omega), size_list, Nat.add_sub_cancel_left]
theorem extract_left (a b : ByteArray) (i j : Nat) (h : j ≤ a.size) : (a ++ b).extract i j = a.extract i j := by
  apply ext_eq
  rw [extract_list, extract_list, append_list]
  by_cases hi : i ≤ a.size
  · rw [List.drop_append_of_le_length (by rw [size_list]; exact hi), List.take_append_of_le_length (by rw [List.length_drop, size_list]; omega)]
  · have e : j - i = 0 := by omega
    rw [e, List.take_zero, List.take_zero]
theorem extract_right (a b : ByteArray) : (a ++ b).extract a.size (a.size + b.size) = b := by
  apply ext_eq
  rw [extract_list, append_list, List.drop_append_of_le_length (by rw [size_list]; exact Nat.le_refl _), List.drop_of_length_le (by rw [size_list]; exact Nat.le_refl _), List.nil_append]
  exact List.take_of_length_le (by rw [size_list]; omega)
theorem parts_left (p : Nat → Bool) (a b : ByteArray) : ∀ n, n ≤ a.size → parts p (a ++ b) n = parts p a n
  | 0, _ => rfl
  | n + 1, h => by
    have ih := parts_left p a b n (by omega)
    rw [parts, parts, ih, sbyte_left a b n (by omega), extract_left a b _ _ (by omega)]

/-! ### Lines -/
/-- The text of lines. -/
def textOf (l : List ByteArray) : ByteArray := l.foldl (fun t x => t ++ x ++ ⟨#[10]⟩) ⟨#[]⟩
theorem textOf_snoc (l : List ByteArray) (x : ByteArray) : textOf (l ++ [x]) = textOf l ++ x ++ ⟨#[10]⟩ := by
  unfold textOf
  rw [List.foldl_append]
  rfl
/-- Every byte is of the kind. -/
def allB (q : Nat → Bool) (x : ByteArray) : Bool := decide (firstAt (fun b => !q b) x = x.size)
theorem allB_at {q : Nat → Bool} {x : ByteArray} (h : allB q x = true) (i : Nat) (hi : i < x.size) : q (sbyte x i) = true := by
  unfold allB at h
  have h1 : firstAt (fun b => !q b) x = x.size := by simpa using h
  have := first_no (fun b => !q b) x i (by omega)
  simpa using this
theorem text_parts (l : List ByteArray) (h : ∀ x, x ∈ l → ∀ i, i < x.size → isFeed (sbyte x i) = false) : parts isFeed (textOf l) (textOf l).size = (l, (textOf l).size) := by
  have key : ∀ k, k ≤ l.length → parts isFeed (textOf (l.take k)) (textOf (l.take k)).size = (l.take k, (textOf (l.take k)).size) := by
    intro k
    induction k with
    | zero => intro _; rfl
    | succ k ih =>
      intro hk
      have ih := ih (by omega)
      have hx := h _ (nth_mem' l k (by omega))
      rw [take_nth l k (by omega), textOf_snoc]
      generalize textOf (l.take k) = t at *
      generalize nth l k = x at *
      generalize l.take k = m at *
      have e1 : parts isFeed (t ++ x ++ ⟨#[10]⟩) t.size = (m, t.size) := by
        rw [ByteArray.append_assoc, parts_left isFeed t _ t.size (Nat.le_refl _), ih]
      have e2 : parts isFeed (t ++ x ++ ⟨#[10]⟩) (t.size + x.size) = (m, t.size) := by
        rw [parts_skip x.size (fun j hj => ?_), e1]
        rw [sbyte_left (t ++ x) _ _ (by rw [ByteArray.size_append]; omega), sbyte_right t x j hj]
        exact hx j hj
      have e3 : (t ++ x ++ ⟨#[10]⟩).size = t.size + x.size + 1 := by
        rw [ByteArray.size_append, ByteArray.size_append]; rfl
      have e4 : sbyte (t ++ x ++ ⟨#[10]⟩) (t.size + x.size) = 10 := by
        have := sbyte_right (t ++ x) ⟨#[10]⟩ 0 (by decide)
        rw [ByteArray.size_append, Nat.add_zero] at this
        rw [this]
        rfl
      rw [e3, parts_yes (by rw [e4]; rfl), e2]
      dsimp only
      congr 3
      rw [extract_left (t ++ x) _ _ _ (by rw [ByteArray.size_append]; omega), extract_right]
  have := key l.length (Nat.le_refl _)
  rwa [List.take_of_length_le (Nat.le_refl _)] at this
theorem lines_text (l : List ByteArray) (h : ∀ x, x ∈ l → ∀ i, i < x.size → isFeed (sbyte x i) = false) : linesOf (textOf l) = l := by
  unfold linesOf
  rw [text_parts l h]
  simp

/-! ### Words -/
theorem jn_parts (l : List ByteArray) (hne : l ≠ []) (h : ∀ x, x ∈ l → ∀ i, i < x.size → isGap (sbyte x i) = false ∧ eqB 35 (sbyte x i) = false) :
    (parts isGap (jn l) (jn l).size).1 ++ [(jn l).extract (parts isGap (jn l) (jn l).size).2 (jn l).size] = l ∧ ∀ i, i < (jn l).size → eqB 35 (sbyte (jn l) i) = false := by
  have key : ∀ k, k < l.length → (parts isGap (jn (l.take (k + 1))) (jn (l.take (k + 1))).size).1 ++ [(jn (l.take (k + 1))).extract (parts isGap (jn (l.take (k + 1))) (jn (l.take (k + 1))).size).2 (jn (l.take (k + 1))).size] = l.take (k + 1) ∧ ∀ i, i < (jn (l.take (k + 1))).size → eqB 35 (sbyte (jn (l.take (k + 1))) i) = false := by
    intro k
    induction k with
    | zero =>
      intro hk
      have hx := h _ (nth_mem' l 0 hk)
      rw [take_nth l 0 hk, jn_snoc, List.take_zero, if_pos rfl, List.nil_append]
      generalize nth l 0 = x at *
      have e : parts isGap x x.size = ([], 0) := by
        have := parts_skip (p := isGap) (s := x) (i := 0) x.size (fun j hj => by rw [Nat.zero_add]; exact (hx j hj).1)
        rw [Nat.zero_add] at this
        rw [this]
        rfl
      rw [e]
      exact ⟨by rw [List.nil_append, extract_all x _ (Nat.le_refl _)], fun i hi => (hx i hi).2⟩
    | succ k ih =>
      intro hk
      obtain ⟨ih1, ih2⟩ := ih (by omega)
      have hx := h _ (nth_mem' l (k + 1) hk)
      rw [take_nth l (k + 1) hk, jn_snoc, if_neg (by intro h0; have := congrArg List.length h0; rw [List.length_take, List.length_nil] at this; omega)]
      generalize jn (l.take (k + 1)) = t at *
      generalize nth l (k + 1) = x at *
      generalize l.take (k + 1) = m at *
      have e3 : (t ++ ⟨#[32]⟩ ++ x).size = t.size + 1 + x.size := by
        rw [ByteArray.size_append, ByteArray.size_append]; rfl
      have e3' : (t ++ ⟨#[32]⟩).size = t.size + 1 := by rw [ByteArray.size_append]; rfl
      have e4 : sbyte (t ++ ⟨#[32]⟩ ++ x) t.size = 32 := by
        rw [sbyte_left (t ++ ⟨#[32]⟩) x _ (by omega)]
        exact sbyte_right t ⟨#[32]⟩ 0 (by decide)
      have e5 : ∀ j, j < x.size → sbyte (t ++ ⟨#[32]⟩ ++ x) (t.size + 1 + j) = sbyte x j := by
        intro j hj
        have := sbyte_right (t ++ ⟨#[32]⟩) x j hj
        rwa [e3'] at this
      have e1 : parts isGap (t ++ ⟨#[32]⟩ ++ x) t.size = parts isGap t t.size := by
        rw [ByteArray.append_assoc, parts_left isGap t _ t.size (Nat.le_refl _)]
      have e2 : parts isGap (t ++ ⟨#[32]⟩ ++ x) (t.size + 1) = (m, t.size + 1) := by
        rw [parts_yes (by rw [e4]; rfl), e1]
        congr 1
        rw [ByteArray.append_assoc, extract_left t _ _ _ (Nat.le_refl _)]
        exact ih1
      have e6 : parts isGap (t ++ ⟨#[32]⟩ ++ x) (t.size + 1 + x.size) = (m, t.size + 1) := by
        rw [parts_skip x.size (fun j hj => by rw [e5 j hj]; exact (hx j hj).1), e2]
      rw [e3, e6]
      refine ⟨?_, fun i hi => ?_⟩
      · dsimp only
        have := extract_right (t ++ ⟨#[32]⟩) x
        rw [e3'] at this
        rw [this]
      · by_cases h1 : i < t.size
        · rw [ByteArray.append_assoc, sbyte_left t _ i h1]
          exact ih2 i h1
        · by_cases h2 : i = t.size
          · rw [h2, e4]; rfl
          · obtain ⟨d, rfl⟩ : ∃ d, i = t.size + 1 + d := ⟨i - (t.size + 1), by omega⟩
            rw [e5 d (by omega)]
            exact (hx d (by omega)).2
  have hl : 0 < l.length := List.length_pos_iff.2 hne
  have := key (l.length - 1) (by omega)
  rwa [Nat.sub_add_cancel hl, List.take_of_length_le (Nat.le_refl _)] at this
theorem words_back (l : List ByteArray) (h0 : ∀ x, x ∈ l → ¬ x.size = 0) (h : ∀ x, x ∈ l → ∀ i, i < x.size → isGap (sbyte x i) = false ∧ eqB 35 (sbyte x i) = false) : wordsOf (jn l) = l := by
  by_cases hne : l = []
  · subst hne
    rfl
  · obtain ⟨h1, h2⟩ := jn_parts l hne h
    unfold wordsOf partsOf
    rw [first_none _ _ h2, h1]
    exact List.filter_eq_self.2 fun x hx => by simp [some?, h0 x hx]
end Go.Proofs.Ytgkmmoiniidhlaa
