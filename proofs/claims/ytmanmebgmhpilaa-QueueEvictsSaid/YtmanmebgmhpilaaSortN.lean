/-
  What the stable sort of Go's library comes to, in plain Lean: block by block, and the whole.
-/
import Derived.Test.YtmanmebgmhpilaaSortM
namespace Go.Proofs.Ytmanmebgmhpilaa
open Go.Sort
set_option linter.unusedVariables false
variable {α : Type} [Inhabited α] {lt : α → α → Bool}

theorem sorted_sub {a b a' b' : Nat} {d : Array α} (h : SortedIn lt a b d) (h1 : a ≤ a') (h2 : b' ≤ b) : SortedIn lt a' b' d := fun i j k1 k2 k3 => h i j (by omega) k2 (by omega)
theorem sorted_same {a b : Nat} {d d' : Array α} (h : SortedIn lt a b d) (he : ∀ i, a ≤ i → i < b → d'[i]! = d[i]!) : SortedIn lt a b d' := fun i j k1 k2 k3 => by rw [he i k1 (by omega), he j (by omega) k3]; exact h i j k1 k2 k3
theorem sorted_void {a b : Nat} {d : Array α} (h : b ≤ a + 1) : SortedIn lt a b d := fun i j k1 k2 k3 => by omega

theorem insB_ok (hS : SWO lt) (n : Nat) : ∀ (f q a : Nat) (d : Array α), a = q * 20 → a ≤ n → n - a + 1 ≤ f → n ≤ d.size → (∀ t, t < q → SortedIn lt (t * 20) (t * 20 + 20) d) →
    SegSt lt 0 n d (insB lt n f a d) ∧ ∀ t, SortedIn lt (t * 20) (min (t * 20 + 20) n) (insB lt n f a d) := by
  intro f
  induction f with
  | zero => intro q a d h1 h2 h3; omega
  | succ f ih =>
    intro q a d ha han hf hn hL
    by_cases hlt : a + 20 ≤ n
    · rw [insB_go _ _ _ _ _ hlt]
      have sg := segst_ins hS d a (a + 20) (by omega)
      have so := sorted_ins hS d a (a + 20) (by omega) (by omega)
      obtain ⟨r1, r2⟩ := ih (q + 1) (a + 20) (Sort.insertionSort lt d a (a + 20)) (by omega) hlt (by omega) (by rw [sg.size]; exact hn) (fun t ht => by
        by_cases hq : t = q
        · subst hq; rw [← ha]; exact so
        · exact sorted_same (hL t (by omega)) fun i h1 h2 => sg.out i (by omega))
      exact ⟨(sg.mono (Nat.zero_le _) (by omega) hlt).trans r1, r2⟩
    · rw [insB_end _ _ _ _ _ hlt]
      have sg := segst_ins hS d a n hn
      have so := sorted_ins hS d a n han hn
      refine ⟨sg.mono (Nat.zero_le _) han (Nat.le_refl _), fun t => ?_⟩
      rcases Nat.lt_trichotomy t q with h | h | h
      · exact sorted_sub (sorted_same (hL t h) fun i h1 h2 => sg.out i (by omega)) (Nat.le_refl _) (by omega)
      · subst h; exact sorted_sub so (by omega) (by omega)
      · exact sorted_void (by omega)

theorem rowM_ok (hS : SWO lt) (n s : Nat) (hs : 0 < s) : ∀ (f q a : Nat) (d : Array α), a = q * (2 * s) → a ≤ n → n - a ≤ f → 0 < f → n ≤ d.size → (∀ t, t < q → SortedIn lt (t * (2 * s)) (t * (2 * s) + 2 * s) d) →
    (∀ t, SortedIn lt (a + t * s) (min (a + t * s + s) n) d) →
    SegSt lt 0 n d (rowM lt n s f a d) ∧ ∀ t, SortedIn lt (t * (2 * s)) (min (t * (2 * s) + 2 * s) n) (rowM lt n s f a d) := by
  intro f
  induction f with
  | zero => intro q a d h1 h2 h3 h4; omega
  | succ f ih =>
    intro q a d ha han hf hf0 hn hL hR
    have r0 := hR 0
    have r1 := hR 1
    rw [Nat.zero_mul, Nat.add_zero] at r0
    rw [Nat.one_mul] at r1
    have last : ∀ d' : Array α, SegSt lt a n d d' → SortedIn lt a n d' → ¬ a + 2 * s ≤ n → ∀ t, SortedIn lt (t * (2 * s)) (min (t * (2 * s) + 2 * s) n) d' := by
      intro d' sg so hlt t
      rcases Nat.lt_trichotomy t q with h | h | h
      · have : t * (2 * s) + 2 * s ≤ a := by
          have := Nat.mul_le_mul_right (2 * s) (show t + 1 ≤ q from h)
          rw [Nat.add_mul, Nat.one_mul] at this
          omega
        exact sorted_sub (sorted_same (hL t h) fun i h1 h2 => sg.out i (by omega)) (Nat.le_refl _) (by omega)
      · subst h; exact sorted_sub so (by omega) (by omega)
      · have : a + 2 * s ≤ t * (2 * s) := by
          have := Nat.mul_le_mul_right (2 * s) (show q + 1 ≤ t from h)
          rw [Nat.add_mul, Nat.one_mul] at this
          omega
        exact sorted_void (by omega)
    by_cases hlt : a + 2 * s ≤ n
    · rw [rowM_go _ _ _ _ _ _ hlt]
      obtain ⟨sg, so⟩ := symM_ok hS (2 * s) d a (a + s) (a + 2 * s) (by omega) (by omega) (by omega) (by omega) (sorted_sub r0 (by omega) (by omega)) (sorted_sub r1 (by omega) (by omega))
      obtain ⟨r1, r2⟩ := ih (q + 1) (a + 2 * s) _ (by rw [Nat.add_mul, Nat.one_mul]; omega) hlt (by omega) (by omega) (by rw [sg.size]; exact hn) (fun t ht => by
        by_cases hq : t = q
        · subst hq; rw [← ha]; exact so
        · have : t * (2 * s) + 2 * s ≤ a := by
            have := Nat.mul_le_mul_right (2 * s) (show t + 1 ≤ q by omega)
            rw [Nat.add_mul, Nat.one_mul] at this
            omega
          exact sorted_same (hL t (by omega)) fun i h1 h2 => sg.out i (by omega)) (fun t => by
        have := hR (t + 2)
        rw [show a + (t + 2) * s = a + 2 * s + t * s by rw [Nat.add_mul]; omega] at this
        exact sorted_same this fun i h1 h2 => sg.out i (by omega))
      exact ⟨(sg.mono (Nat.zero_le _) (by omega) hlt).trans r1, r2⟩
    · by_cases hlt2 : a + s < n
      · rw [rowM_last _ _ _ _ _ _ hlt hlt2]
        obtain ⟨sg, so⟩ := symM_ok hS (n - a) d a (a + s) n (by omega) (by omega) (by omega) (Nat.le_refl _) (sorted_sub r0 (by omega) (by omega)) (sorted_sub r1 (by omega) (by omega))
        exact ⟨sg.mono (Nat.zero_le _) han (Nat.le_refl _), last _ sg so hlt⟩
      · rw [rowM_end _ _ _ _ _ _ hlt hlt2]
        exact ⟨SegSt.refl _ _ _, last _ (SegSt.refl _ _ _) (sorted_sub r0 (by omega) (by omega)) hlt⟩

theorem allM_ok (hS : SWO lt) (n : Nat) : ∀ (f s : Nat) (d : Array α), 0 < s → n - s ≤ f → n ≤ d.size → (∀ t, SortedIn lt (t * s) (min (t * s + s) n) d) → SegSt lt 0 n d (allM lt n f s d) ∧ SortedIn lt 0 n (allM lt n f s d) := by
  intro f
  induction f with
  | zero =>
    intro s d hs hf hn hB
    have := hB 0
    rw [Nat.zero_mul, Nat.zero_add] at this
    exact ⟨SegSt.refl _ _ _, sorted_sub this (Nat.le_refl _) (by omega)⟩
  | succ f ih =>
    intro s d hs hf hn hB
    by_cases hlt : s < n
    · rw [allM_go _ _ _ _ _ hlt]
      obtain ⟨r1, r2⟩ := rowM_ok hS n s hs n 0 0 d (by omega) (Nat.zero_le _) (by omega) (by omega) hn (fun t ht => by omega) (fun t => by have := hB t; rwa [Nat.zero_add])
      obtain ⟨r3, r4⟩ := ih (2 * s) _ (by omega) (by omega) (by rw [r1.size]; exact hn) r2
      exact ⟨r1.trans r3, r4⟩
    · rw [allM_end _ _ _ _ _ hlt]
      have := hB 0
      rw [Nat.zero_mul, Nat.zero_add] at this
      exact ⟨SegSt.refl _ _ _, sorted_sub this (Nat.le_refl _) (by omega)⟩

/-- What slices.SortStableFunc makes of a row. -/
def stableA (lt : α → α → Bool) (d : Array α) : Array α := allM lt d.size d.size 20 (insB lt d.size (d.size + 1) 0 d)
theorem stableA_ok (hS : SWO lt) (d : Array α) : SegSt lt 0 d.size d (stableA lt d) ∧ SortedIn lt 0 d.size (stableA lt d) := by
  obtain ⟨r1, r2⟩ := insB_ok hS d.size (d.size + 1) 0 0 d (by omega) (Nat.zero_le _) (by omega) (Nat.le_refl _) (fun t ht => by omega)
  obtain ⟨r3, r4⟩ := allM_ok hS d.size d.size 20 _ (by omega) (by omega) (by rw [r1.size]; exact Nat.le_refl _) r2
  exact ⟨r1.trans r3, r4⟩

/-! ### As lists -/
/-- No later one is less than an earlier one. -/
def SortedL (lt : α → α → Bool) (l : List α) : Prop := l.Pairwise fun x y => lt y x = false
/-- They hold the same, those that are alike in their order. -/
def SameL (lt : α → α → Bool) (l l' : List α) : Prop := ∀ x, l'.filter (eqv lt x) = l.filter (eqv lt x)
theorem stableA_list (hS : SWO lt) (d : Array α) : SameL lt d.toList (stableA lt d).toList ∧ SortedL lt (stableA lt d).toList := by
  obtain ⟨h1, h2⟩ := stableA_ok hS d
  constructor
  · intro x
    have := h1.st x
    rw [Nat.sub_zero, seg_all, ← h1.size, seg_all] at this
    exact this
  · refine List.pairwise_iff_getElem.2 fun i j hi hj hij => ?_
    have hi' : i < (stableA lt d).size := by simpa using hi
    have hj' : j < (stableA lt d).size := by simpa using hj
    have := h2 i j (Nat.zero_le _) hij (by rw [← h1.size]; exact hj')
    rw [getElem!_pos _ i hi', getElem!_pos _ j hj'] at this
    simpa using this

theorem SameL.mem {β : Type} {lt : β → β → Bool} (hS : SWO lt) {l l' : List β} (h : SameL lt l l') (x : β) (hx : x ∈ l') : x ∈ l := by
  have : x ∈ l'.filter (eqv lt x) := List.mem_filter.2 ⟨hx, eqv_self hS x⟩
  rw [h x] at this
  exact (List.mem_filter.1 this).1
theorem SameL.symm {β : Type} {lt : β → β → Bool} {l l' : List β} (h : SameL lt l l') : SameL lt l' l := fun x => (h x).symm
theorem SameL.trans {β : Type} {lt : β → β → Bool} {l l' l'' : List β} (h : SameL lt l l') (k : SameL lt l' l'') : SameL lt l l'' := fun x => (k x).trans (h x)
/-- There is one sorted list only. -/
theorem sorted_one {β : Type} {lt : β → β → Bool} (hS : SWO lt) : ∀ (l l' : List β), SortedL lt l → SortedL lt l' → SameL lt l l' → l = l' := by
  intro l
  induction l with
  | nil =>
    intro l' _ _ h
    cases l' with
    | nil => rfl
    | cons y t => exact absurd (h.mem hS y (List.mem_cons_self ..)) (by simp)
  | cons x t ih =>
    intro l' h1 h2 h
    cases l' with
    | nil => exact absurd (h.symm.mem hS x (List.mem_cons_self ..)) (by simp)
    | cons y t' =>
      have q1 := List.pairwise_cons.1 h1
      have q2 := List.pairwise_cons.1 h2
      have a1 : lt x y = false := by
        rcases List.mem_cons.1 (h.symm.mem hS x (List.mem_cons_self ..)) with e | hm
        · rw [e]; exact hS.irrefl _
        · exact q2.1 x hm
      have a2 : lt y x = false := by
        rcases List.mem_cons.1 (h.mem hS y (List.mem_cons_self ..)) with e | hm
        · rw [e]; exact hS.irrefl _
        · exact q1.1 y hm
      have hxy : x = y := by
        have := h x
        rw [List.filter_cons, List.filter_cons, if_pos (eqv_self hS x), if_pos (by simp [eqv, a1, a2])] at this
        exact (List.cons.inj this).1.symm
      subst hxy
      congr 1
      refine ih t' q1.2 q2.2 fun z => ?_
      have := h z
      rw [List.filter_cons, List.filter_cons] at this
      split at this
      · exact (List.cons.inj this).2
      · exact this
end Go.Proofs.Ytmanmebgmhpilaa
