/-
  Layer 12 (pile): the tree's order, in plain Lean: what rises and what sinks keeps it.
-/
import Derived.Test.YtmanmebgmhpilaaPile7
namespace Go.Proofs.Ytmanmebgmhpilaa
open Go.RowKit
set_option linter.unusedVariables false

theorem ahead_trans {a b c : It} (h : Ahead a b) (k : Ahead b c) : Ahead a c := by unfold Ahead at *; omega
theorem ahead_irrefl (a : It) : ¬ Ahead a a := by unfold Ahead; omega
/-- Not ahead: the order goes on. -/
def Le (a b : It) : Prop := ¬ Ahead b a
theorem le_refl (a : It) : Le a a := ahead_irrefl a
theorem le_trans {a b c : It} (h : Le a b) (k : Le b c) : Le a c := by unfold Le Ahead at *; omega
theorem le_of_ahead {a b : It} (h : Ahead a b) : Le a b := by unfold Le Ahead at *; omega
theorem befo_false {a b : It} : befo a b = false ↔ Le b a := by
  unfold Le
  rw [← befo_iff]
  cases befo a b <;> simp
abbrev par (k : Nat) : Nat := (k - 1) / 2
/-- A heap but at place h: whoever stands at h may be ahead of the one above; those below h stand behind the one above h. -/
structure UpHole (T : List It) (h : Nat) : Prop where
  a : ∀ k, 0 < k → k < T.length → k ≠ h → Le (nth T (par k)) (nth T k)
  b : ∀ k, 0 < k → k < T.length → par k = h → 0 < h → Le (nth T (par h)) (nth T k)
structure Heap (T : List It) : Prop where
  a : ∀ k, 0 < k → k < T.length → Le (nth T (par k)) (nth T k)
theorem Heap.min {T : List It} (h : Heap T) : ∀ k, k < T.length → Le (nth T 0) (nth T k) := by
  intro k
  induction k using Nat.strongRecOn with
  | ind k ih =>
    intro hk
    by_cases h0 : k = 0
    · subst h0; exact le_refl _
    · exact le_trans (ih (par k) (by unfold par; omega) (by unfold par; omega)) (h.a k (by omega) hk)
theorem upT_heap : ∀ (n : Nat) (T : List It) (k : Nat), k ≤ n → k < T.length → UpHole T k → Heap (upT T k) := by
  intro n
  induction n with
  | zero =>
    intro T k hn hk h
    obtain rfl : k = 0 := by omega
    rw [upT_stop (fun h => by omega)]
    exact ⟨fun j h0 hj => h.a j h0 hj (by omega)⟩
  | succ n ih =>
    intro T k hn hk h
    by_cases hb : 0 < k ∧ befo (nth T k) (nth T (par k)) = true
    · rw [upT_go hb.1 hb.2]
      have hq : par k < k := by unfold par; omega
      have hA : Ahead (nth T k) (nth T (par k)) := (befo_iff _ _).1 hb.2
      have hl := swapT_len T k (par k)
      have hv : ∀ j, j < T.length → nth (swapT T k (par k)) j = if par k = j then nth T k else if k = j then nth T (par k) else nth T j := fun j hj => nth_swapT hk (by omega) hj
      refine ih _ _ (by omega) (by rw [hl]; omega) ⟨fun j h0 hj hne => ?_, fun j h0 hj hp hq0 => ?_⟩
      · rw [hl] at hj
        have hj1 : nth (swapT T k (par k)) j = if k = j then nth T (par k) else nth T j := by rw [hv j hj, if_neg (fun e => hne e.symm)]
        have hj2 := hv (par j) (by unfold par; omega)
        rw [hj1, hj2]
        by_cases e1 : k = j
        · subst e1
          rw [if_pos rfl, if_pos rfl]
          exact le_of_ahead hA
        · rw [if_neg e1]
          by_cases e2 : par k = par j
          · rw [if_pos e2]
            exact le_trans (le_of_ahead hA) (by rw [e2]; exact h.a j h0 hj (fun e => e1 e.symm))
          · rw [if_neg e2]
            by_cases e3 : k = par j
            · rw [if_pos e3]
              exact h.b j h0 hj e3.symm hb.1
            · rw [if_neg e3]
              exact h.a j h0 hj (fun e => e1 e.symm)
      · rw [hl] at hj
        have hpp : par (par k) < par k := by unfold par at *; omega
        rw [hv j hj, hv (par (par k)) (by omega), if_neg (by omega), if_neg (by omega)]
        have hjq : par k ≠ j := by intro e; rw [← e] at hp; unfold par at *; omega
        rw [if_neg hjq]
        have hgp : Le (nth T (par (par k))) (nth T (par k)) := h.a (par k) hq0 (by omega) (by omega)
        by_cases e1 : k = j
        · rw [if_pos e1]
          exact hgp
        · rw [if_neg e1]
          have hp2 : par j = par k := hp
          exact le_trans hgp (by rw [← hp2]; exact h.a j h0 hj (fun e => e1 e.symm))
    · rw [upT_stop hb]
      refine ⟨fun j h0 hj => ?_⟩
      by_cases e : j = k
      · subst e
        have hf : befo (nth T j) (nth T (par j)) = false := by
          cases hh : befo (nth T j) (nth T (par j)) with
          | false => rfl
          | true => exact absurd ⟨h0, hh⟩ hb
        exact befo_false.1 hf
      · exact h.a j h0 hj e
/-- A heap but at place h: whoever stands at h may be behind those below it; those below h stand behind the one above h. -/
structure DownHole (T : List It) (h : Nat) : Prop where
  a : ∀ k, 0 < k → k < T.length → par k ≠ h → Le (nth T (par k)) (nth T k)
  b : ∀ k, 0 < k → k < T.length → par k = h → 0 < h → Le (nth T (par h)) (nth T k)
/-- The best of three. -/
theorem bestT_le {T : List It} {k : Nat} (hk : k < T.length) : Le (nth T (bestT T k)) (nth T k) ∧ ∀ j, 0 < j → j < T.length → par j = k → Le (nth T (bestT T k)) (nth T j) := by
  have step : ∀ (b c : Nat), Le (nth T (if befo (nth T c) (nth T b) = true then c else b)) (nth T b) ∧ Le (nth T (if befo (nth T c) (nth T b) = true then c else b)) (nth T c) := by
    intro b c
    split
    · next h => exact ⟨le_of_ahead ((befo_iff _ _).1 h), le_refl _⟩
    · next h =>
      refine ⟨le_refl _, befo_false.1 ?_⟩
      cases hh : befo (nth T c) (nth T b) with
      | false => rfl
      | true => exact absurd hh h
  unfold bestT
  by_cases h1 : 2 * k + 1 < T.length
  · rw [bestG_succ h1]
    obtain ⟨s1, s2⟩ := step k (2 * k + 1)
    generalize hb1 : (if befo (nth T (2 * k + 1)) (nth T k) = true then 2 * k + 1 else k) = b1 at *
    by_cases h2 : 2 * k + 1 + 1 < T.length
    · rw [bestG_succ h2]
      obtain ⟨t1, t2⟩ := step b1 (2 * k + 1 + 1)
      show Le (nth T (bestG T _ _ 0)) _ ∧ _
      unfold bestG
      refine ⟨le_trans t1 s1, fun j h0 hj hp => ?_⟩
      have : j = 2 * k + 1 ∨ j = 2 * k + 1 + 1 := by unfold par at hp; omega
      rcases this with rfl | rfl
      · exact le_trans t1 s2
      · exact t2
    · rw [bestG_end (.inr h2)]
      refine ⟨s1, fun j h0 hj hp => ?_⟩
      have : j = 2 * k + 1 := by unfold par at hp; omega
      subst this
      exact s2
  · rw [bestG_end (.inr h1)]
    exact ⟨le_refl _, fun j h0 hj hp => by unfold par at hp; omega⟩
theorem bestT_par {T : List It} {k : Nat} (hk : k < T.length) (h : bestT T k ≠ k) : par (bestT T k) = k := by
  have step : ∀ (b c : Nat), (if befo (nth T c) (nth T b) = true then c else b) = c ∨ (if befo (nth T c) (nth T b) = true then c else b) = b := by
    intro b c
    split
    · exact .inl rfl
    · exact .inr rfl
  have key : bestT T k = k ∨ bestT T k = 2 * k + 1 ∨ bestT T k = 2 * k + 2 := by
    unfold bestT
    by_cases h1 : 2 * k + 1 < T.length
    · rw [bestG_succ h1]
      have s1 := step k (2 * k + 1)
      generalize (if befo (nth T (2 * k + 1)) (nth T k) = true then 2 * k + 1 else k) = b1 at *
      by_cases h2 : 2 * k + 1 + 1 < T.length
      · rw [bestG_succ h2]
        have s2 := step b1 (2 * k + 1 + 1)
        unfold bestG
        omega
      · rw [bestG_end (.inr h2)]
        omega
    · rw [bestG_end (.inr h1)]
      exact .inl rfl
  unfold par
  omega
theorem downT_heap : ∀ (n : Nat) (T : List It) (k : Nat), T.length - k ≤ n → k < T.length → DownHole T k → Heap (downT T k) := by
  intro n
  induction n with
  | zero => intro T k hn hk h; omega
  | succ n ih =>
    intro T k hn hk h
    obtain ⟨m1, m2⟩ := bestT_le hk
    by_cases hb : bestT T k = k
    · rw [downT_stop hb]
      rw [hb] at m2
      refine ⟨fun j h0 hj => ?_⟩
      by_cases e : par j = k
      · have := m2 j h0 hj e
        rw [← e] at this
        exact this
      · exact h.a j h0 hj e
    · rw [downT_go hk hb]
      have hpb := bestT_par hk hb
      have hrng := bestT_rng hk
      generalize bestT T k = b at *
      have hkb : k < b := by omega
      have hl := swapT_len T k b
      have hv : ∀ j, j < T.length → nth (swapT T k b) j = if b = j then nth T k else if k = j then nth T b else nth T j := fun j hj => nth_swapT hk hrng.1 hj
      refine ih _ _ (by rw [hl]; omega) (by rw [hl]; exact hrng.1) ⟨fun j h0 hj hne => ?_, fun j h0 hj hp hb0 => ?_⟩
      · rw [hl] at hj
        have hj1 := hv j hj
        have hj2 := hv (par j) (by unfold par; omega)
        rw [hj1, hj2, if_neg (fun e => hne e.symm)]
        by_cases e1 : b = j
        · subst e1
          rw [if_pos rfl, if_pos hpb.symm]
          exact m1
        · rw [if_neg e1]
          by_cases e2 : k = j
          · subst e2
            rw [if_pos rfl, if_neg (by unfold par; omega)]
            exact h.b b (by omega) hrng.1 hpb h0
          · rw [if_neg e2]
            by_cases e3 : k = par j
            · rw [if_pos e3]
              exact m2 j h0 hj e3.symm
            · rw [if_neg e3]
              exact h.a j h0 hj (fun e => e3 e.symm)
      · rw [hl] at hj
        have hj1 := hv j hj
        have hj2 := hv (par b) (by unfold par; omega)
        have hbj : b < j := by unfold par at hp; omega
        rw [hj1, hj2, hpb, if_neg (by omega), if_pos rfl, if_neg (by omega), if_neg (by omega)]
        have := h.a j h0 hj (by rw [hp]; omega)
        rw [hp] at this
        exact this
theorem downT_perm : ∀ (n : Nat) (T : List It) (k : Nat), T.length - k ≤ n → k < T.length → (downT T k).Perm T := by
  intro n
  induction n with
  | zero => intro T k hn hk; omega
  | succ n ih =>
    intro T k hn hk
    by_cases hb : bestT T k = k
    · rw [downT_stop hb]
    · rw [downT_go hk hb]
      have hrng := bestT_rng hk
      exact (ih _ _ (by rw [swapT_len]; omega) (by rw [swapT_len]; exact hrng.1)).trans (swapT_perm hk hrng.1)
/-- One more is put there. -/
theorem push_heap {T : List It} (h : Heap T) (x : It) : Heap (upT (T ++ [x]) T.length) := by
  refine upT_heap T.length _ _ (Nat.le_refl _) (by simp) ⟨fun k h0 hk hne => ?_, fun k h0 hk hp hq => ?_⟩
  · rw [List.length_append, List.length_singleton] at hk
    rw [nth_app_old (by unfold par; omega), nth_app_old (by omega)]
    exact h.a k h0 (by omega)
  · rw [List.length_append, List.length_singleton] at hk
    unfold par at hp
    omega
theorem nth_cutT {T : List It} {k L j : Nat} (hL : T.length = L + 1) (hk : k < T.length) (hj : j < L) : nth (cutT T k L) j = if k = j then nth T L else nth T j := by
  have h1 : nth (cutT T k L) j = nth (swapT T k L) j := nth_take _ _ _ hj
  rw [h1, nth_swapT hk (by omega) (by omega), if_neg (by omega)]
theorem heap_best {T : List It} (h : Heap T) (k : Nat) : bestT T k = k := by
  have key : ∀ c, k < c → par c = k → c < T.length → befo (nth T c) (nth T k) = false := fun c hc hp hl => befo_false.2 (by have := h.a c (by omega) hl; rw [hp] at this; exact this)
  unfold bestT
  by_cases h1 : 2 * k + 1 < T.length
  · rw [bestG_succ h1, key _ (by omega) (by unfold par; omega) h1, if_neg (by decide)]
    by_cases h2 : 2 * k + 1 + 1 < T.length
    · rw [bestG_succ h2, key _ (by omega) (by unfold par; omega) h2, if_neg (by decide)]
      rfl
    · rw [bestG_end (.inr h2)]
  · rw [bestG_end (.inr h1)]
/-- One goes. -/
theorem out_heap {T : List It} (h : Heap T) {k : Nat} (hk : k < T.length) : Heap (outT T k) := by
  obtain ⟨L, hL⟩ : ∃ L, T.length = L + 1 := ⟨T.length - 1, by omega⟩
  have hc : ∀ j, j < L → nth (cutT T k L) j = if k = j then nth T L else nth T j := fun j hj => nth_cutT hL hk hj
  have hl : (cutT T k L).length = L := cutT_len hL
  unfold outT
  rw [show T.length - 1 = L by omega]
  by_cases hkl : k < L
  · rw [if_pos hkl]
    by_cases hb : 0 < k ∧ befo (nth (cutT T k L) k) (nth (cutT T k L) (par k)) = true
    · have hA := (befo_iff _ _).1 hb.2
      rw [hc k hkl, if_pos rfl, hc (par k) (by unfold par; omega), if_neg (by unfold par; omega)] at hA
      have hpk := h.a k hb.1 hk
      have hU : Heap (upT (cutT T k L) k) := by
        refine upT_heap k _ _ (Nat.le_refl _) (by rw [hl]; exact hkl) ⟨fun j h0 hj hne => ?_, fun j h0 hj hp hq => ?_⟩
        · rw [hl] at hj
          have hj1 : nth (cutT T k L) j = nth T j := by rw [hc j hj, if_neg (fun e => hne e.symm)]
          have hj2 := hc (par j) (by unfold par; omega)
          rw [hj1, hj2]
          by_cases e : k = par j
          · rw [if_pos e]
            have h1 := h.a j h0 (by omega)
            rw [← e] at h1
            exact le_trans (le_of_ahead hA) (le_trans hpk h1)
          · rw [if_neg e]
            exact h.a j h0 (by omega)
        · rw [hl] at hj
          have hjk : k < j := by unfold par at hp; omega
          have hj1 : nth (cutT T k L) j = nth T j := by rw [hc j hj, if_neg (by omega)]
          have hj2 : nth (cutT T k L) (par k) = nth T (par k) := by rw [hc (par k) (by unfold par; omega), if_neg (by unfold par; omega)]
          rw [hj1, hj2]
          have h1 := h.a j h0 (by omega)
          rw [hp] at h1
          exact le_trans hpk h1
      rw [downT_stop (heap_best hU k)]
      exact hU
    · rw [upT_stop hb]
      refine downT_heap _ _ _ (Nat.le_refl _) (by rw [hl]; exact hkl) ⟨fun j h0 hj hne => ?_, fun j h0 hj hp hq => ?_⟩
      · rw [hl] at hj
        by_cases e : j = k
        · subst e
          have hf : befo (nth (cutT T j L) j) (nth (cutT T j L) (par j)) = false := by
            cases hh : befo (nth (cutT T j L) j) (nth (cutT T j L) (par j)) with
            | false => rfl
            | true => exact absurd ⟨h0, hh⟩ hb
          exact befo_false.1 hf
        · have hj1 : nth (cutT T k L) j = nth T j := by rw [hc j hj, if_neg (fun e2 => e e2.symm)]
          have hj2 : nth (cutT T k L) (par j) = nth T (par j) := by rw [hc (par j) (by unfold par; omega), if_neg (fun e2 => hne e2.symm)]
          rw [hj1, hj2]
          exact h.a j h0 (by omega)
      · rw [hl] at hj
        have hjk : k < j := by unfold par at hp; omega
        have hj1 : nth (cutT T k L) j = nth T j := by rw [hc j hj, if_neg (by omega)]
        have hj2 : nth (cutT T k L) (par k) = nth T (par k) := by rw [hc (par k) (by unfold par; omega), if_neg (by unfold par; omega)]
        rw [hj1, hj2]
        have h1 := h.a j h0 (by omega)
        rw [hp] at h1
        exact le_trans (h.a k hq hk) h1
  · rw [if_neg hkl]
    obtain rfl : k = L := by omega
    refine ⟨fun j h0 hj => ?_⟩
    rw [hl] at hj
    have hj1 : nth (cutT T k k) j = nth T j := by rw [hc j hj, if_neg (by omega)]
    have hj2 : nth (cutT T k k) (par j) = nth T (par j) := by rw [hc (par j) (by unfold par; omega), if_neg (by unfold par; omega)]
    rw [hj1, hj2]
    exact h.a j h0 (by omega)
theorem out_perm {T : List It} {k : Nat} (hk : k < T.length) : (outT T k ++ [nth T k]).Perm T := by
  obtain ⟨L, hL⟩ : ∃ L, T.length = L + 1 := ⟨T.length - 1, by omega⟩
  have hl : (cutT T k L).length = L := cutT_len hL
  have h1 : (cutT T k L ++ [nth T k]).Perm T := by rw [← swapT_end hL hk]; exact swapT_perm hk (by omega)
  unfold outT
  rw [show T.length - 1 = L by omega]
  split
  · next hkl =>
    have hu := upT_perm k (cutT T k L) k (Nat.le_refl _) (by rw [hl]; exact hkl)
    have hd := downT_perm _ (upT (cutT T k L) k) k (Nat.le_refl _) (by rw [hu.length_eq, hl]; exact hkl)
    exact ((hd.trans hu).append_right _).trans h1
  · exact h1
theorem out_len {T : List It} {k : Nat} (hk : k < T.length) : (outT T k).length + 1 = T.length := by
  have := (out_perm hk).length_eq
  simpa using this
end Go.Proofs.Ytmanmebgmhpilaa
