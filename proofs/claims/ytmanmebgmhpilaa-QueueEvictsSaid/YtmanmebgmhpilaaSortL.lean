/-
  What the stable sort of Go's library comes to, in plain Lean: a permutation that leaves those that are alike in their order, and no later one goes ahead of an earlier one.
-/
import Derived.Test.YtmanmebgmhpilaaSortZ
namespace Go.Proofs.Ytmanmebgmhpilaa
open Go.Sort
set_option linter.unusedVariables false
section
variable {α : Type} {lt : α → α → Bool}
def eqv (lt : α → α → Bool) (x y : α) : Bool := !lt x y && !lt y x
theorem eqv_self (hS : SWO lt) (x : α) : eqv lt x x = true := by simp [eqv, hS.irrefl]
theorem lt_asym (hS : SWO lt) {x y : α} (h : lt x y = true) : lt y x = false := by
  cases h2 : lt y x with
  | false => rfl
  | true => have := hS.trans x y x h h2; rw [hS.irrefl] at this; cases this
theorem le_lt (hS : SWO lt) {x y z : α} (h : lt y x = false) (k : lt y z = true) : lt x z = true := by
  cases h2 : lt x z with
  | true => rfl
  | false => have := hS.ntrans y x z h h2; rw [k] at this; cases this
theorem lt_le (hS : SWO lt) {x y z : α} (h : lt x y = true) (k : lt z y = false) : lt x z = true := by
  cases h2 : lt x z with
  | true => rfl
  | false => have := hS.ntrans x z y h2 k; rw [h] at this; cases this
theorem not_both (hS : SWO lt) {u v : α} (h : lt v u = true) (x : α) (h1 : eqv lt x u = true) (h2 : eqv lt x v = true) : False := by
  simp only [eqv, Bool.and_eq_true, Bool.not_eq_true'] at h1 h2
  have := hS.ntrans v x u h2.2 h1.1
  rw [h] at this; cases this
end
variable {α : Type} [Inhabited α] {lt : α → α → Bool}

/-- n places from a on. -/
def seg (d : Array α) (a n : Nat) : List α := (List.range n).map (fun i => d[a + i]!)
theorem seg_add (d : Array α) (a n m : Nat) : seg d a (n + m) = seg d a n ++ seg d (a + n) m := by
  unfold seg
  rw [List.range_add, List.map_append, List.map_map]
  congr 1
  apply List.map_congr_left
  intro i _
  simp [Nat.add_assoc]
theorem seg_congr {d d' : Array α} {a a' n : Nat} (h : ∀ i, i < n → d'[a' + i]! = d[a + i]!) : seg d' a' n = seg d a n := by
  unfold seg
  exact List.map_congr_left fun i hi => h i (List.mem_range.1 hi)
theorem seg_mem {d : Array α} {a n : Nat} {x : α} : x ∈ seg d a n ↔ ∃ i, i < n ∧ x = d[a + i]! := by
  unfold seg
  simp only [List.mem_map, List.mem_range]
  exact ⟨fun ⟨i, h, e⟩ => ⟨i, h, e.symm⟩, fun ⟨i, h, e⟩ => ⟨i, h, e.symm⟩⟩
theorem seg_len (d : Array α) (a n : Nat) : (seg d a n).length = n := by simp [seg]
theorem seg_all (d : Array α) : seg d 0 d.size = d.toList := by
  apply List.ext_getElem
  · simp [seg]
  · intro k h1 h2
    have hk : k < d.size := by simpa using h2
    simp [seg, getElem!_pos d k hk]
theorem at_eq (d : Array α) {i j : Nat} (h : i = j) : d[i]! = d[j]! := by rw [h]

/-- d' is d but for the places a .. b, which hold what they held, those that are alike in their order. -/
structure SegSt (lt : α → α → Bool) (a b : Nat) (d d' : Array α) : Prop where
  size : d'.size = d.size
  out : ∀ i, i < a ∨ b ≤ i → d'[i]! = d[i]!
  st : ∀ x, (seg d' a (b - a)).filter (eqv lt x) = (seg d a (b - a)).filter (eqv lt x)

theorem SegSt.refl (a b : Nat) (d : Array α) : SegSt lt a b d d := ⟨rfl, fun _ _ => rfl, fun _ => rfl⟩
theorem SegSt.trans {a b : Nat} {d d' d'' : Array α} (h : SegSt lt a b d d') (k : SegSt lt a b d' d'') : SegSt lt a b d d'' :=
  ⟨k.size.trans h.size, fun i hi => (k.out i hi).trans (h.out i hi), fun x => (k.st x).trans (h.st x)⟩
theorem SegSt.mono {a b a' b' : Nat} {d d' : Array α} (h : SegSt lt a b d d') (ha : a' ≤ a) (hab : a ≤ b) (hb : b ≤ b') : SegSt lt a' b' d d' := by
  refine ⟨h.size, fun i hi => h.out i (by omega), fun x => ?_⟩
  have e : ∀ e : Array α, seg e a' (b' - a') = seg e a' (a - a') ++ (seg e a (b - a) ++ seg e b (b' - b)) := fun e => by
    rw [show b' - a' = (a - a') + ((b - a) + (b' - b)) by omega, seg_add, show a' + (a - a') = a by omega, seg_add, show a + (b - a) = b by omega]
  rw [e, e, List.filter_append, List.filter_append, List.filter_append, List.filter_append, h.st x]
  rw [seg_congr (d := d) (d' := d') (a := a') (a' := a') (fun i hi => h.out _ (by omega)), seg_congr (d := d) (d' := d') (a := b) (a' := b) (fun i hi => h.out _ (by omega))]
theorem SegSt.pred (hS : SWO lt) {a b : Nat} {d d' : Array α} (h : SegSt lt a b d d') (p : α → Prop) (hp : ∀ i, a ≤ i → i < b → p d[i]!) (i : Nat) (h1 : a ≤ i) (h2 : i < b) : p d'[i]! := by
  have hm : d'[i]! ∈ (seg d' a (b - a)).filter (eqv lt d'[i]!) := List.mem_filter.2 ⟨seg_mem.2 ⟨i - a, by omega, at_eq _ (by omega)⟩, eqv_self hS _⟩
  rw [h.st] at hm
  obtain ⟨k, hk, e⟩ := seg_mem.1 (List.mem_filter.1 hm).1
  rw [e]
  exact hp _ (by omega) (by omega)


/-- Two neighbours change places, the later one less than the earlier one. -/
theorem segst_swap (hS : SWO lt) (d d' : Array α) (j : Nat) (hs : d'.size = d.size) (h1 : d'[j]! = d[j + 1]!) (h2 : d'[j + 1]! = d[j]!) (h3 : ∀ i, i ≠ j → i ≠ j + 1 → d'[i]! = d[i]!) (hl : lt d[j + 1]! d[j]! = true) :
    SegSt lt j (j + 2) d d' := by
  refine ⟨hs, fun i hi => h3 i (by omega) (by omega), fun x => ?_⟩
  rw [show j + 2 - j = 2 by omega]
  have e : ∀ e : Array α, seg e j 2 = [e[j]!, e[j + 1]!] := fun e => by simp [seg, List.range_succ]
  rw [e, e, h1, h2]
  have nb := not_both hS hl x
  cases ha : eqv lt x d[j]! <;> cases hb : eqv lt x d[j + 1]! <;> simp [ha, hb]
  exact absurd trivial (fun _ => nb ha hb)

theorem size_insInner (lt : α → α → Bool) (a : Nat) : ∀ (j : Nat) (d : Array α), (insInner lt a j d).size = d.size := by
  intro j
  induction j with
  | zero => intro d; rfl
  | succ j ih =>
    intro d
    rw [insInner]
    split
    · rw [ih, size_swp]
    · rfl
theorem segst_inner (hS : SWO lt) (a : Nat) : ∀ (j : Nat) (d : Array α), a ≤ j → j < d.size → SegSt lt a (j + 1) d (insInner lt a j d) := by
  intro j
  induction j with
  | zero => intro d _ _; exact SegSt.refl _ _ _
  | succ j ih =>
    intro d ha hj
    rw [insInner]
    split
    · rename_i hc
      simp only [Bool.and_eq_true, decide_eq_true_eq] at hc
      have h1 := segst_swap hS d (swp d (j + 1) j) j (size_swp _ _ _) (swp_right _ _ _ (by omega)) (swp_left _ _ _ hj (by omega)) (fun i h1 h2 => swp_other _ _ _ _ h2 h1) hc.2
      exact (h1.mono (by omega) (by omega) (by omega)).trans ((ih _ (by omega) (by rw [size_swp]; omega)).mono (Nat.le_refl _) (by omega) (by omega))
    · exact SegSt.refl _ _ _
theorem segst_outer (hS : SWO lt) (a b : Nat) : ∀ (n i : Nat) (d : Array α), b - i ≤ n → a ≤ i → b ≤ d.size → SegSt lt a b d (insOuter lt a b i d) := by
  intro n
  induction n with
  | zero =>
    intro i d hn hai hb
    rw [insOuter, if_neg (by omega)]
    exact SegSt.refl _ _ _
  | succ n ih =>
    intro i d hn hai hb
    rw [insOuter]
    split
    · rename_i hlt
      exact ((segst_inner hS a i d hai (by omega)).mono (Nat.le_refl _) (by omega) (by omega)).trans (ih (i + 1) _ (by omega) (by omega) (by rw [size_insInner]; exact hb))
    · exact SegSt.refl _ _ _
theorem segst_ins (hS : SWO lt) (d : Array α) (a b : Nat) (hb : b ≤ d.size) : SegSt lt a b d (Sort.insertionSort lt d a b) := segst_outer hS a b _ (a + 1) d (Nat.le_refl _) (by omega) hb
theorem sorted_ins (hS : SWO lt) (d : Array α) (a b : Nat) (hab : a ≤ b) (hb : b ≤ d.size) : SortedIn lt a b (Sort.insertionSort lt d a b) := (insertionSort_holds hS d a b hab hb).2

theorem bis_law (p : Nat → Bool) : ∀ (f i j : Nat), i ≤ j → j - i ≤ f → (∀ x y, i ≤ x → x ≤ y → y < j → p y = true → p x = true) →
    (∀ x, i ≤ x → x < bis p f i j → p x = true) ∧ ∀ x, bis p f i j ≤ x → x < j → p x = false := by
  intro f
  induction f with
  | zero => intro i j h1 h2 hp; exact ⟨fun x h3 h4 => by simp only [bis] at h4; omega, fun x h3 h4 => by simp only [bis] at h3; omega⟩
  | succ f ih =>
    intro i j h1 h2 hp
    by_cases hlt : i < j
    · cases hv : p ((i + j) / 2) with
      | true =>
        rw [bis_go _ _ _ _ hlt hv]
        obtain ⟨q1, q2⟩ := ih ((i + j) / 2 + 1) j (by omega) (by omega) (fun x y h3 h4 h5 => hp x y (by omega) h4 h5)
        refine ⟨fun x h3 h4 => ?_, q2⟩
        by_cases hx : x ≤ (i + j) / 2
        · exact hp x _ h3 hx (by omega) hv
        · exact q1 x (by omega) h4
      | false =>
        rw [bis_back _ _ _ _ hlt hv]
        obtain ⟨q1, q2⟩ := ih i ((i + j) / 2) (by omega) (by omega) (fun x y h3 h4 h5 => hp x y h3 h4 (by omega))
        refine ⟨q1, fun x h3 h4 => ?_⟩
        by_cases hx : x < (i + j) / 2
        · exact q2 x h3 hx
        · cases hv2 : p x with
          | false => rfl
          | true => rw [hp _ x (by omega) (by omega) h4 hv2] at hv; cases hv
    · rw [bis_end _ _ _ _ hlt]
      exact ⟨fun x h3 h4 => by omega, fun x h3 h4 => by omega⟩

theorem mvU_at (d : Array α) (a : Nat) : ∀ (n : Nat), a + n < d.size → ∀ x, (mvU d a n)[x]! = if x = a + n then d[a]! else if a ≤ x ∧ x < a + n then d[x + 1]! else d[x]! := by
  intro n
  induction n with
  | zero =>
    intro h x
    show d[x]! = _
    split
    · exact at_eq _ (by omega)
    · rw [if_neg (by omega)]
  | succ n ih =>
    intro h x
    have ih := ih (by omega)
    rw [mvU]
    by_cases h1 : x = a + n
    · subst h1
      rw [swp_left _ _ _ (by rw [size_mvU]; omega) (by omega), ih, if_neg (by omega), if_neg (by omega), if_neg (by omega), if_pos (by omega)]
    · by_cases h2 : x = a + n + 1
      · subst h2
        rw [swp_right _ _ _ (by rw [size_mvU]; omega), ih, if_pos rfl, if_pos (by omega)]
      · rw [swp_other _ _ _ _ h1 h2, ih, if_neg h1, if_neg (show ¬ x = a + (n + 1) by omega)]
        by_cases h3 : a ≤ x ∧ x < a + n
        · rw [if_pos h3, if_pos (by omega)]
        · rw [if_neg h3, if_neg (by omega)]
theorem segst_mvU (hS : SWO lt) (d : Array α) (a : Nat) : ∀ (n : Nat), a + n < d.size → (∀ h, a < h → h ≤ a + n → lt d[h]! d[a]! = true) → SegSt lt a (a + n + 1) d (mvU d a n) := by
  intro n
  induction n with
  | zero => intro _ _; exact SegSt.refl _ _ _
  | succ n ih =>
    intro h hl
    have ih := ih (by omega) (fun h h1 h2 => hl h h1 (by omega))
    rw [mvU]
    refine (ih.mono (Nat.le_refl _) (by omega) (by omega)).trans ((segst_swap hS _ _ (a + n) (size_swp _ _ _) (swp_left _ _ _ (by rw [size_mvU]; omega) (by omega)) (swp_right _ _ _ (by rw [size_mvU]; omega)) (fun i h1 h2 => swp_other _ _ _ _ h1 h2) ?_).mono (by omega) (by omega) (by omega))
    rw [mvU_at _ _ _ (by omega), mvU_at _ _ _ (by omega), if_neg (by omega), if_neg (by omega), if_pos rfl]
    exact hl _ (by omega) (by omega)
theorem mvD_at (d : Array α) (m : Nat) (hm : m < d.size) : ∀ (n : Nat), n ≤ m → ∀ x, (mvD d m n)[x]! = if x = m - n then d[m]! else if m - n < x ∧ x ≤ m then d[x - 1]! else d[x]! := by
  intro n
  induction n with
  | zero =>
    intro h x
    show d[x]! = _
    split
    · exact at_eq _ (by omega)
    · rw [if_neg (by omega)]
  | succ n ih =>
    intro h x
    have ih := ih (by omega)
    rw [mvD]
    by_cases h1 : x = m - n
    · subst h1
      rw [swp_left _ _ _ (by rw [size_mvD]; omega) (by omega), ih, if_neg (by omega), if_neg (by omega), if_neg (by omega), if_pos (by omega)]
    · by_cases h2 : x = m - n - 1
      · subst h2
        rw [swp_right _ _ _ (by rw [size_mvD]; omega), ih, if_pos rfl, if_pos (by omega)]
      · rw [swp_other _ _ _ _ h1 h2, ih, if_neg h1, if_neg (show ¬ x = m - (n + 1) by omega)]
        by_cases h3 : m - n < x ∧ x ≤ m
        · rw [if_pos h3, if_pos (by omega)]
        · rw [if_neg h3, if_neg (by omega)]
theorem segst_mvD (hS : SWO lt) (d : Array α) (m : Nat) (hm : m < d.size) : ∀ (n : Nat), n ≤ m → (∀ h, m - n ≤ h → h < m → lt d[m]! d[h]! = true) → SegSt lt (m - n) (m + 1) d (mvD d m n) := by
  intro n
  induction n with
  | zero => intro _ _; exact SegSt.refl _ _ _
  | succ n ih =>
    intro h hl
    have ih := ih (by omega) (fun h h1 h2 => hl h (by omega) h2)
    rw [mvD]
    obtain ⟨c, hc⟩ : ∃ c, m - n = c + 1 := ⟨m - n - 1, by omega⟩
    rw [hc] at ih ⊢
    rw [show m - (n + 1) = c by omega, show c + 1 - 1 = c by omega]
    refine (ih.mono (by omega) (by omega) (Nat.le_refl _)).trans ((segst_swap hS _ _ c (size_swp _ _ _) (swp_right _ _ _ (by rw [size_mvD]; omega)) (swp_left _ _ _ (by rw [size_mvD]; omega) (by omega)) (fun i h1 h2 => swp_other _ _ _ _ h2 h1) ?_).mono (Nat.le_refl _) (by omega) (by omega))
    rw [mvD_at _ _ hm _ (by omega), mvD_at _ _ hm _ (by omega), if_pos (by omega), if_neg (by omega), if_neg (by omega)]
    exact hl _ (by omega) (by omega)
end Go.Proofs.Ytmanmebgmhpilaa
