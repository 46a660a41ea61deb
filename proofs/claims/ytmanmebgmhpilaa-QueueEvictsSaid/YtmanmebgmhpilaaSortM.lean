/-
  What the stable sort of Go's library comes to, in plain Lean: rotation, symMerge.
-/
import Derived.Test.YtmanmebgmhpilaaSortL
namespace Go.Proofs.Ytmanmebgmhpilaa
open Go.Sort
set_option linter.unusedVariables false
variable {α : Type} [Inhabited α] {lt : α → α → Bool}

theorem swpR_at (d : Array α) (a b : Nat) : ∀ (n : Nat), a + n ≤ b → b + n ≤ d.size → ∀ x, (swpR d a b n)[x]! = if a ≤ x ∧ x < a + n then d[x + (b - a)]! else if b ≤ x ∧ x < b + n then d[x - (b - a)]! else d[x]! := by
  intro n
  induction n with
  | zero =>
    intro h1 h2 x
    show d[x]! = _
    rw [if_neg (by omega), if_neg (by omega)]
  | succ n ih =>
    intro h1 h2 x
    have ih := ih (by omega) (by omega)
    rw [swpR]
    by_cases e1 : x = a + n
    · subst e1
      rw [swp_left _ _ _ (by rw [size_swpR]; omega) (by omega), ih, if_neg (by omega), if_neg (by omega), if_pos (by omega)]
      exact at_eq _ (by omega)
    · by_cases e2 : x = b + n
      · subst e2
        rw [swp_right _ _ _ (by rw [size_swpR]; omega), ih, if_neg (by omega), if_neg (by omega), if_neg (by omega), if_pos (by omega)]
        exact at_eq _ (by omega)
      · rw [swp_other _ _ _ _ e1 e2, ih]
        by_cases c1 : a ≤ x ∧ x < a + n
        · rw [if_pos c1, if_pos (by omega)]
        · rw [if_neg c1]
          by_cases c2 : b ≤ x ∧ x < b + n
          · rw [if_pos c2, if_neg (by omega), if_pos (by omega)]
          · rw [if_neg c2, if_neg (by omega), if_neg (by omega)]

theorem rotL_at (m : Nat) : ∀ (f i j : Nat) (d : Array α), 0 < i → 0 < j → i ≤ m → m + j ≤ d.size → i + j ≤ f → ∀ x,
    (rotL m f i j d)[x]! = if m - i ≤ x ∧ x < m - i + j then d[x + i]! else if m - i + j ≤ x ∧ x < m + j then d[x - j]! else d[x]! := by
  intro f
  induction f with
  | zero => intro i j d h1 h2 h3 h4 h5; omega
  | succ f ih =>
    intro i j d h1 h2 h3 h4 h5 x
    rcases Nat.lt_trichotomy i j with hlt | rfl | hgt
    · rw [rotL_lt _ _ _ _ _ hlt, ih i (j - i) _ h1 (by omega) h3 (by rw [size_swpR]; omega) (by omega)]
      have q := swpR_at d (m - i) (m + j - i) i (by omega) (by omega)
      by_cases c1 : m - i ≤ x ∧ x < m - i + (j - i)
      · rw [if_pos c1, q, if_neg (by omega), if_neg (by omega), if_pos (by omega)]
      · rw [if_neg c1]
        by_cases c2 : m - i + (j - i) ≤ x ∧ x < m + (j - i)
        · rw [if_pos c2, q]
          by_cases c3 : x < m - i + j
          · rw [if_pos (show m - i ≤ x ∧ x < m - i + j by omega), if_pos (by omega)]
            exact at_eq _ (by omega)
          · omega
        · rw [if_neg c2, q]
          by_cases c3 : m - i ≤ x ∧ x < m - i + j
          · omega
          · rw [if_neg c3]
            by_cases c4 : m - i + j ≤ x ∧ x < m + j
            · rw [if_pos c4, if_neg (by omega), if_pos (by omega)]
              exact at_eq _ (by omega)
            · rw [if_neg c4, if_neg (by omega), if_neg (by omega)]
    · rw [rotL_eq, swpR_at d (m - i) m i (by omega) (by omega)]
      by_cases c1 : m - i ≤ x ∧ x < m - i + i
      · rw [if_pos c1, if_pos c1]
        exact at_eq _ (by omega)
      · rw [if_neg c1, if_neg c1]
        by_cases c2 : m ≤ x ∧ x < m + i
        · rw [if_pos c2, if_pos (by omega)]
          exact at_eq _ (by omega)
        · rw [if_neg c2, if_neg (by omega)]
    · rw [rotL_gt _ _ _ _ _ hgt, ih (i - j) j _ (by omega) h2 (by omega) (by rw [size_swpR]; omega) (by omega)]
      have q := swpR_at d (m - i) m j (by omega) (by omega)
      by_cases c1 : m - (i - j) ≤ x ∧ x < m - (i - j) + j
      · rw [if_pos c1, q, if_neg (by omega)]
        by_cases c2 : m ≤ x + (i - j)
        · rw [if_pos (by omega), if_neg (by omega), if_pos (by omega)]
          exact at_eq _ (by omega)
        · omega
      · rw [if_neg c1]
        by_cases c2 : m - (i - j) + j ≤ x ∧ x < m + j
        · rw [if_pos c2, q, if_neg (by omega), if_neg (by omega), if_neg (by omega), if_pos (by omega)]
        · rw [if_neg c2, q]
          by_cases c3 : m - i ≤ x ∧ x < m - i + j
          · rw [if_pos c3, if_pos c3]
            exact at_eq _ (by omega)
          · rw [if_neg c3, if_neg (by omega), if_neg c3, if_neg (by omega)]

/-- A rotation: the places s .. m go behind the places m .. e. -/
structure Rot (s m e : Nat) (d d' : Array α) : Prop where
  size : d'.size = d.size
  at_ : ∀ x, d'[x]! = if s ≤ x ∧ x < s + (e - m) then d[x + (m - s)]! else if s + (e - m) ≤ x ∧ x < e then d[x - (e - m)]! else d[x]!
theorem rotL_rot (d : Array α) (s m e : Nat) (h1 : s < m) (h2 : m < e) (h3 : e ≤ d.size) : Rot s m e d (rotL m (e - s) (m - s) (e - m) d) := by
  refine ⟨size_rotL _ _ _ _ _, fun x => ?_⟩
  rw [rotL_at m (e - s) (m - s) (e - m) d (by omega) (by omega) (by omega) (by omega) (by omega), show m - (m - s) = s by omega, show m + (e - m) = e by omega]
theorem rot_none (d : Array α) (s m e : Nat) (h : ¬ (s < m ∧ m < e)) (h1 : s ≤ m) (h2 : m ≤ e) : Rot s m e d d := by
  refine ⟨rfl, fun x => ?_⟩
  by_cases c1 : s ≤ x ∧ x < s + (e - m)
  · rw [if_pos c1]; exact at_eq _ (by omega)
  · rw [if_neg c1]
    by_cases c2 : s + (e - m) ≤ x ∧ x < e
    · rw [if_pos c2]; exact at_eq _ (by omega)
    · rw [if_neg c2]
theorem Rot.segst (hS : SWO lt) {s m e : Nat} {d d' : Array α} (h : Rot s m e d d') (h1 : s ≤ m) (h2 : m ≤ e) (hl : ∀ x y, s ≤ x → x < m → m ≤ y → y < e → lt d[y]! d[x]! = true) : SegSt lt s e d d' := by
  refine ⟨h.size, fun i hi => ?_, fun x => ?_⟩
  · rw [h.at_, if_neg (by omega), if_neg (by omega)]
  · have e1 : seg d' s (e - s) = seg d m (e - m) ++ seg d s (m - s) := by
      rw [show e - s = (e - m) + (m - s) by omega, seg_add]
      congr 1
      · exact seg_congr fun i hi => by rw [h.at_, if_pos (by omega)]; exact at_eq _ (by omega)
      · exact seg_congr fun i hi => by rw [h.at_, if_neg (by omega), if_pos (by omega)]; exact at_eq _ (by omega)
    have e2 : seg d s (e - s) = seg d s (m - s) ++ seg d m (e - m) := by
      rw [show e - s = (m - s) + (e - m) by omega, seg_add, show s + (m - s) = m by omega]
    rw [e1, e2, List.filter_append, List.filter_append]
    by_cases hA : (seg d s (m - s)).filter (eqv lt x) = []
    · rw [hA, List.append_nil, List.nil_append]
    · have hB : (seg d m (e - m)).filter (eqv lt x) = [] := by
        rw [List.filter_eq_nil_iff]
        intro v hv hxv
        obtain ⟨u, hu⟩ := List.exists_mem_of_ne_nil _ hA
        obtain ⟨hu1, hu2⟩ := List.mem_filter.1 hu
        obtain ⟨i, hi, rfl⟩ := seg_mem.1 hu1
        obtain ⟨j, hj, rfl⟩ := seg_mem.1 hv
        exact not_both hS (hl (s + i) (m + j) (by omega) (by omega) (by omega) (by omega)) x hu2 hxv
      rw [hB, List.append_nil, List.nil_append]

theorem sortedIn_le (hS : SWO lt) {a b : Nat} {d : Array α} (h : SortedIn lt a b d) {i j : Nat} (h1 : a ≤ i) (h2 : i ≤ j) (h3 : j < b) : lt d[j]! d[i]! = false := by
  rcases Nat.lt_or_eq_of_le h2 with h4 | rfl
  · exact h i j h1 h4 h3
  · exact hS.irrefl _
/-- Sorted halves, none of the right one less than one of the left one. -/
theorem sorted_join {a c b : Nat} {d : Array α} (h1 : SortedIn lt a c d) (h2 : SortedIn lt c b d) (h3 : ∀ i j, a ≤ i → i < c → c ≤ j → j < b → lt d[j]! d[i]! = false) : SortedIn lt a b d := by
  intro i j hi hij hj
  by_cases c1 : j < c
  · exact h1 i j hi hij c1
  · by_cases c2 : i < c
    · exact h3 i j hi c2 (by omega) hj
    · exact h2 i j (by omega) hij hj

/-- What a merge of a .. m and m .. b must be. -/
def MergeOk (lt : α → α → Bool) (F : Array α → Nat → Nat → Nat → Array α) (n : Nat) : Prop :=
  ∀ (d : Array α) (a m b : Nat), a < m → m < b → b ≤ d.size → b - a ≤ n → SortedIn lt a m d → SortedIn lt m b d → SegSt lt a b d (F d a m b) ∧ SortedIn lt a b (F d a m b)

theorem one_ok (hS : SWO lt) (d : Array α) (a m b : Nat) (ham : a < m) (hmb : m < b) (hb : b ≤ d.size) (h1 : m - a = 1) (s2 : SortedIn lt m b d) :
    SegSt lt a b d (mvU d a (symI1 lt d a m b - 1 - a)) ∧ SortedIn lt a b (mvU d a (symI1 lt d a m b - 1 - a)) := by
  obtain rfl : m = a + 1 := by omega
  have hin := bis_in (fun h => lt d[h]! d[a]!) (b - (a + 1)) (a + 1) b (by omega)
  obtain ⟨q1, q2⟩ := bis_law (fun h => lt d[h]! d[a]!) (b - (a + 1)) (a + 1) b (by omega) (Nat.le_refl _) (fun x y h1 h2 h3 h4 => le_lt hS (sortedIn_le hS s2 h1 h2 h3) h4)
  have hi : symI1 lt d a (a + 1) b = bis (fun h => lt d[h]! d[a]!) (b - (a + 1)) (a + 1) b := rfl
  rw [← hi] at q1 q2 hin
  generalize symI1 lt d a (a + 1) b = i at *
  have sg := segst_mvU hS d a (i - 1 - a) (by omega) (fun h h1 h2 => q1 h (by omega) (by omega))
  refine ⟨sg.mono (Nat.le_refl _) (by omega) (by omega), fun x y hx hxy hy => ?_⟩
  rw [mvU_at _ _ _ (by omega), mvU_at _ _ _ (by omega)]
  by_cases cx : x = a + (i - 1 - a)
  · rw [if_neg (by omega), if_neg (by omega), if_pos cx]
    exact q2 y (by omega) hy
  · rw [if_neg cx]
    by_cases cx2 : a ≤ x ∧ x < a + (i - 1 - a)
    · rw [if_pos cx2]
      by_cases cy : y = a + (i - 1 - a)
      · rw [if_pos cy]
        exact lt_asym hS (q1 (x + 1) (by omega) (by omega))
      · rw [if_neg cy]
        by_cases cy2 : a ≤ y ∧ y < a + (i - 1 - a)
        · rw [if_pos cy2]; exact s2 _ _ (by omega) (by omega) (by omega)
        · rw [if_neg cy2]; exact s2 _ _ (by omega) (by omega) (by omega)
    · rw [if_neg cx2, if_neg (by omega), if_neg (by omega)]
      exact s2 _ _ (by omega) (by omega) (by omega)

theorem two_ok (hS : SWO lt) (d : Array α) (a m b : Nat) (ham : a < m) (hmb : m < b) (hb : b ≤ d.size) (h1 : b - m = 1) (s1 : SortedIn lt a m d) :
    SegSt lt a b d (mvD d m (m - symI2 lt d a m)) ∧ SortedIn lt a b (mvD d m (m - symI2 lt d a m)) := by
  obtain rfl : b = m + 1 := by omega
  have hin := bis_in (fun h => !lt d[m]! d[h]!) (m - a) a m (by omega)
  obtain ⟨q1, q2⟩ := bis_law (fun h => !lt d[m]! d[h]!) (m - a) a m (by omega) (Nat.le_refl _) (fun x y h1 h2 h3 h4 => by
    simp only [Bool.not_eq_true'] at h4 ⊢
    exact hS.ntrans _ _ _ h4 (sortedIn_le hS s1 h1 h2 h3))
  have hi : symI2 lt d a m = bis (fun h => !lt d[m]! d[h]!) (m - a) a m := rfl
  rw [← hi] at q1 q2 hin
  simp only [Bool.not_eq_true', Bool.not_eq_false'] at q1 q2
  generalize symI2 lt d a m = i at *
  have sg := segst_mvD hS d m (by omega) (m - i) (by omega) (fun h h1 h2 => q2 h (by omega) h2)
  refine ⟨sg.mono (by omega) (by omega) (Nat.le_refl _), fun x y hx hxy hy => ?_⟩
  rw [mvD_at _ _ (by omega) _ (by omega), mvD_at _ _ (by omega) _ (by omega)]
  by_cases cx : x = m - (m - i)
  · rw [if_neg (show ¬ y = m - (m - i) by omega), if_pos cx, if_pos (by omega)]
    exact lt_asym hS (q2 _ (by omega) (by omega))
  · rw [if_neg cx]
    by_cases cx2 : m - (m - i) < x ∧ x ≤ m
    · rw [if_pos cx2, if_neg (show ¬ y = m - (m - i) by omega), if_pos (by omega)]
      exact s1 _ _ (by omega) (by omega) (by omega)
    · rw [if_neg cx2]
      by_cases cy : y = m - (m - i)
      · rw [if_pos cy]
        exact q1 x (by omega) (by omega)
      · rw [if_neg cy]
        by_cases cy2 : m - (m - i) < y ∧ y ≤ m
        · rw [if_pos cy2]; exact sortedIn_le hS s1 (by omega) (by omega) (by omega)
        · rw [if_neg cy2]; exact s1 _ _ (by omega) (by omega) (by omega)

theorem three_ok (hS : SWO lt) (F : Array α → Nat → Nat → Nat → Array α) (hF : ∀ d a m b, (F d a m b).size = d.size) (n : Nat) (hM : MergeOk lt F n) (d : Array α) (a m b : Nat) (ham : a < m) (hmb : m < b) (hb : b ≤ d.size) (hn : b - a ≤ n + 1)
    (g1 : ¬ m - a = 1) (g2 : ¬ b - m = 1) (s1 : SortedIn lt a m d) (s2 : SortedIn lt m b d) : SegSt lt a b d (symD3 F lt d a m b) ∧ SortedIn lt a b (symD3 F lt d a m b) := by
  obtain ⟨b1, b2, b3, b4, b5⟩ := symSt_le a m b ham hmb
  obtain ⟨mid, hmid⟩ : ∃ mid, (a + b) / 2 = mid := ⟨_, rfl⟩
  have eS : symS lt d a m b = bis (fun c => !lt d[mid + m - 1 - c]! d[c]!) (symR a m b - symSt a m b) (symSt a m b) (symR a m b) := by unfold symS; rw [hmid]
  have eSt : symSt a m b = if mid < m then mid + m - b else a := by unfold symSt; rw [hmid]
  have eR : symR a m b = if mid < m then mid else m := by unfold symR; rw [hmid]
  have e3 : symD3 F lt d a m b = if mid < mid + m - symS lt d a m b ∧ mid + m - symS lt d a m b < b then F (symD2 F lt d a m b) mid (mid + m - symS lt d a m b) b else symD2 F lt d a m b := by unfold symD3; rw [hmid]
  have e2 : symD2 F lt d a m b = if a < symS lt d a m b ∧ symS lt d a m b < mid then F (symD1 lt d a m b) a (symS lt d a m b) mid else symD1 lt d a m b := by unfold symD2; rw [hmid]
  have e1 : symD1 lt d a m b = if symS lt d a m b < m ∧ m < mid + m - symS lt d a m b then rotL m (mid + m - symS lt d a m b - symS lt d a m b) (m - symS lt d a m b) (mid + m - symS lt d a m b - m) d else d := by unfold symD1; rw [hmid]
  rw [hmid] at b4 b5
  rw [e3, e2]
  generalize hst : symSt a m b = st at *
  generalize hr : symR a m b = r at *
  have hin := bis_in (fun c => !lt d[mid + m - 1 - c]! d[c]!) (r - st) st r b2
  obtain ⟨q1, q2⟩ := bis_law (fun c => !lt d[mid + m - 1 - c]! d[c]!) (r - st) st r b2 (Nat.le_refl _) (fun x y h1 h2 h3 h4 => by
    simp only [Bool.not_eq_true'] at h4 ⊢
    have k1 := sortedIn_le hS s1 (i := x) (j := y) (by omega) h2 (by omega)
    have k2 := sortedIn_le hS s2 (i := mid + m - 1 - y) (j := mid + m - 1 - x) (by omega) (by omega) (by omega)
    exact hS.ntrans _ _ _ (hS.ntrans _ _ _ k2 h4) k1)
  rw [← eS] at hin q1 q2
  generalize symS lt d a m b = s at *
  simp only [Bool.not_eq_true', Bool.not_eq_false'] at q1 q2
  obtain ⟨e, he⟩ : ∃ e, mid + m - s = e := ⟨_, rfl⟩
  rw [he] at e1 ⊢
  have hb1 : m ≤ e := by omega
  have hb2 : e ≤ b := by omega
  have hmid2 : a ≤ mid ∧ mid < b := by omega
  -- the rotation
  have rot : Rot s m e d (symD1 lt d a m b) := by
    rw [e1]
    split
    · rename_i hc; exact rotL_rot d s m e hc.1 hc.2 (by omega)
    · rename_i hc; exact rot_none d s m e hc (by omega) hb1
  generalize symD1 lt d a m b = d1 at *
  have cross : ∀ x y, s ≤ x → x < m → m ≤ y → y < e → lt d[y]! d[x]! = true := by
    intro x y h1 h2 h3 h4
    have hsr : s < r := by
      have : s ≤ r := hin.2
      by_cases hm : mid < m
      · rw [if_pos hm] at eR; omega
      · rw [if_neg hm] at eR; omega
    have k := q2 s (Nat.le_refl _) hsr
    exact lt_le hS (le_lt hS (sortedIn_le hS s2 h3 (show y ≤ mid + m - 1 - s by omega) (by omega)) k) (sortedIn_le hS s1 (by omega) h1 h2)
  have sg1 : SegSt lt a b d d1 := (rot.segst hS (by omega) hb1 cross).mono (by omega) (by omega) hb2
  have hse : s + (e - m) = mid := by omega
  have v1 : ∀ x, a ≤ x → x < s → d1[x]! = d[x]! := fun x h1 h2 => by rw [rot.at_, if_neg (by omega), if_neg (by omega)]
  have v2 : ∀ x, s ≤ x → x < mid → d1[x]! = d[x + (m - s)]! := fun x h1 h2 => by rw [rot.at_, if_pos (by omega)]
  have v3 : ∀ x, mid ≤ x → x < e → d1[x]! = d[x - (mid - s)]! := fun x h1 h2 => by rw [rot.at_, if_neg (by omega), if_pos (by omega)]; exact at_eq _ (by omega)
  have v4 : ∀ x, e ≤ x → d1[x]! = d[x]! := fun x h1 => by rw [rot.at_, if_neg (by omega), if_neg (by omega)]
  have t1 : SortedIn lt a s d1 := fun i j h1 h2 h3 => by rw [v1 i h1 (by omega), v1 j (by omega) h3]; exact s1 i j h1 h2 (by omega)
  have t2 : SortedIn lt s mid d1 := fun i j h1 h2 h3 => by rw [v2 i h1 (by omega), v2 j (by omega) h3]; exact s2 _ _ (by omega) (by omega) (by omega)
  have t3 : SortedIn lt mid e d1 := fun i j h1 h2 h3 => by rw [v3 i h1 (by omega), v3 j (by omega) h3]; exact s1 _ _ (by omega) (by omega) (by omega)
  have t4 : SortedIn lt e b d1 := fun i j h1 h2 h3 => by rw [v4 i h1, v4 j (by omega)]; exact s2 _ _ (by omega) (by omega) h3
  -- no place of the right half is less than one of the left half
  have low : ∀ x y, a ≤ x → x < mid → mid ≤ y → y < b → lt d1[y]! d1[x]! = false := by
    intro x y h1 h2 h3 h4
    by_cases cx : x < s
    · rw [v1 x h1 cx]
      by_cases cy : y < e
      · rw [v3 y h3 cy]; exact sortedIn_le hS s1 h1 (by omega) (by omega)
      · rw [v4 y (by omega)]
        have hst2 : st < s := by
          have : st ≤ s := hin.1
          by_cases hm : mid < m
          · rw [if_pos hm] at eSt; omega
          · rw [if_neg hm] at eSt; omega
        have k := q1 (s - 1) (by omega) (by omega)
        rw [show mid + m - 1 - (s - 1) = e by omega] at k
        exact hS.ntrans _ _ _ (hS.ntrans _ _ _ (sortedIn_le hS s2 (show m ≤ e by omega) (show e ≤ y by omega) h4) k) (sortedIn_le hS s1 h1 (show x ≤ s - 1 by omega) (by omega))
    · rw [v2 x (by omega) h2]
      by_cases cy : y < e
      · rw [v3 y h3 cy]
        exact lt_asym hS (cross _ _ (by omega) (by omega) (by omega) (by omega))
      · rw [v4 y (by omega)]; exact sortedIn_le hS s2 (by omega) (by omega) h4
  -- the left half
  have left : SegSt lt a mid d1 (if a < s ∧ s < mid then F d1 a s mid else d1) ∧ SortedIn lt a mid (if a < s ∧ s < mid then F d1 a s mid else d1) := by
    split
    · rename_i hc
      exact hM d1 a s mid hc.1 hc.2 (by rw [sg1.size]; omega) (by omega) t1 t2
    · rename_i hc
      refine ⟨SegSt.refl _ _ _, ?_⟩
      by_cases ha : a < s
      · obtain rfl : s = mid := by omega
        exact t1
      · obtain rfl : s = a := by omega
        exact t2
  generalize (if a < s ∧ s < mid then F d1 a s mid else d1) = d2 at *
  obtain ⟨sg2, tl⟩ := left
  have u3 : SortedIn lt mid e d2 := fun i j h1 h2 h3 => by rw [sg2.out i (by omega), sg2.out j (by omega)]; exact t3 i j h1 h2 h3
  have u4 : SortedIn lt e b d2 := fun i j h1 h2 h3 => by rw [sg2.out i (by omega), sg2.out j (by omega)]; exact t4 i j h1 h2 h3
  have low2 : ∀ x y, a ≤ x → x < mid → mid ≤ y → y < b → lt d2[y]! d2[x]! = false := by
    intro x y h1 h2 h3 h4
    rw [sg2.out y (by omega)]
    exact sg2.pred hS (fun v => lt d1[y]! v = false) (fun i h5 h6 => low i y h5 h6 h3 h4) x h1 h2
  have right : SegSt lt mid b d2 (if mid < e ∧ e < b then F d2 mid e b else d2) ∧ SortedIn lt mid b (if mid < e ∧ e < b then F d2 mid e b else d2) := by
    split
    · rename_i hc
      exact hM d2 mid e b hc.1 hc.2 (by rw [sg2.size, sg1.size]; omega) (by omega) u3 u4
    · rename_i hc
      refine ⟨SegSt.refl _ _ _, ?_⟩
      by_cases ha : mid < e
      · obtain rfl : e = b := by omega
        exact u3
      · obtain rfl : e = mid := by omega
        exact u4
  generalize (if mid < e ∧ e < b then F d2 mid e b else d2) = d3 at *
  obtain ⟨sg3, tr⟩ := right
  refine ⟨(sg1.trans (sg2.mono (Nat.le_refl _) (by omega) (by omega))).trans (sg3.mono (by omega) (by omega) (Nat.le_refl _)), sorted_join (c := mid) (fun i j h1 h2 h3 => ?_) tr ?_⟩
  · rw [sg3.out i (by omega), sg3.out j (by omega)]; exact tl i j h1 h2 h3
  · intro i j h1 h2 h3 h4
    rw [sg3.out i (by omega)]
    exact sg3.pred hS (fun v => lt v d2[i]! = false) (fun k h5 h6 => low2 i k h1 h2 h5 h6) j h3 h4

theorem symM_ok (hS : SWO lt) : ∀ f, MergeOk lt (symM lt f) f := by
  intro f
  induction f with
  | zero => intro d a m b h1 h2 h3 h4; omega
  | succ f ih =>
    intro d a m b ham hmb hb hn s1 s2
    by_cases g1 : m - a = 1
    · rw [symM, if_pos g1]; exact one_ok hS d a m b ham hmb hb g1 s2
    · by_cases g2 : b - m = 1
      · rw [symM, if_neg g1, if_pos g2]; exact two_ok hS d a m b ham hmb hb g2 s1
      · rw [symM, if_neg g1, if_neg g2]; exact three_ok hS _ (size_symM lt f) f ih d a m b ham hmb hb hn g1 g2 s1 s2
end Go.Proofs.Ytmanmebgmhpilaa
