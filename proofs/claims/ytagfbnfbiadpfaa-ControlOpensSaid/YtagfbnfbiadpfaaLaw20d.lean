/-
  Layer 20 (control), in plain: behind as many calm windows as are told all is open.
-/
import Derived.Test.YtagfbnfbiadpfaaLaw20
namespace Go.Proofs.Ytagfbnfbiadpfaa
open Go.RowKit Go.Shelf
set_option linter.unusedVariables false
set_option linter.unusedSimpArgs false

/-- How many calm windows it takes yet till the way is up. -/
def wWay (z : CSt) : Int := if z.way = -1 then max (z.k.k5 - z.held) 0 else 0
def wOpen (z : CSt) : Int := if z.th = z.lv then 0 else wWay z + (z.lv - z.th)
def wDim (z : CSt) : Int := if z.ti = z.tr then 0 else z.k.k6 * (z.tr - z.ti) - min z.dh (z.k.k6 - 1)
def wAll (z : CSt) : Int := wOpen z + wDim z
/-- A calm window, whatever is seen in it. -/
def calmIn (z : CSt) (c : List Int) : CSt := { z with c := c, m := bAdd z.m 1, s := bAdd z.s 0, x := max z.x (cnt 0) }
/-- What stands between two calm windows. -/
structure Calmly (z : CSt) : Prop where
  ok : COk z
  k : kOk z.k z.lv = true
  low : 1 ≤ z.k.k0
  m : z.m = 0
  s : z.s = 0
  dh : 0 ≤ z.dh
theorem kOk_in {k : Kb} {lv : Int} (h : kOk k lv = true) : (0 ≤ k.k0 ∧ k.k0 ≤ k.k1) ∧ (1 ≤ k.k5 ∧ k.k5 ≤ 32) ∧ (1 ≤ k.k6 ∧ k.k6 ≤ 32) := by
  unfold kOk kIn at h
  simp at h
  omega
theorem calm_v {z : CSt} (h : Calmly z) (c : List Int) : clV (calmIn z c) = 2 := by
  have hk := kOk_in h.k
  have e : bMean (bAdd z.s 0) (bAdd z.m 1) = 0 := by rw [h.m, h.s]; decide
  show judge (bMean (bAdd z.s 0) (bAdd z.m 1)) z.k.k0 z.k.k1 = 2
  rw [e]
  unfold judge
  have hl := h.low
  rw [if_neg (by omega), if_pos (by omega)]
theorem wants_two : wants 2 = 1 := by decide
theorem calm_turn {z : CSt} (h : Calmly z) : tstep z.way z.held 2 z.k.k5 = (if z.way = -1 ∧ ¬ (z.k.k5 ≤ z.held) then ⟨z.way, bAdd z.held 1, 0⟩ else ⟨1, if z.way = 1 then bAdd z.held 1 else 1, 1⟩) := by
  have hk := kOk_in h.k
  have ht := h.ok.tok
  unfold TOk at ht
  unfold tstep
  rw [wants_two, if_neg (by decide)]
  rcases ht with ⟨h1, h2⟩ | ⟨h1 | h1, h2, h3⟩
  · rw [if_neg (by omega), if_pos (by omega), if_neg (by omega), if_neg (by omega)]
  · rw [if_pos (by omega), if_neg (by omega), if_pos h1, h1]
  · by_cases hd : z.k.k5 ≤ z.held
    · rw [if_neg (by omega), if_pos (by omega), if_neg (by omega), if_neg (by omega)]
    · rw [if_neg (by omega), if_neg (by omega), if_pos ⟨h1, hd⟩]
theorem dh_nn (n t h v : Int) (o : Bool) (d : Int) (h0 : 0 ≤ h) : 0 ≤ (dstep n t h v o d).held := by
  unfold dstep
  have := (bAdd_rng h 1).1
  (repeat' split) <;> first | exact this | exact Int.le_refl _
theorem bAdd_one (h : Int) (h0 : 0 ≤ h) : bAdd h 1 = min (h + 1) 2147483647 := by
  unfold bAdd cnt keep
  omega
theorem dstep_calm (n t h : Int) (o : Bool) (d : Int) (h0 : 0 ≤ h) :
    ((dstep n t h 2 o d).tier = t ∧ (dstep n t h 2 o d).held = min (h + 1) 2147483647 ∧ (h + 1 < d ∨ 2147483647 < d ∨ o = false ∨ n ≤ t)) ∨ ((dstep n t h 2 o d).tier = t + 1 ∧ (dstep n t h 2 o d).held = 0 ∧ d ≤ h + 1 ∧ o = true ∧ t < n) := by
  have hb := bAdd_one h h0
  unfold dstep
  rw [hb]
  by_cases d1 : min (h + 1) 2147483647 < d
  · rw [if_pos d1]
    exact .inl ⟨rfl, rfl, by omega⟩
  · rw [if_neg d1, if_neg (fun hh : (2 : Int) = 1 ∧ 0 < t => by omega)]
    by_cases d2 : o = true ∧ t < n
    · rw [if_pos ⟨rfl, d2⟩]
      exact .inr ⟨rfl, rfl, by omega, d2⟩
    · rw [if_neg (fun hh : (2 : Int) = 2 ∧ o = true ∧ t < n => d2 hh.2)]
      refine .inl ⟨rfl, rfl, ?_⟩
      cases o with
      | false => exact .inr (.inr (.inl rfl))
      | true => exact .inr (.inr (.inr (by simp at d2; omega)))
theorem tstep_calm {z : CSt} (h : Calmly z) :
    ((tstep z.way z.held 2 z.k.k5).way = -1 ∧ (tstep z.way z.held 2 z.k.k5).held = z.held + 1 ∧ (tstep z.way z.held 2 z.k.k5).ans = 0 ∧ z.way = -1 ∧ z.held < z.k.k5) ∨ ((tstep z.way z.held 2 z.k.k5).way = 1 ∧ (tstep z.way z.held 2 z.k.k5).ans = 1) := by
  have hk := kOk_in h.k
  have ht := h.ok.tok
  unfold TOk at ht
  rw [calm_turn h]
  by_cases hA : z.way = -1 ∧ ¬ (z.k.k5 ≤ z.held)
  · rw [if_pos hA]
    have hb := bAdd_one z.held (by omega)
    exact .inl ⟨hA.1, by show bAdd z.held 1 = _; rw [hb]; omega, rfl, hA.1, by omega⟩
  · rw [if_neg hA]
    exact .inr ⟨rfl, rfl⟩
/-- A calm window: the state behind it, and what it takes yet. -/
theorem calm_step {z : CSt} (h : Calmly z) (c : List Int) (hok : COk (clZ (calmIn z c))) : Calmly (clZ (calmIn z c)) ∧ (clZ (calmIn z c)).lv = z.lv ∧ (clZ (calmIn z c)).tr = z.tr ∧ (wAll (clZ (calmIn z c)) + 1 ≤ wAll z ∨ wAll (clZ (calmIn z c)) = 0) := by
  have hv := calm_v h c
  have hk := kOk_in h.k
  have hM := clM_lv (calmIn z c)
  obtain ⟨m1, m2, m3, m4, m5, m6, m7⟩ := hM
  have eT : clT (calmIn z c) = { calmIn z c with way := (tstep z.way z.held 2 z.k.k5).way, held := (tstep z.way z.held 2 z.k.k5).held } := by
    unfold clT
    rw [hv]
    rfl
  have eA : clA (calmIn z c) = (tstep z.way z.held 2 z.k.k5).ans := by
    unfold clA
    rw [hv]
    rfl
  have eD : clD (calmIn z c) = dstep z.tr z.ti z.dh 2 (decide ((clM (calmIn z c)).th = z.lv)) z.k.k6 := by
    unfold clD
    rw [hv]
    rfl
  have z1 : (clZ (calmIn z c)).lv = z.lv := m1
  have z2 : (clZ (calmIn z c)).tr = z.tr := m2
  have z3 : (clZ (calmIn z c)).k = z.k := m3
  have z4 : (clZ (calmIn z c)).ti = (clD (calmIn z c)).tier := rfl
  have z5 : (clZ (calmIn z c)).dh = (clD (calmIn z c)).held := rfl
  have z6 : (clZ (calmIn z c)).th = (clM (calmIn z c)).th := rfl
  have z7 : (clZ (calmIn z c)).way = (tstep z.way z.held 2 z.k.k5).way ∧ (clZ (calmIn z c)).held = (tstep z.way z.held 2 z.k.k5).held := by
    show (clM (calmIn z c)).way = _ ∧ (clM (calmIn z c)).held = _
    unfold clM mvSt
    rw [eT]
    split <;> exact ⟨rfl, rfl⟩
  have hth : (clM (calmIn z c)).th = mvTh (clT (calmIn z c)) (clA (calmIn z c)) := by
    unfold clM mvSt
    split
    · rename_i h0; exact h0.symm
    · rfl
  have hmv : mvTh (clT (calmIn z c)) (clA (calmIn z c)) = if 0 < (tstep z.way z.held 2 z.k.k5).ans then upW z.lv c z.th z.k.k3 else if (tstep z.way z.held 2 z.k.k5).ans < 0 then downW z.lv c z.th z.k.k4 z.k.k2 else z.th := by
    rw [eA, eT]
    rfl
  have up := up_rng z.lv c z.th z.k.k3 h.ok.h0 h.ok.h1
  have hdn : 0 ≤ (clZ (calmIn z c)).dh := by rw [z5, eD]; exact dh_nn _ _ _ _ _ _ h.dh
  refine ⟨⟨hok, by rw [z3, z1]; exact h.k, by rw [z3]; exact h.low, rfl, rfl, hdn⟩, z1, z2, ?_⟩
  -- what it takes yet
  have o1 := h.ok.h1
  have o2 := h.ok.dok
  unfold DOk at o2
  have o3 := h.dh
  have o4 := h.ok.tok
  unfold TOk at o4
  have hb := bAdd_one z.dh h.dh
  have hT := calm_turn h
  have hpm : z.k.k6 * (z.tr - (z.ti + 1)) = z.k.k6 * (z.tr - z.ti) - z.k.k6 := by
    rw [show z.tr - (z.ti + 1) = (z.tr - z.ti) - 1 by omega, Int.mul_sub, Int.mul_one]
  have hp1 : z.ti < z.tr → z.k.k6 ≤ z.k.k6 * (z.tr - z.ti) := by
    intro hlt
    have := Int.mul_le_mul_of_nonneg_left (show (1 : Int) ≤ z.tr - z.ti by omega) (show 0 ≤ z.k.k6 by omega)
    rwa [Int.mul_one] at this
  have hD := dstep_calm z.tr z.ti z.dh (decide ((clM (calmIn z c)).th = z.lv)) z.k.k6 h.dh
  have hT := tstep_calm h
  rw [← eD] at hD
  have hth2 : (clM (calmIn z c)).th = if 0 < (tstep z.way z.held 2 z.k.k5).ans then upW z.lv c z.th z.k.k3 else if (tstep z.way z.held 2 z.k.k5).ans < 0 then downW z.lv c z.th z.k.k4 z.k.k2 else z.th := by rw [hth, hmv]
  unfold wAll wOpen wDim wWay
  rw [z1, z2, z3, z4, z5, z6, z7.1, z7.2]
  clear z1 z2 z3 z4 z5 z6 z7 eD eA eT hth hmv hv m1 m2 m3 m4 m5 m6 m7 hok hdn
  generalize (clM (calmIn z c)).th = th' at *
  generalize (clD (calmIn z c)).tier = t' at *
  generalize (clD (calmIn z c)).held = h' at *
  generalize upW z.lv c z.th z.k.k3 = u at *
  generalize downW z.lv c z.th z.k.k4 z.k.k2 = dw at *
  have hlv : (z.lv : Int) = z.lv := rfl
  have hq : ∀ x : Int, t' = z.ti + 1 → z.k.k6 * (z.tr - t') = z.k.k6 * (z.tr - z.ti) - z.k.k6 := fun _ e => by rw [e]; exact hpm
  have hq0 : t' = z.ti → z.k.k6 * (z.tr - t') = z.k.k6 * (z.tr - z.ti) := fun e => by rw [e]
  have hq1 := hq 0
  clear hpm hq hlv
  generalize z.k.k6 * (z.tr - t') = p' at *
  generalize z.k.k6 * (z.tr - z.ti) = p at *
  rcases hT with ⟨w1, w2, w3, w4, w5⟩ | ⟨w1, w3⟩
  · rw [w3, if_neg (by decide), if_neg (by decide)] at hth2
    rw [w1, w2]
    clear w1 w2 w3
    subst hth2
    rcases hD with ⟨e1, e2, e3⟩ | ⟨e1, e2, e3, e4, e5⟩
    · have hpp := hq0 e1
      clear hq0 hq1
      subst e1
      subst e2
      subst hpp
      rw [w4]
      rcases e3 with e3 | e3 | e3 | e3
      · (repeat' split) <;> omega
      · (repeat' split) <;> omega
      · simp only [decide_eq_false_iff_not] at e3
        (repeat' split) <;> omega
      · (repeat' split) <;> omega
    · have hpp := hq1 e1
      clear hq0 hq1
      subst e1
      subst e2
      subst hpp
      simp only [decide_eq_true_eq] at e4
      have := hp1 e5
      rw [w4]
      (repeat' split) <;> omega
  · rw [w3, if_pos (by decide)] at hth2
    rw [w1]
    clear w1 w3
    subst hth2
    rcases hD with ⟨e1, e2, e3⟩ | ⟨e1, e2, e3, e4, e5⟩
    · have hpp := hq0 e1
      clear hq0 hq1
      subst e1
      subst e2
      subst hpp
      rcases e3 with e3 | e3 | e3 | e3
      · (repeat' split) <;> omega
      · (repeat' split) <;> omega
      · simp only [decide_eq_false_iff_not] at e3
        (repeat' split) <;> omega
      · (repeat' split) <;> omega
    · have hpp := hq1 e1
      clear hq0 hq1
      subst e1
      subst e2
      subst hpp
      simp only [decide_eq_true_eq] at e4
      have := hp1 e5
      (repeat' split) <;> omega
theorem calmN_eq {z : CSt} (h : Calmly z) : calmN z = (if z.th = z.lv then 0 else z.k.k5 - 1 + (z.lv - z.th)) + z.k.k6 * (z.tr - z.ti) ∧ 0 ≤ z.k.k6 * (z.tr - z.ti) ∧ z.k.k6 * (z.tr - z.ti) ≤ 224 := by
  have hk := kOk_in h.k
  have o0 := h.ok.h0
  have o1 := h.ok.h1
  have o2 := h.ok.dok
  have l2 := h.ok.l2
  unfold DOk at o2
  have m := mul_rng z.k.k6 (z.tr - z.ti) 32 7 (by omega) (by omega) (by omega) (by omega)
  have e1 : caSteps z.th z.lv = z.lv - z.th := by
    unfold caSteps
    rw [cnt_id _ (by omega) (by omega), cnt_id _ (by omega) (by omega)]
    omega
  have e2 : caSteps z.ti z.tr = z.tr - z.ti := by
    unfold caSteps
    rw [cnt_id _ (by omega) (by omega), cnt_id _ (by omega) (by omega)]
    omega
  have e3 : caOne z.k.k5 = z.k.k5 := by unfold caOne; rw [cnt_id _ (by omega) (by omega)]; omega
  have e4 : caOne z.k.k6 = z.k.k6 := by unfold caOne; rw [cnt_id _ (by omega) (by omega)]; omega
  refine ⟨?_, m.1, m.2⟩
  unfold calmN caWin caOpen caBright
  rw [e1, e2, e3, e4]
  unfold bMul bAdd
  rw [cnt_id z.k.k6 (by omega) (by omega), cnt_id (z.tr - z.ti) (by omega) (by omega)]
  generalize z.k.k6 * (z.tr - z.ti) = p at *
  rw [cnt_id p (by omega) (by omega)]
  by_cases ht : z.th = z.lv
  · rw [if_pos (by omega), if_pos ht, cnt_id p (by omega) (by omega), cnt_id 0 (by omega) (by omega), cnt_id _ (by omega) (by omega)]
  · rw [if_neg (by omega), if_neg ht, cnt_id (z.k.k5 - 1) (by omega) (by omega), cnt_id (z.lv - z.th) (by omega) (by omega), cnt_id p (by omega) (by omega)]
    rw [cnt_id (z.k.k5 - 1 + (z.lv - z.th)) (by omega) (by omega), cnt_id (z.k.k5 - 1 + (z.lv - z.th)) (by omega) (by omega), cnt_id _ (by omega) (by omega)]
/-- What Calm tells is enough. -/
theorem calm_enough {z : CSt} (h : Calmly z) : wAll z ≤ calmN z ∧ calmN z ≤ 1000 ∧ 0 ≤ calmN z := by
  obtain ⟨e, p0, p1⟩ := calmN_eq h
  have hk := kOk_in h.k
  have o0 := h.ok.h0
  have o1 := h.ok.h1
  have l2 := h.ok.l2
  have o3 := h.dh
  have o4 := h.ok.tok
  unfold TOk at o4
  rw [e]
  unfold wAll wOpen wDim wWay
  generalize z.k.k6 * (z.tr - z.ti) = p at *
  refine ⟨?_, ?_, ?_⟩
  · (repeat' split) <;> omega
  · split <;> omega
  · split <;> omega
theorem calm_end {z : CSt} (h : Calmly z) (h0 : wAll z = 0) : z.th = z.lv ∧ z.ti = z.tr ∧ calmN z = 0 := by
  obtain ⟨e, p0, p1⟩ := calmN_eq h
  have hk := kOk_in h.k
  have o1 := h.ok.h1
  have o2 := h.ok.dok
  unfold DOk at o2
  have o3 := h.dh
  have hp1 : z.ti < z.tr → z.k.k6 ≤ z.k.k6 * (z.tr - z.ti) := by
    intro hlt
    have := Int.mul_le_mul_of_nonneg_left (show (1 : Int) ≤ z.tr - z.ti by omega) (show 0 ≤ z.k.k6 by omega)
    rwa [Int.mul_one] at this
  have hp0 : z.ti = z.tr → z.k.k6 * (z.tr - z.ti) = 0 := by
    intro hq
    rw [hq, Int.sub_self, Int.mul_zero]
  unfold wAll wOpen wDim wWay at h0
  rw [e]
  generalize z.k.k6 * (z.tr - z.ti) = p at *
  by_cases ht : z.th = z.lv
  · by_cases hi : z.ti = z.tr
    · rw [if_pos ht, hp0 hi]
      exact ⟨ht, hi, by decide⟩
    · exfalso
      have := hp1 (by omega)
      rw [if_pos ht, if_neg hi] at h0
      omega
  · exfalso
    rw [if_neg ht] at h0
    by_cases hi : z.ti = z.tr
    · rw [if_pos hi] at h0
      split at h0 <;> omega
    · have := hp1 (by omega)
      rw [if_neg hi] at h0
      split at h0 <;> omega
end Go.Proofs.Ytagfbnfbiadpfaa
