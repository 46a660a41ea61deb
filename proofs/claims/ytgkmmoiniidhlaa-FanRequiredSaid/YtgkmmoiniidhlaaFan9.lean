/-
  The statement FanRequired of layer 33 (fan). No condition.
-/
import Derived.Test.YtgkmmoiniidhlaaFan8
namespace Go.Proofs.Ytgkmmoiniidhlaa
open Go.RowKit
set_option linter.unusedVariables false
set_option linter.unusedSimpArgs false

theorem part_le8 (n k : Int) (h0 : 0 ≤ n) (h1 : 0 ≤ k) (h2 : k ≤ 8) : n * k / 8 ≤ n ∧ 0 ≤ n * k / 8 := by
  have a1 := Int.mul_le_mul_of_nonneg_left h2 h0
  have a2 := Int.mul_nonneg h0 h1
  omega
/-- What is called ends within the deadline, and behind the tick. -/
theorem goes_in (now dl wt most : Int) (h : spOk now dl wt most = true) (n0 : 0 ≤ now) (e1 : dl ≤ 1099511627776) : spD now dl wt most ≤ dl ∧ now < spD now dl wt most ∧ 1 ≤ spW now dl wt most := by
  have hw : spW now dl wt most ≠ 0 := by simpa [spOk] using h
  obtain ⟨hp1, hp2⟩ := part_le8 (tck (bLeft dl now)) (keep wt 8) (tck_nn _) (keep_nn _ _) (keep_le _ _ (by omega))
  have hP : spP now dl wt = tck (bLeft dl now) * keep wt 8 / 8 := rfl
  rw [← hP] at hp1 hp2
  have hk := keep_nn most 65535
  have t1 : ∀ n : Int, tck n = max (min n 1099511627776) 0 := fun n => rfl
  have hl : bLeft dl now = tck (tck dl - tck now) := rfl
  have hW : spW now dl wt most = min (tck (spP now dl wt) / 2) (keep most 65535) := rfl
  have hD : spD now dl wt most = tck (tck now + tck (spP now dl wt)) := by unfold spD; rw [if_pos h]; rfl
  rw [hD]
  rw [hW] at hw ⊢
  have e2 := t1 (spP now dl wt)
  have e3 := t1 (bLeft dl now)
  have e4 := t1 (tck dl - tck now)
  have e5 := t1 dl
  have e6 := t1 now
  have e7 := t1 (tck now + tck (spP now dl wt))
  rw [hl] at e3 hp1
  omega
theorem good_all {g : Cl → Stp} {l : List Cl} (h : planCode g l = 0) : ∀ c, c ∈ l → bad g c = false := by
  intro c hc
  cases hf : l.find? (bad g) with
  | none =>
    have := List.find?_eq_none.1 hf c hc
    simpa using this
  | some d =>
    have hb := List.find?_some hf
    unfold planCode at h
    rw [hf] at h
    unfold bad at hb
    simp only at h
    rw [h] at hb
    simp at hb
theorem all_good {g : Cl → Stp} {l : List Cl} (h : ∀ c, c ∈ l → bad g c = false) : planCode g l = 0 ∧ planSteps g l = l.map g :=
  plan_good (List.find?_eq_none.2 fun c hc => by simp [h c hc])
/-- A greater tier: what is required becomes what it became; what is dimmed was dimmed. -/
theorem more_bad (c : Cl) (x : Nw) (t : Int) (ttl : Int) (f : Ents) (h : x.tier ≤ t) (hb : bad (fun c => stepOf c x ttl f) c = false) : bad (fun c => stepOf c ⟨t, x.lev, x.tick, x.dl⟩ ttl f) c = false := by
  by_cases hz : c.tier = 0
  · have : stepOf c ⟨t, x.lev, x.tick, x.dl⟩ ttl f = stepOf c x ttl f := by unfold stepOf whyOf; simp [hz]
    unfold bad at hb ⊢
    simp only [this]
    exact hb
  · refine bad_false (.inl ?_)
    unfold stepOf
    split <;> simp [hz]
theorem more_dim (c : Cl) (x : Nw) (t : Int) (ttl : Int) (f : Ents) (h : x.tier ≤ t) (hd : (stepOf c ⟨t, x.lev, x.tick, x.dl⟩ ttl f).code = 11) : (stepOf c x ttl f).code = 11 := by
  by_cases h1 : 0 < c.tier ∧ x.tier < c.tier
  · rw [step_dim h1]
  · have h2 : ¬ (0 < c.tier ∧ t < c.tier) := by omega
    exfalso
    by_cases h3 : spOk x.tick x.dl c.wt c.most = false
    · rw [step_low (x := ⟨t, x.lev, x.tick, x.dl⟩) h2 h3] at hd
      simp at hd
    · have h3' : spOk x.tick x.dl c.wt c.most = true := by simpa using h3
      by_cases h4 : cuts f ttl c.to x.lev x.tick = true
      · rw [step_cut (x := ⟨t, x.lev, x.tick, x.dl⟩) h2 h3' h4] at hd
        simp at hd
      · have h4' : cuts f ttl c.to x.lev x.tick = false := by simpa using h4
        rw [step_goes (x := ⟨t, x.lev, x.tick, x.dl⟩) h2 h3' h4'] at hd
        simp at hd
theorem kv_agg (to : Int) (o : Option Ent) : ∃ q0 q1 q2 q3, kv to o = .agg #[.int .i64 q0, .int .i64 q1, .int .i64 q2, .int .i64 q3] := by
  cases o with
  | none => exact ⟨_, _, _, _, rfl⟩
  | some e => exact ⟨_, _, _, _, rfl⟩
theorem nth_map' {α β : Type} [Inhabited α] [Inhabited β] (g : α → β) (l : List α) (k : Nat) (h : k < l.length) : nth (l.map g) k = g (nth l k) := by
  simp [nth, List.getD, h]
/-- What a step is that is not bad. -/
theorem step_cases (c : Cl) (x : Nw) (ttl : Int) (f : Ents) (hb : bad (fun c => stepOf c x ttl f) c = false) :
    (∃ r, (c.tier == 0) = r ∧ stepOf c x ttl f = ⟨c.to, 0, spD x.tick x.dl c.wt c.most, spW x.tick x.dl c.wt c.most, r⟩ ∧ spOk x.tick x.dl c.wt c.most = true) ∨
    ((c.tier == 0) = false ∧ stepOf c x ttl f = ⟨c.to, 8, 0, 0, false⟩ ∧ cuts f ttl c.to x.lev x.tick = true) ∨
    ((c.tier == 0) = false ∧ stepOf c x ttl f = ⟨c.to, 9, 0, 0, false⟩) ∨ ((c.tier == 0) = false ∧ stepOf c x ttl f = ⟨c.to, 11, 0, 0, false⟩) := by
  have key : ∀ n, n ≠ (0 : Int) → stepOf c x ttl f = ⟨c.to, n, 0, 0, c.tier == 0⟩ → (c.tier == 0) = false := by
    intro n hn h
    unfold bad at hb
    simp only [h] at hb
    cases hr : (c.tier == 0) with
    | false => rfl
    | true => rw [hr] at hb; simp [hn] at hb
  by_cases h1 : 0 < c.tier ∧ x.tier < c.tier
  · have h := step_dim (ttl := ttl) (f := f) h1
    have hk := key 11 (by decide) h
    exact .inr (.inr (.inr ⟨hk, by rw [h, hk]⟩))
  · by_cases h2 : spOk x.tick x.dl c.wt c.most = false
    · have h := step_low (ttl := ttl) (f := f) h1 h2
      have hk := key 9 (by decide) h
      exact .inr (.inr (.inl ⟨hk, by rw [h, hk]⟩))
    · have h2' : spOk x.tick x.dl c.wt c.most = true := by simpa using h2
      by_cases h3 : cuts f ttl c.to x.lev x.tick = true
      · have h := step_cut h1 h2' h3
        have hk := key 8 (by decide) h
        exact .inr (.inl ⟨hk, by rw [h, hk], h3⟩)
      · have h3' : cuts f ttl c.to x.lev x.tick = false := by simpa using h3
        exact .inl ⟨_, rfl, step_goes h1 h2' h3', h2'⟩
theorem cuts_known {f : Ents} {ttl to n now : Int} (h : cuts f ttl to n now = true) : (kn f ttl to now).isSome = true := by
  unfold cuts at h
  cases hk : kn f ttl to now with
  | none => rw [hk] at h; simp at h
  | some e => rfl
/-- What holds while FanRequired draws the order of one round's operations. -/
structure RegR (wr : World) (ba o H S : Nat) (c : Cl) (x : Nw) (s : Stp) (W : World) : Prop where
  c0 : W.cell? ⟨ba, o, none⟩ = some (.int .i64 c.to)
  c1 : W.cell? ⟨ba, o + 1, none⟩ = some (.int .i64 c.tier)
  x0 : W.cell? ⟨H, 0, none⟩ = some (.int .i64 x.tier)
  x1 : W.cell? ⟨H, 1, none⟩ = some (.int .i64 x.lev)
  x2 : W.cell? ⟨H, 2, none⟩ = some (.int .i64 x.tick)
  x3 : W.cell? ⟨H, 3, none⟩ = some (.int .i64 x.dl)
  s0 : W.cell? ⟨S, 0, none⟩ = some (.int .i64 s.to)
  s1 : W.cell? ⟨S, 1, none⟩ = some (.int .i64 s.code)
  s2 : W.cell? ⟨S, 2, none⟩ = some (.int .i64 s.dl)
  s3 : W.cell? ⟨S, 3, none⟩ = some (.int .i64 s.bud)
  s4 : W.cell? ⟨S, 4, none⟩ = some (.bool s.req)
  b : Below wr.heap.size wr W
theorem RegR.keep {wr : World} {ba o H S : Nat} {c : Cl} {x : Nw} {s : Stp} {W W1 : World} (h : RegR wr ba o H S c x s W) (hb : Below W.heap.size W W1) : RegR wr ba o H S c x s W1 :=
  ⟨cell_keep hb h.c0, cell_keep hb h.c1, cell_keep hb h.x0, cell_keep hb h.x1, cell_keep hb h.x2, cell_keep hb h.x3, cell_keep hb h.s0, cell_keep hb h.s1, cell_keep hb h.s2, cell_keep hb h.s3, cell_keep hb h.s4, h.b.trans (hb.mono h.b.size)⟩

/-- The region of a number in a code. -/
def findRegion (n : Nat) : Code → Option Code
  | .region k ops d => if k = n then some (.region k ops d) else none
  | .loop c => findRegion n c
  | .seq a b => match findRegion n a with
    | some c => some c
    | none => findRegion n b
  | .block _ c => findRegion n c
  | .scope c => findRegion n c
  | .cond _ a b => match findRegion n a with
    | some c => some c
    | none => findRegion n b
  | _ => none
noncomputable def reg17 : Code := ((Try.f3.body.bind (findRegion 17)).getD .skip)
end Go.Proofs.Ytgkmmoiniidhlaa
