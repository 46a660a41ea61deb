/-
  One call of a fan: the document's Step.
-/
import Derived.Test.YtgkmmoiniidhlaaKn4
import Derived.Test.YtgkmmoiniidhlaaSplit
namespace Go.Proofs.Ytgkmmoiniidhlaa
open Go.RowKit
set_option linter.unusedVariables false

structure Stp where
  to : Int
  code : Int
  dl : Int
  bud : Int
  req : Bool
instance : Inhabited Stp := ⟨⟨0, 0, 0, 0, false⟩⟩
def stpCells (x : Stp) : List Value := [.int .i64 x.to, .int .i64 x.code, .int .i64 x.dl, .int .i64 x.bud, .bool x.req]
theorem stpCells_len (x : Stp) : (stpCells x).length = 5 := rfl
abbrev stpV (x : Stp) : Value := .agg #[.int .i64 x.to, .int .i64 x.code, .int .i64 x.dl, .int .i64 x.bud, .bool x.req]
structure Cl where
  to : Int
  tier : Int
  wt : Int
  most : Int
instance : Inhabited Cl := ⟨⟨0, 0, 0, 0⟩⟩
def clCells (x : Cl) : List Value := [.int .i64 x.to, .int .i64 x.tier, .int .i64 x.wt, .int .i64 x.most]
theorem clCells_len (x : Cl) : (clCells x).length = 4 := rfl
abbrev clV (x : Cl) : Value := .agg #[.int .i64 x.to, .int .i64 x.tier, .int .i64 x.wt, .int .i64 x.most]
structure Nw where
  tier : Int
  lev : Int
  tick : Int
  dl : Int
abbrev nwV (x : Nw) : Value := .agg #[.int .i64 x.tier, .int .i64 x.lev, .int .i64 x.tick, .int .i64 x.dl]
abbrev rnV (x : Nw) (ttl : Int) (v : Value) : Value := .agg #[.int .i64 x.tier, .int .i64 x.lev, .int .i64 x.tick, .int .i64 x.dl, .int .i64 ttl, v]
/-- Why a call is left out: 11, 9, 8; or not: 0. -/
def whyOf (c : Cl) (x : Nw) (ttl : Int) (f : Ents) : Int :=
  if 0 < c.tier ∧ x.tier < c.tier then 11 else if spOk x.tick x.dl c.wt c.most = false then 9 else if cuts f ttl c.to x.lev x.tick = true then 8 else 0
def stepOf (c : Cl) (x : Nw) (ttl : Int) (f : Ents) : Stp :=
  if whyOf c x ttl f = 0 then ⟨c.to, 0, spD x.tick x.dl c.wt c.most, spW x.tick x.dl c.wt c.most, c.tier == 0⟩ else ⟨c.to, whyOf c x ttl f, 0, 0, c.tier == 0⟩
theorem step_dim {c : Cl} {x : Nw} {ttl : Int} {f : Ents} (h : 0 < c.tier ∧ x.tier < c.tier) : stepOf c x ttl f = ⟨c.to, 11, 0, 0, c.tier == 0⟩ := by
  simp [stepOf, whyOf, h]
theorem step_low {c : Cl} {x : Nw} {ttl : Int} {f : Ents} (h : ¬ (0 < c.tier ∧ x.tier < c.tier)) (h2 : spOk x.tick x.dl c.wt c.most = false) : stepOf c x ttl f = ⟨c.to, 9, 0, 0, c.tier == 0⟩ := by
  simp [stepOf, whyOf, h, h2]
theorem step_cut {c : Cl} {x : Nw} {ttl : Int} {f : Ents} (h : ¬ (0 < c.tier ∧ x.tier < c.tier)) (h2 : spOk x.tick x.dl c.wt c.most = true) (h3 : cuts f ttl c.to x.lev x.tick = true) : stepOf c x ttl f = ⟨c.to, 8, 0, 0, c.tier == 0⟩ := by
  simp [stepOf, whyOf, h, h2, h3]
theorem step_goes {c : Cl} {x : Nw} {ttl : Int} {f : Ents} (h : ¬ (0 < c.tier ∧ x.tier < c.tier)) (h2 : spOk x.tick x.dl c.wt c.most = true) (h3 : cuts f ttl c.to x.lev x.tick = false) : stepOf c x ttl f = ⟨c.to, 0, spD x.tick x.dl c.wt c.most, spW x.tick x.dl c.wt c.most, c.tier == 0⟩ := by
  simp [stepOf, whyOf, h, h2, h3]

theorem IsObj.put5 {w : World} {b : Nat} {ty : TypeId} {a0 a1 a2 a3 a4 : Value} (h : IsObj w b ty [a0, a1, a2, a3, a4]) (v0 v1 v2 v3 v4 : Value) :
    IsObj (((((w.setCell ⟨b, 0, none⟩ v0).setCell ⟨b, 1, none⟩ v1).setCell ⟨b, 2, none⟩ v2).setCell ⟨b, 3, none⟩ v3).setCell ⟨b, 4, none⟩ v4) b ty [v0, v1, v2, v3, v4] :=
  ((((h.set 0 v0).set 1 v1).set 2 v2).set 3 v3).set 4 v4
theorem obj5 {w : World} {b : Nat} {ty : TypeId} {a0 a1 a2 a3 a4 : Value} (h : IsObj w b ty [a0, a1, a2, a3, a4]) :
    w.cell? ⟨b, 0, none⟩ = some a0 ∧ w.cell? ⟨b, 1, none⟩ = some a1 ∧ w.cell? ⟨b, 2, none⟩ = some a2 ∧ w.cell? ⟨b, 3, none⟩ = some a3 ∧ w.cell? ⟨b, 4, none⟩ = some a4 :=
  ⟨h.cell 0, h.cell 1, h.cell 2, h.cell 3, h.cell 4⟩

set_option maxRecDepth 100000 in
set_option maxHeartbeats 1000000 in
theorem rstep_any (c : Cl) (x : Nw) (ttl : Int) (f : Ents) (v : Value) (w : World) (hv : KnAt w v (knL f)) : Calls Try.prog 21 #[clV c, rnV x ttl v] w fun e w' => e = .returned (stpV (stepOf c x ttl f)) ∧ Below w.heap.size w w' := by
  have HV := Lib.hid hv
  clear hv
  by_cases h : 0 < c.tier ∧ x.tier < c.tier
  · rw [step_dim h]
    obtain ⟨h1, h2⟩ := h
    go_enter Try.func21, Try.ntmps21
    go_wp2_with (first | (go_at_call 70; (with_reducible refine (rscall_any _ _ _ _ _).mono ?_); rintro e w' ⟨rfl, rfl⟩))
    go_returns
    exact ⟨rfl, ((((Below.refl _ _).alloc (Nat.le_refl _) _).alloc (by simp <;> omega) _).alloc (by simp <;> omega) _).alloc (by simp <;> omega) _⟩
  · have hd : (decide (0 < c.tier) = true ∧ decide (x.tier < c.tier) = false) ∨ decide (0 < c.tier) = false := by
      by_cases q : 0 < c.tier
      · left; exact ⟨decide_eq_true q, by simp; omega⟩
      · right; simpa using q
    by_cases h2 : spOk x.tick x.dl c.wt c.most = false
    · rw [step_low h h2]
      clear h
      rcases hd with ⟨d1, d2⟩ | d1
      all_goals
        go_enter Try.func21, Try.ntmps21
        go_wp2_with (first | (go_at_call 70; (with_reducible refine (rscall_any _ _ _ _ _).mono ?_); rintro e w' ⟨rfl, rfl⟩))
        go_returns
        exact ⟨rfl, ((((Below.refl _ _).alloc (Nat.le_refl _) _).alloc (by simp <;> omega) _).alloc (by simp <;> omega) _).alloc (by simp <;> omega) _⟩
    · have h2' : spOk x.tick x.dl c.wt c.most = true := by simpa using h2
      obtain ⟨W1, hW1⟩ : ∃ W1, W1 = (w.alloc (.cells (clCells c).toArray 48)).alloc (.cells #[.int .i64 x.tier, .int .i64 x.lev, .int .i64 x.tick, .int .i64 x.dl, .int .i64 ttl, v] 30) := ⟨_, rfl⟩
      obtain ⟨W2, hW2⟩ : ∃ W2, W2 = (W1.alloc (.cells #[.int .i64 0, .int .i64 0, .int .i64 0, .int .i64 0, .bool false] 42)).alloc (.cells #[.int .i64 c.to, .int .i64 0, .int .i64 0, .int .i64 0, .bool (c.tier == 0)] 42) := ⟨_, rfl⟩
      have hs1 : W1.heap.size = w.heap.size + 1 + 1 := by rw [hW1]; simp
      have hb1 : Below w.heap.size w W1 := by rw [hW1]; exact ((Below.refl _ _).alloc (Nat.le_refl _) _).alloc (by simp <;> omega) _
      have hb2 : Below W1.heap.size W1 W2 := by rw [hW2]; exact ((Below.refl _ _).alloc (Nat.le_refl _) _).alloc (by simp <;> omega) _
      have hR : IsObj W2 W1.heap.size 42 [.int .i64 0, .int .i64 0, .int .i64 0, .int .i64 0, .bool false] := by rw [hW2]; exact (IsObj.new W1 _ _).alloc _
      have hS : IsObj W2 (W1.heap.size + 1) 42 [.int .i64 c.to, .int .i64 0, .int .i64 0, .int .i64 0, .bool (c.tier == 0)] := by
        rw [hW2]
        have := IsObj.new (W1.alloc (.cells #[.int .i64 0, .int .i64 0, .int .i64 0, .int .i64 0, .bool false] 42)) 42 [.int .i64 c.to, .int .i64 0, .int .i64 0, .int .i64 0, .bool (c.tier == 0)]
        simpa using this
      have HR := Lib.hid hR
      have HS := Lib.hid hS
      have hbw : Below w.heap.size w W2 := hb1.trans (hb2.mono hb1.size)
      have HBw := Lib.hid hbw
      have HV2 := Lib.hid (HV.out.same hbw)
      simp only [clCells] at hW1
      clear hb1 hb2 hR hS hbw
      have HC := Lib.hid (rcuts_any v f ttl c.to x.lev x.tick W2 HV2.out)
      by_cases h3 : cuts f ttl c.to x.lev x.tick = true
      · rw [step_cut h h2' h3]
        rw [h3] at HC
        clear h h2
        rcases hd with ⟨d1, d2⟩ | d1
        all_goals
          go_enter Try.func21, Try.ntmps21
          go_wp2_with (first | (go_at_call 70; (with_reducible refine (rscall_any _ _ _ _ _).mono ?_); rintro e w' ⟨rfl, rfl⟩))
          rw [← hW1, ← hs1, ← hW2]
          clear hW1 hW2
          have hz : w.heap.size ≤ W1.heap.size := by omega
          generalize W1.heap.size = B at *
          clear hs1
          refine HC.out.mono ?_
          rintro e w' ⟨rfl, hb⟩
          have hlS := IsObj.lt HS.out
          have hS' := IsObj.below HS.out hb HS.out.lt
          have hR' := IsObj.below HR.out hb HR.out.lt
          have hbw' := Lib.hid (HBw.out.trans (hb.mono HBw.out.size))
          have s0 := IsObj.cell hS' 0
          have s1 := IsObj.cell hS' 1
          have s2 := IsObj.cell hS' 2
          have s3 := IsObj.cell hS' 3
          have s4 := IsObj.cell hS' 4
          have r0 := IsObj.cell hR' 0
          have r1 := IsObj.cell hR' 1
          have r2 := IsObj.cell hR' 2
          have r3 := IsObj.cell hR' 3
          have r4 := IsObj.cell hR' 4
          simp only [List.getElem?_cons_succ, List.getElem?_cons_zero] at s0 s1 s2 s3 s4 r0 r1 r2 r3 r4
          have sf := IsObj.free hS'
          have rf := IsObj.free hR'
          have t0 : B ≠ B + 1 := by omega
          have t1 : B + 1 ≠ B := by omega
          obtain ⟨wf, hwf⟩ : ∃ wf, wf = ((((((w'.setCell ⟨B + 1, 1, none⟩ (.int .i64 8)).setCell ⟨B, 0, none⟩ (.int .i64 c.to)).setCell ⟨B, 1, none⟩ (.int .i64 8)).setCell ⟨B, 2, none⟩ (.int .i64 0)).setCell ⟨B, 3, none⟩ (.int .i64 0)).setCell ⟨B, 4, none⟩ (.bool (c.tier == 0))) := ⟨_, rfl⟩
          have hof : IsObj wf B 42 [(.int .i64 c.to), (.int .i64 8), (.int .i64 0), (.int .i64 0), (.bool (c.tier == 0))] := by rw [hwf]; exact IsObj.put5 (hR'.setOther ⟨B + 1, 1, none⟩ (.int .i64 8) t0) (.int .i64 c.to) (.int .i64 8) (.int .i64 0) (.int .i64 0) (.bool (c.tier == 0))
          have HBf := Lib.hid (show Below w.heap.size w wf by rw [hwf]; exact ((((((((((((hbw'.out).setCell (p := ⟨B + 1, 1, none⟩) (by simp only; omega) (.int .i64 8))).setCell (p := ⟨B, 0, none⟩) (by simp only; omega) (.int .i64 c.to))).setCell (p := ⟨B, 1, none⟩) (by simp only; omega) (.int .i64 8))).setCell (p := ⟨B, 2, none⟩) (by simp only; omega) (.int .i64 0))).setCell (p := ⟨B, 3, none⟩) (by simp only; omega) (.int .i64 0))).setCell (p := ⟨B, 4, none⟩) (by simp only; omega) (.bool (c.tier == 0))))
          obtain ⟨f0, f1, f2, f3, f4⟩ := obj5 hof
          clear hb hS' hR' HC HV2 HR HS HBw HV hof
          go_wp2_with fail
          rw [← hwf]
          clear hwf
          exact bodyPost_ret (by simp [results, Try.results21, go_sem, f0, f1, f2, f3, f4]) rfl ⟨rfl, HBf.out⟩
      · have h3' : cuts f ttl c.to x.lev x.tick = false := by simpa using h3
        rw [step_goes h h2' h3']
        rw [h3'] at HC
        clear h h2
        rcases hd with ⟨d1, d2⟩ | d1
        all_goals
          go_enter Try.func21, Try.ntmps21
          go_wp2_with (first | (go_at_call 70; (with_reducible refine (rscall_any _ _ _ _ _).mono ?_); rintro e w' ⟨rfl, rfl⟩))
          rw [← hW1, ← hs1, ← hW2]
          clear hW1 hW2
          have hz : w.heap.size ≤ W1.heap.size := by omega
          generalize W1.heap.size = B at *
          clear hs1
          refine HC.out.mono ?_
          rintro e w' ⟨rfl, hb⟩
          have hlS := IsObj.lt HS.out
          have hS' := IsObj.below HS.out hb HS.out.lt
          have hR' := IsObj.below HR.out hb HR.out.lt
          have hbw' := Lib.hid (HBw.out.trans (hb.mono HBw.out.size))
          have s0 := IsObj.cell hS' 0
          have s1 := IsObj.cell hS' 1
          have s2 := IsObj.cell hS' 2
          have s3 := IsObj.cell hS' 3
          have s4 := IsObj.cell hS' 4
          have r0 := IsObj.cell hR' 0
          have r1 := IsObj.cell hR' 1
          have r2 := IsObj.cell hR' 2
          have r3 := IsObj.cell hR' 3
          have r4 := IsObj.cell hR' 4
          simp only [List.getElem?_cons_succ, List.getElem?_cons_zero] at s0 s1 s2 s3 s4 r0 r1 r2 r3 r4
          have sf := IsObj.free hS'
          have rf := IsObj.free hR'
          have t0 : B ≠ B + 1 := by omega
          have t1 : B + 1 ≠ B := by omega
          obtain ⟨wf, hwf⟩ : ∃ wf, wf = (((((((w'.setCell ⟨B + 1, 2, none⟩ (.int .i64 (spD x.tick x.dl c.wt c.most))).setCell ⟨B + 1, 3, none⟩ (.int .i64 (spW x.tick x.dl c.wt c.most))).setCell ⟨B, 0, none⟩ (.int .i64 c.to)).setCell ⟨B, 1, none⟩ (.int .i64 0)).setCell ⟨B, 2, none⟩ (.int .i64 (spD x.tick x.dl c.wt c.most))).setCell ⟨B, 3, none⟩ (.int .i64 (spW x.tick x.dl c.wt c.most))).setCell ⟨B, 4, none⟩ (.bool (c.tier == 0))) := ⟨_, rfl⟩
          have hof : IsObj wf B 42 [(.int .i64 c.to), (.int .i64 0), (.int .i64 (spD x.tick x.dl c.wt c.most)), (.int .i64 (spW x.tick x.dl c.wt c.most)), (.bool (c.tier == 0))] := by rw [hwf]; exact IsObj.put5 ((hR'.setOther ⟨B + 1, 2, none⟩ (.int .i64 (spD x.tick x.dl c.wt c.most)) t0).setOther ⟨B + 1, 3, none⟩ (.int .i64 (spW x.tick x.dl c.wt c.most)) t0) (.int .i64 c.to) (.int .i64 0) (.int .i64 (spD x.tick x.dl c.wt c.most)) (.int .i64 (spW x.tick x.dl c.wt c.most)) (.bool (c.tier == 0))
          have HBf := Lib.hid (show Below w.heap.size w wf by rw [hwf]; exact ((((((((((((((hbw'.out).setCell (p := ⟨B + 1, 2, none⟩) (by simp only; omega) (.int .i64 (spD x.tick x.dl c.wt c.most)))).setCell (p := ⟨B + 1, 3, none⟩) (by simp only; omega) (.int .i64 (spW x.tick x.dl c.wt c.most)))).setCell (p := ⟨B, 0, none⟩) (by simp only; omega) (.int .i64 c.to))).setCell (p := ⟨B, 1, none⟩) (by simp only; omega) (.int .i64 0))).setCell (p := ⟨B, 2, none⟩) (by simp only; omega) (.int .i64 (spD x.tick x.dl c.wt c.most)))).setCell (p := ⟨B, 3, none⟩) (by simp only; omega) (.int .i64 (spW x.tick x.dl c.wt c.most)))).setCell (p := ⟨B, 4, none⟩) (by simp only; omega) (.bool (c.tier == 0))))
          obtain ⟨f0, f1, f2, f3, f4⟩ := obj5 hof
          clear hb hS' hR' HC HV2 HR HS HBw HV hof
          go_wp2_with fail
          rw [← hwf]
          clear hwf
          exact bodyPost_ret (by simp [results, Try.results21, go_sem, f0, f1, f2, f3, f4]) rfl ⟨rfl, HBf.out⟩
end Go.Proofs.Ytgkmmoiniidhlaa
