
/-
  dim.Dim at work and the document's answer (lockkeeperref17): a tier, and for how many windows it was that.
-/
import Derived.Test.YtagfbnfbiadpfaaGreatFrame
import Derived.Test.YtagfbnfbiadpfaaGreatBound
import Derived.Handy
import Derived.Deep.DeepCutAuto
namespace Go.Proofs.YtagfbnfbiadpfaaGreat
open Go.RowKit
set_option linter.unusedVariables false

/-- Block b is a dimmer. -/
def DimAt (w : World) (b : Nat) (n tier held : Int) : Prop := IsObj w b 93 [.bool true, .int .i64 n, .int .i64 tier, .int .i64 held]
theorem DimAt.drewN {w : World} {b : Nat} {n x y : Int} (h : DimAt w b n x y) (k : Nat) : DimAt (w.drewN k) b n x y := h
theorem DimAt.alloc {w : World} {b : Nat} {n x y : Int} (h : DimAt w b n x y) (o : Obj) : DimAt (w.alloc o) b n x y := IsObj.alloc h o
theorem DimAt.same {w w' : World} {b : Nat} {n x y : Int} (h : DimAt w b n x y) (hb : Below w.heap.size w w') : DimAt w' b n x y := IsObj.below h hb h.lt
theorem DimAt.ext {w : World} {b : Nat} {n x y : Int} (h : DimAt w b n x y) (u : Later w) : DimAt (ext w u) b n x y := h.same u.below
theorem DimAt.only {w w' : World} {b c : Nat} {n x y : Int} (h : DimAt w b n x y) (ho : Only c w w') (hne : b ≠ c) : DimAt w' b n x y := IsObj.only h ho hne
/-- A dimmer that nobody made. -/
def OddAt (w : World) (b : Nat) : Prop := IsObj w b 93 [.bool false, .int .i64 0, .int .i64 0, .int .i64 0]

/-- What one more window comes to. -/
structure Dst where
  tier : Int
  held : Int
  is : Bool
def dstep (n tier held v : Int) (o : Bool) (dwell : Int) : Dst :=
  if bAdd held 1 < dwell then ⟨tier, bAdd held 1, false⟩
  else if v = 1 ∧ 0 < tier then ⟨tier - 1, 0, true⟩
  else if v = 2 ∧ o = true ∧ tier < n then ⟨tier + 1, 0, true⟩
  else ⟨tier, bAdd held 1, false⟩
/-- A dimmer as it can be. -/
def DOk (n tier : Int) : Prop := n ≤ 7 ∧ 0 ≤ tier ∧ tier ≤ n
theorem dok_step {n tier : Int} (h : DOk n tier) (held v : Int) (o : Bool) (d : Int) : DOk n (dstep n tier held v o d).tier := by
  unfold dstep
  unfold DOk at *
  split
  · exact h
  · split
    · simp only; omega
    · split
      · simp only; omega
      · exact h

theorem dclear_nil (w : World) : Calls Tryz.prog 53 #[.pointer none] w fun e w' => e = .returned (.tuple #[]) ∧ w = w' := by
  go_enter Tryz.func53, Tryz.ntmps53
  go_wp2
  go_end0
  exact ⟨rfl, rfl⟩
theorem dclear_odd (b : Nat) (w : World) (h : OddAt w b) : Calls Tryz.prog 53 #[.pointer (some ⟨b, 0, none⟩)] w fun e w' => e = .returned (.tuple #[]) ∧ w = w' := by
  have c0 : w.cell? ⟨b, 0, none⟩ = some (.bool false) := IsObj.cell h 0
  clear h
  go_enter Tryz.func53, Tryz.ntmps53
  go_wp2
  go_end0
  exact ⟨rfl, rfl⟩
theorem dclear_any (b : Nat) (n x y : Int) (w : World) (h : DimAt w b n x y) : Calls Tryz.prog 53 #[.pointer (some ⟨b, 0, none⟩)] w fun e w' => e = .returned (.tuple #[]) ∧ DimAt w' b n n 32 ∧ Only b w w' := by
  have c0 : w.cell? ⟨b, 0, none⟩ = some (.bool true) := IsObj.cell h 0
  have c1 : w.cell? ⟨b, 1, none⟩ = some (.int .i64 n) := IsObj.cell h 1
  have c2 : w.cell? ⟨b, 2, none⟩ = some (.int .i64 x) := IsObj.cell h 2
  have c3 : w.cell? ⟨b, 3, none⟩ = some (.int .i64 y) := IsObj.cell h 3
  have f2 := IsObj.free h 2
  have f3 := IsObj.free h 3
  have H := Lib.hid h
  clear h
  go_enter Tryz.func53, Tryz.ntmps53
  go_wp2
  go_end0
  exact ⟨rfl, (IsObj.set H.out 2 (.int .i64 n)).set 3 (.int .i64 32), ((Only.refl b w).setCell (.inl rfl) _).setCell (.inl rfl) _⟩
theorem dtier_nil (w : World) : Calls Tryz.prog 56 #[.pointer none] w fun e w' => e = .returned (.int .i64 0) ∧ w = w' := by
  go_enter Tryz.func56, Tryz.ntmps56
  go_wp2
  go_ret
  exact ⟨rfl, rfl⟩
theorem dtier_cell (b : Nat) (x : Int) (w : World) (c0 : w.cell? ⟨b, 2, none⟩ = some (.int .i64 x)) : Calls Tryz.prog 56 #[.pointer (some ⟨b, 0, none⟩)] w fun e w' => e = .returned (.int .i64 x) ∧ w = w' := by
  go_enter Tryz.func56, Tryz.ntmps56
  go_wp2
  go_ret
  exact ⟨rfl, rfl⟩
theorem dtier_any (b : Nat) (n x y : Int) (w : World) (h : DimAt w b n x y) : Calls Tryz.prog 56 #[.pointer (some ⟨b, 0, none⟩)] w fun e w' => e = .returned (.int .i64 x) ∧ w = w' := dtier_cell b x w (IsObj.cell h 2)
theorem dtier_odd (b : Nat) (w : World) (h : OddAt w b) : Calls Tryz.prog 56 #[.pointer (some ⟨b, 0, none⟩)] w fun e w' => e = .returned (.int .i64 0) ∧ w = w' := dtier_cell b 0 w (IsObj.cell h 2)
theorem dimNew_any (n : Int) (h0 : 0 ≤ n) (h1 : n ≤ 7) (w : World) : Calls Tryz.prog 22 #[.int .i64 n] w fun e w' => e = .returned (.tuple #[.pointer (some ⟨w.heap.size, 0, none⟩), .int .i64 0]) ∧ DimAt w' w.heap.size n n 32 ∧ Below w.heap.size w w' ∧ w.heap.size < w'.heap.size := by
  have d0 : decide (n < 0) = false := by simp; omega
  have d1 : decide (n > 7) = false := by simp; omega
  go_enter Tryz.func22, Tryz.ntmps22
  go_wp2_with fail
  refine (dclear_any _ n 0 0 _ (IsObj.new w _ [.bool true, .int .i64 n, .int .i64 0, .int .i64 0])).mono ?_
  rintro e w1 ⟨rfl, hD, hO⟩
  have HO := Lib.hid hO
  have HD := Lib.hid hD
  clear hD hO
  go_wp2
  go_returns
  exact ⟨rfl, HD.out, ((Below.refl _ _).alloc (Nat.le_refl _) _).trans (HO.out.below (Nat.le_refl _) (by simp)), by have := HO.out.size; simp at this; omega⟩
theorem dimNew_bad (n : Int) (h : n < 0 ∨ 7 < n) (w : World) : Calls Tryz.prog 22 #[.int .i64 n] w fun e w' => e = .returned (.tuple #[.pointer none, .int .i64 1]) ∧ w = w' := by
  go_enter Tryz.func22, Tryz.ntmps22
  by_cases h0 : n < 0
  · have d0 : decide (n < 0) = true := by simpa using h0
    go_wp2
    go_returns
    exact ⟨rfl, rfl⟩
  · have d0 : decide (n < 0) = false := by simpa using h0
    have d1 : decide (n > 7) = true := by simp; omega
    go_wp2
    go_returns
    exact ⟨rfl, rfl⟩
theorem dstep_nil (v d : Int) (o : Bool) (w : World) : Calls Tryz.prog 49 #[.pointer none, .int .i64 v, .bool o, .int .i64 d] w fun e w' => e = .returned (.bool false) ∧ w = w' := by
  go_enter Tryz.func49, Tryz.ntmps49
  go_wp2
  go_ret
  exact ⟨rfl, rfl⟩
theorem dstep_odd (b : Nat) (v d : Int) (o : Bool) (w : World) (h : OddAt w b) : Calls Tryz.prog 49 #[.pointer (some ⟨b, 0, none⟩), .int .i64 v, .bool o, .int .i64 d] w fun e w' => e = .returned (.bool false) ∧ w = w' := by
  have c0 : w.cell? ⟨b, 0, none⟩ = some (.bool false) := IsObj.cell h 0
  clear h
  go_enter Tryz.func49, Tryz.ntmps49
  go_wp2
  go_ret
  exact ⟨rfl, rfl⟩
theorem only_drewN {b : Nat} {u w : World} (h : Only b u w) (n : Nat) : Only b u (w.drewN n) := ⟨h.os, h.tape, h.output, h.size, h.block⟩
theorem less_any (b : Nat) (n x y : Int) (o : Bool) (w : World) (h : DimAt w b n x y) (h0 : 0 ≤ x) (h1 : x ≤ 7) : Calls Tryz.prog 76 #[.pointer (some ⟨b, 0, none⟩), .bool o] w fun e w' => e = .returned (.bool (decide (0 < x))) ∧ DimAt w' b n (if 0 < x then x - 1 else x) y ∧ Only b w w' := by
  have c2 : w.cell? ⟨b, 2, none⟩ = some (.int .i64 x) := IsObj.cell h 2
  have f2 := IsObj.free h 2
  have H := Lib.hid h
  clear h
  by_cases hx : x = 0
  · subst hx
    go_enter Tryz.func76, Tryz.ntmps76
    go_wp2
    go_ret
    exact ⟨rfl, H.out, Only.refl _ _⟩
  · have e1 : (x == 0) = false := by simpa using hx
    have e2 : 0 < x := by omega
    rw [if_pos e2]
    go_enter Tryz.func76, Tryz.ntmps76
    go_wp2
    go_ret
    refine ⟨?_, ?_, (Only.refl b w).setCell (.inl rfl) _⟩
    · simp [e2]
    · exact IsObj.set H.out 2 _
theorem more_any (b : Nat) (n x y : Int) (o : Bool) (w : World) (h : DimAt w b n x y) (hk : DOk n x) : Calls Tryz.prog 77 #[.pointer (some ⟨b, 0, none⟩), .bool o] w fun e w' => e = .returned (.bool (o && decide (x < n))) ∧ DimAt w' b n (if o = true ∧ x < n then x + 1 else x) y ∧ Only b w w' := by
  have c1 : w.cell? ⟨b, 1, none⟩ = some (.int .i64 n) := IsObj.cell h 1
  have c2 : w.cell? ⟨b, 2, none⟩ = some (.int .i64 x) := IsObj.cell h 2
  have f2 := IsObj.free h 2
  have H := Lib.hid h
  clear h
  unfold DOk at hk
  cases o
  · rw [if_neg (by simp)]
    go_enter Tryz.func77, Tryz.ntmps77
    go_wp2_with fail
    go_quiet (fail)
    go_wp2
    go_ret
    exact ⟨rfl, H.out.drewN _, only_drewN (Only.refl _ _) _⟩
  · by_cases hx : x = n
    · subst hx
      rw [if_neg (by simp)]
      go_enter Tryz.func77, Tryz.ntmps77
      go_wp2_with fail
      go_quiet (fail)
      go_wp2
      go_ret
      simp
      exact ⟨H.out.drewN _, only_drewN (Only.refl _ _) _⟩
    · have e1 : (x == n) = false := by simpa using hx
      have e2 : x < n := by omega
      rw [if_pos ⟨rfl, e2⟩]
      go_enter Tryz.func77, Tryz.ntmps77
      go_wp2_with fail
      go_quiet (fail)
      go_wp2
      go_ret
      refine ⟨?_, ?_, (only_drewN (Only.refl b w) _).setCell (.inl rfl) _⟩
      · simp [e2]
      · exact IsObj.set (IsObj.drewN H.out _) 2 _
theorem stay_any (b : Nat) (o : Bool) (w : World) : Calls Tryz.prog 75 #[.pointer (some ⟨b, 0, none⟩), .bool o] w fun e w' => e = .returned (.bool false) ∧ w = w' := by
  go_enter Tryz.func75, Tryz.ntmps75
  go_wp2
  go_ret
  exact ⟨rfl, rfl⟩

theorem store_one {P : Program} {w : World} {p : Addr} {v old : Value} (hv : v.oneCell' = true) (hc : w.cell? p = some old) (hf : w.frozen? p = false) : Sem.run P (store p v) w = .ok () (w.setCell p v) := by
  rw [run_store P w p v .plain hv, hc]
  simp [hf]
set_option maxHeartbeats 4000000 in
theorem dstep_any (b : Nat) (n tier held v d : Int) (o : Bool) (w : World) (h : DimAt w b n tier held) (ok : DOk n tier) : Calls Tryz.prog 49 #[.pointer (some ⟨b, 0, none⟩), .int .i64 v, .bool o, .int .i64 d] w fun e w' =>
    e = .returned (.bool (dstep n tier held v o d).is) ∧ DimAt w' b n (dstep n tier held v o d).tier (dstep n tier held v o d).held ∧ Only b w w' := by
  have c0 : w.cell? ⟨b, 0, none⟩ = some (.bool true) := IsObj.cell h 0
  have c3 : w.cell? ⟨b, 3, none⟩ = some (.int .i64 held) := IsObj.cell h 3
  have f3 := IsObj.free h 3
  have H := Lib.hid h
  clear h
  by_cases hd : bAdd held 1 < d
  · have hs : dstep n tier held v o d = ⟨tier, bAdd held 1, false⟩ := if_pos hd
    have HS := Lib.hid hs
    clear hs
    go_enter Tryz.func49, Tryz.ntmps49
    go_wp2_with (first | (go_at_call 63; (with_reducible refine (add_any _ _ _).mono ?_); rintro e w' ⟨rfl, rfl⟩))
    go_ret
    rw [HS.out]
    exact ⟨rfl, H.out.set 3 _, (Only.refl b w).setCell (.inl rfl) _⟩
  · have d0 : decide (bAdd held 1 < d) = false := by simpa using hd
    clear hd
    have hv : v = 0 ∨ v = 1 ∨ v = 2 ∨ v < 0 ∨ 3 ≤ v := by omega
    have hs : dstep n tier held v o d = (if v = 1 ∧ 0 < tier then ⟨tier - 1, 0, true⟩ else if v = 2 ∧ o = true ∧ tier < n then ⟨tier + 1, 0, true⟩ else ⟨tier, bAdd held 1, false⟩) := if_neg (by simpa using d0)
    go_enter Tryz.func49, Tryz.ntmps49
    go_upto_region 6 with (first | (go_at_call 63; (with_reducible refine (add_any _ _ _).mono ?_); rintro e w' ⟨rfl, rfl⟩))
    have hW1 := IsObj.set H.out 3 (.int .i64 (bAdd held 1))
    have hW2 : Only b w (w.setCell ⟨b, 3, none⟩ (.int .i64 (bAdd held 1))) := (Only.refl b w).setCell (.inl rfl) _
    obtain ⟨W, hW⟩ : ∃ W, W = w.setCell ⟨b, 3, none⟩ (.int .i64 (bAdd held 1)) := ⟨_, rfl⟩
    rw [← hW] at hW1 hW2 ⊢
    clear hW c0 c3 f3 H d0
    have hbW := hW1.lt
    have H1 : Hid (DimAt W b n tier (bAdd held 1)) := Lib.hid hW1
    have H2 := Lib.hid hW2
    have HS := Lib.hid hs
    clear hW1 hW2 hs
    go_wp2_with fail
    have X0 := IsObj.new W 111 [.nilFunc, .nilFunc, .nilFunc]
    have X1 := X0.set 0 (.func (.func 75) #[] #[])
    have X2 := X1.set 1 (.func (.func 76) #[] #[])
    have X3 := X2.set 2 (.func (.func 77) #[] #[])
    rw [store_one rfl (X0.cell 0) (X0.free 0)]
    simp only [Result.andThen_ok]
    rw [store_one rfl (X1.cell 1) (X1.free 1)]
    simp only [Result.andThen_ok]
    rw [store_one rfl (X2.cell 2) (X2.free 2)]
    simp only [Result.andThen_ok]
    obtain ⟨V, hV⟩ : ∃ V, V = ((((W.alloc (Obj.cells #[.nilFunc, .nilFunc, .nilFunc] 111)).setCell ⟨W.heap.size, 0, none⟩ (.func (.func 75) #[] #[])).setCell ⟨W.heap.size, 1, none⟩ (.func (.func 76) #[] #[])).setCell ⟨W.heap.size, 2, none⟩ (.func (.func 77) #[] #[])) := ⟨_, rfl⟩
    rw [← hV] at X3 ⊢
    have hD : DimAt V b n tier (bAdd held 1) := by
      rw [hV]
      exact (((DimAt.alloc H1.out _).setOther _ _ (by simp; omega)).setOther _ _ (by simp; omega)).setOther _ _ (by simp; omega)
    have hO : Only b w V := by
      have hwW := H2.out.size
      rw [hV]
      exact (((H2.out.alloc _).setCell (.inr (by simp; omega)) _).setCell (.inr (by simp; omega)) _).setCell (.inr (by simp; omega)) _
    have a0 : V.cell? ⟨W.heap.size, 0, none⟩ = some (.func (.func 75) #[] #[]) := X3.cell 0
    have a1 : V.cell? ⟨W.heap.size, 1, none⟩ = some (.func (.func 76) #[] #[]) := X3.cell 1
    have a2 : V.cell? ⟨W.heap.size, 2, none⟩ = some (.func (.func 77) #[] #[]) := X3.cell 2
    have HD := Lib.hid hD
    have HO := Lib.hid hO
    have HOK := Lib.hid ok
    have hlow : 0 ≤ tier ∧ tier ≤ 7 := by unfold DOk at ok; omega
    clear X0 X1 X2 X3 hV H1 H2 hD hO ok
    rcases hv with rfl | rfl | rfl | hv | hv
    · go_wp2_with (first | (go_at_call 75; (with_reducible refine (stay_any _ _ _).mono ?_); rintro e w' ⟨rfl, rfl⟩))
      go_ret
      rw [HS.out]
      exact ⟨rfl, HD.out, HO.out⟩
    · go_wp2_with fail
      refine (less_any b n tier _ o V HD.out hlow.1 hlow.2).mono ?_
      rintro e w1 ⟨rfl, hD1, hO1⟩
      by_cases ht : 0 < tier
      · rw [if_pos ht] at hD1
        have dt : decide (0 < tier) = true := by simpa using ht
        have z3 : w1.cell? ⟨b, 3, none⟩ = some (.int .i64 (bAdd held 1)) := IsObj.cell hD1 3
        have zf := IsObj.free hD1 3
        have hs : dstep n tier held 1 o d = ⟨tier - 1, 0, true⟩ := by rw [HS.out, if_pos ⟨by simp, ht⟩]
        have HS1 := Lib.hid hs
        have HD1 := Lib.hid hD1
        have HO1 := Lib.hid (Only.trans HO.out hO1)
        clear hD1 hO1 hs
        rw [dt]
        go_wp2_with fail
        go_ret
        rw [HS1.out]
        exact ⟨rfl, IsObj.set HD1.out 3 _, HO1.out.setCell (.inl rfl) _⟩
      · rw [if_neg ht] at hD1
        have dt : decide (0 < tier) = false := by simpa using ht
        have hs : dstep n tier held 1 o d = ⟨tier, bAdd held 1, false⟩ := by rw [HS.out, if_neg (by omega), if_neg (by simp)]
        have HS1 := Lib.hid hs
        have HD1 := Lib.hid hD1
        have HO1 := Lib.hid (Only.trans HO.out hO1)
        clear hD1 hO1 hs
        rw [dt]
        go_wp2_with fail
        go_ret
        rw [HS1.out]
        exact ⟨rfl, HD1.out, HO1.out⟩
    · go_wp2_with fail
      refine (more_any b n tier _ o V HD.out HOK.out).mono ?_
      rintro e w1 ⟨rfl, hD1, hO1⟩
      by_cases ht : o = true ∧ tier < n
      · rw [if_pos ht] at hD1
        have dt : (o && decide (tier < n)) = true := by simpa using ht
        have z3 : w1.cell? ⟨b, 3, none⟩ = some (.int .i64 (bAdd held 1)) := IsObj.cell hD1 3
        have zf := IsObj.free hD1 3
        have hs : dstep n tier held 2 o d = ⟨tier + 1, 0, true⟩ := by rw [HS.out, if_neg (by simp), if_pos ⟨by simp, ht⟩]
        have HS1 := Lib.hid hs
        have HD1 := Lib.hid hD1
        have HO1 := Lib.hid (Only.trans HO.out hO1)
        clear hD1 hO1 hs
        rw [dt]
        go_wp2_with fail
        go_ret
        rw [HS1.out]
        exact ⟨rfl, IsObj.set HD1.out 3 _, HO1.out.setCell (.inl rfl) _⟩
      · rw [if_neg ht] at hD1
        have dt : (o && decide (tier < n)) = false := by
          cases o
          · rfl
          · simpa using ht
        have hs : dstep n tier held 2 o d = ⟨tier, bAdd held 1, false⟩ := by rw [HS.out, if_neg (by simp), if_neg (fun h => ht h.2)]
        have HS1 := Lib.hid hs
        have HD1 := Lib.hid hD1
        have HO1 := Lib.hid (Only.trans HO.out hO1)
        clear hD1 hO1 hs
        rw [dt]
        go_wp2_with fail
        go_ret
        rw [HS1.out]
        exact ⟨rfl, HD1.out, HO1.out⟩
    · have dv : decide (v < 0) = true := by simpa using hv
      have hs : dstep n tier held v o d = ⟨tier, bAdd held 1, false⟩ := by rw [HS.out, if_neg (by omega), if_neg (by omega)]
      have HS1 := Lib.hid hs
      clear hs
      go_wp2_with fail
      go_ret
      rw [HS1.out]
      exact ⟨rfl, HD.out, HO.out⟩
    · have dv : decide (v < 0) = false := by simp; omega
      have dv2 : decide (3 ≤ v) = true := by simpa using hv
      have hs : dstep n tier held v o d = ⟨tier, bAdd held 1, false⟩ := by rw [HS.out, if_neg (by omega), if_neg (by omega)]
      have HS1 := Lib.hid hs
      clear hs
      go_wp2_with fail
      go_ret
      rw [HS1.out]
      exact ⟨rfl, HD.out, HO.out⟩

/-! ### The document's answer -/
theorem rdNew_any (n : Int) (w : World) : Calls Tryz.prog 26 #[.int .i64 n] w fun e w' => e = .returned (.agg #[.int .i64 n, .int .i64 n, .int .i64 32]) ∧ Below w.heap.size w w' := by
  go_enter Tryz.func26, Tryz.ntmps26
  go_wp2
  go_returns
  exact ⟨rfl, by go_grown⟩
set_option maxHeartbeats 4000000 in
theorem rdstep_any (n tier held v d : Int) (o : Bool) (w : World) (ok : DOk n tier) : Calls Tryz.prog 44 #[.agg #[.int .i64 n, .int .i64 tier, .int .i64 held], .int .i64 v, .bool o, .int .i64 d] w fun e w' =>
    e = .returned (.tuple #[.agg #[.int .i64 n, .int .i64 (dstep n tier held v o d).tier, .int .i64 (dstep n tier held v o d).held], .bool (dstep n tier held v o d).is]) ∧ Below w.heap.size w w' := by
  have k0 : 0 ≤ tier := by unfold DOk at ok; omega
  have k1 : tier ≤ 7 := by unfold DOk at ok; omega
  clear ok
  by_cases hd : bAdd held 1 < d
  · have d0 : decide (bAdd held 1 < d) = true := by simpa using hd
    have HS := Lib.hid (show dstep n tier held v o d = ⟨tier, bAdd held 1, false⟩ from if_pos hd)
    clear hd
    go_enter Tryz.func44, Tryz.ntmps44
    go_wp2_with (first | (go_at_call 59; (with_reducible refine (radd_any _ _ _).mono ?_); rintro e w' ⟨rfl, rfl⟩))
    go_returns
    rw [HS.out]
    exact ⟨rfl, by go_grown⟩
  · have d0 : decide (bAdd held 1 < d) = false := by simpa using hd
    have hs : dstep n tier held v o d = (if v = 1 ∧ 0 < tier then ⟨tier - 1, 0, true⟩ else if v = 2 ∧ o = true ∧ tier < n then ⟨tier + 1, 0, true⟩ else ⟨tier, bAdd held 1, false⟩) := if_neg hd
    have HS := Lib.hid hs
    clear hd hs
    by_cases h1 : v = 1 ∧ 0 < tier
    · have HS1 := Lib.hid (HS.out.trans (if_pos h1))
      obtain ⟨rfl, h1⟩ := h1
      have d1 : decide (tier > 0) = true := by simpa using h1
      clear h1
      go_enter Tryz.func44, Tryz.ntmps44
      go_wp2_with (first | (go_at_call 59; (with_reducible refine (radd_any _ _ _).mono ?_); rintro e w' ⟨rfl, rfl⟩))
      go_returns
      rw [HS1.out]
      exact ⟨rfl, by go_grown⟩
    · have HS1 := Lib.hid (HS.out.trans (if_neg h1))
      clear HS
      have e1 : (v == 1) = false ∨ ((v == 1) = true ∧ decide (tier > 0) = false) := by
        by_cases hv : v = 1
        · exact .inr ⟨by simpa using hv, by simpa using fun h => h1 ⟨hv, h⟩⟩
        · exact .inl (by simpa using hv)
      by_cases h2 : v = 2 ∧ o = true ∧ tier < n
      · have HS2 := Lib.hid (HS1.out.trans (if_pos h2))
        obtain ⟨rfl, rfl, h3⟩ := h2
        have d3 : decide (tier < n) = true := by simpa using h3
        clear h1 h3 HS1 e1
        go_enter Tryz.func44, Tryz.ntmps44
        go_wp2_with (first | (go_at_call 59; (with_reducible refine (radd_any _ _ _).mono ?_); rintro e w' ⟨rfl, rfl⟩))
        go_returns
        rw [HS2.out]
        exact ⟨rfl, by go_grown⟩
      · have HS2 := Lib.hid (HS1.out.trans (if_neg h2))
        have e2 : (v == 2) = false ∨ ((v == 2) = true ∧ o = false) ∨ ((v == 2) = true ∧ o = true ∧ decide (tier < n) = false) := by
          by_cases hv : v = 2
          · cases o
            · exact .inr (.inl ⟨by simpa using hv, rfl⟩)
            · exact .inr (.inr ⟨by simpa using hv, rfl, by simpa using fun h => h2 ⟨hv, rfl, h⟩⟩)
          · exact .inl (by simpa using hv)
        clear HS1 h1 h2
        rcases e1 with e1 | ⟨e1, e3⟩
        · rcases e2 with e2 | ⟨e2, rfl⟩ | ⟨e2, rfl, e4⟩
          all_goals
            go_enter Tryz.func44, Tryz.ntmps44
            go_wp2_with (first | (go_at_call 59; (with_reducible refine (radd_any _ _ _).mono ?_); rintro e w' ⟨rfl, rfl⟩))
            go_returns
            rw [HS2.out]
            exact ⟨rfl, by go_grown⟩
        · have e5 : (v == 2) = false := by
            simp only [beq_iff_eq] at e1
            subst e1
            rfl
          clear e2
          go_enter Tryz.func44, Tryz.ntmps44
          go_wp2_with (first | (go_at_call 59; (with_reducible refine (radd_any _ _ _).mono ?_); rintro e w' ⟨rfl, rfl⟩))
          go_returns
          rw [HS2.out]
          exact ⟨rfl, by go_grown⟩
end Go.Proofs.YtagfbnfbiadpfaaGreat
