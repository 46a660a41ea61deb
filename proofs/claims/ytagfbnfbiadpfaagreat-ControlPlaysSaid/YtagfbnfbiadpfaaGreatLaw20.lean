
/-
  Layer 20 (control): an act, awake.
-/
import Derived.Test.YtagfbnfbiadpfaaGreatCtl3
namespace Go.Proofs.YtagfbnfbiadpfaaGreat
open Go.RowKit Go.Shelf
set_option linter.unusedVariables false
set_option linter.unusedSimpArgs false

/-- An act. -/
structure CAct where
  kd : Int
  n : Int
  k : Kb
instance : Inhabited CAct := ⟨⟨0, 0, ⟨0, 0, 0, 0, 0, 0, 0⟩⟩⟩
abbrev cactCells (x : CAct) : List Value := [.int .i64 x.kd, .int .i64 x.n, .int .i64 x.k.k0, .int .i64 x.k.k1, .int .i64 x.k.k2, .int .i64 x.k.k3, .int .i64 x.k.k4, .int .i64 x.k.k5, .int .i64 x.k.k6]
abbrev cactV (x : CAct) : Value := .agg #[.int .i64 x.kd, .int .i64 x.n, .int .i64 x.k.k0, .int .i64 x.k.k1, .int .i64 x.k.k2, .int .i64 x.k.k3, .int .i64 x.k.k4, .int .i64 x.k.k5, .int .i64 x.k.k6]
theorem cactCells_len (x : CAct) : (cactCells x).length = 9 := rfl
/-- What stands behind an act. -/
def actSt (z : CSt) (a : CAct) : CSt :=
  if a.kd = 0 then { z with c := hadd z.lv z.c a.n 1 } else if a.kd = 1 then { z with m := bAdd z.m 1, s := bAdd z.s a.n, x := max z.x (cnt a.n) }
  else if a.kd = 2 then clZ z else if a.kd = 3 then pushSt z a.k else if a.kd = 4 then restSt z else z
def actIs (a : CAct) : Bool := decide (a.kd = 2) || decide (a.kd = 4)
section
variable {C T D S L : Nat} {w : World} {z : CSt}
theorem actSt_lv (z : CSt) (a : CAct) : (actSt z a).lv = z.lv ∧ (actSt z a).tr = z.tr := by
  unfold actSt pushSt
  have hM := clM_lv z
  (repeat' split) <;> first | exact ⟨rfl, rfl⟩ | exact ⟨hM.1, hM.2.1⟩
end

/-! ### awake -/
set_option maxRecDepth 100000 in
set_option maxHeartbeats 2000000 in
theorem rof_any (b : Nat) (k : Kb) (w : World) (q0 : w.cell? ⟨b, 0, none⟩ = some (.int .i64 k.k0)) (q1 : w.cell? ⟨b, 1, none⟩ = some (.int .i64 k.k1)) (q2 : w.cell? ⟨b, 2, none⟩ = some (.int .i64 k.k2)) (q3 : w.cell? ⟨b, 3, none⟩ = some (.int .i64 k.k3)) (q4 : w.cell? ⟨b, 4, none⟩ = some (.int .i64 k.k4)) (q5 : w.cell? ⟨b, 5, none⟩ = some (.int .i64 k.k5)) (q6 : w.cell? ⟨b, 6, none⟩ = some (.int .i64 k.k6)) :
    Calls Tryz.prog 18 #[.slice (some ⟨b, 0, none⟩) 7 7] w fun e w' => e = .returned (kbV k) ∧ Below w.heap.size w w' := by
  obtain ⟨k0, k1, k2, k3, k4, k5, k6⟩ := k
  have hne : b ≠ w.heap.size := by have := cell_lt q0; simp only at this; omega
  obtain ⟨R, hR⟩ : ∃ R, R = w.heap.size := ⟨_, rfl⟩
  have o := Lib.hid (show IsObj (w.alloc (.cells #[.int .i64 0, .int .i64 0, .int .i64 0, .int .i64 0, .int .i64 0, .int .i64 0, .int .i64 0] 23)) R 23 [.int .i64 0, .int .i64 0, .int .i64 0, .int .i64 0, .int .i64 0, .int .i64 0, .int .i64 0] by rw [hR]; exact IsObj.new w _ _)
  have B := Lib.hid (show Below R w (w.alloc (.cells #[.int .i64 0, .int .i64 0, .int .i64 0, .int .i64 0, .int .i64 0, .int .i64 0, .int .i64 0] 23)) by rw [hR]; exact (Below.refl _ _).alloc (Nat.le_refl _) _)
  have b1 : Below w.heap.size w (w.alloc (.cells #[.int .i64 0, .int .i64 0, .int .i64 0, .int .i64 0, .int .i64 0, .int .i64 0, .int .i64 0] 23)) := (Below.refl _ _).alloc (Nat.le_refl _) _
  have c0 := cell_keep b1 q0
  have c1 := cell_keep b1 q1
  have c2 := cell_keep b1 q2
  have c3 := cell_keep b1 q3
  have c4 := cell_keep b1 q4
  have c5 := cell_keep b1 q5
  have c6 := cell_keep b1 q6
  have HR := Lib.hid hR
  clear b1 q0 q1 q2 q3 q4 q5 q6 hR
  go_enter Tryz.func18, Tryz.ntmps18
  go_upto_region 1 with (fail)
  rw [← HR.out]
  generalize w.alloc (.cells #[.int .i64 0, .int .i64 0, .int .i64 0, .int .i64 0, .int .i64 0, .int .i64 0, .int .i64 0] 23) = w1 at *
  have z0 : w1.cell? ⟨R, 0, none⟩ = some (.int .i64 0) := o.out.cell 0
  have z1 : w1.cell? ⟨R, 1, none⟩ = some (.int .i64 0) := o.out.cell 1
  have z2 : w1.cell? ⟨R, 2, none⟩ = some (.int .i64 0) := o.out.cell 2
  have z3 : w1.cell? ⟨R, 3, none⟩ = some (.int .i64 0) := o.out.cell 3
  have z4 : w1.cell? ⟨R, 4, none⟩ = some (.int .i64 0) := o.out.cell 4
  have z5 : w1.cell? ⟨R, 5, none⟩ = some (.int .i64 0) := o.out.cell 5
  have z6 : w1.cell? ⟨R, 6, none⟩ = some (.int .i64 0) := o.out.cell 6
  have fr := o.out.free
  (refine region_tail 22 (by kernel_rfl) (by kernel_rfl) ?_; simp only [List.take_succ_cons, List.take_zero, List.drop_succ_cons, List.drop_zero]; (repeat (refine wpStill_step (fun K hK => ?_); go_simp; (first | (refine hK _ ?_)); clear hK K)); refine wpStill_nil ?_)
  go_wp2
  have OF : IsObj ((((((((w1.setCell ⟨R, 0, none⟩ (.int .i64 k0)).setCell ⟨R, 1, none⟩ (.int .i64 k1)).setCell ⟨R, 2, none⟩ (.int .i64 k2)).setCell ⟨R, 3, none⟩ (.int .i64 k3)).setCell ⟨R, 4, none⟩ (.int .i64 k4)).setCell ⟨R, 5, none⟩ (.int .i64 k5)).setCell ⟨R, 6, none⟩ (.int .i64 k6)).drew) R 23 (kbCells ⟨k0, k1, k2, k3, k4, k5, k6⟩) := (((((((o.out.set 0 _).set 1 _).set 2 _).set 3 _).set 4 _).set 5 _).set 6 _).drew
  have BF : Below R w ((((((((w1.setCell ⟨R, 0, none⟩ (.int .i64 k0)).setCell ⟨R, 1, none⟩ (.int .i64 k1)).setCell ⟨R, 2, none⟩ (.int .i64 k2)).setCell ⟨R, 3, none⟩ (.int .i64 k3)).setCell ⟨R, 4, none⟩ (.int .i64 k4)).setCell ⟨R, 5, none⟩ (.int .i64 k5)).setCell ⟨R, 6, none⟩ (.int .i64 k6)).drew) := (((((((B.out.setCell (p := ⟨R, 0, none⟩) (Nat.le_refl _) _).setCell (p := ⟨R, 1, none⟩) (Nat.le_refl _) _).setCell (p := ⟨R, 2, none⟩) (Nat.le_refl _) _).setCell (p := ⟨R, 3, none⟩) (Nat.le_refl _) _).setCell (p := ⟨R, 4, none⟩) (Nat.le_refl _) _).setCell (p := ⟨R, 5, none⟩) (Nat.le_refl _) _).setCell (p := ⟨R, 6, none⟩) (Nat.le_refl _) _).drew
  generalize (((((((w1.setCell ⟨R, 0, none⟩ (.int .i64 k0)).setCell ⟨R, 1, none⟩ (.int .i64 k1)).setCell ⟨R, 2, none⟩ (.int .i64 k2)).setCell ⟨R, 3, none⟩ (.int .i64 k3)).setCell ⟨R, 4, none⟩ (.int .i64 k4)).setCell ⟨R, 5, none⟩ (.int .i64 k5)).setCell ⟨R, 6, none⟩ (.int .i64 k6)).drew = wf at *
  have y0 : wf.cell? ⟨R, 0, none⟩ = some (.int .i64 k0) := OF.cell 0
  have y1 : wf.cell? ⟨R, 1, none⟩ = some (.int .i64 k1) := OF.cell 1
  have y2 : wf.cell? ⟨R, 2, none⟩ = some (.int .i64 k2) := OF.cell 2
  have y3 : wf.cell? ⟨R, 3, none⟩ = some (.int .i64 k3) := OF.cell 3
  have y4 : wf.cell? ⟨R, 4, none⟩ = some (.int .i64 k4) := OF.cell 4
  have y5 : wf.cell? ⟨R, 5, none⟩ = some (.int .i64 k5) := OF.cell 5
  have y6 : wf.cell? ⟨R, 6, none⟩ = some (.int .i64 k6) := OF.cell 6
  refine bodyPost_ret (v := kbV ⟨k0, k1, k2, k3, k4, k5, k6⟩) ?_ rfl ?_
  · simp [results, Tryz.f18, go_sem, y0, y1, y2, y3, y4, y5, y6]
  · exact ⟨rfl, by rw [← HR.out]; exact BF⟩
def kA : Kb := ⟨1, 4, 10, 5, 1, 3, 2⟩
/-- Behind so many that were seen. -/
def zA : Nat → CSt
  | 0 => newSt 4 2 kA
  | k + 1 => { zA k with c := hadd (zA k).lv (zA k).c k 1 }
def zB : CSt := { zA 4 with m := bAdd (zA 4).m 1, s := bAdd (zA 4).s 9, x := max (zA 4).x (cnt 9) }
set_option maxRecDepth 100000 in
theorem zC_is : clV zB = 1 ∧ (clZ zB).th = 3 ∧ (clZ zB).ti = 1 ∧ (clZ zB).ep = 2 ∧ mvB (clT zB) (clA zB) = true ∧ (clD zB).is = true := by decide +kernel
theorem c_newA (w : World) : Calls Tryz.prog 5 #[.int .i64 4, .int .i64 2, .agg #[.int .i64 1, .int .i64 4, .int .i64 10, .int .i64 5, .int .i64 1, .int .i64 3, .int .i64 2]] w fun e w' => Below w.heap.size w w' ∧ ∃ C T D S L, e = .returned (.tuple #[.pointer (some ⟨C, 0, none⟩), .int .i64 0]) ∧ CtlAt w' C T D S L (zA 0) ∧ w.heap.size ≤ S := by
  have K := c_new 4 2 kA w (by omega) (by omega) (by omega) (by omega)
  refine K.mono ?_
  rintro e w' ⟨hb, h⟩
  refine ⟨hb, ?_⟩
  rcases h with ⟨h0, _⟩ | ⟨_, h⟩
  · exact absurd h0 (by decide)
  · exact h
section
variable {C T D S L : Nat} {w : World}
theorem cA_close (h : CtlAt w C T D S L zB) : Calls Tryz.prog 13 #[.pointer (some ⟨C, 0, none⟩)] w fun e w' => e = .returned (.agg #[.int .i64 1, .int .i64 3, .int .i64 1, .int .i64 2, .bool true, .bool true]) ∧ CtlAt w' C T D S L (clZ zB) ∧ Fr5 C T D S L w w' := by
  have K := c_close h
  obtain ⟨e1, e2, e3, e4, e5, e6⟩ := zC_is
  rwa [e1, e2, e3, e4, e5, e6] at K
theorem cA_pass2 (h : CtlAt w C T D S L (clZ zB)) : Calls Tryz.prog 19 #[.pointer (some ⟨C, 0, none⟩), .int .i64 2] w fun e w' => e = .returned (.bool true) ∧ w = w' := by
  have K := c_passes 2 h
  rw [zC_is.2.1] at K
  exact K
theorem cA_pass3 (h : CtlAt w C T D S L (clZ zB)) : Calls Tryz.prog 19 #[.pointer (some ⟨C, 0, none⟩), .int .i64 3] w fun e w' => e = .returned (.bool false) ∧ w = w' := by
  have K := c_passes 3 h
  rw [zC_is.2.1] at K
  exact K
theorem cA_perm1 (h : CtlAt w C T D S L (clZ zB)) : Calls Tryz.prog 20 #[.pointer (some ⟨C, 0, none⟩), .int .i64 1] w fun e w' => e = .returned (.bool true) ∧ w = w' := by
  have K := c_permits 1 h
  rw [zC_is.2.2.1] at K
  exact K
theorem cA_perm2 (h : CtlAt w C T D S L (clZ zB)) : Calls Tryz.prog 20 #[.pointer (some ⟨C, 0, none⟩), .int .i64 2] w fun e w' => e = .returned (.bool false) ∧ w = w' := by
  have K := c_permits 2 h
  rw [zC_is.2.2.1] at K
  exact K
end
set_option maxRecDepth 100000 in
set_option maxHeartbeats 4000000 in
theorem awake20 (w : World) : Calls Tryz.prog 4 #[] w fun e w' => e = .returned (.bool true) ∧ Below w.heap.size w w' := by
  obtain ⟨R, hR⟩ : ∃ R, R = w.heap.size := ⟨_, rfl⟩
  have o := Lib.hid (show IsObj (w.alloc (.cells #[.int .i64 1, .int .i64 4, .int .i64 10, .int .i64 5, .int .i64 1, .int .i64 3, .int .i64 2] 3)) R 3 [.int .i64 1, .int .i64 4, .int .i64 10, .int .i64 5, .int .i64 1, .int .i64 3, .int .i64 2] by rw [hR]; exact IsObj.new w _ _)
  have B := Lib.hid (show Below R w (w.alloc (.cells #[.int .i64 1, .int .i64 4, .int .i64 10, .int .i64 5, .int .i64 1, .int .i64 3, .int .i64 2] 3)) by rw [hR]; exact (Below.refl _ _).alloc (Nat.le_refl _) _)
  have HR := Lib.hid hR
  have hn2 : w.heap.size ≤ R := by omega
  clear hR
  go_enter Tryz.func4, Tryz.ntmps4
  go_wp2_with fail
  rw [← HR.out]
  generalize w.alloc (.cells #[.int .i64 1, .int .i64 4, .int .i64 10, .int .i64 5, .int .i64 1, .int .i64 3, .int .i64 2] 3) = w1 at *
  have hs1 : R < w1.heap.size := o.out.lt
  refine (rof_any R kA w1 (o.out.cell 0) (o.out.cell 1) (o.out.cell 2) (o.out.cell 3) (o.out.cell 4) (o.out.cell 5) (o.out.cell 6)).mono ?_
  rintro e w2 ⟨rfl, b2⟩
  have B2 := Lib.hid (B.out.trans (b2.mono (by omega)))
  have hs2 : R < w2.heap.size := by have := b2.size; omega
  clear b2 o B
  unfold kbV kA
  go_wp2_with fail
  refine (c_newA w2).mono ?_
  rintro e w3 ⟨b3, C, T, D, S, L, rfl, h3, hS⟩
  have B3 := Lib.hid (B2.out.trans (b3.mono (by omega)))
  have H3 := Lib.hid h3
  have ho := h3.ord
  have hRS : R ≤ S := by omega
  clear b3 h3 B2
  go_wp2_with fail
  go_loopw [3] (fun i wr => ∃ k : Nat, k ≤ 4 ∧ i = .int .i64 k ∧ CtlAt wr C T D S L (zA k) ∧ Below R w wr) (fun i _ => 4 - (intOf i).toNat)
  case atStart => exact ⟨0, by omega, rfl, H3.out, B3.out⟩
  case round =>
    obtain ⟨k, hk, rfl, hC, hB⟩ := hrel
    have HC := Lib.hid hC
    have HB := Lib.hid hB
    have hlt := hC.lt
    clear hC hB
    by_cases hlt4 : k < 4
    · have i1 : (k : Int) < 4 := by omega
      go_wp2_with fail
      refine (c_saw k HC.out).mono ?_
      rintro e w4 ⟨rfl, h4, f4⟩
      have H4 := Lib.hid (show CtlAt w4 C T D S L (zA (k + 1)) from h4)
      have B4 := Lib.hid (HB.out.trans (f4.to ho hRS (by omega)))
      clear h4 f4
      go_wp2_with fail
      go_roundw
      case rel => exact ⟨k + 1, by omega, by go_num, H4.out, B4.out⟩
      case measure => simp [intOf]; omega
    · obtain rfl : k = 4 := by omega
      go_wp2_with fail
      refine (c_waited 9 HC.out).mono ?_
      rintro e w4 ⟨rfl, h4, f4⟩
      have H4 := Lib.hid (show CtlAt w4 C T D S L zB from h4)
      have B4 := Lib.hid (HB.out.trans (f4.to ho hRS (by omega)))
      have hl4 := H4.out.lt
      clear h4 f4 HC HB
      go_wp2_with fail
      refine (cA_close H4.out).mono ?_
      rintro e w5 ⟨rfl, h5, f5⟩
      have B5 := Lib.hid (B4.out.trans (f5.to ho hRS (by omega)))
      have hl5 := h5.lt
      obtain ⟨W6, hW6⟩ : ∃ W6, W6 = w5.alloc (.cells #[.int .i64 1, .int .i64 3, .int .i64 1, .int .i64 2, .bool true, .bool true] 50) := ⟨_, rfl⟩
      have H6 := Lib.hid (show CtlAt W6 C T D S L (clZ zB) by rw [hW6]; exact h5.same ((Below.refl _ _).alloc (Nat.le_refl _) _))
      have B6 := Lib.hid (show Below R w W6 by rw [hW6]; exact B5.out.alloc (by omega) _)
      have hW := Lib.hid hW6
      rw [hW6] at H6
      clear h5 f5 hW6
      go_wp2_with (first
        | (go_at_call 19; (with_reducible refine (cA_pass2 H6.out).mono ?_); rintro e w' ⟨rfl, rfl⟩)
        | (go_at_call 19; (with_reducible refine (cA_pass3 H6.out).mono ?_); rintro e w' ⟨rfl, rfl⟩)
        | (go_at_call 20; (with_reducible refine (cA_perm1 H6.out).mono ?_); rintro e w' ⟨rfl, rfl⟩)
        | (go_at_call 20; (with_reducible refine (cA_perm2 H6.out).mono ?_); rintro e w' ⟨rfl, rfl⟩))
      go_ret
      have e6 := hW.out
      exact ⟨rfl, (e6 ▸ B6.out).mono hn2⟩
end Go.Proofs.YtagfbnfbiadpfaaGreat
