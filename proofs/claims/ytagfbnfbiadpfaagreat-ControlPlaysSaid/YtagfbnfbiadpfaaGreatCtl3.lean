/-
  control.Control: Push, Restart, Calm, Knobs, New.
-/
import Derived.Test.YtagfbnfbiadpfaaGreatCtl2
namespace Go.Proofs.YtagfbnfbiadpfaaGreat
open Go.RowKit Go.Shelf
set_option linter.unusedVariables false
set_option linter.unusedSimpArgs false

theorem eight_keepx {W W1 : World} {p0 p1 p2 p3 p4 p5 p6 p7 : Addr} {v0 v1 v2 v3 v4 v5 v6 v7 : Value} (hb : Below W.heap.size W W1) (h : W.cell? p0 = some v0 ∧ W.cell? p1 = some v1 ∧ W.cell? p2 = some v2 ∧ W.cell? p3 = some v3 ∧ W.cell? p4 = some v4 ∧ W.cell? p5 = some v5 ∧ W.cell? p6 = some v6 ∧ W.cell? p7 = some v7) : W1.cell? p0 = some v0 ∧ W1.cell? p1 = some v1 ∧ W1.cell? p2 = some v2 ∧ W1.cell? p3 = some v3 ∧ W1.cell? p4 = some v4 ∧ W1.cell? p5 = some v5 ∧ W1.cell? p6 = some v6 ∧ W1.cell? p7 = some v7 := ⟨cell_keep hb h.1, cell_keep hb h.2.1, cell_keep hb h.2.2.1, cell_keep hb h.2.2.2.1, cell_keep hb h.2.2.2.2.1, cell_keep hb h.2.2.2.2.2.1, cell_keep hb h.2.2.2.2.2.2.1, cell_keep hb h.2.2.2.2.2.2.2⟩
theorem ten_keepx {W W1 : World} {p0 p1 p2 p3 p4 p5 p6 p7 p8 p9 : Addr} {v0 v1 v2 v3 v4 v5 v6 v7 v8 v9 : Value} (hb : Below W.heap.size W W1) (h : W.cell? p0 = some v0 ∧ W.cell? p1 = some v1 ∧ W.cell? p2 = some v2 ∧ W.cell? p3 = some v3 ∧ W.cell? p4 = some v4 ∧ W.cell? p5 = some v5 ∧ W.cell? p6 = some v6 ∧ W.cell? p7 = some v7 ∧ W.cell? p8 = some v8 ∧ W.cell? p9 = some v9) : W1.cell? p0 = some v0 ∧ W1.cell? p1 = some v1 ∧ W1.cell? p2 = some v2 ∧ W1.cell? p3 = some v3 ∧ W1.cell? p4 = some v4 ∧ W1.cell? p5 = some v5 ∧ W1.cell? p6 = some v6 ∧ W1.cell? p7 = some v7 ∧ W1.cell? p8 = some v8 ∧ W1.cell? p9 = some v9 := ⟨cell_keep hb h.1, cell_keep hb h.2.1, cell_keep hb h.2.2.1, cell_keep hb h.2.2.2.1, cell_keep hb h.2.2.2.2.1, cell_keep hb h.2.2.2.2.2.1, cell_keep hb h.2.2.2.2.2.2.1, cell_keep hb h.2.2.2.2.2.2.2.1, cell_keep hb h.2.2.2.2.2.2.2.2.1, cell_keep hb h.2.2.2.2.2.2.2.2.2⟩
theorem seven_keepx {W W1 : World} {p0 p1 p2 p3 p4 p5 p6 : Addr} {v0 v1 v2 v3 v4 v5 v6 : Value} (hb : Below W.heap.size W W1) (h : W.cell? p0 = some v0 ∧ W.cell? p1 = some v1 ∧ W.cell? p2 = some v2 ∧ W.cell? p3 = some v3 ∧ W.cell? p4 = some v4 ∧ W.cell? p5 = some v5 ∧ W.cell? p6 = some v6) : W1.cell? p0 = some v0 ∧ W1.cell? p1 = some v1 ∧ W1.cell? p2 = some v2 ∧ W1.cell? p3 = some v3 ∧ W1.cell? p4 = some v4 ∧ W1.cell? p5 = some v5 ∧ W1.cell? p6 = some v6 := ⟨cell_keep hb h.1, cell_keep hb h.2.1, cell_keep hb h.2.2.1, cell_keep hb h.2.2.2.1, cell_keep hb h.2.2.2.2.1, cell_keep hb h.2.2.2.2.2.1, cell_keep hb h.2.2.2.2.2.2⟩
section
variable {C T D S L : Nat} {w : World} {z : CSt}
/-! ### Restart -/
def restSt (z : CSt) : CSt := { z with c := zeros, m := 0, s := 0, x := 0, th := z.lv, ep := laterE z.ep, way := 0, held := 0, ti := z.tr, dh := 32 }
theorem CtlAt.setT {w' : World} (h : CtlAt w C T D S L z) (o : Only T w w') (ht : TurnAt w' T 0 0) : CtlAt w' C T D S L { z with way := 0, held := 0 } :=
  have ho := h.ord
  ⟨IsObj.only h.o o (by omega), ht, h.d.only o (by omega), ⟨IsObj.only h.h.o o (by omega), h.h.l, h.h.n⟩, IsObj.only h.l o (by omega), ho, ⟨h.ok.l1, h.ok.l2, h.ok.t0, h.ok.t1, h.ok.h0, h.ok.h1, h.ok.e0, h.ok.e1, .inl ⟨rfl, rfl⟩, h.ok.dok⟩⟩
theorem CtlAt.setD {w' : World} (h : CtlAt w C T D S L z) (o : Only D w w') (ht : DimAt w' D z.tr z.tr 32) : CtlAt w' C T D S L { z with ti := z.tr, dh := 32 } :=
  have ho := h.ord
  ⟨IsObj.only h.o o (by omega), h.t.only o (by omega), ht, ⟨IsObj.only h.h.o o (by omega), h.h.l, h.h.n⟩, IsObj.only h.l o (by omega), ho, ⟨h.ok.l1, h.ok.l2, h.ok.t0, h.ok.t1, h.ok.h0, h.ok.h1, h.ok.e0, h.ok.e1, h.ok.tok, ⟨h.ok.t1, h.ok.t0, Int.le_refl _⟩⟩⟩
theorem c_restart (h : CtlAt w C T D S L z) : Calls Tryz.prog 16 #[.pointer (some ⟨C, 0, none⟩)] w fun e w' => e = .returned (.tuple #[]) ∧ CtlAt w' C T D S L (restSt z) ∧ Fr5 C T D S L w w' := by
  have H0 := Lib.hid h
  have c2 := h.cLv
  have c13 := h.cTh
  have f13 := h.o.free 13
  have H1 := Lib.hid (h.setTh z.lv (by omega) (Int.le_refl _))
  have F1 := Lib.hid ((Fr5.refl (C := C) (T := T) (D := D) (S := S) (L := L) w).setC 13 (.int .i64 z.lv))
  clear h
  go_enter Tryz.func16, Tryz.ntmps16
  go_wp2_with (go_at_call 35; (with_reducible refine (c_made H0.out).mono ?_); rintro e w' ⟨rfl, rfl⟩)
  generalize w.setCell ⟨C, 13, none⟩ (.int .i64 z.lv) = w1 at *
  refine (c_later H1.out).mono ?_
  rintro e w2 ⟨rfl, h2, f2⟩
  have H2 := Lib.hid h2
  have F2 := Lib.hid (F1.out.trans f2)
  clear h2 f2 H1 F1
  have q0 := H2.out.cT
  go_wp2_with fail
  refine (tclear_any T _ _ _ H2.out.t).mono ?_
  rintro e w3 ⟨rfl, t3, o3⟩
  have H3 := Lib.hid (H2.out.setT o3 t3)
  have F3 := Lib.hid (F2.out.trans (Fr5.only o3 (.inr (.inl rfl))))
  clear t3 o3 H2 F2 q0
  have q1 := H3.out.cD
  go_wp2_with fail
  refine (dclear_any D _ _ _ _ H3.out.d).mono ?_
  rintro e w4 ⟨rfl, t4, o4⟩
  have H4 := Lib.hid (H3.out.setD o4 t4)
  have F4 := Lib.hid (F3.out.trans (Fr5.only o4 (.inr (.inr (.inl rfl)))))
  clear t4 o4 H3 F3 q1
  go_wp2_with fail
  refine (c_fresh H4.out).mono ?_
  rintro e w5 ⟨rfl, h5, f5⟩
  have H5 := Lib.hid h5
  have F5 := Lib.hid (F4.out.trans f5)
  clear h5 f5 H4 F4
  go_wp2_with fail
  go_end0
  exact ⟨rfl, H5.out, F5.out⟩
/-! ### Push -/
def pushSt (z : CSt) (k : Kb) : CSt := if kOk k z.lv = true then { z with k := k } else z
theorem CtlAt.setK (h : CtlAt w C T D S L z) (k : Kb) : CtlAt (((((((w.setCell ⟨C, 4, none⟩ (.int .i64 k.k0)).setCell ⟨C, 5, none⟩ (.int .i64 k.k1)).setCell ⟨C, 6, none⟩ (.int .i64 k.k2)).setCell ⟨C, 7, none⟩ (.int .i64 k.k3)).setCell ⟨C, 8, none⟩ (.int .i64 k.k4)).setCell ⟨C, 9, none⟩ (.int .i64 k.k5)).setCell ⟨C, 10, none⟩ (.int .i64 k.k6)) C T D S L { z with k := k } := by
  have ho := h.ord
  have o := (((((((Only.refl C w).setCell (p := ⟨C, 4, none⟩) (.inl rfl) (.int .i64 k.k0)).setCell (p := ⟨C, 5, none⟩) (.inl rfl) (.int .i64 k.k1)).setCell (p := ⟨C, 6, none⟩) (.inl rfl) (.int .i64 k.k2)).setCell (p := ⟨C, 7, none⟩) (.inl rfl) (.int .i64 k.k3)).setCell (p := ⟨C, 8, none⟩) (.inl rfl) (.int .i64 k.k4)).setCell (p := ⟨C, 9, none⟩) (.inl rfl) (.int .i64 k.k5)).setCell (p := ⟨C, 10, none⟩) (.inl rfl) (.int .i64 k.k6)
  exact ⟨(((((((h.o.set 4 (.int .i64 k.k0)).set 5 (.int .i64 k.k1)).set 6 (.int .i64 k.k2)).set 7 (.int .i64 k.k3)).set 8 (.int .i64 k.k4)).set 9 (.int .i64 k.k5)).set 10 (.int .i64 k.k6)), h.t.only o (by omega), h.d.only o (by omega), ⟨IsObj.only h.h.o o (by omega), h.h.l, h.h.n⟩, IsObj.only h.l o (by omega), ho, ⟨h.ok.l1, h.ok.l2, h.ok.t0, h.ok.t1, h.ok.h0, h.ok.h1, h.ok.e0, h.ok.e1, h.ok.tok, h.ok.dok⟩⟩
set_option maxRecDepth 100000 in
set_option maxHeartbeats 4000000 in
theorem c_push (k : Kb) (h : CtlAt w C T D S L z) : Calls Tryz.prog 15 #[.pointer (some ⟨C, 0, none⟩), kbV k] w fun e w' => e = .returned (.int .i64 (kErr k z.lv)) ∧ CtlAt w' C T D S L (pushSt z k) ∧ Fr5 C T D S L w w' := by
  obtain ⟨k0, k1, k2, k3, k4, k5, k6⟩ := k
  have hC := h.lt
  obtain ⟨R, hR⟩ : ∃ R, R = w.heap.size := ⟨_, rfl⟩
  have B0 : Below w.heap.size w (w.alloc (.cells #[.int .i64 k0, .int .i64 k1, .int .i64 k2, .int .i64 k3, .int .i64 k4, .int .i64 k5, .int .i64 k6] 23)) := (Below.refl _ w).alloc (Nat.le_refl _) _
  have OR := Lib.hid (show IsObj (w.alloc (.cells #[.int .i64 k0, .int .i64 k1, .int .i64 k2, .int .i64 k3, .int .i64 k4, .int .i64 k5, .int .i64 k6] 23)) R 23 (kbCells ⟨k0, k1, k2, k3, k4, k5, k6⟩) by rw [hR]; exact IsObj.new w _ (kbCells ⟨k0, k1, k2, k3, k4, k5, k6⟩))
  have H0 := Lib.hid (h.same B0)
  have F0 := Lib.hid (Fr5.below (C := C) (T := T) (D := D) (S := S) (L := L) B0)
  have HR := Lib.hid hR
  clear hR B0 h
  go_enter Tryz.func15, Tryz.ntmps15
  go_wp2_with fail
  rw [← HR.out]
  refine (c_made H0.out).mono ?_
  rintro e w' ⟨rfl, rfl⟩
  generalize w.alloc (.cells #[.int .i64 k0, .int .i64 k1, .int .i64 k2, .int .i64 k3, .int .i64 k4, .int .i64 k5, .int .i64 k6] 23) = w0 at *
  have c2 := H0.out.cLv
  have r0 : w0.cell? ⟨R, 0, none⟩ = some (.int .i64 k0) := OR.out.cell 0
  have r1 : w0.cell? ⟨R, 1, none⟩ = some (.int .i64 k1) := OR.out.cell 1
  have r2 : w0.cell? ⟨R, 2, none⟩ = some (.int .i64 k2) := OR.out.cell 2
  have r3 : w0.cell? ⟨R, 3, none⟩ = some (.int .i64 k3) := OR.out.cell 3
  have r4 : w0.cell? ⟨R, 4, none⟩ = some (.int .i64 k4) := OR.out.cell 4
  have r5 : w0.cell? ⟨R, 5, none⟩ = some (.int .i64 k5) := OR.out.cell 5
  have r6 : w0.cell? ⟨R, 6, none⟩ = some (.int .i64 k6) := OR.out.cell 6
  go_wp2_with fail
  go_region_held3 (fun w' => w'.cell? ⟨C, 2, none⟩ = some (.int .i64 z.lv) ∧ w'.cell? ⟨R, 0, none⟩ = some (.int .i64 k0) ∧ w'.cell? ⟨R, 1, none⟩ = some (.int .i64 k1) ∧ w'.cell? ⟨R, 2, none⟩ = some (.int .i64 k2) ∧ w'.cell? ⟨R, 3, none⟩ = some (.int .i64 k3) ∧ w'.cell? ⟨R, 4, none⟩ = some (.int .i64 k4) ∧ w'.cell? ⟨R, 5, none⟩ = some (.int .i64 k5) ∧ w'.cell? ⟨R, 6, none⟩ = some (.int .i64 k6)) (first | assumption | exact hk | go_keep)
    (first | (go_at_call 23; with_reducible refine (check_any ⟨k0, k1, k2, k3, k4, k5, k6⟩ z.lv _).mono ?_; rintro e w1 ⟨rfl, hb⟩; have hk := eight_keepx hb (by assumption)))
  have hb1 : Below w0.heap.size w0 w1 := below_drew_left hb
  have H1 := Lib.hid (H0.out.same hb1)
  have F1 := Lib.hid (F0.out.trans (Fr5.below hb1))
  have OR1 := Lib.hid (IsObj.below OR.out hb1 OR.out.lt)
  clear hb hb1 hk c2 r0 r1 r2 r3 r4 r5 r6 H0 F0 OR
  cases hok : kOk ⟨k0, k1, k2, k3, k4, k5, k6⟩ z.lv with
  | false =>
    have hE : kErr ⟨k0, k1, k2, k3, k4, k5, k6⟩ z.lv = 10 := by unfold kErr; rw [hok]; rfl
    have hS := Lib.hid (show pushSt z ⟨k0, k1, k2, k3, k4, k5, k6⟩ = z by unfold pushSt; rw [hok]; rfl)
    rw [hE]
    have HE := Lib.hid hE
    clear hok hE
    go_wp2
    go_ret
    exact ⟨ret_int HE.out.symm, by rw [hS.out]; exact H1.out, F1.out⟩
  | true =>
    have hE : kErr ⟨k0, k1, k2, k3, k4, k5, k6⟩ z.lv = 0 := by unfold kErr; rw [hok]; rfl
    have hS := Lib.hid (show pushSt z ⟨k0, k1, k2, k3, k4, k5, k6⟩ = { z with k := ⟨k0, k1, k2, k3, k4, k5, k6⟩ } by unfold pushSt; rw [hok]; rfl)
    rw [hE]
    have HE := Lib.hid hE
    clear hok hE
    have r0 : w1.cell? ⟨R, 0, none⟩ = some (.int .i64 k0) := OR1.out.cell 0
    have r1 : w1.cell? ⟨R, 1, none⟩ = some (.int .i64 k1) := OR1.out.cell 1
    have r2 : w1.cell? ⟨R, 2, none⟩ = some (.int .i64 k2) := OR1.out.cell 2
    have r3 : w1.cell? ⟨R, 3, none⟩ = some (.int .i64 k3) := OR1.out.cell 3
    have r4 : w1.cell? ⟨R, 4, none⟩ = some (.int .i64 k4) := OR1.out.cell 4
    have r5 : w1.cell? ⟨R, 5, none⟩ = some (.int .i64 k5) := OR1.out.cell 5
    have r6 : w1.cell? ⟨R, 6, none⟩ = some (.int .i64 k6) := OR1.out.cell 6
    have c4 := H1.out.c0
    have c5 := H1.out.c1
    have c6 := H1.out.c2
    have c7 := H1.out.c3
    have c8 := H1.out.c4
    have c9 := H1.out.c5
    have c10 := H1.out.c6
    have fr := H1.out.o.free
    go_wp2
    go_ret
    exact ⟨ret_int HE.out.symm, by rw [hS.out]; exact H1.out.setK ⟨k0, k1, k2, k3, k4, k5, k6⟩, ((((((F1.out.setC 4 _).setC 5 _).setC 6 _).setC 7 _).setC 8 _).setC 9 _).setC 10 _⟩

/-! ### Calm, Knobs -/
def calmN (z : CSt) : Int := caWin z.k.k5 z.k.k6 z.th z.lv z.ti z.tr
set_option maxRecDepth 100000 in
set_option maxHeartbeats 4000000 in
theorem c_calm (h : CtlAt w C T D S L z) : Calls Tryz.prog 32 #[.pointer (some ⟨C, 0, none⟩)] w fun e w' => e = .returned (.int .i64 (calmN z)) ∧ Below w.heap.size w w' := by
  have H0 := Lib.hid h
  have q0 := h.c0
  have q1 := h.c1
  have q2 := h.c2
  have q3 := h.c3
  have q4 := h.c4
  have q5 := h.c5
  have q6 := h.c6
  have q7 := h.cTh
  have q8 := h.cLv
  have q9 := h.cTr
  have HD := Lib.hid (show CtlAt w.drew C T D S L z from h.drewN 1)
  clear h
  go_enter Tryz.func32, Tryz.ntmps32
  go_wp2_with (go_at_call 35; (with_reducible refine (c_made H0.out).mono ?_); rintro e w' ⟨rfl, rfl⟩)
  go_region_held3 (fun w' => w'.cell? ⟨C, 4, none⟩ = some (.int .i64 z.k.k0) ∧ w'.cell? ⟨C, 5, none⟩ = some (.int .i64 z.k.k1) ∧ w'.cell? ⟨C, 6, none⟩ = some (.int .i64 z.k.k2) ∧ w'.cell? ⟨C, 7, none⟩ = some (.int .i64 z.k.k3) ∧ w'.cell? ⟨C, 8, none⟩ = some (.int .i64 z.k.k4) ∧ w'.cell? ⟨C, 9, none⟩ = some (.int .i64 z.k.k5) ∧ w'.cell? ⟨C, 10, none⟩ = some (.int .i64 z.k.k6) ∧ w'.cell? ⟨C, 13, none⟩ = some (.int .i64 z.th) ∧ w'.cell? ⟨C, 2, none⟩ = some (.int .i64 z.lv) ∧ w'.cell? ⟨C, 3, none⟩ = some (.int .i64 z.tr)) (first | assumption | exact hk | go_keep)
    (first
      | (go_at_call 28; with_reducible refine (c_tier HD.out).mono ?_; rintro e w' ⟨rfl, rfl⟩)
      | (go_at_call 58; with_reducible refine (cwindows_any _ _ _ _ _ _ _ _ _ _ _ _).mono ?_; rintro e w1 ⟨rfl, hb⟩; have hk := ten_keepx hb (by assumption)))
  have hb1 : Below w.heap.size w w1 := below_drew_left hb
  have HB := Lib.hid hb1
  clear hb hb1 hk q0 q1 q2 q3 q4 q5 q6 q7 q8 q9
  go_wp2
  go_ret
  exact ⟨rfl, HB.out⟩
set_option maxRecDepth 100000 in
set_option maxHeartbeats 4000000 in
theorem c_knobs (h : CtlAt w C T D S L z) : Calls Tryz.prog 31 #[.pointer (some ⟨C, 0, none⟩)] w fun e w' => e = .returned (kbV z.k) ∧ Below w.heap.size w w' := by
  have hC := h.lt
  have q0 := h.c0
  have q1 := h.c1
  have q2 := h.c2
  have q3 := h.c3
  have q4 := h.c4
  have q5 := h.c5
  have q6 := h.c6
  have hne : C ≠ w.heap.size := by omega
  clear h
  have o := IsObj.new w 23 (kbCells z.k)
  have r0 : (w.alloc (.cells #[.int .i64 z.k.k0, .int .i64 z.k.k1, .int .i64 z.k.k2, .int .i64 z.k.k3, .int .i64 z.k.k4, .int .i64 z.k.k5, .int .i64 z.k.k6] 23)).cell? ⟨w.heap.size, 0, none⟩ = some (.int .i64 z.k.k0) := o.cell 0
  have r1 : (w.alloc (.cells #[.int .i64 z.k.k0, .int .i64 z.k.k1, .int .i64 z.k.k2, .int .i64 z.k.k3, .int .i64 z.k.k4, .int .i64 z.k.k5, .int .i64 z.k.k6] 23)).cell? ⟨w.heap.size, 1, none⟩ = some (.int .i64 z.k.k1) := o.cell 1
  have r2 : (w.alloc (.cells #[.int .i64 z.k.k0, .int .i64 z.k.k1, .int .i64 z.k.k2, .int .i64 z.k.k3, .int .i64 z.k.k4, .int .i64 z.k.k5, .int .i64 z.k.k6] 23)).cell? ⟨w.heap.size, 2, none⟩ = some (.int .i64 z.k.k2) := o.cell 2
  have r3 : (w.alloc (.cells #[.int .i64 z.k.k0, .int .i64 z.k.k1, .int .i64 z.k.k2, .int .i64 z.k.k3, .int .i64 z.k.k4, .int .i64 z.k.k5, .int .i64 z.k.k6] 23)).cell? ⟨w.heap.size, 3, none⟩ = some (.int .i64 z.k.k3) := o.cell 3
  have r4 : (w.alloc (.cells #[.int .i64 z.k.k0, .int .i64 z.k.k1, .int .i64 z.k.k2, .int .i64 z.k.k3, .int .i64 z.k.k4, .int .i64 z.k.k5, .int .i64 z.k.k6] 23)).cell? ⟨w.heap.size, 4, none⟩ = some (.int .i64 z.k.k4) := o.cell 4
  have r5 : (w.alloc (.cells #[.int .i64 z.k.k0, .int .i64 z.k.k1, .int .i64 z.k.k2, .int .i64 z.k.k3, .int .i64 z.k.k4, .int .i64 z.k.k5, .int .i64 z.k.k6] 23)).cell? ⟨w.heap.size, 5, none⟩ = some (.int .i64 z.k.k5) := o.cell 5
  have r6 : (w.alloc (.cells #[.int .i64 z.k.k0, .int .i64 z.k.k1, .int .i64 z.k.k2, .int .i64 z.k.k3, .int .i64 z.k.k4, .int .i64 z.k.k5, .int .i64 z.k.k6] 23)).cell? ⟨w.heap.size, 6, none⟩ = some (.int .i64 z.k.k6) := o.cell 6
  clear o
  go_enter Tryz.func31, Tryz.ntmps31
  go_wp2
  refine bodyPost_ret (v := kbV z.k) ?_ rfl ?_
  · simp [results, Tryz.f31, go_sem, r0, r1, r2, r3, r4, r5, r6]
  · exact ⟨rfl, (Below.refl _ _).alloc (Nat.le_refl _) _⟩
end

/-! ### New -/
def newSt (lv : Nat) (tr : Int) (k : Kb) : CSt := { lv := lv, tr := tr, k := k, c := zeros, m := 0, s := 0, x := 0, th := lv, ep := 1, way := 0, held := 0, ti := tr, dh := 32 }
theorem newSt_ok (lv : Nat) (tr : Int) (k : Kb) (l1 : 1 ≤ lv) (l2 : lv ≤ 128) (t0 : 0 ≤ tr) (t1 : tr ≤ 7) : COk (newSt lv tr k) :=
  ⟨l1, l2, t0, t1, by show (0 : Int) ≤ (lv : Int); omega, Int.le_refl _, (by decide : (1 : Int) ≤ 1), (by decide : (1 : Int) ≤ 4294967295), .inl ⟨rfl, rfl⟩, ⟨t1, t0, Int.le_refl _⟩⟩
theorem c_new_bad1 (lv tr : Int) (k : Kb) (w : World) (h : ¬ (1 ≤ lv ∧ lv ≤ 128)) : Calls Tryz.prog 5 #[.int .i64 lv, .int .i64 tr, kbV k] w fun e w' => e = .returned (.tuple #[.pointer none, .int .i64 1]) ∧ Below w.heap.size w w' := by
  obtain ⟨k0, k1, k2, k3, k4, k5, k6⟩ := k
  have K := Lib.hid (fun w => hnew_bad lv w h)
  go_enter Tryz.func5, Tryz.ntmps5
  go_wp2_with (go_at_call 21; (with_reducible refine (K.out _).mono ?_); rintro e w' ⟨rfl, rfl⟩)
  go_returns
  exact ⟨rfl, (Below.refl _ _).alloc (Nat.le_refl _) _⟩
theorem c_new_bad2 (lv : Nat) (tr : Int) (k : Kb) (w : World) (l1 : 1 ≤ lv) (l2 : lv ≤ 128) (h : tr < 0 ∨ 7 < tr) : Calls Tryz.prog 5 #[.int .i64 lv, .int .i64 tr, kbV k] w fun e w' => e = .returned (.tuple #[.pointer none, .int .i64 1]) ∧ Below w.heap.size w w' := by
  obtain ⟨k0, k1, k2, k3, k4, k5, k6⟩ := k
  have B0 : Below w.heap.size w (w.alloc (.cells #[.int .i64 k0, .int .i64 k1, .int .i64 k2, .int .i64 k3, .int .i64 k4, .int .i64 k5, .int .i64 k6] 23)) := (Below.refl _ w).alloc (Nat.le_refl _) _
  have BB := Lib.hid B0
  clear B0
  have K := Lib.hid (fun w => dimNew_bad tr h w)
  go_enter Tryz.func5, Tryz.ntmps5
  go_wp2_with fail
  refine (hnew_ok lv _ l1 l2).mono ?_
  rintro e w1 ⟨rfl, h1, b1⟩
  have B1 := Lib.hid (BB.out.trans (b1.mono BB.out.size))
  clear h1 b1
  go_wp2_with (go_at_call 22; (with_reducible refine (K.out _).mono ?_); rintro e w' ⟨rfl, rfl⟩)
  go_returns
  exact ⟨rfl, B1.out⟩
set_option maxRecDepth 100000 in
set_option maxHeartbeats 4000000 in
theorem c_new (lv : Nat) (tr : Int) (k : Kb) (w : World) (l1 : 1 ≤ lv) (l2 : lv ≤ 128) (t0 : 0 ≤ tr) (t1 : tr ≤ 7) : Calls Tryz.prog 5 #[.int .i64 lv, .int .i64 tr, kbV k] w fun e w' => Below w.heap.size w w' ∧
    ((kOk k lv = false ∧ e = .returned (.tuple #[.pointer none, .int .i64 10])) ∨ (kOk k lv = true ∧ ∃ C T D S L, e = .returned (.tuple #[.pointer (some ⟨C, 0, none⟩), .int .i64 0]) ∧ CtlAt w' C T D S L (newSt lv tr k) ∧ w.heap.size ≤ S)) := by
  obtain ⟨k0, k1, k2, k3, k4, k5, k6⟩ := k
  obtain ⟨R, hR⟩ : ∃ R, R = w.heap.size := ⟨_, rfl⟩
  have B0 := Lib.hid (show Below w.heap.size w (w.alloc (.cells #[.int .i64 k0, .int .i64 k1, .int .i64 k2, .int .i64 k3, .int .i64 k4, .int .i64 k5, .int .i64 k6] 23)) from (Below.refl _ w).alloc (Nat.le_refl _) _)
  have OR := Lib.hid (show IsObj (w.alloc (.cells #[.int .i64 k0, .int .i64 k1, .int .i64 k2, .int .i64 k3, .int .i64 k4, .int .i64 k5, .int .i64 k6] 23)) R 23 (kbCells ⟨k0, k1, k2, k3, k4, k5, k6⟩) by rw [hR]; exact IsObj.new w _ (kbCells ⟨k0, k1, k2, k3, k4, k5, k6⟩))
  have HR := Lib.hid hR
  have HE := Lib.hid (show kErr ⟨k0, k1, k2, k3, k4, k5, k6⟩ lv = if kOk ⟨k0, k1, k2, k3, k4, k5, k6⟩ lv = true then 0 else 10 from rfl)
  clear hR
  go_enter Tryz.func5, Tryz.ntmps5
  go_wp2_with fail
  rw [← HR.out]
  generalize w.alloc (.cells #[.int .i64 k0, .int .i64 k1, .int .i64 k2, .int .i64 k3, .int .i64 k4, .int .i64 k5, .int .i64 k6] 23) = w0 at *
  have hs0 : R < w0.heap.size := OR.out.lt
  refine (hnew_ok lv w0 l1 l2).mono ?_
  rintro e w1 ⟨rfl, h1, b1⟩
  obtain ⟨S, hS⟩ : ∃ S, S = w0.heap.size := ⟨_, rfl⟩
  rw [← hS] at h1 ⊢
  have hSR : w.heap.size ≤ S := by have := HR.out; omega
  have H1 := Lib.hid h1
  have hs1 : S < w1.heap.size := h1.o.lt
  have OR1 := Lib.hid (IsObj.below OR.out b1 OR.out.lt)
  have B1 := Lib.hid (B0.out.trans (b1.mono B0.out.size))
  clear h1 b1 hS OR B0
  go_wp2_with fail
  refine (dimNew_any tr t0 t1 w1).mono ?_
  rintro e w2 ⟨rfl, d2, b2, hs2⟩
  obtain ⟨D, hD⟩ : ∃ D, D = w1.heap.size := ⟨_, rfl⟩
  rw [← hD] at d2 hs2 ⊢
  have hSD : S < D := by omega
  have D2 := Lib.hid d2
  have H2 := Lib.hid (H1.out.same b2)
  have OR2 := Lib.hid (IsObj.below OR1.out b2 OR1.out.lt)
  have B2 := Lib.hid (B1.out.trans (b2.mono B1.out.size))
  clear d2 b2 hD H1 OR1 B1
  have q0 : w2.cell? ⟨R, 0, none⟩ = some (.int .i64 k0) := OR2.out.cell 0
  have q1 : w2.cell? ⟨R, 1, none⟩ = some (.int .i64 k1) := OR2.out.cell 1
  have q2 : w2.cell? ⟨R, 2, none⟩ = some (.int .i64 k2) := OR2.out.cell 2
  have q3 : w2.cell? ⟨R, 3, none⟩ = some (.int .i64 k3) := OR2.out.cell 3
  have q4 : w2.cell? ⟨R, 4, none⟩ = some (.int .i64 k4) := OR2.out.cell 4
  have q5 : w2.cell? ⟨R, 5, none⟩ = some (.int .i64 k5) := OR2.out.cell 5
  have q6 : w2.cell? ⟨R, 6, none⟩ = some (.int .i64 k6) := OR2.out.cell 6
  go_wp2_with fail
  refine (check_any ⟨k0, k1, k2, k3, k4, k5, k6⟩ lv w2).mono ?_
  rintro e w3 ⟨rfl, b3⟩
  have D3 := Lib.hid (D2.out.same b3)
  have H3 := Lib.hid (H2.out.same b3)
  have OR3 := Lib.hid (IsObj.below OR2.out b3 OR2.out.lt)
  have B3 := Lib.hid (B2.out.trans (b3.mono B2.out.size))
  have hs3 : D < w3.heap.size := D3.out.lt
  clear b3 q0 q1 q2 q3 q4 q5 q6 D2 H2 OR2 B2
  cases hok : kOk ⟨k0, k1, k2, k3, k4, k5, k6⟩ lv with
  | false =>
    rw [HE.out, hok]
    have HK := Lib.hid hok
    clear hok
    go_wp2
    go_returns
    exact ⟨B3.out, .inl ⟨HK.out, rfl⟩⟩
  | true =>
    rw [HE.out, hok]
    have HK := Lib.hid hok
    clear hok
    have q0 : w3.cell? ⟨R, 0, none⟩ = some (.int .i64 k0) := OR3.out.cell 0
    have q1 : w3.cell? ⟨R, 1, none⟩ = some (.int .i64 k1) := OR3.out.cell 1
    have q2 : w3.cell? ⟨R, 2, none⟩ = some (.int .i64 k2) := OR3.out.cell 2
    have q3 : w3.cell? ⟨R, 3, none⟩ = some (.int .i64 k3) := OR3.out.cell 3
    have q4 : w3.cell? ⟨R, 4, none⟩ = some (.int .i64 k4) := OR3.out.cell 4
    have q5 : w3.cell? ⟨R, 5, none⟩ = some (.int .i64 k5) := OR3.out.cell 5
    have q6 : w3.cell? ⟨R, 6, none⟩ = some (.int .i64 k6) := OR3.out.cell 6
    go_wp2_with fail
    go_region_held3 (fun w' => w'.cell? ⟨R, 0, none⟩ = some (.int .i64 k0) ∧ w'.cell? ⟨R, 1, none⟩ = some (.int .i64 k1) ∧ w'.cell? ⟨R, 2, none⟩ = some (.int .i64 k2) ∧ w'.cell? ⟨R, 3, none⟩ = some (.int .i64 k3) ∧ w'.cell? ⟨R, 4, none⟩ = some (.int .i64 k4) ∧ w'.cell? ⟨R, 5, none⟩ = some (.int .i64 k5) ∧ w'.cell? ⟨R, 6, none⟩ = some (.int .i64 k6)) (first | assumption | exact hk5 | exact hk4 | exact seven_keepx ((Below.refl _ _).alloc (Nat.le_refl _) _) hk5 | go_keep)
      (first
        | (go_at_call 24; with_reducible refine (turnNew_any _).mono ?_; rintro e w4 ⟨rfl, t4, b4, hs4⟩; have hk4 := seven_keepx b4 (by assumption))
        | (go_at_call 25; with_reducible refine (new_any _).mono ?_; rintro e w5 ⟨rfl, l5, b5, hs5⟩; have hk5 := seven_keepx b5 (by assumption)))
    have b34 : Below w3.heap.size w3 w4 := below_drew_left b4
    have b35 : Below w3.heap.size w3 w5 := b34.trans (b5.mono b34.size)
    have t5 : TurnAt w5 w3.heap.size 0 0 := TurnAt.same t4 b5
    have s3 : w3.heap.size < w4.heap.size := hs4
    obtain ⟨W6, hW6⟩ : ∃ W6, W6 = w5.alloc (.cells (ctlCells w3.heap.size D S w4.heap.size (newSt lv tr ⟨k0, k1, k2, k3, k4, k5, k6⟩)).toArray 70) := ⟨_, rfl⟩
    have b56 : Below w5.heap.size w5 W6 := by rw [hW6]; exact (Below.refl _ _).alloc (Nat.le_refl _) _
    have O6 : IsObj W6 w5.heap.size 70 (ctlCells w3.heap.size D S w4.heap.size (newSt lv tr ⟨k0, k1, k2, k3, k4, k5, k6⟩)) := by rw [hW6]; exact IsObj.new w5 _ _
    have D6 := (D3.out.same b35).same b56
    have H6 := (H3.out.same b35).same b56
    have T6 := t5.same b56
    have L6 : LoadAt W6 w4.heap.size 0 0 0 := IsObj.below l5 b56 l5.lt
    have HC := Lib.hid (show CtlAt W6 w5.heap.size w3.heap.size D S w4.heap.size (newSt lv tr ⟨k0, k1, k2, k3, k4, k5, k6⟩) from ⟨O6, T6, D6, H6, L6, ⟨hSD, hs3, s3, hs5⟩, newSt_ok lv tr ⟨k0, k1, k2, k3, k4, k5, k6⟩ l1 l2 t0 t1⟩)
    have BB := Lib.hid (B3.out.trans ((b35.trans (b56.mono b35.size)).mono B3.out.size))
    have HW := Lib.hid hW6
    clear b34 b35 t5 b56 O6 D6 H6 T6 L6 hW6 t4 l5 b4 b5 hk4 hk5 q0 q1 q2 q3 q4 q5 q6
    go_wp2
    go_returns
    have e6 := HW.out
    exact ⟨e6 ▸ BB.out, .inr ⟨HK.out, w5.heap.size, w3.heap.size, D, S, w4.heap.size, rfl, e6 ▸ HC.out, hSR⟩⟩
end Go.Proofs.YtagfbnfbiadpfaaGreat
