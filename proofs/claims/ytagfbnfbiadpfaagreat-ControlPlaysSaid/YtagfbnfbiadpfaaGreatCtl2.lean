/-
  control.Control: move, Close.
-/
import Derived.Test.YtagfbnfbiadpfaaGreatCtl
import Derived.Deep.RegionHeld3
namespace Go.Proofs.YtagfbnfbiadpfaaGreat
open Go.RowKit Go.Shelf
set_option linter.unusedVariables false
set_option linter.unusedSimpArgs false

theorem two_keepx {W W1 : World} {p1 p2 : Addr} {v1 v2 : Value} (hb : Below W.heap.size W W1) (h : W.cell? p1 = some v1 ∧ W.cell? p2 = some v2) : W1.cell? p1 = some v1 ∧ W1.cell? p2 = some v2 := ⟨cell_keep hb h.1, cell_keep hb h.2⟩
theorem three_keepx {W W1 : World} {p1 p2 p3 : Addr} {v1 v2 v3 : Value} (hb : Below W.heap.size W W1) (h : W.cell? p1 = some v1 ∧ W.cell? p2 = some v2 ∧ W.cell? p3 = some v3) : W1.cell? p1 = some v1 ∧ W1.cell? p2 = some v2 ∧ W1.cell? p3 = some v3 := ⟨cell_keep hb h.1, cell_keep hb h.2.1, cell_keep hb h.2.2⟩
/-- Where a threshold moves. -/
def mvTh (z : CSt) (way : Int) : Int := if 0 < way then upW z.lv z.c z.th z.k.k3 else if way < 0 then downW z.lv z.c z.th z.k.k4 z.k.k2 else z.th
def mvSt (z : CSt) (way : Int) : CSt := if mvTh z way = z.th then z else { z with th := mvTh z way, ep := laterE z.ep }
def mvB (z : CSt) (way : Int) : Bool := decide (mvTh z way ≠ z.th)
theorem mvTh_rng {z : CSt} (h : COk z) (way : Int) : 0 ≤ mvTh z way ∧ mvTh z way ≤ z.lv := by
  have h0 := h.h0
  have h1 := h.h1
  have l1 := h.l1
  unfold mvTh
  split
  · have := up_rng z.lv z.c z.th z.k.k3 h0 h1
    omega
  · split
    · have hf0 := keep_nn z.k.k4 z.lv
      have hf1 := keep_le z.k.k4 z.lv (by omega)
      have e : downW z.lv z.c z.th z.k.k4 z.k.k2 = downW z.lv z.c z.th (keep z.k.k4 z.lv) z.k.k2 := by
        unfold downW
        rw [keep_id (keep z.k.k4 z.lv) z.lv hf0 hf1]
      rw [e]
      have := down_rng z.lv z.c z.th (keep z.k.k4 z.lv) z.k.k2 h0 h1 hf0 hf1
      omega
    · omega
theorem set_oth {W : World} {C i j : Nat} {v x : Value} (hij : i ≠ j) (h : W.cell? ⟨C, i, none⟩ = some v) : (W.setCell ⟨C, j, none⟩ x).cell? ⟨C, i, none⟩ = some v := by
  rw [World.cell?_setCell_other _ _ _ _ (by simp [hij])]
  exact h
section
variable {C T D S L : Nat} {w : World} {z : CSt}
theorem CtlAt.cT (h : CtlAt w C T D S L z) : w.cell? ⟨C, 0, none⟩ = some (.pointer (some ⟨T, 0, none⟩)) := h.o.cell 0
theorem CtlAt.cD (h : CtlAt w C T D S L z) : w.cell? ⟨C, 1, none⟩ = some (.pointer (some ⟨D, 0, none⟩)) := h.o.cell 1
theorem CtlAt.cLv (h : CtlAt w C T D S L z) : w.cell? ⟨C, 2, none⟩ = some (.int .i64 z.lv) := h.o.cell 2
theorem CtlAt.cTr (h : CtlAt w C T D S L z) : w.cell? ⟨C, 3, none⟩ = some (.int .i64 z.tr) := h.o.cell 3
theorem CtlAt.c0 (h : CtlAt w C T D S L z) : w.cell? ⟨C, 4, none⟩ = some (.int .i64 z.k.k0) := h.o.cell 4
theorem CtlAt.c1 (h : CtlAt w C T D S L z) : w.cell? ⟨C, 5, none⟩ = some (.int .i64 z.k.k1) := h.o.cell 5
theorem CtlAt.c2 (h : CtlAt w C T D S L z) : w.cell? ⟨C, 6, none⟩ = some (.int .i64 z.k.k2) := h.o.cell 6
theorem CtlAt.c3 (h : CtlAt w C T D S L z) : w.cell? ⟨C, 7, none⟩ = some (.int .i64 z.k.k3) := h.o.cell 7
theorem CtlAt.c4 (h : CtlAt w C T D S L z) : w.cell? ⟨C, 8, none⟩ = some (.int .i64 z.k.k4) := h.o.cell 8
theorem CtlAt.c5 (h : CtlAt w C T D S L z) : w.cell? ⟨C, 9, none⟩ = some (.int .i64 z.k.k5) := h.o.cell 9
theorem CtlAt.c6 (h : CtlAt w C T D S L z) : w.cell? ⟨C, 10, none⟩ = some (.int .i64 z.k.k6) := h.o.cell 10
theorem CtlAt.cS (h : CtlAt w C T D S L z) : w.cell? ⟨C, 11, none⟩ = some (.pointer (some ⟨S, 0, none⟩)) := h.o.cell 11
theorem CtlAt.cL (h : CtlAt w C T D S L z) : w.cell? ⟨C, 12, none⟩ = some (.pointer (some ⟨L, 0, none⟩)) := h.o.cell 12
theorem CtlAt.cTh (h : CtlAt w C T D S L z) : w.cell? ⟨C, 13, none⟩ = some (.int .i64 z.th) := h.o.cell 13
theorem CtlAt.cEp (h : CtlAt w C T D S L z) : w.cell? ⟨C, 14, none⟩ = some (.int .i64 z.ep) := h.o.cell 14
theorem CtlAt.setTh (h : CtlAt w C T D S L z) (t : Int) (h0 : 0 ≤ t) (h1 : t ≤ z.lv) : CtlAt (w.setCell ⟨C, 13, none⟩ (.int .i64 t)) C T D S L { z with th := t } :=
  have ho := h.ord
  ⟨h.o.set 13 (.int .i64 t), h.t.setOther ⟨C, 13, none⟩ _ (by simp; omega), h.d.setOther ⟨C, 13, none⟩ _ (by simp; omega), ⟨h.h.o.setOther ⟨C, 13, none⟩ _ (by simp; omega), h.h.l, h.h.n⟩, h.l.setOther ⟨C, 13, none⟩ _ (by simp; omega), ho, ⟨h.ok.l1, h.ok.l2, h.ok.t0, h.ok.t1, h0, h1, h.ok.e0, h.ok.e1, h.ok.tok, h.ok.dok⟩⟩
theorem Fr5.setC {w1 : World} (f : Fr5 C T D S L w w1) (j : Nat) (v : Value) : Fr5 C T D S L w (w1.setCell ⟨C, j, none⟩ v) := f.trans (Fr5.only ((Only.refl C w1).setCell (p := ⟨C, j, none⟩) (.inl rfl) v) (.inl rfl))
set_option maxRecDepth 100000 in
set_option maxHeartbeats 2000000 in
theorem c_move (way : Int) (h : CtlAt w C T D S L z) : Calls Tryz.prog 47 #[.pointer (some ⟨C, 0, none⟩), .int .i64 way] w fun e w' => e = .returned (.bool (mvB z way)) ∧ CtlAt w' C T D S L (mvSt z way) ∧ Fr5 C T D S L w w' := by
  have c13 : w.cell? ⟨C, 13, none⟩ = some (.int .i64 z.th) := h.o.cell 13
  have c11 : w.cell? ⟨C, 11, none⟩ = some (.pointer (some ⟨S, 0, none⟩)) := h.o.cell 11
  have c7 : w.cell? ⟨C, 7, none⟩ = some (.int .i64 z.k.k3) := h.o.cell 7
  have c8 : w.cell? ⟨C, 8, none⟩ = some (.int .i64 z.k.k4) := h.o.cell 8
  have c6 : w.cell? ⟨C, 6, none⟩ = some (.int .i64 z.k.k2) := h.o.cell 6
  have H := Lib.hid h
  have HD := Lib.hid (show CtlAt w.drew C T D S L z from h.drewN 1)
  have hl := h.ok.l1
  have hrng := mvTh_rng h.ok way
  clear h
  by_cases h1 : 0 < way
  · have hM : mvTh z way = upW z.lv z.c z.th z.k.k3 := by unfold mvTh; rw [if_pos h1]
    rw [hM] at hrng
    have HMv := Lib.hid hM
    clear hM
    go_enter Tryz.func47, Tryz.ntmps47
    go_wp2_with fail
    go_region_held3 (fun w' => w'.cell? ⟨C, 11, none⟩ = some (.pointer (some ⟨S, 0, none⟩)) ∧ w'.cell? ⟨C, 7, none⟩ = some (.int .i64 z.k.k3)) (first | assumption | exact ⟨set_oth (by decide) hk.1, set_oth (by decide) hk.2⟩ | go_keep)
      (first | (go_at_call 71; with_reducible refine (wup_any S z.lv z.c z.th z.k.k3 _ HD.out.h hl).mono ?_; rintro e w1 ⟨rfl, hb⟩; have hk := two_keepx hb (by assumption); have H1 := Lib.hid (HD.out.same hb); have k13 := H1.out.cTh; have f13 := H1.out.o.free 13))
    have hne := hrng
    have H2 := Lib.hid (H1.out.setTh (upW z.lv z.c z.th z.k.k3) hrng.1 hrng.2)
    have F2 := Lib.hid ((Fr5.below (C := C) (T := T) (D := D) (S := S) (L := L) (below_drew_left hb)).setC 13 (.int .i64 (upW z.lv z.c z.th z.k.k3)))
    clear hb hk k13 f13 H1 HD c13 c11 c7 c8 c6 hne hrng
    generalize (upW z.lv z.c z.th z.k.k3) = u at *
    generalize w1.setCell ⟨C, 13, none⟩ (.int .i64 u) = w2 at *
    have c13 := H2.out.cTh
    by_cases hu : u = z.th
    · have hS : mvSt z way = { z with th := u } := by unfold mvSt; rw [HMv.out, if_pos hu, hu]
      have hd : mvB z way = false := by unfold mvB; rw [HMv.out]; simp [hu]
      have hbq : (u == z.th) = true := by simp [hu]
      have HSe := Lib.hid hS
      have HDe := Lib.hid hd
      clear hS hd hu
      go_wp2
      go_ret
      exact ⟨ret_bool HDe.out.symm, by rw [HSe.out]; exact H2.out, F2.out⟩
    · have hS : mvSt z way = { z with th := u, ep := laterE z.ep } := by unfold mvSt; rw [HMv.out, if_neg hu]
      have hd : mvB z way = true := by unfold mvB; rw [HMv.out]; simp [hu]
      have hbq : (u == z.th) = false := by simp [hu]
      have HSe := Lib.hid hS
      have HDe := Lib.hid hd
      clear hS hd hu
      go_wp2_with fail
      refine (c_later H2.out).mono ?_
      rintro e w3 ⟨rfl, h3, f3⟩
      have H3 := Lib.hid h3
      have F3 := Lib.hid (F2.out.trans f3)
      clear h3 f3
      go_wp2_with fail
      go_ret
      exact ⟨ret_bool HDe.out.symm, by rw [HSe.out]; exact H3.out, F3.out⟩
  · by_cases h2 : way < 0
    · have hM : mvTh z way = downW z.lv z.c z.th z.k.k4 z.k.k2 := by unfold mvTh; rw [if_neg h1, if_pos h2]
      have h3 : way ≤ 0 := by omega
      rw [hM] at hrng
      have HMv := Lib.hid hM
      clear hM h1
      go_enter Tryz.func47, Tryz.ntmps47
      go_wp2_with fail
      go_region_held3 (fun w' => w'.cell? ⟨C, 11, none⟩ = some (.pointer (some ⟨S, 0, none⟩)) ∧ w'.cell? ⟨C, 8, none⟩ = some (.int .i64 z.k.k4) ∧ w'.cell? ⟨C, 6, none⟩ = some (.int .i64 z.k.k2)) (first | assumption | exact ⟨set_oth (by decide) hk.1, set_oth (by decide) hk.2.1, set_oth (by decide) hk.2.2⟩ | go_keep)
        (first | (go_at_call 72; with_reducible refine (wdown_any S z.lv z.c z.th z.k.k4 z.k.k2 _ HD.out.h hl).mono ?_; rintro e w1 ⟨rfl, hb⟩; have hk := three_keepx hb (by assumption); have H1 := Lib.hid (HD.out.same hb); have k13 := H1.out.cTh; have f13 := H1.out.o.free 13))
      have hne := hrng
      have H2 := Lib.hid (H1.out.setTh (downW z.lv z.c z.th z.k.k4 z.k.k2) hrng.1 hrng.2)
      have F2 := Lib.hid ((Fr5.below (C := C) (T := T) (D := D) (S := S) (L := L) (below_drew_left hb)).setC 13 (.int .i64 (downW z.lv z.c z.th z.k.k4 z.k.k2)))
      clear hb hk k13 f13 H1 HD c13 c11 c7 c8 c6 hne hrng
      generalize (downW z.lv z.c z.th z.k.k4 z.k.k2) = u at *
      generalize w1.setCell ⟨C, 13, none⟩ (.int .i64 u) = w2 at *
      have c13 := H2.out.cTh
      by_cases hu : u = z.th
      · have hS : mvSt z way = { z with th := u } := by unfold mvSt; rw [HMv.out, if_pos hu, hu]
        have hd : mvB z way = false := by unfold mvB; rw [HMv.out]; simp [hu]
        have hbq : (u == z.th) = true := by simp [hu]
        have HSe := Lib.hid hS
        have HDe := Lib.hid hd
        clear hS hd hu
        go_wp2
        go_ret
        exact ⟨ret_bool HDe.out.symm, by rw [HSe.out]; exact H2.out, F2.out⟩
      · have hS : mvSt z way = { z with th := u, ep := laterE z.ep } := by unfold mvSt; rw [HMv.out, if_neg hu]
        have hd : mvB z way = true := by unfold mvB; rw [HMv.out]; simp [hu]
        have hbq : (u == z.th) = false := by simp [hu]
        have HSe := Lib.hid hS
        have HDe := Lib.hid hd
        clear hS hd hu
        go_wp2_with fail
        refine (c_later H2.out).mono ?_
        rintro e w3 ⟨rfl, h3, f3⟩
        have H3 := Lib.hid h3
        have F3 := Lib.hid (F2.out.trans f3)
        clear h3 f3
        go_wp2_with fail
        go_ret
        exact ⟨ret_bool HDe.out.symm, by rw [HSe.out]; exact H3.out, F3.out⟩
    · have h3 : way ≤ 0 := by omega
      have h4 : 0 ≤ way := by omega
      have hM : mvTh z way = z.th := by unfold mvTh; rw [if_neg h1, if_neg h2]
      have hS : mvSt z way = z := by unfold mvSt; rw [if_pos hM]
      have hd : mvB z way = false := by unfold mvB; rw [hM]; simp
      rw [hS, hd]
      clear hM hS hd HD h1 h2 hrng
      go_enter Tryz.func47, Tryz.ntmps47
      go_wp2
      go_ret
      exact ⟨rfl, H.out, Fr5.refl _⟩

theorem mvSt_k (z : CSt) (a : Int) : (mvSt z a).k = z.k := by
  unfold mvSt
  split <;> rfl
/-! ### Close -/
def clV (z : CSt) : Int := judge (bMean z.s z.m) z.k.k0 z.k.k1
/-- Behind the turn's step. -/
def clT (z : CSt) : CSt := { z with way := (tstep z.way z.held (clV z) z.k.k5).way, held := (tstep z.way z.held (clV z) z.k.k5).held }
def clA (z : CSt) : Int := (tstep z.way z.held (clV z) z.k.k5).ans
/-- Behind the move. -/
def clM (z : CSt) : CSt := mvSt (clT z) (clA z)
def clD (z : CSt) : Dst := dstep z.tr z.ti z.dh (clV z) (decide ((clM z).th = z.lv)) z.k.k6
def clZ (z : CSt) : CSt := { clM z with c := zeros, m := 0, s := 0, x := 0, ti := (clD z).tier, dh := (clD z).held }
theorem clM_lv (z : CSt) : (clM z).lv = z.lv ∧ (clM z).tr = z.tr ∧ (clM z).k = z.k ∧ (clM z).ti = z.ti ∧ (clM z).dh = z.dh ∧ (clM z).s = z.s ∧ (clM z).m = z.m := by
  unfold clM mvSt
  split <;> exact ⟨rfl, rfl, rfl, rfl, rfl, rfl, rfl⟩
theorem CtlAt.onlyX {w' : World} {R : Nat} (h : CtlAt w C T D S L z) (o : Only R w w') (hR : C < R) : CtlAt w' C T D S L z :=
  have ho := h.ord
  ⟨IsObj.only h.o o (by omega), h.t.only o (by omega), h.d.only o (by omega), ⟨IsObj.only h.h.o o (by omega), h.h.l, h.h.n⟩, IsObj.only h.l o (by omega), ho, h.ok⟩
theorem Fr5.onlyX {w1 w2 : World} {R : Nat} (f : Fr5 C T D S L w w1) (o : Only R w1 w2) (hR : R = w.heap.size) : Fr5 C T D S L w w2 :=
  ⟨o.os.trans f.os, o.tape.trans f.tape, o.output.trans f.output, Nat.le_trans f.size o.size, fun k hk a b c d e => (o.block k (Nat.lt_of_lt_of_le hk f.size) (by simp; omega)).trans (f.block k hk a b c d e)⟩
theorem CtlAt.stepT {w' : World} (h : CtlAt w C T D S L z) (v : Int) (o : Only T w w') (ht : TurnAt w' T (tstep z.way z.held v z.k.k5).way (tstep z.way z.held v z.k.k5).held) : CtlAt w' C T D S L { z with way := (tstep z.way z.held v z.k.k5).way, held := (tstep z.way z.held v z.k.k5).held } :=
  have ho := h.ord
  ⟨IsObj.only h.o o (by omega), ht, h.d.only o (by omega), ⟨IsObj.only h.h.o o (by omega), h.h.l, h.h.n⟩, IsObj.only h.l o (by omega), ho, ⟨h.ok.l1, h.ok.l2, h.ok.t0, h.ok.t1, h.ok.h0, h.ok.h1, h.ok.e0, h.ok.e1, tok_step h.ok.tok v z.k.k5, h.ok.dok⟩⟩
theorem CtlAt.stepD {w' : World} (h : CtlAt w C T D S L z) (v d : Int) (b : Bool) (o : Only D w w') (ht : DimAt w' D z.tr (dstep z.tr z.ti z.dh v b d).tier (dstep z.tr z.ti z.dh v b d).held) : CtlAt w' C T D S L { z with ti := (dstep z.tr z.ti z.dh v b d).tier, dh := (dstep z.tr z.ti z.dh v b d).held } :=
  have ho := h.ord
  ⟨IsObj.only h.o o (by omega), h.t.only o (by omega), ht, ⟨IsObj.only h.h.o o (by omega), h.h.l, h.h.n⟩, IsObj.only h.l o (by omega), ho, ⟨h.ok.l1, h.ok.l2, h.ok.t0, h.ok.t1, h.ok.h0, h.ok.h1, h.ok.e0, h.ok.e1, h.ok.tok, dok_step h.ok.dok z.dh v b d⟩⟩
set_option maxRecDepth 100000 in
set_option maxHeartbeats 4000000 in
theorem c_close (h : CtlAt w C T D S L z) : Calls Tryz.prog 13 #[.pointer (some ⟨C, 0, none⟩)] w fun e w' => e = .returned (.agg #[.int .i64 (clV z), .int .i64 (clZ z).th, .int .i64 (clZ z).ti, .int .i64 (clZ z).ep, .bool (mvB (clT z) (clA z)), .bool (clD z).is]) ∧ CtlAt w' C T D S L (clZ z) ∧ Fr5 C T D S L w w' := by
  have hC := h.lt
  obtain ⟨R, hR⟩ : ∃ R, R = w.heap.size := ⟨_, rfl⟩
  have B0 : Below w.heap.size w (w.alloc (.cells #[.int .i64 0, .int .i64 0, .int .i64 0, .int .i64 0, .bool false, .bool false] 50)) := (Below.refl _ w).alloc (Nat.le_refl _) _
  have O0 : IsObj (w.alloc (.cells #[.int .i64 0, .int .i64 0, .int .i64 0, .int .i64 0, .bool false, .bool false] 50)) R 50 [.int .i64 0, .int .i64 0, .int .i64 0, .int .i64 0, .bool false, .bool false] := by rw [hR]; exact IsObj.new w _ _
  have H0 := Lib.hid (h.same B0)
  have OR := Lib.hid O0
  have F0 := Lib.hid (Fr5.below (C := C) (T := T) (D := D) (S := S) (L := L) B0)
  have HR := Lib.hid hR
  have hRC : C < R := by omega
  have ho := h.ord
  clear hR B0 O0 h
  go_enter Tryz.func13, Tryz.ntmps13
  go_wp2_with fail
  rw [← HR.out]
  refine (c_made H0.out).mono ?_
  rintro e w' ⟨rfl, rfl⟩
  generalize w.alloc (.cells #[.int .i64 0, .int .i64 0, .int .i64 0, .int .i64 0, .bool false, .bool false] 50) = w0 at *
  have c12 := H0.out.cL
  have c4 := H0.out.c0
  have c5 := H0.out.c1
  go_wp2_with fail
  go_quiet ((first | (go_at_call 46; first | (with_reducible exact quiet_left (verdict_any _ _ _ _ _ _ _ (H0.out.drewN _).l)) | (with_reducible exact quiet_add_left (verdict_any _ _ _ _ _ _ _ (H0.out.drewN _).l)))))
  have hbd : Below w0.heap.size w0 (w0.drewN nq) := below_drewN (Below.refl _ _) nq
  have H1 := Lib.hid (H0.out.same hbd)
  have OR1 := Lib.hid (IsObj.below OR.out hbd OR.out.lt)
  have F1 := Lib.hid (F0.out.trans (Fr5.below hbd))
  clear hbd H0 OR F0 c12 c4 c5
  generalize w0.drewN nq = w1 at *
  have eV : judge (bMean z.s z.m) z.k.k0 z.k.k1 = clV z := rfl
  simp only [eV]
  clear eV
  generalize hv : clV z = v at *
  have HV := Lib.hid hv
  clear hv
  -- the turn, and the move
  have hbd : Below w1.heap.size w1 w1.drew := (Below.refl _ _).drew
  have HD := Lib.hid (H1.out.same hbd)
  have c0 := H1.out.cT
  have c9 := H1.out.c5
  have tok := H1.out.ok.tok
  go_wp2_with fail
  go_region_held3 (fun w' => w'.cell? ⟨C, 0, none⟩ = some (.pointer (some ⟨T, 0, none⟩)) ∧ w'.cell? ⟨C, 9, none⟩ = some (.int .i64 z.k.k5)) (first | assumption | exact ⟨h3.cT, e9⟩ | exact ⟨hq.1, hq.2⟩ | go_keep)
    (first
      | (go_at_call 48; with_reducible refine (step_any T z.way z.held v z.k.k5 _ HD.out.t tok).mono ?_; rintro e w2 ⟨rfl, t2, o2⟩; have hC2 := HD.out.stepT v o2 t2; have hq := And.intro hC2.cT hC2.c5)
      | (go_at_call 47; with_reducible refine (c_move _ hC2).mono ?_; rintro e w3 ⟨rfl, h3, f3⟩; have e9 : w3.cell? ⟨C, 9, none⟩ = some (.int .i64 z.k.k5) := by (have e9 := h3.c5; rw [mvSt_k] at e9; exact e9)))
  -- what stands now
  have f13 : Fr5 C T D S L w1 w3 := ((Fr5.below hbd).trans (Fr5.only o2 (.inr (.inl rfl)))).trans f3
  obtain ⟨z2, hz2⟩ : ∃ z2, z2 = mvSt { z with way := (tstep z.way z.held v z.k.k5).way, held := (tstep z.way z.held v z.k.k5).held } (tstep z.way z.held v z.k.k5).ans := ⟨_, rfl⟩
  obtain ⟨mb, hmb⟩ : ∃ mb, mb = mvB { z with way := (tstep z.way z.held v z.k.k5).way, held := (tstep z.way z.held v z.k.k5).held } (tstep z.way z.held v z.k.k5).ans := ⟨_, rfl⟩
  rw [← hz2] at h3
  rw [← hmb]
  have E2 := Lib.hid (show clM z = z2 by rw [hz2, ← HV.out]; rfl)
  have EB := Lib.hid (show mvB (clT z) (clA z) = mb by rw [hmb, ← HV.out]; rfl)
  have hM := clM_lv z
  rw [E2.out] at hM
  have OR3 := Lib.hid (f13.isObj OR1.out (by omega))
  have F3 := Lib.hid (F1.out.trans f13)
  have H3 := Lib.hid h3
  have hMM := Lib.hid hM
  clear hbd HD c0 c9 tok hq hC2 e9 f3 f13 t2 o2 h3 hz2 hmb hM H1 OR1 F1
  -- the dimmer
  have hbd3 : Below w3.heap.size w3 w3.drew := (Below.refl _ _).drew
  have HD3 := Lib.hid (H3.out.same hbd3)
  have c1 := H3.out.cD
  have c13 := H3.out.cTh
  have c2 := H3.out.cLv
  have c10 := H3.out.c6
  go_wp2_with fail
  go_region_held3 (fun w' => w'.cell? ⟨C, 1, none⟩ = some (.pointer (some ⟨D, 0, none⟩)) ∧ w'.cell? ⟨C, 13, none⟩ = some (.int .i64 z2.th) ∧ w'.cell? ⟨C, 2, none⟩ = some (.int .i64 z2.lv) ∧ w'.cell? ⟨C, 10, none⟩ = some (.int .i64 z2.k.k6)) (first | assumption | exact ⟨hq.1, hq.2.1, hq.2.2.1, hq.2.2.2⟩ | go_keep)
    (first
      | (go_at_call 49; with_reducible refine (dstep_any D z2.tr z2.ti z2.dh v z2.k.k6 _ _ HD3.out.d HD3.out.ok.dok).mono ?_; rintro e w4 ⟨rfl, t4, o4⟩; have hC4 := HD3.out.stepD v z2.k.k6 _ o4 t4; have hq := And.intro hC4.cD (And.intro hC4.cTh (And.intro hC4.cLv hC4.c6))))
  have eO : (z2.th == (z2.lv : Int)) = decide (z2.th = z.lv) := by
    rw [hMM.out.1, Bool.eq_iff_iff]
    simp
  have eD : dstep z2.tr z2.ti z2.dh v (z2.th == (z2.lv : Int)) z2.k.k6 = clD z := by
    unfold clD
    rw [eO, hMM.out.2.1, hMM.out.2.2.1, hMM.out.2.2.2.1, hMM.out.2.2.2.2.1, E2.out, HV.out]
  have f34 : Fr5 C T D S L w3 w4 := (Fr5.below hbd3).trans (Fr5.only o4 (.inr (.inr (.inl rfl))))
  rw [eD] at hC4 t4 ⊢
  have H4 := Lib.hid hC4
  have OR4 := Lib.hid (f34.isObj OR3.out (by omega))
  have F4 := Lib.hid (F3.out.trans f34)
  clear eO eD f34 hC4 t4 o4 hq hbd3 HD3 c1 c13 c2 c10 H3 OR3 F3
  go_wp2_with fail
  refine (c_fresh H4.out).mono ?_
  rintro e w5 ⟨rfl, h5, f5⟩
  have eZ : ({ ({ z2 with ti := (clD z).tier, dh := (clD z).held } : CSt) with c := zeros, m := 0, s := 0, x := 0 } : CSt) = clZ z := by
    unfold clZ
    rw [E2.out]
  have H5 := Lib.hid (show CtlAt w5 C T D S L (clZ z) from eZ ▸ h5)
  have OR5 := Lib.hid (f5.isObj OR4.out (by omega))
  have F5 := Lib.hid (F4.out.trans f5)
  clear h5 f5 eZ H4 OR4 F4
  have c13 := H5.out.cTh
  have c14 := H5.out.cEp
  have r0 : w5.cell? ⟨R, 0, none⟩ = some (.int .i64 0) := OR5.out.cell 0
  have r1 : w5.cell? ⟨R, 1, none⟩ = some (.int .i64 0) := OR5.out.cell 1
  have r2 : w5.cell? ⟨R, 2, none⟩ = some (.int .i64 0) := OR5.out.cell 2
  have r3 : w5.cell? ⟨R, 3, none⟩ = some (.int .i64 0) := OR5.out.cell 3
  have r4 : w5.cell? ⟨R, 4, none⟩ = some (.bool false) := OR5.out.cell 4
  have r5 : w5.cell? ⟨R, 5, none⟩ = some (.bool false) := OR5.out.cell 5
  have fr := OR5.out.free
  have HD5 := Lib.hid (show CtlAt w5.drew C T D S L (clZ z) from H5.out.drewN 1)
  go_wp2_with fail
  (refine region_tail 14 (by kernel_rfl) (by kernel_rfl) ?_; simp only [List.take_succ_cons, List.take_zero, List.drop_succ_cons, List.drop_zero]; (repeat (refine wpStill_step (fun K hK => ?_); go_simp; (first | (refine hK _ ?_) | (with_reducible refine ⟨_, still_left (c_tier HD5.out), hK _ ?_⟩)); clear hK K)); refine wpStill_nil ?_)
  go_wp2
  have OF : IsObj (((((((w5.setCell ⟨R, 0, none⟩ (.int .i64 v)).setCell ⟨R, 1, none⟩ (.int .i64 (clZ z).th)).setCell ⟨R, 2, none⟩ (.int .i64 (clZ z).ti)).setCell ⟨R, 3, none⟩ (.int .i64 (clZ z).ep)).setCell ⟨R, 4, none⟩ (.bool mb)).setCell ⟨R, 5, none⟩ (.bool (clD z).is)).drew) R 50 [.int .i64 v, .int .i64 (clZ z).th, .int .i64 (clZ z).ti, .int .i64 (clZ z).ep, .bool mb, .bool (clD z).is] := ((((((OR5.out.set 0 _).set 1 _).set 2 _).set 3 _).set 4 _).set 5 _).drew
  have BF : Only R w5 (((((((w5.setCell ⟨R, 0, none⟩ (.int .i64 v)).setCell ⟨R, 1, none⟩ (.int .i64 (clZ z).th)).setCell ⟨R, 2, none⟩ (.int .i64 (clZ z).ti)).setCell ⟨R, 3, none⟩ (.int .i64 (clZ z).ep)).setCell ⟨R, 4, none⟩ (.bool mb)).setCell ⟨R, 5, none⟩ (.bool (clD z).is)).drew) := ((((((((Only.refl R w5).setCell (.inl rfl) _).setCell (.inl rfl) _).setCell (.inl rfl) _).setCell (.inl rfl) _).setCell (.inl rfl) _).setCell (.inl rfl) _)).drew
  generalize ((((((w5.setCell ⟨R, 0, none⟩ (.int .i64 v)).setCell ⟨R, 1, none⟩ (.int .i64 (clZ z).th)).setCell ⟨R, 2, none⟩ (.int .i64 (clZ z).ti)).setCell ⟨R, 3, none⟩ (.int .i64 (clZ z).ep)).setCell ⟨R, 4, none⟩ (.bool mb)).setCell ⟨R, 5, none⟩ (.bool (clD z).is)).drew = wf at *
  have HF : CtlAt wf C T D S L (clZ z) := H5.out.onlyX BF (by omega)
  have FF : Fr5 C T D S L w wf := F5.out.onlyX BF HR.out
  have k0 : wf.cell? ⟨R, 0, none⟩ = some (.int .i64 v) := OF.cell 0
  have k1 : wf.cell? ⟨R, 1, none⟩ = some (.int .i64 (clZ z).th) := OF.cell 1
  have k2 : wf.cell? ⟨R, 2, none⟩ = some (.int .i64 (clZ z).ti) := OF.cell 2
  have k3 : wf.cell? ⟨R, 3, none⟩ = some (.int .i64 (clZ z).ep) := OF.cell 3
  have k4 : wf.cell? ⟨R, 4, none⟩ = some (.bool mb) := OF.cell 4
  have k5 : wf.cell? ⟨R, 5, none⟩ = some (.bool (clD z).is) := OF.cell 5
  refine bodyPost_ret (v := .agg #[.int .i64 v, .int .i64 (clZ z).th, .int .i64 (clZ z).ti, .int .i64 (clZ z).ep, .bool mb, .bool (clD z).is]) ?_ rfl ?_
  · simp [results, Tryz.f13, go_sem, k0, k1, k2, k3, k4, k5]
  · exact ⟨by rw [HV.out, EB.out], HF, FF⟩
end
end Go.Proofs.YtagfbnfbiadpfaaGreat
