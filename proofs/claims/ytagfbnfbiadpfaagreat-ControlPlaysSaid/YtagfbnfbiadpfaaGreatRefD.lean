/-
  Layer 20 (control), the document's: a window's end.
-/
import Derived.Test.YtagfbnfbiadpfaaGreatRefC
namespace Go.Proofs.YtagfbnfbiadpfaaGreat
open Go.RowKit Go.Shelf
set_option linter.unusedVariables false
set_option linter.unusedSimpArgs false

/-- The threshold on the way: up, then down. -/
def th1 (z : CSt) : Int := if clA z = 1 then upW z.lv z.c z.th z.k.k3 else z.th
def th2 (z : CSt) : Int := if clA z = -1 then downW z.lv z.c z.th z.k.k4 z.k.k2 else th1 z
theorem ans_rng (way held v d : Int) : (tstep way held v d).ans = -1 ∨ (tstep way held v d).ans = 0 ∨ (tstep way held v d).ans = 1 := by
  have hw : wants v = -1 ∨ wants v = 0 ∨ wants v = 1 := by unfold wants; (repeat' split) <;> simp
  unfold tstep
  split
  · split <;> simp
  · split
    · simpa using hw
    · split
      · simpa using hw
      · simp
def ep2 (z : CSt) : Int := if th2 z = z.th then z.ep else laterE z.ep
theorem th2_eq (z : CSt) : th2 z = mvTh (clT z) (clA z) := by
  have h := ans_rng z.way z.held (clV z) z.k.k5
  have e : clA z = (tstep z.way z.held (clV z) z.k.k5).ans := rfl
  rw [← e] at h
  unfold th2 th1 mvTh
  rcases h with h | h | h <;> rw [h] <;> rfl
theorem clM_th (z : CSt) : (clM z).th = th2 z := by
  rw [th2_eq]
  unfold clM mvSt
  split
  · next h => rw [h]
  · rfl
theorem clM_ep (z : CSt) : (clM z).ep = ep2 z := by
  unfold ep2
  rw [th2_eq]
  have e : (clT z).th = z.th := rfl
  unfold clM mvSt
  rw [e]
  split
  · next h => rfl
  · next h => rfl
theorem mvB_eq (z : CSt) : mvB (clT z) (clA z) = (th2 z != z.th) := by
  rw [th2_eq]
  unfold mvB
  have e : (clT z).th = z.th := rfl
  rw [e, Bool.eq_iff_iff]
  simp
/-- The controller ahead of the window's clearing. -/
def clP (z : CSt) : CSt := { z with th := th2 z, ep := ep2 z, way := (clT z).way, held := (clT z).held, ti := (clD z).tier, dh := (clD z).held }
theorem clP_eq (z : CSt) : ({ clP z with c := zeros, m := 0, s := 0, x := 0 } : CSt) = clZ z := by
  have h1 := clM_th z
  have h2 := clM_ep z
  have h3 : (clM z).way = (clT z).way := by unfold clM mvSt; split <;> rfl
  have h4 : (clM z).held = (clT z).held := by unfold clM mvSt; split <;> rfl
  have h5 := clM_lv z
  unfold clZ clP
  rw [← h1, ← h2, ← h3, ← h4]
  have e : clM z = ⟨z.lv, z.tr, z.k, (clM z).c, (clM z).m, (clM z).s, (clM z).x, (clM z).th, (clM z).ep, (clM z).way, (clM z).held, z.ti, z.dh⟩ := by
    rw [← h5.1, ← h5.2.1, ← h5.2.2.1, ← h5.2.2.2.1, ← h5.2.2.2.2.1]
  rw [e]
/-- The six cells of what a window's end tells. -/
def cV (z : CSt) : List Value := [.int .i64 (clV z), .int .i64 (th2 z), .int .i64 (clD z).tier, .int .i64 (ep2 z), .bool (th2 z != z.th), .bool (clD z).is]
def S13 (B G2 : Nat) (z : CSt) (sv wv : Value) (W : World) : Prop :=
  W.rangeAt B 0 (zC (clP z) sv wv) ∧ W.cell? ⟨B, 15, none⟩ = some (.int .i64 (th2 z)) ∧ W.cell? ⟨B, 16, none⟩ = some (.int .i64 (ep2 z)) ∧ W.cell? ⟨G2, 1, none⟩ = some (.int .i64 (clD z).tier)
theorem S13.keep {B G2 : Nat} {z : CSt} {sv wv : Value} {W W' : World} (hb : Below W.heap.size W W') (h : S13 B G2 z sv wv W) : S13 B G2 z sv wv W' :=
  ⟨fun j v hv => cell_keep hb (h.1 j v hv), cell_keep hb h.2.1, cell_keep hb h.2.2.1, cell_keep hb h.2.2.2⟩
theorem S13.only {B G2 b : Nat} {z : CSt} {sv wv : Value} {W W' : World} (hb : Only b W W') (h1 : B ≠ b) (h2 : G2 ≠ b) (h : S13 B G2 z sv wv W) : S13 B G2 z sv wv W' :=
  ⟨fun j v hv => hb.keep (h.1 j v hv) h1, hb.keep h.2.1 h1, hb.keep h.2.2.1 h1, hb.keep h.2.2.2 h2⟩
/-- What a window's end tells. -/
abbrev cl6 (z : CSt) : Value := .agg #[.int .i64 (clV z), .int .i64 (clZ z).th, .int .i64 (clZ z).ti, .int .i64 (clZ z).ep, .bool (mvB (clT z) (clA z)), .bool (clD z).is]
theorem cV_eq (z : CSt) : Value.agg (cV z).toArray = cl6 z := by
  have h1 : (clZ z).th = th2 z := clM_th z
  have h2 : (clZ z).ep = ep2 z := clM_ep z
  show Value.agg #[.int .i64 (clV z), .int .i64 (th2 z), .int .i64 (clD z).tier, .int .i64 (ep2 z), .bool (th2 z != z.th), .bool (clD z).is] = Value.agg #[.int .i64 (clV z), .int .i64 (clZ z).th, .int .i64 (clZ z).ti, .int .i64 (clZ z).ep, .bool (mvB (clT z) (clA z)), .bool (clD z).is]
  rw [h1, h2, mvB_eq]
  rfl
set_option maxRecDepth 100000 in
set_option maxHeartbeats 4000000 in
theorem rclose20_any {Q : Nat → Prop} {N : Nat} (z : CSt) (sv wv : Value) (w : World) (ok : COk z) (h : RSt Q N w z sv wv) (hQ : ∀ b, w.heap.size ≤ b → Q b) : Calls Tryz.prog 12 #[zV z sv wv] w fun e w' => ∃ sv', e = .returned (.tuple #[zV (clZ z) sv' (.slice none 0 0), cl6 z]) ∧ RSt Q N w' (clZ z) sv' (.slice none 0 0) ∧ Below w.heap.size w w' := by
  obtain ⟨B, hB⟩ : ∃ B, B = w.heap.size := ⟨_, rfl⟩
  have B0 := Lib.hid (show Below w.heap.size w (((w.alloc (.cells (zC z sv wv).toArray 38)).alloc (.cells #[.int .i64 0, .int .i64 0, .int .i64 0, .int .i64 0, .int .i64 0, .int .i64 0, .int .i64 0, .int .i64 0, .slice none 0 0, .slice none 0 0, .int .i64 0, .int .i64 0, .int .i64 0, .int .i64 0, .int .i64 0, .int .i64 0, .int .i64 0] 38)).alloc (.cells #[.int .i64 0, .int .i64 0, .int .i64 0, .int .i64 0, .bool false, .bool false] 50)) from (((Below.refl _ w).alloc (Nat.le_refl _) _).alloc (by simp) _).alloc (by simp; omega) _)
  have HB := Lib.hid hB
  have HS := Lib.hid (show (((w.alloc (.cells (zC z sv wv).toArray 38)).alloc (.cells #[.int .i64 0, .int .i64 0, .int .i64 0, .int .i64 0, .int .i64 0, .int .i64 0, .int .i64 0, .int .i64 0, .slice none 0 0, .slice none 0 0, .int .i64 0, .int .i64 0, .int .i64 0, .int .i64 0, .int .i64 0, .int .i64 0, .int .i64 0] 38)).alloc (.cells #[.int .i64 0, .int .i64 0, .int .i64 0, .int .i64 0, .bool false, .bool false] 50)).heap.size = B + 3 by rw [hB]; simp)
  have O0 := Lib.hid (show IsObj (((w.alloc (.cells (zC z sv wv).toArray 38)).alloc (.cells #[.int .i64 0, .int .i64 0, .int .i64 0, .int .i64 0, .int .i64 0, .int .i64 0, .int .i64 0, .int .i64 0, .slice none 0 0, .slice none 0 0, .int .i64 0, .int .i64 0, .int .i64 0, .int .i64 0, .int .i64 0, .int .i64 0, .int .i64 0] 38)).alloc (.cells #[.int .i64 0, .int .i64 0, .int .i64 0, .int .i64 0, .bool false, .bool false] 50)) B 38 (zC z sv wv) by rw [hB]; exact ((IsObj.new w _ (zC z sv wv)).alloc _).alloc _)
  have R0 := Lib.hid (show IsObj (((w.alloc (.cells (zC z sv wv).toArray 38)).alloc (.cells #[.int .i64 0, .int .i64 0, .int .i64 0, .int .i64 0, .int .i64 0, .int .i64 0, .int .i64 0, .int .i64 0, .slice none 0 0, .slice none 0 0, .int .i64 0, .int .i64 0, .int .i64 0, .int .i64 0, .int .i64 0, .int .i64 0, .int .i64 0] 38)).alloc (.cells #[.int .i64 0, .int .i64 0, .int .i64 0, .int .i64 0, .bool false, .bool false] 50)) (B + 1) 38 [.int .i64 0, .int .i64 0, .int .i64 0, .int .i64 0, .int .i64 0, .int .i64 0, .int .i64 0, .int .i64 0, .slice none 0 0, .slice none 0 0, .int .i64 0, .int .i64 0, .int .i64 0, .int .i64 0, .int .i64 0, .int .i64 0, .int .i64 0] by
    have h := IsObj.new (w.alloc (.cells (zC z sv wv).toArray 38)) 38 [.int .i64 0, .int .i64 0, .int .i64 0, .int .i64 0, .int .i64 0, .int .i64 0, .int .i64 0, .int .i64 0, .slice none 0 0, .slice none 0 0, .int .i64 0, .int .i64 0, .int .i64 0, .int .i64 0, .int .i64 0, .int .i64 0, .int .i64 0]
    rw [World.size_alloc, ← hB] at h
    exact h.alloc _)
  have X0 := Lib.hid (show IsObj (((w.alloc (.cells (zC z sv wv).toArray 38)).alloc (.cells #[.int .i64 0, .int .i64 0, .int .i64 0, .int .i64 0, .int .i64 0, .int .i64 0, .int .i64 0, .int .i64 0, .slice none 0 0, .slice none 0 0, .int .i64 0, .int .i64 0, .int .i64 0, .int .i64 0, .int .i64 0, .int .i64 0, .int .i64 0] 38)).alloc (.cells #[.int .i64 0, .int .i64 0, .int .i64 0, .int .i64 0, .bool false, .bool false] 50)) (B + 1 + 1) 50 [.int .i64 0, .int .i64 0, .int .i64 0, .int .i64 0, .bool false, .bool false] by
    have h := IsObj.new ((w.alloc (.cells (zC z sv wv).toArray 38)).alloc (.cells #[.int .i64 0, .int .i64 0, .int .i64 0, .int .i64 0, .int .i64 0, .int .i64 0, .int .i64 0, .int .i64 0, .slice none 0 0, .slice none 0 0, .int .i64 0, .int .i64 0, .int .i64 0, .int .i64 0, .int .i64 0, .int .i64 0, .int .i64 0] 38)) 50 [.int .i64 0, .int .i64 0, .int .i64 0, .int .i64 0, .bool false, .bool false]
    rw [World.size_alloc, World.size_alloc, ← hB] at h
    exact h)
  have HR := Lib.hid h
  obtain ⟨sa, sc, es, hsI⟩ := h.s
  obtain ⟨ws, hwI, hws, hwm, _⟩ := h.w
  have lc := h.lc
  have HSI := Lib.hid hsI
  have HWI := Lib.hid hwI
  have HWS := Lib.hid hws
  have HWM := Lib.hid hwm
  have HES := Lib.hid es
  have wo := h.wo
  have so := h.so
  have HQ := Lib.hid hQ
  have HOK := Lib.hid ok
  clear hB h hsI hwI hws hwm es hQ ok
  go_enter Tryz.func12, Tryz.ntmps12
  go_upto_region 1 with (fail)
  rw [← HB.out]
  generalize (((w.alloc (.cells (zC z sv wv).toArray 38)).alloc (.cells #[.int .i64 0, .int .i64 0, .int .i64 0, .int .i64 0, .int .i64 0, .int .i64 0, .int .i64 0, .int .i64 0, .slice none 0 0, .slice none 0 0, .int .i64 0, .int .i64 0, .int .i64 0, .int .i64 0, .int .i64 0, .int .i64 0, .int .i64 0] 38)).alloc (.cells #[.int .i64 0, .int .i64 0, .int .i64 0, .int .i64 0, .bool false, .bool false] 50)) = w0 at *
  have q9 : w0.cell? ⟨B, 9, none⟩ = some wv := O0.out.cell 9
  have q1 : w0.cell? ⟨B, 1, none⟩ = some (.int .i64 z.k.k0) := O0.out.cell 1
  have q2 : w0.cell? ⟨B, 2, none⟩ = some (.int .i64 z.k.k1) := O0.out.cell 2
  have HM := Lib.hid (fun n => rmean14_any wv ws (w0.drewN n) (HWI.out.same (below_drewN B0.out n)))
  go_quiet ((first | (go_at_call 39; first | (with_reducible exact quiet_left (HM.out _)) | (with_reducible exact quiet_add_left (HM.out _))) | (go_at_call 38; first | (with_reducible exact quiet_left (rjudge_any _ _ _ _)) | (with_reducible exact quiet_add_left (rjudge_any _ _ _ _)))))
  have eV : judge (bMean (bSum ws) ws.length) z.k.k0 z.k.k1 = clV z := by unfold clV; rw [HWS.out, HWM.out]
  rw [eV]
  have hbd : Below w0.heap.size w0 (w0.drewN nq) := below_drewN (Below.refl _ _) nq
  have O1 := Lib.hid (IsObj.below O0.out hbd O0.out.lt)
  have R1 := Lib.hid (IsObj.below R0.out hbd R0.out.lt)
  have X1 := Lib.hid (IsObj.below X0.out hbd X0.out.lt)
  have B1 := Lib.hid (B0.out.trans (hbd.mono B0.out.size))
  clear hbd q9 q1 q2 eV HM
  generalize w0.drewN nq = w1 at *
  have qa : w1.cell? ⟨B, 10, none⟩ = some (.int .i64 z.way) := O1.out.cell 10
  have qb : w1.cell? ⟨B, 11, none⟩ = some (.int .i64 z.held) := O1.out.cell 11
  have q6 : w1.cell? ⟨B, 6, none⟩ = some (.int .i64 z.k.k5) := O1.out.cell 6
  go_upto_region 3 with (fail)
  have KS : Calls Tryz.prog 40 #[.agg #[.int .i64 z.way, .int .i64 z.held], .int .i64 (clV z), .int .i64 z.k.k5] w1 fun e w' => e = .returned (.tuple #[.agg (tV (clT z).way (clT z).held).toArray, .int .i64 (clA z)]) ∧ Below w1.heap.size w1 w' := rstep_any z.way z.held (clV z) z.k.k5 w1 HOK.out.tok
  refine KS.mono ?_
  rintro e w2 ⟨rfl, hb2⟩
  have O2 := Lib.hid (IsObj.below O1.out hb2 O1.out.lt)
  have R2 := Lib.hid (IsObj.below R1.out hb2 R1.out.lt)
  have X2 := Lib.hid (IsObj.below X1.out hb2 X1.out.lt)
  have B2 := Lib.hid (B1.out.trans (hb2.mono B1.out.size))
  clear hb2 qa qb q6 KS
  obtain ⟨G, hG⟩ : ∃ G, G = w2.heap.size := ⟨_, rfl⟩
  have HG := Lib.hid hG
  have TA := Lib.hid (show IsObj (w2.alloc (.cells #[.int .i64 0, .int .i64 0] 34)) G 34 [.int .i64 0, .int .i64 0] by rw [hG]; exact IsObj.new w2 _ [.int .i64 0, .int .i64 0])
  have TH := Lib.hid (show (w2.alloc (.cells #[.int .i64 0, .int .i64 0] 34)).there w2.heap.size 0 (tV (clT z).way (clT z).held).toArray.size by rw [← hG]; exact IsObj.there TA.out 0 2 (by decide))
  have TT3 := Lib.hid (show IsObj ((w2.alloc (.cells #[.int .i64 0, .int .i64 0] 34)).setCells w2.heap.size 0 (tV (clT z).way (clT z).held).toArray.toList) G 34 (tV (clT z).way (clT z).held) by rw [← hG]; exact IsObj.setAll TA.out (by rfl))
  have hO := Only.setCells (b := w2.heap.size) (tV (clT z).way (clT z).held).toArray.toList 0 (Only.refl w2.heap.size (w2.alloc (.cells #[.int .i64 0, .int .i64 0] 34)))
  have hB3 := hO.below (Nat.le_refl _) (by simp)
  have O3 := Lib.hid (IsObj.below (O2.out.alloc _) hB3 O2.out.lt)
  have R3 := Lib.hid (IsObj.below (R2.out.alloc _) hB3 R2.out.lt)
  have X3 := Lib.hid (IsObj.below (X2.out.alloc _) hB3 X2.out.lt)
  have B3 := Lib.hid ((B2.out.alloc B2.out.size _).trans (hB3.mono B2.out.size))
  clear hG hO hB3
  go_upto_region 3 with (refine wpList_store_mid (by rfl) 34 _ _ (by rfl) w2.heap.size 0 (tV (clT z).way (clT z).held).toArray (by rfl) (by rfl) TH.out (by kernel_rfl) (by kernel_rfl) ?_; rw [← HG.out] at TT3 O3 R3 X3 B3 ⊢; generalize (w2.alloc (.cells #[.int .i64 0, .int .i64 0] 34)).setCells G 0 (tV (clT z).way (clT z).held).toArray.toList = w3 at *)
  have q15 : w3.cell? ⟨B, 15, none⟩ = some (.int .i64 z.th) := O3.out.cell 15
  have hl : (z.c.take z.lv).length = z.lv := by
    have := lc
    simp
    omega
  have hl2 := HOK.out.l2
  have KU := Lib.hid (show ∀ W, IntsAt W sa (z.c.take z.lv) → Calls Tryz.prog 41 #[sv, .int .i64 z.th, .int .i64 z.k.k3] W fun e w' => e = .returned (.int .i64 (upW z.lv z.c z.th z.k.k3)) ∧ W = w' by
    intro W hW
    have K := rup15_any sa sc (z.c.take z.lv) z.th z.k.k3 W (by omega) hW
    rw [hl, ← HES.out, rup_eq z.lv z.c (z.c.take z.lv) rfl lc hl2] at K
    exact K)
  have KD := Lib.hid (show ∀ W t, IntsAt W sa (z.c.take z.lv) → Calls Tryz.prog 42 #[sv, .int .i64 t, .int .i64 z.k.k4, .int .i64 z.k.k2] W fun e w' => e = .returned (.int .i64 (downW z.lv z.c t z.k.k4 z.k.k2)) ∧ W = w' by
    intro W t hW
    have K := rdown15_any sa sc (z.c.take z.lv) t z.k.k4 z.k.k2 W (by omega) hW
    rw [hl, ← HES.out, rdown_eq z.lv z.c (z.c.take z.lv) rfl lc] at K
    exact K)
  clear hl hl2
  go_upto_if 33 with (fail)
  clear q15
  go_cut [] (fun wx => IsObj wx B 38 (zC { z with th := th1 z } sv wv) ∧ Only B w3 wx)
  case first =>
    by_cases hA : clA z = 1
    · have hb : (clA z == 1) = true := by simp [hA]
      have q8 : w3.cell? ⟨B, 8, none⟩ = some sv := O3.out.cell 8
      have q4 : w3.cell? ⟨B, 4, none⟩ = some (.int .i64 z.k.k3) := O3.out.cell 4
      have q15 : w3.cell? ⟨B, 15, none⟩ = some (.int .i64 z.th) := O3.out.cell 15
      have f15 := O3.out.free 15
      have KA := KU.out w3 (HSI.out.same B3.out)
      have eT : th1 z = upW z.lv z.c z.th z.k.k3 := by unfold th1; rw [if_pos hA]
      have HF := Lib.hid (show IsObj (w3.setCell ⟨B, 15, none⟩ (.int .i64 (upW z.lv z.c z.th z.k.k3))) B 38 (zC { z with th := th1 z } sv wv) ∧ Only B w3 (w3.setCell ⟨B, 15, none⟩ (.int .i64 (upW z.lv z.c z.th z.k.k3))) from ⟨by rw [eT]; exact O3.out.set 15 _, (Only.refl B w3).setCell (p := ⟨B, 15, none⟩) (.inl rfl) _⟩)
      clear eT hA
      go_wp2_with (go_at_call 41; (with_reducible refine (KA).mono ?_); rintro e w' ⟨rfl, rfl⟩)
      go_meet
      exact HF.out
    · have hb : (clA z == 1) = false := by simp [hA]
      have eT : th1 z = z.th := by unfold th1; rw [if_neg hA]
      have HF := Lib.hid (show IsObj w3 B 38 (zC { z with th := th1 z } sv wv) ∧ Only B w3 w3 from ⟨by rw [eT]; exact O3.out, Only.refl B w3⟩)
      clear eT hA
      go_wp2
      go_meet
      exact HF.out
  case rest =>
    obtain ⟨o4, y4⟩ := hcut
    generalize wc = w4 at *
    have h3 := HS.out
    have h4 := HG.out
    have h5 := X2.out.lt
    have h6 := B0.out.size
    have hlt := O3.out.lt
    have O4 := Lib.hid o4
    have R4 := Lib.hid (IsObj.only R3.out y4 (by omega))
    have X4 := Lib.hid (IsObj.only X3.out y4 (by omega))
    have TT4 := Lib.hid (IsObj.only TT3.out y4 (by omega))
    have B4 := Lib.hid (B3.out.trans (y4.below (by have := HB.out; omega) B3.out.size))
    clear o4 y4 h3 h4 h5 h6 hlt
    have q15 : w4.cell? ⟨B, 15, none⟩ = some (.int .i64 (th1 z)) := O4.out.cell 15
    go_upto_if 43 with (fail)
    clear q15
    go_cut [] (fun wx => IsObj wx B 38 (zC { z with th := th2 z } sv wv) ∧ Only B w4 wx)
    case first =>
      by_cases hA : clA z = -1
      · have hb : (clA z == -1) = true := by simp [hA]
        have q8 : w4.cell? ⟨B, 8, none⟩ = some sv := O4.out.cell 8
        have q5 : w4.cell? ⟨B, 5, none⟩ = some (.int .i64 z.k.k4) := O4.out.cell 5
        have q3 : w4.cell? ⟨B, 3, none⟩ = some (.int .i64 z.k.k2) := O4.out.cell 3
        have q15 : w4.cell? ⟨B, 15, none⟩ = some (.int .i64 (th1 z)) := O4.out.cell 15
        have f15 := O4.out.free 15
        have KA := KD.out w4 z.th (HSI.out.same B4.out)
        have eT : th2 z = downW z.lv z.c z.th z.k.k4 z.k.k2 := by unfold th2; rw [if_pos hA]
        have HF := Lib.hid (show IsObj (w4.setCell ⟨B, 15, none⟩ (.int .i64 (downW z.lv z.c z.th z.k.k4 z.k.k2))) B 38 (zC { z with th := th2 z } sv wv) ∧ Only B w4 (w4.setCell ⟨B, 15, none⟩ (.int .i64 (downW z.lv z.c z.th z.k.k4 z.k.k2))) from ⟨by rw [eT]; exact O4.out.set 15 _, (Only.refl B w4).setCell (p := ⟨B, 15, none⟩) (.inl rfl) _⟩)
        clear eT hA
        go_wp2_with (go_at_call 42; (with_reducible refine (KA).mono ?_); rintro e w' ⟨rfl, rfl⟩)
        go_meet
        exact HF.out
      · have hb : (clA z == -1) = false := by simp [hA]
        have eT : th2 z = th1 z := by unfold th2; rw [if_neg hA]
        have HF := Lib.hid (show IsObj w4 B 38 (zC { z with th := th2 z } sv wv) ∧ Only B w4 w4 from ⟨by rw [eT]; exact O4.out, Only.refl B w4⟩)
        clear eT hA
        go_wp2
        go_meet
        exact HF.out
    case rest =>
      obtain ⟨o5, y5⟩ := hcut
      generalize wc = w5 at *
      have h3 := HS.out
      have h4 := HG.out
      have h5 := X2.out.lt
      have O5 := Lib.hid o5
      have R5 := Lib.hid (IsObj.only R4.out y5 (by omega))
      have X5 := Lib.hid (IsObj.only X4.out y5 (by omega))
      have TT5 := Lib.hid (IsObj.only TT4.out y5 (by omega))
      have B5 := Lib.hid (B4.out.trans (y5.below (by have := HB.out; omega) B4.out.size))
      clear o5 y5 h3 h4 h5
      have q15 : w5.cell? ⟨B, 15, none⟩ = some (.int .i64 (th2 z)) := O5.out.cell 15
      go_upto_if 58 with (fail)
      clear q15
      go_cut [] (fun wx => IsObj wx B 38 (zC { z with th := th2 z, ep := ep2 z } sv wv) ∧ Only B w5 wx)
      case first =>
        by_cases hA : th2 z = z.th
        · have hb : (th2 z != z.th) = false := by simp [hA]
          have eT : ep2 z = z.ep := by unfold ep2; rw [if_pos hA]
          have HF := Lib.hid (show IsObj w5 B 38 (zC { z with th := th2 z, ep := ep2 z } sv wv) ∧ Only B w5 w5 from ⟨by rw [eT]; exact O5.out, Only.refl B w5⟩)
          clear eT hA
          go_wp2
          go_meet
          exact HF.out
        · have hb : (th2 z != z.th) = true := by simp [hA]
          have e0 := HOK.out.e0
          have e1 := HOK.out.e1
          have q16 : w5.cell? ⟨B, 16, none⟩ = some (.int .i64 z.ep) := O5.out.cell 16
          have f16 := O5.out.free 16
          have KA := rlater20_any z.ep w5 (by omega) e1
          have eT : ep2 z = laterE z.ep := by unfold ep2; rw [if_neg hA]
          have HF := Lib.hid (show IsObj (w5.setCell ⟨B, 16, none⟩ (.int .i64 (laterE z.ep))) B 38 (zC { z with th := th2 z, ep := ep2 z } sv wv) ∧ Only B w5 (w5.setCell ⟨B, 16, none⟩ (.int .i64 (laterE z.ep))) from ⟨by rw [eT]; exact O5.out.set 16 _, (Only.refl B w5).setCell (p := ⟨B, 16, none⟩) (.inl rfl) _⟩)
          clear eT hA e0 e1
          go_wp2_with (go_at_call 43; (with_reducible refine (KA).mono ?_); rintro e w' ⟨rfl, rfl⟩)
          go_meet
          exact HF.out
      case rest =>
        obtain ⟨o6, y6⟩ := hcut
        generalize wc = w6 at *
        have h3 := HS.out
        have h4 := HG.out
        have h5 := X2.out.lt
        have O6 := Lib.hid o6
        have R6 := Lib.hid (IsObj.only R5.out y6 (by omega))
        have X6 := Lib.hid (IsObj.only X5.out y6 (by omega))
        have TT6 := Lib.hid (IsObj.only TT5.out y6 (by omega))
        have B6 := Lib.hid (B5.out.trans (y6.below (by have := HB.out; omega) B5.out.size))
        clear o6 y6 h3 h4 h5
        have q12 : w6.cell? ⟨B, 12, none⟩ = some (.int .i64 z.tr) := O6.out.cell 12
        have q13 : w6.cell? ⟨B, 13, none⟩ = some (.int .i64 z.ti) := O6.out.cell 13
        have q14 : w6.cell? ⟨B, 14, none⟩ = some (.int .i64 z.dh) := O6.out.cell 14
        have q15 : w6.cell? ⟨B, 15, none⟩ = some (.int .i64 (th2 z)) := O6.out.cell 15
        have q0 : w6.cell? ⟨B, 0, none⟩ = some (.int .i64 z.lv) := O6.out.cell 0
        have q7 : w6.cell? ⟨B, 7, none⟩ = some (.int .i64 z.k.k6) := O6.out.cell 7
        go_upto_region 11 with (fail)
        have KS2 : Calls Tryz.prog 44 #[.agg #[.int .i64 z.tr, .int .i64 z.ti, .int .i64 z.dh], .int .i64 (clV z), .bool (th2 z == (z.lv : Int)), .int .i64 z.k.k6] w6 fun e w' => e = .returned (.tuple #[.agg (dV z.tr (clD z).tier (clD z).held).toArray, .bool (clD z).is]) ∧ Below w6.heap.size w6 w' := by
          have K := rdstep_any z.tr z.ti z.dh (clV z) z.k.k6 (th2 z == (z.lv : Int)) w6 HOK.out.dok
          have eO : (th2 z == (z.lv : Int)) = decide ((clM z).th = z.lv) := by
            rw [clM_th, Bool.eq_iff_iff]
            simp
          have eD : dstep z.tr z.ti z.dh (clV z) (th2 z == (z.lv : Int)) z.k.k6 = clD z := by
            unfold clD
            rw [eO]
          rw [eD] at K
          exact K
        refine KS2.mono ?_
        rintro e w7 ⟨rfl, hb7⟩
        have O7 := Lib.hid (IsObj.below O6.out hb7 O6.out.lt)
        have R7 := Lib.hid (IsObj.below R6.out hb7 R6.out.lt)
        have X7 := Lib.hid (IsObj.below X6.out hb7 X6.out.lt)
        have TT7 := Lib.hid (IsObj.below TT6.out hb7 TT6.out.lt)
        have B7 := Lib.hid (B6.out.trans (hb7.mono B6.out.size))
        clear hb7 KS2 q12 q13 q14 q15 q0 q7
        obtain ⟨G2, hG2⟩ : ∃ G2, G2 = w7.heap.size := ⟨_, rfl⟩
        have HG2 := Lib.hid hG2
        have DA := Lib.hid (show IsObj (w7.alloc (.cells #[.int .i64 0, .int .i64 0, .int .i64 0] 36)) G2 36 [.int .i64 0, .int .i64 0, .int .i64 0] by rw [hG2]; exact IsObj.new w7 _ [.int .i64 0, .int .i64 0, .int .i64 0])
        have DH := Lib.hid (show (w7.alloc (.cells #[.int .i64 0, .int .i64 0, .int .i64 0] 36)).there w7.heap.size 0 (dV z.tr (clD z).tier (clD z).held).toArray.size by rw [← hG2]; exact IsObj.there DA.out 0 3 (by decide))
        have DD8 := Lib.hid (show IsObj ((w7.alloc (.cells #[.int .i64 0, .int .i64 0, .int .i64 0] 36)).setCells w7.heap.size 0 (dV z.tr (clD z).tier (clD z).held).toArray.toList) G2 36 (dV z.tr (clD z).tier (clD z).held) by rw [← hG2]; exact IsObj.setAll DA.out (by rfl))
        have hO := Only.setCells (b := w7.heap.size) (dV z.tr (clD z).tier (clD z).held).toArray.toList 0 (Only.refl w7.heap.size (w7.alloc (.cells #[.int .i64 0, .int .i64 0, .int .i64 0] 36)))
        have hB8 := hO.below (Nat.le_refl _) (by simp)
        have O8 := Lib.hid (IsObj.below (O7.out.alloc _) hB8 O7.out.lt)
        have R8 := Lib.hid (IsObj.below (R7.out.alloc _) hB8 R7.out.lt)
        have X8 := Lib.hid (IsObj.below (X7.out.alloc _) hB8 X7.out.lt)
        have TT8 := Lib.hid (IsObj.below (TT7.out.alloc _) hB8 TT7.out.lt)
        have B8 := Lib.hid ((B7.out.alloc B7.out.size _).trans (hB8.mono B7.out.size))
        clear hG2 hO hB8
        go_upto_region 11 with (refine wpList_store_mid (by rfl) 36 _ _ (by rfl) w7.heap.size 0 (dV z.tr (clD z).tier (clD z).held).toArray (by rfl) (by rfl) DH.out (by kernel_rfl) (by kernel_rfl) ?_; rw [← HG2.out] at DD8 O8 R8 X8 TT8 B8 ⊢; generalize (w7.alloc (.cells #[.int .i64 0, .int .i64 0, .int .i64 0] 36)).setCells G2 0 (dV z.tr (clD z).tier (clD z).held).toArray.toList = w8 at *)
        -- the turn and the dimmer are put back
        have RT8 := Lib.hid (IsObj.range TT8.out)
        have T8 := Lib.hid (show w8.there B 10 (tV (clT z).way (clT z).held).toArray.size from IsObj.there O8.out 10 2 (show 10 + 2 ≤ 17 by decide))
        have hord : B + 1 + 1 < G ∧ G < G2 := by
          have h1 := X2.out.lt
          have h2 := HG.out
          have h3 := TT7.out.lt
          have h4 := HG2.out
          omega
        have O9 := Lib.hid (show IsObj (w8.setCells B 10 (tV (clT z).way (clT z).held).toArray.toList) B 38 (zC { z with th := th2 z, ep := ep2 z, way := (clT z).way, held := (clT z).held } sv wv) from IsObj.setCells (tV (clT z).way (clT z).held) 10 O8.out (show 10 + 2 ≤ 17 by decide))
        have A9 := Lib.hid (show Only B w8 (w8.setCells B 10 (tV (clT z).way (clT z).held).toArray.toList) from Only.setCells (b := B) (tV (clT z).way (clT z).held) 10 (Only.refl B w8))
        have R9 := Lib.hid (IsObj.only R8.out A9.out (by omega))
        have X9 := Lib.hid (IsObj.only X8.out A9.out (by omega))
        have DD9 := Lib.hid (IsObj.only DD8.out A9.out (by omega))
        go_upto_region 12 with (first
          | (refine wpList_load_mid (by rfl) 34 _ (by rfl) G 0 (by rfl) (tV (clT z).way (clT z).held) _ RT8.out Tryz.underlying34 rfl (by kernel_rfl) ?_)
          | (refine wpList_store_mid (by rfl) 34 _ _ (by rfl) B 10 (tV (clT z).way (clT z).held).toArray (by rfl) (by rfl) T8.out (by kernel_rfl) (by kernel_rfl) ?_; generalize w8.setCells B 10 (tV (clT z).way (clT z).held).toArray.toList = w9 at *))
        have RD9 := Lib.hid (IsObj.range DD9.out)
        have T9 := Lib.hid (show w9.there B 12 (dV z.tr (clD z).tier (clD z).held).toArray.size from IsObj.there O9.out 12 3 (show 12 + 3 ≤ 17 by decide))
        have O10 := Lib.hid (show IsObj (w9.setCells B 12 (dV z.tr (clD z).tier (clD z).held).toArray.toList) B 38 (zC (clP z) sv wv) from IsObj.setCells (dV z.tr (clD z).tier (clD z).held) 12 O9.out (show 12 + 3 ≤ 17 by decide))
        have A10 := Lib.hid (show Only B w9 (w9.setCells B 12 (dV z.tr (clD z).tier (clD z).held).toArray.toList) from Only.setCells (b := B) (dV z.tr (clD z).tier (clD z).held) 12 (Only.refl B w9))
        have R10 := Lib.hid (IsObj.only R9.out A10.out (by omega))
        have X10 := Lib.hid (IsObj.only X9.out A10.out (by omega))
        have DD10 := Lib.hid (IsObj.only DD9.out A10.out (by omega))
        go_upto_region 13 with (first
          | (refine wpList_load_mid (by rfl) 36 _ (by rfl) G2 0 (by rfl) (dV z.tr (clD z).tier (clD z).held) _ RD9.out Tryz.underlying36 rfl (by kernel_rfl) ?_)
          | (refine wpList_store_mid (by rfl) 36 _ _ (by rfl) B 12 (dV z.tr (clD z).tier (clD z).held).toArray (by rfl) (by rfl) T9.out (by kernel_rfl) (by kernel_rfl) ?_; generalize w9.setCells B 12 (dV z.tr (clD z).tier (clD z).held).toArray.toList = w10 at *))
        have K0 := Lib.hid (show S13 B G2 z sv wv w10.drew from ⟨IsObj.range O10.out.drew, O10.out.drew.cell 15, O10.out.drew.cell 16, DD10.out.drew.cell 1⟩)
        have hQD : ∀ b, w10.drew.heap.size ≤ b → Q b ∧ G2 < b := by
          intro b hb
          have h1 : w10.heap.size ≤ b := hb
          have h2 := DD10.out.lt
          have h3 := O10.out.lt
          have h4 := HB.out
          exact ⟨HQ.out b (by omega), by omega⟩
        have l2 := HOK.out.l2
        have KF := Lib.hid (rfresh20_any (Q := fun k => Q k ∧ G2 < k) (N := N) (clP z) sv wv w10.drew l2 hQD)
        clear hQD l2
        simp only [Act.put]
        refine wp_region_held_drew (S := S13 B G2 z sv wv) (by kernel_rfl) ?_ (fun hHeld => ?_)
        · exact K0.out
        refine wpAnyH_take (i := 0) (oi := ?oi1) (v := zV (clP z) sv wv) ?hi1 (by kernel_rfl) (by kernel_rfl) (by kernel_rfl) ?hQ1 ?hy1 (by assumption) ?_
        case hi1 => (simp only [List.getElem?_toArray, List.getElem?_cons_succ, List.getElem?_cons_zero]; rfl)
        case hQ1 => exact fun _ _ _ h => h
        case hy1 => exact yieldsIf_load_mid (by rfl) 38 _ (by rfl) B 0 (by rfl) (zC (clP z) sv wv) _ (fun w hw => hw.1) Tryz.underlying38 rfl zinfo
        try simp only [Act.put, List.setIfInBounds_toArray, List.set_cons_zero, List.set_cons_succ]
        refine wpAnyH_take (i := 2) (oi := ?oi2) (v := ?v2) ?hi2 (by kernel_rfl) (by kernel_rfl) (by kernel_rfl) ?hQ2 ?hy2 (by assumption) ?_
        case hi2 => (simp only [List.getElem?_toArray, List.getElem?_cons_succ, List.getElem?_cons_zero]; rfl)
        case hQ2 => exact fun _ _ _ h => h
        case hy2 => (refine Or.inl ⟨by rfl, ?_⟩; intro w hSw; (obtain ⟨hSw1, hSw2, hSw3, hSw4⟩ := hSw); go_simp; try with_reducible rfl)
        try simp only [Act.put, List.setIfInBounds_toArray, List.set_cons_zero, List.set_cons_succ]
        refine wpAnyH_take (i := 3) (oi := ?oi3) (v := ?v3) ?hi3 (by kernel_rfl) (by kernel_rfl) (by kernel_rfl) ?hQ3 ?hy3 (by assumption) ?_
        case hi3 => (simp only [List.getElem?_toArray, List.getElem?_cons_succ, List.getElem?_cons_zero]; rfl)
        case hQ3 => exact fun _ _ _ h => h
        case hy3 => (refine Or.inl ⟨by rfl, ?_⟩; intro w hSw; (obtain ⟨hSw1, hSw2, hSw3, hSw4⟩ := hSw); go_simp; try with_reducible rfl)
        try simp only [Act.put, List.setIfInBounds_toArray, List.set_cons_zero, List.set_cons_succ]
        refine wpAnyH_take (i := 4) (oi := ?oi4) (v := ?v4) ?hi4 (by kernel_rfl) (by kernel_rfl) (by kernel_rfl) ?hQ4 ?hy4 (by assumption) ?_
        case hi4 => (simp only [List.getElem?_toArray, List.getElem?_cons_succ, List.getElem?_cons_zero]; rfl)
        case hQ4 => exact fun _ _ _ h => h
        case hy4 => (refine Or.inl ⟨by rfl, ?_⟩; intro w hSw; (obtain ⟨hSw1, hSw2, hSw3, hSw4⟩ := hSw); go_simp; try with_reducible rfl)
        try simp only [Act.put, List.setIfInBounds_toArray, List.set_cons_zero, List.set_cons_succ]
        refine wpAnyH_take (i := 5) (oi := ?oi5) (v := ?v5) ?hi5 (by kernel_rfl) (by kernel_rfl) (by kernel_rfl) ?hQ5 ?hy5 (by assumption) ?_
        case hi5 => (simp only [List.getElem?_toArray, List.getElem?_cons_succ, List.getElem?_cons_zero]; rfl)
        case hQ5 => exact fun _ _ _ h => h
        case hy5 => (refine Or.inl ⟨by rfl, ?_⟩; intro w hSw; (obtain ⟨hSw1, hSw2, hSw3, hSw4⟩ := hSw); go_simp; try with_reducible rfl)
        try simp only [Act.put, List.setIfInBounds_toArray, List.set_cons_zero, List.set_cons_succ]
        refine wpAnyH_take (i := 6) (oi := ?oi6) (v := ?v6) ?hi6 (by kernel_rfl) (by kernel_rfl) (by kernel_rfl) ?hQ6 ?hy6 (by assumption) ?_
        case hi6 => (simp only [List.getElem?_toArray, List.getElem?_cons_succ, List.getElem?_cons_zero]; rfl)
        case hQ6 => exact fun _ _ _ h => h
        case hy6 => (refine Or.inl ⟨by rfl, ?_⟩; intro w hSw; (obtain ⟨hSw1, hSw2, hSw3, hSw4⟩ := hSw); go_simp; try with_reducible rfl)
        try simp only [Act.put, List.setIfInBounds_toArray, List.set_cons_zero, List.set_cons_succ]
        refine wpAnyH_take (i := 7) (oi := ?oi7) (v := ?v7) ?hi7 (by kernel_rfl) (by kernel_rfl) (by kernel_rfl) ?hQ7 ?hy7 (by assumption) ?_
        case hi7 => (simp only [List.getElem?_toArray, List.getElem?_cons_succ, List.getElem?_cons_zero]; rfl)
        case hQ7 => exact fun _ _ _ h => h
        case hy7 => (refine Or.inl ⟨by rfl, ?_⟩; intro w hSw; (obtain ⟨hSw1, hSw2, hSw3, hSw4⟩ := hSw); go_simp; try with_reducible rfl)
        try simp only [Act.put, List.setIfInBounds_toArray, List.set_cons_zero, List.set_cons_succ]
        refine wpAnyH_take (i := 8) (oi := ?oi8) (v := ?v8) ?hi8 (by kernel_rfl) (by kernel_rfl) (by kernel_rfl) ?hQ8 ?hy8 (by assumption) ?_
        case hi8 => (simp only [List.getElem?_toArray, List.getElem?_cons_succ, List.getElem?_cons_zero]; rfl)
        case hQ8 => exact fun _ _ _ h => h
        case hy8 => (refine Or.inl ⟨by rfl, ?_⟩; intro w hSw; (obtain ⟨hSw1, hSw2, hSw3, hSw4⟩ := hSw); go_simp; try with_reducible rfl)
        try simp only [Act.put, List.setIfInBounds_toArray, List.set_cons_zero, List.set_cons_succ]
        refine wpAnyH_take (i := 9) (oi := ?oi9) (v := ?v9) ?hi9 (by kernel_rfl) (by kernel_rfl) (by kernel_rfl) ?hQ9 ?hy9 (by assumption) ?_
        case hi9 => (simp only [List.getElem?_toArray, List.getElem?_cons_succ, List.getElem?_cons_zero]; rfl)
        case hQ9 => exact fun _ _ _ h => h
        case hy9 => (refine Or.inl ⟨by rfl, ?_⟩; intro w hSw; (obtain ⟨hSw1, hSw2, hSw3, hSw4⟩ := hSw); go_simp; try with_reducible rfl)
        try simp only [Act.put, List.setIfInBounds_toArray, List.set_cons_zero, List.set_cons_succ]
        refine wpAnyH_take (i := 10) (oi := ?oi10) (v := ?v10) ?hi10 (by kernel_rfl) (by kernel_rfl) (by kernel_rfl) ?hQ10 ?hy10 (by assumption) ?_
        case hi10 => (simp only [List.getElem?_toArray, List.getElem?_cons_succ, List.getElem?_cons_zero]; rfl)
        case hQ10 => exact fun _ _ _ h => h
        case hy10 => (refine Or.inl ⟨by rfl, ?_⟩; intro w hSw; (obtain ⟨hSw1, hSw2, hSw3, hSw4⟩ := hSw); go_simp; try with_reducible rfl)
        try simp only [Act.put, List.setIfInBounds_toArray, List.set_cons_zero, List.set_cons_succ]
        refine wpAnyH_take (i := 11) (oi := ?oi11) (v := ?v11) ?hi11 (by kernel_rfl) (by kernel_rfl) (by kernel_rfl) ?hQ11 ?hy11 (by assumption) ?_
        case hi11 => (simp only [List.getElem?_toArray, List.getElem?_cons_succ, List.getElem?_cons_zero]; rfl)
        case hQ11 => exact fun _ _ _ h => h
        case hy11 => (refine Or.inl ⟨by rfl, ?_⟩; intro w hSw; (obtain ⟨hSw1, hSw2, hSw3, hSw4⟩ := hSw); go_simp; try with_reducible rfl)
        try simp only [Act.put, List.setIfInBounds_toArray, List.set_cons_zero, List.set_cons_succ]
        refine wpAnyH_take (i := 12) (oi := ?oi12) (v := ?v12) ?hi12 (by kernel_rfl) (by kernel_rfl) (by kernel_rfl) ?hQ12 ?hy12 (by assumption) ?_
        case hi12 => (simp only [List.getElem?_toArray, List.getElem?_cons_succ, List.getElem?_cons_zero]; rfl)
        case hQ12 => exact fun _ _ _ h => h
        case hy12 => (refine Or.inl ⟨by rfl, ?_⟩; intro w hSw; (obtain ⟨hSw1, hSw2, hSw3, hSw4⟩ := hSw); go_simp; try with_reducible rfl)
        try simp only [Act.put, List.setIfInBounds_toArray, List.set_cons_zero, List.set_cons_succ]
        refine wpAnyH_take (i := 13) (oi := ?oi13) (v := ?v13) ?hi13 (by kernel_rfl) (by kernel_rfl) (by kernel_rfl) ?hQ13 ?hy13 (by assumption) ?_
        case hi13 => (simp only [List.getElem?_toArray, List.getElem?_cons_succ, List.getElem?_cons_zero]; rfl)
        case hQ13 => exact fun _ _ _ h => h
        case hy13 => (refine Or.inl ⟨by rfl, ?_⟩; intro w hSw; (obtain ⟨hSw1, hSw2, hSw3, hSw4⟩ := hSw); go_simp; try with_reducible rfl)
        try simp only [Act.put, List.setIfInBounds_toArray, List.set_cons_zero, List.set_cons_succ]
        refine wpAnyH_take (i := 14) (oi := ?oi14) (v := ?v14) ?hi14 (by kernel_rfl) (by kernel_rfl) (by kernel_rfl) ?hQ14 ?hy14 (by assumption) ?_
        case hi14 => (simp only [List.getElem?_toArray, List.getElem?_cons_succ, List.getElem?_cons_zero]; rfl)
        case hQ14 => exact fun _ _ _ h => h
        case hy14 => (refine Or.inl ⟨by rfl, ?_⟩; intro w hSw; (obtain ⟨hSw1, hSw2, hSw3, hSw4⟩ := hSw); go_simp; try with_reducible rfl)
        try simp only [Act.put, List.setIfInBounds_toArray, List.set_cons_zero, List.set_cons_succ]
        refine wpAnyH_ready (rs := [1]) (by kernel_rfl) (by simp) ?_
        refine AllReadyH.cons (o := ?oi1501) ?ho1501 (fun K hK => ?_) AllReadyH.nil
        case ho1501 => (simp only [List.getElem?_toArray, List.getElem?_cons_succ, List.getElem?_cons_zero]; rfl)
        go_simp
        go_at_call 45
        refine KF.out.mono ?_
        rintro e wA ⟨sv', rfl, hrA, hbA⟩
        have hkA : S13 B G2 z sv wv wA := K0.out.keep hbA
        have RA := Lib.hid (IsObj.below R10.out.drew hbA R10.out.lt)
        have XA := Lib.hid (IsObj.below X10.out.drew hbA X10.out.lt)
        have HA := Lib.hid hrA
        have BA := Lib.hid hbA
        have soA := hrA.so
        clear hrA hbA
        refine hK.out _ _ ?_ (fun hHeld => ?_)
        · (try dsimp only); exact hkA
        clear hK K
        try simp only [Act.put, List.setIfInBounds_toArray, List.set_cons_zero, List.set_cons_succ]
        have RTA := Lib.hid (show wA.there (B + 1) 0 (zC (clP z) sv' (.slice none 0 0)).toArray.size from IsObj.there RA.out 0 17 (by simp))
        have OF := Lib.hid (show IsObj (wA.setCells (B + 1) 0 (zC (clP z) sv' (.slice none 0 0)).toArray.toList) (B + 1) 38 (zC (clP z) sv' (.slice none 0 0)) from IsObj.setAll RA.out (by rfl))
        have BF := Lib.hid (show Only (B + 1) wA (wA.setCells (B + 1) 0 (zC (clP z) sv' (.slice none 0 0)).toArray.toList) from Only.setCells (b := B + 1) (zC (clP z) sv' (.slice none 0 0)) 0 (Only.refl (B + 1) wA))
        have XB := Lib.hid (IsObj.only XA.out BF.out (by omega))
        have ZO : (zC (clP z) sv' (.slice none 0 0)).toArray.all (·.oneCell') = true := zC_one soA rfl
        have hSB := S13.only BF.out (by omega) (by omega) hkA
        refine wpAnyH_ready (rs := [15]) (by kernel_rfl) (by simp) ?_
        refine AllReadyH.cons (o := ?oi1600) ?ho1600 (fun K hK => ?_) AllReadyH.nil
        case ho1600 => (simp only [List.getElem?_toArray, List.getElem?_cons_succ, List.getElem?_cons_zero]; rfl)
        refine wp_store_mid 38 _ _ (by rfl) (B + 1) 0 (zC (clP z) sv' (.slice none 0 0)).toArray (by rfl) (by rfl) RTA.out zinfo ZO ?_
        generalize wA.setCells (B + 1) 0 (zC (clP z) sv' (.slice none 0 0)).toArray.toList = wB at *
        refine hK.out _ _ ?_ (fun hHeld => ?_)
        · (try dsimp only); exact hSB
        clear hK K
        try simp only [Act.put, List.setIfInBounds_toArray, List.set_cons_zero, List.set_cons_succ]
        have XT := Lib.hid (show wB.there (B + 1 + 1) 0 (cV z).toArray.size from IsObj.there XB.out 0 6 (by simp))
        have XF := Lib.hid (show IsObj (wB.setCells (B + 1 + 1) 0 (cV z).toArray.toList) (B + 1 + 1) 50 (cV z) from IsObj.setAll XB.out (by rfl))
        have CF := Lib.hid (show Only (B + 1 + 1) wB (wB.setCells (B + 1 + 1) 0 (cV z).toArray.toList) from Only.setCells (b := B + 1 + 1) (cV z) 0 (Only.refl (B + 1 + 1) wB))
        have OFC := Lib.hid (IsObj.only OF.out CF.out (by omega))
        have hSC := S13.only CF.out (by omega) (by omega) hSB
        refine wpAnyH_ready (rs := [16]) (by kernel_rfl) (by simp) ?_
        refine AllReadyH.cons (o := ?oi1700) ?ho1700 (fun K hK => ?_) AllReadyH.nil
        case ho1700 => (simp only [List.getElem?_toArray, List.getElem?_cons_succ, List.getElem?_cons_zero]; rfl)
        refine wp_store_mid 50 _ _ (by rfl) (B + 1 + 1) 0 (cV z).toArray (by rfl) (by rfl) XT.out (by kernel_rfl) (by kernel_rfl) ?_
        generalize wB.setCells (B + 1 + 1) 0 (cV z).toArray.toList = wC at *
        refine hK.out _ _ ?_ (fun hHeld => ?_)
        · (try dsimp only); exact hSC
        clear hK K
        try simp only [Act.put, List.setIfInBounds_toArray, List.set_cons_zero, List.set_cons_succ]
        refine wpAnyH_done (by kernel_rfl) ?_ _
        go_wp2
        have RL := run_loadVar_mid (P := Tryz.prog) wC (B + 1) 0 38 (zC (clP z) sv' (.slice none 0 0)) _ (IsObj.range OFC.out) Tryz.underlying38 rfl zinfo
        have RX := run_loadVar_mid (P := Tryz.prog) wC (B + 1 + 1) 0 50 (cV z) _ (IsObj.range XF.out) Tryz.underlying50 rfl (by kernel_rfl)
        refine bodyPost_ret (v := .tuple #[zV (clP z) sv' (.slice none 0 0), .agg (cV z).toArray]) ?_ rfl ?_
        · exact results_cell_cell (by rfl) (by rfl) (by rfl) RL RX
        · have e1 : zC (clP z) sv' (.slice none 0 0) = zC (clZ z) sv' (.slice none 0 0) := by rw [← clP_eq]; rfl
          have e2 := cV_eq z
          have H8 := (HA.out.only BF.out (fun k hk => by have := hk.2; omega)).only CF.out (fun k hk => by have := hk.2; omega)
          have H9 : RSt Q N wC (clZ z) sv' (.slice none 0 0) := by rw [← clP_eq]; exact H8.weak (fun k hk => hk.1)
          have hw := HB.out
          have b9 := B8.out.trans (A9.out.below (by omega) B8.out.size)
          have b10 := b9.trans (A10.out.below (by omega) b9.size)
          have bA := b10.trans ((below_drew_left BA.out).mono b10.size)
          have bB := bA.trans (BF.out.below (by omega) bA.size)
          have bC := bB.trans (CF.out.below (by omega) bB.size)
          have e3 : zV (clP z) sv' (.slice none 0 0) = zV (clZ z) sv' (.slice none 0 0) := congrArg (fun l => Value.agg (List.toArray l)) e1
          exact ⟨sv', by rw [e3, e2], H9, bC⟩
end Go.Proofs.YtagfbnfbiadpfaaGreat
