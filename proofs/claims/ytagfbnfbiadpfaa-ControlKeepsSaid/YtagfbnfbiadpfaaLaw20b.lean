/-
  The statement ControlKeeps of layer 20 (control). No condition.
-/
import Derived.Test.YtagfbnfbiadpfaaLaw20
namespace Go.Proofs.Ytagfbnfbiadpfaa
open Go.RowKit Go.Shelf
set_option linter.unusedVariables false
set_option linter.unusedSimpArgs false

theorem act_still (z : CSt) (a : CAct) (h2 : a.kd ≠ 2) (h4 : a.kd ≠ 4) : (actSt z a).th = z.th ∧ (actSt z a).ti = z.ti ∧ (actSt z a).ep = z.ep := by
  unfold actSt pushSt
  rw [if_neg h2, if_neg h4]
  (repeat' split) <;> exact ⟨rfl, rfl, rfl⟩
theorem act_close (z : CSt) (a : CAct) (h2 : a.kd = 2) : ((actSt z a).th = z.th ∧ (actSt z a).ep = z.ep) ∨ ((actSt z a).th ≠ z.th ∧ (actSt z a).ep = laterE z.ep) := by
  have e : actSt z a = clZ z := by unfold actSt; rw [h2]; rfl
  rw [e]
  have e1 : (clZ z).th = (clM z).th := rfl
  have e2 : (clZ z).ep = (clM z).ep := rfl
  rw [e1, e2]
  unfold clM mvSt
  split
  · exact .inl ⟨rfl, rfl⟩
  · rename_i hn
    exact .inr ⟨hn, rfl⟩
theorem act_rest (z : CSt) (a : CAct) (h4 : a.kd = 4) : (actSt z a).th = z.lv ∧ (actSt z a).ti = z.tr ∧ (actSt z a).ep = laterE z.ep := by
  have e : actSt z a = restSt z := by unfold actSt; rw [h4]; rfl
  rw [e]
  exact ⟨rfl, rfl, rfl⟩
theorem later_next (e : Int) (h0 : 1 ≤ e) (h1 : e ≤ 1000) : laterE e = e + 1 := by unfold laterE keep; omega
/-- What the loop holds. -/
structure KeepAt (w3 : World) (C T D S L lv : Nat) (tr : Int) (i : Nat) (z : CSt) (wr : World) : Prop where
  c : CtlAt wr C T D S L z
  lv : z.lv = lv
  tr : z.tr = tr
  ep : z.ep ≤ (i : Int) + 1
  b : Below S w3 wr
theorem KeepAt.drewN {w3 : World} {C T D S L lv : Nat} {tr : Int} {i : Nat} {z : CSt} {wr : World} (h : KeepAt w3 C T D S L lv tr i z wr) (n : Nat) : KeepAt w3 C T D S L lv tr i z (wr.drewN n) := ⟨h.c.drewN n, h.lv, h.tr, h.ep, below_drewN h.b n⟩
set_option maxRecDepth 100000 in
set_option maxHeartbeats 3000000 in
theorem keeps_walk (lvI tr : Int) (k : Kb) (a : Option Addr) (cap : Nat) (l : List CAct) (x0 x1 : Int) (w : World) (g1 : l.length ≤ cap) (g2 : cap ≤ 9223372036854775807) (hx0 : 0 ≤ x0 ∧ x0 ≤ 255) (hx1 : 0 ≤ x1 ∧ x1 ≤ 255) (hA : RowOf cactCells 9 w a l) :
    Calls Try.prog 3 #[.agg #[.int .i64 lvI, .int .i64 tr, .int .i64 k.k0, .int .i64 k.k1, .int .i64 k.k2, .int .i64 k.k3, .int .i64 k.k4, .int .i64 k.k5, .int .i64 k.k6], .slice a l.length cap, .agg #[.int .u8 x0, .int .u8 x1]] w fun e w' => e = .returned (.bool true) ∧ Below w.heap.size w w' := by
  obtain ⟨k0, k1, k2, k3, k4, k5, k6⟩ := k
  have HA := Lib.hid hA
  clear hA
  obtain ⟨R, hR⟩ : ∃ R, R = w.heap.size := ⟨_, rfl⟩
  obtain ⟨W0, hW0⟩ : ∃ W0, W0 = (w.alloc (.cells #[.int .i64 lvI, .int .i64 tr, .int .i64 k0, .int .i64 k1, .int .i64 k2, .int .i64 k3, .int .i64 k4, .int .i64 k5, .int .i64 k6] 25)).alloc (.cells #[.int .u8 x0, .int .u8 x1] 27) := ⟨_, rfl⟩
  have o := Lib.hid (show IsObj W0 R 25 [.int .i64 lvI, .int .i64 tr, .int .i64 k0, .int .i64 k1, .int .i64 k2, .int .i64 k3, .int .i64 k4, .int .i64 k5, .int .i64 k6] by rw [hR, hW0]; exact (IsObj.new w _ [.int .i64 lvI, .int .i64 tr, .int .i64 k0, .int .i64 k1, .int .i64 k2, .int .i64 k3, .int .i64 k4, .int .i64 k5, .int .i64 k6]).alloc _)
  have o2 := Lib.hid (show IsObj W0 (R + 1) 27 [.int .u8 x0, .int .u8 x1] by
    have h := IsObj.new (w.alloc (.cells #[.int .i64 lvI, .int .i64 tr, .int .i64 k0, .int .i64 k1, .int .i64 k2, .int .i64 k3, .int .i64 k4, .int .i64 k5, .int .i64 k6] 25)) 27 [.int .u8 x0, .int .u8 x1]
    rw [World.size_alloc] at h
    rw [hR, hW0]; exact h)
  have B := Lib.hid (show Below R w W0 by rw [hR, hW0]; exact ((Below.refl _ _).alloc (Nat.le_refl _) _).alloc (by simp) _)
  have hs0 : R + 1 < W0.heap.size := o2.out.lt
  have HR := Lib.hid hR
  have HW := Lib.hid hW0
  have hn1 : R ≤ w.heap.size := by omega
  have hn2 : w.heap.size ≤ R := by omega
  clear hR hW0
  by_cases hl : 150 < l.length
  · have i1 : (150 : Int) < (l.length : Int) := by omega
    go_enter Try.func3, Try.ntmps3
    go_wp2_with fail
    rw [← HW.out]
    refine (awake20 _).mono ?_
    rintro e w1 ⟨rfl, b1⟩
    go_wp2_with fail
    go_ret
    exact ⟨rfl, (B.out.mono hn2).trans (b1.mono (by omega))⟩
  · have i1 : (l.length : Int) ≤ 150 := by omega
    have q0 : W0.cell? ⟨R, 0, none⟩ = some (.int .i64 lvI) := o.out.cell 0
    have q1 : W0.cell? ⟨R, 1, none⟩ = some (.int .i64 tr) := o.out.cell 1
    have q2 : W0.cell? ⟨R, 2, none⟩ = some (.int .i64 k0) := o.out.cell 2
    have q3 : W0.cell? ⟨R, 3, none⟩ = some (.int .i64 k1) := o.out.cell 3
    have q4 : W0.cell? ⟨R, 4, none⟩ = some (.int .i64 k2) := o.out.cell 4
    have q5 : W0.cell? ⟨R, 5, none⟩ = some (.int .i64 k3) := o.out.cell 5
    have q6 : W0.cell? ⟨R, 6, none⟩ = some (.int .i64 k4) := o.out.cell 6
    have q7 : W0.cell? ⟨R, 7, none⟩ = some (.int .i64 k5) := o.out.cell 7
    have q8 : W0.cell? ⟨R, 8, none⟩ = some (.int .i64 k6) := o.out.cell 8
    go_enter Try.func3, Try.ntmps3
    go_upto_region 1 with (fail)
    rw [← HW.out, ← HR.out]
    go_wp2_with fail
    by_cases hnew : (1 ≤ lvI ∧ lvI ≤ 128) ∧ (0 ≤ tr ∧ tr ≤ 7)
    · obtain ⟨lv, rfl⟩ : ∃ lv : Nat, lvI = lv := ⟨lvI.toNat, by omega⟩
      refine (c_new lv tr ⟨k0, k1, k2, k3, k4, k5, k6⟩ W0 (by omega) (by omega) hnew.2.1 hnew.2.2).mono ?_
      rintro e w3 ⟨b3, hh⟩
      have B3 := Lib.hid (B.out.trans (b3.mono (by omega)))
      rcases hh with ⟨_, rfl⟩ | ⟨_, C, T, D, S, L, rfl, h3, hS⟩
      · clear q0 q1 q2 q3 q4 q5 q6 q7 q8
        have hs3 : R ≤ w3.heap.size := by have := b3.size; omega
        clear b3
        go_wp2_with fail
        refine (awake20 _).mono ?_
        rintro e w1 ⟨rfl, b1⟩
        go_wp2_with fail
        go_ret
        exact ⟨rfl, (B3.out.mono hn2).trans (b1.mono (by omega))⟩
      · have O3 := Lib.hid (IsObj.below o.out b3 o.out.lt)
        have P3 := Lib.hid (IsObj.below o2.out b3 o2.out.lt)
        have H3 := Lib.hid h3
        have ho := h3.ord
        have hl3 := h3.lt
        clear q0 q1 q2 q3 q4 q5 q6 q7 q8 h3 b3 o o2
        have p0 : w3.cell? ⟨R + 1, 0, none⟩ = some (.int .u8 x0) := P3.out.cell 0
        have p1 : w3.cell? ⟨R + 1, 1, none⟩ = some (.int .u8 x1) := P3.out.cell 1
        go_wp2_with fail
        go_quiet (fail)
        have hb33 : Below w3.heap.size w3 (w3.drewN nq) := below_drewN (Below.refl _ _) nq
        have HP := Lib.hid (show KeepAt w3 C T D S L lv tr 0 (newSt lv tr ⟨k0, k1, k2, k3, k4, k5, k6⟩) (w3.drewN nq) from ⟨H3.out.same hb33, rfl, rfl, (by decide : (1 : Int) ≤ 0 + 1), hb33.mono (by omega)⟩)
        clear hb33 p0 p1 P3 H3
        generalize w3.drewN nq = w4 at *
        generalize hpa : (if x1 < x0 then x1 else x0) = pa at *
        generalize hpb : (if x0 < x1 then x1 else x0) = pb at *
        have pa0 : 0 ≤ pa := by rw [← hpa]; split <;> omega
        have pab : pa ≤ pb := by rw [← hpa, ← hpb]; (repeat' split) <;> omega
        have pb1 : pb ≤ 255 := by rw [← hpb]; split <;> omega
        clear hpa hpb
        go_wp2_with fail
        go_loopw [11] (fun i wr => ∃ (j : Nat) (z : CSt), j ≤ l.length ∧ i = .int .i64 j ∧ KeepAt w3 C T D S L lv tr j z wr) (fun i _ => l.length - (intOf i).toNat)
        case atStart => exact ⟨0, _, Nat.zero_le _, rfl, HP.out⟩
        case round =>
          obtain ⟨j, z, hj, rfl, hK⟩ := hrel
          have HK := Lib.hid hK
          clear hK HP
          by_cases hlt : j < l.length
          · obtain ⟨b, off, rfl, hc⟩ : ∃ b off, a = some ⟨b, off, none⟩ ∧ ∀ i, i < l.length → ∀ j, j < 9 → w.cell? ⟨b, off + i * 9 + j, none⟩ = (cactCells (nth l i))[j]? := by
              rcases HA.out with rfl | ⟨b, off, rfl, hc⟩
              · simp at hlt
              · exact ⟨b, off, rfl, hc⟩
            obtain ⟨x, hx⟩ : ∃ x, x = nth l j := ⟨_, rfl⟩
            have hlw : Below R w wr := B3.out.trans (HK.out.b.mono (by omega))
            have hbw : b < R := by have := cell_lt (hc j hlt 0 (by omega)); have hh : b < w.heap.size := this; omega
            have ha : ∀ q, q < 9 → wr.cell? ⟨b, off + j * 9 + q, none⟩ = (cactCells x)[q]? := fun q hq => by rw [hx, ← hc j hlt q hq]; exact hlw.cell (p := ⟨b, off + j * 9 + q, none⟩) hbw
            obtain ⟨kd, n, m0, m1, m2, m3, m4, m5, m6⟩ := x
            have a0 : wr.cell? ⟨b, off + j * 9, none⟩ = some (.int .i64 kd) := ha 0 (by omega)
            have a1 : wr.cell? ⟨b, off + j * 9 + 1, none⟩ = some (.int .i64 n) := ha 1 (by omega)
            have a2 : wr.cell? ⟨b, off + j * 9 + 2, none⟩ = some (.int .i64 m0) := ha 2 (by omega)
            have a3 : wr.cell? ⟨b, off + j * 9 + 3, none⟩ = some (.int .i64 m1) := ha 3 (by omega)
            have a4 : wr.cell? ⟨b, off + j * 9 + 4, none⟩ = some (.int .i64 m2) := ha 4 (by omega)
            have a5 : wr.cell? ⟨b, off + j * 9 + 5, none⟩ = some (.int .i64 m3) := ha 5 (by omega)
            have a6 : wr.cell? ⟨b, off + j * 9 + 6, none⟩ = some (.int .i64 m4) := ha 6 (by omega)
            have a7 : wr.cell? ⟨b, off + j * 9 + 7, none⟩ = some (.int .i64 m5) := ha 7 (by omega)
            have a8 : wr.cell? ⟨b, off + j * 9 + 8, none⟩ = some (.int .i64 m6) := ha 8 (by omega)
            have HL := Lib.hid hlw
            have i5 : (j : Int) < (l.length : Int) := by omega
            have hlr := HK.out.c.lt
            have h0 := HK.out.ep
            have h1 := HK.out.c.ok.e0
            clear hc ha hx hlw
            go_wp2_with (first
              | (go_at_call 7; (with_reducible refine (c_threshold HK.out.c).mono ?_); rintro e w' ⟨rfl, rfl⟩)
              | (go_at_call 8; (with_reducible refine (c_tier HK.out.c).mono ?_); rintro e w' ⟨rfl, rfl⟩)
              | (go_at_call 9; (with_reducible refine (c_epoch HK.out.c).mono ?_); rintro e w' ⟨rfl, rfl⟩))
            refine (c_act ⟨kd, n, ⟨m0, m1, m2, m3, m4, m5, m6⟩⟩ HK.out.c).mono ?_
            rintro e w5 ⟨rfl, h5, f5⟩
            have b5 : Below S wr w5 := f5.to ho (Nat.le_refl _) (by omega)
            have c0 : w5.cell? ⟨b, off + j * 9, none⟩ = some (.int .i64 kd) := (b5.cell (p := ⟨b, off + j * 9, none⟩) (show b < S by omega)).trans a0
            have OO := Lib.hid (IsObj.below (IsObj.below O3.out HK.out.b (by omega)) b5 (by omega))
            have u0 : w5.cell? ⟨R, 0, none⟩ = some (.int .i64 lv) := OO.out.cell 0
            have u1 : w5.cell? ⟨R, 1, none⟩ = some (.int .i64 tr) := OO.out.cell 1
            have hlv := actSt_lv z ⟨kd, n, ⟨m0, m1, m2, m3, m4, m5, m6⟩⟩
            have hst := act_still z ⟨kd, n, ⟨m0, m1, m2, m3, m4, m5, m6⟩⟩
            have hcl := act_close z ⟨kd, n, ⟨m0, m1, m2, m3, m4, m5, m6⟩⟩
            have hre := act_rest z ⟨kd, n, ⟨m0, m1, m2, m3, m4, m5, m6⟩⟩
            have hla := later_next z.ep h1 (by omega)
            rw [hla] at hcl hre
            rw [HK.out.lv, HK.out.tr] at hlv
            rw [HK.out.lv, HK.out.tr] at hre
            obtain ⟨z', hz'⟩ : ∃ z', z' = actSt z ⟨kd, n, ⟨m0, m1, m2, m3, m4, m5, m6⟩⟩ := ⟨_, rfl⟩
            rw [← hz'] at h5 hlv hst hcl hre
            have hIs : actIs ⟨kd, n, ⟨m0, m1, m2, m3, m4, m5, m6⟩⟩ = (decide (kd = 2) || decide (kd = 4)) := rfl
            rw [hIs]
            simp only at hst hcl hre
            have hep : z'.ep ≤ (j : Int) + 1 + 1 := by
              by_cases e2 : kd = 2
              · rcases hcl e2 with ⟨_, h⟩ | ⟨_, h⟩ <;> omega
              · by_cases e4 : kd = 4
                · have := (hre e4).2.2; omega
                · have := (hst e2 e4).2.2; omega
            have HK5 := Lib.hid (show KeepAt w3 C T D S L lv tr (j + 1) z' w5 from ⟨h5, hlv.1, hlv.2, by rw [show ((j + 1 : Nat) : Int) = (j : Int) + 1 by omega]; exact hep, HK.out.b.trans b5⟩)
            clear a0 a1 a2 a3 a4 a5 a6 a7 a8 h5 f5 b5 hlv hla hz' hIs hep h0 h1
            by_cases e2 : kd = 2
            · subst e2
              rcases hcl rfl with ⟨eT, eE⟩ | ⟨eT, eE⟩
              · clear hst hcl hre
                as_aux_lemma =>
                  have KT0 := fun n => c_threshold (HK5.out.c.drewN n)
                  have KP0 := c_threshold HK5.out.c
                  have KI0 := fun n => c_tier (HK5.out.c.drewN n)
                  have KE0 := fun n => c_epoch (HK5.out.c.drewN n)
                  have KA0 := fun n => c_passes pa (HK5.out.c.drewN n)
                  have KB0 := fun n => c_passes pb (HK5.out.c.drewN n)
                  simp only [eT] at KT0 KP0 KA0 KB0
                  simp only [eE] at KE0
                  clear eT eE
                  have b0 : decide (0 ≤ pb) = true := by simp; omega
                  have a0 : decide (0 ≤ pa) = true := by simp; omega
                  by_cases hb : pb < z.th
                  · have b1 : decide (pb < z.th) = true := by simp [hb]
                    have a1 : decide (pa < z.th) = true := by simp; omega
                    simp only [b0, b1, Bool.and_self, Bool.and_false, Bool.and_true] at KB0
                    simp only [a0, a1, Bool.and_self] at KA0
                    clear b0 b1 a0 a1
                    have KT := Lib.hid KT0
                    have KP := Lib.hid KP0
                    have KI := Lib.hid KI0
                    have KE := Lib.hid KE0
                    have KA := Lib.hid KA0
                    have KB := Lib.hid KB0
                    clear KT0 KP0 KI0 KE0 KA0 KB0 hb
                    go_wp2_with (go_at_call 7; (with_reducible refine (KP.out).mono ?_); rintro e w' ⟨rfl, rfl⟩)
                    simp only [List.append_eq, List.cons_append, List.nil_append]
                    go_big_quiet ((first | (go_at_call 7; first | (with_reducible exact quiet_left (KT.out _)) | (with_reducible exact quiet_add_left (KT.out _))) | (go_at_call 8; first | (with_reducible exact quiet_left (KI.out _)) | (with_reducible exact quiet_add_left (KI.out _))) | (go_at_call 9; first | (with_reducible exact quiet_left (KE.out _)) | (with_reducible exact quiet_add_left (KE.out _))) | (go_at_call 11; first | (with_reducible exact quiet_left (KA.out _)) | (with_reducible exact quiet_add_left (KA.out _))) | (go_at_call 11; first | (with_reducible exact quiet_left (KB.out _)) | (with_reducible exact quiet_add_left (KB.out _)))))
                    go_wp2
                    go_roundw
                    case rel => exact ⟨j + 1, _, by omega, by go_num, HK5.out.drewN nq⟩
                    case measure => simp [intOf]; omega
                  · have b1 : decide (pb < z.th) = false := by simp; omega
                    simp only [b0, b1, Bool.and_self, Bool.and_false, Bool.and_true] at KB0
                    clear b0 b1 a0
                    have KT := Lib.hid KT0
                    have KP := Lib.hid KP0
                    have KI := Lib.hid KI0
                    have KE := Lib.hid KE0
                    have KA := Lib.hid KA0
                    have KB := Lib.hid KB0
                    clear KT0 KP0 KI0 KE0 KA0 KB0 hb
                    go_wp2_with (go_at_call 7; (with_reducible refine (KP.out).mono ?_); rintro e w' ⟨rfl, rfl⟩)
                    simp only [List.append_eq, List.cons_append, List.nil_append]
                    go_big_quiet ((first | (go_at_call 7; first | (with_reducible exact quiet_left (KT.out _)) | (with_reducible exact quiet_add_left (KT.out _))) | (go_at_call 8; first | (with_reducible exact quiet_left (KI.out _)) | (with_reducible exact quiet_add_left (KI.out _))) | (go_at_call 9; first | (with_reducible exact quiet_left (KE.out _)) | (with_reducible exact quiet_add_left (KE.out _))) | (go_at_call 11; first | (with_reducible exact quiet_left (KA.out _)) | (with_reducible exact quiet_add_left (KA.out _))) | (go_at_call 11; first | (with_reducible exact quiet_left (KB.out _)) | (with_reducible exact quiet_add_left (KB.out _)))))
                    go_wp2
                    go_roundw
                    case rel => exact ⟨j + 1, _, by omega, by go_num, HK5.out.drewN nq⟩
                    case measure => simp [intOf]; omega
              · have n1 : (z'.th == z.th) = false := by simp [eT]
                have n2 : (z'.th != z.th) = true := by simp [eT]
                have n3 : decide (z.ep + 1 < z.ep) = false := by simp; omega
                have n4 : decide (z.ep + 1 ≤ z.ep) = false := by simp; omega
                clear hst hcl hre eT
                as_aux_lemma =>
                  have KT0 := fun n => c_threshold (HK5.out.c.drewN n)
                  have KP0 := c_threshold HK5.out.c
                  have KI0 := fun n => c_tier (HK5.out.c.drewN n)
                  have KE0 := fun n => c_epoch (HK5.out.c.drewN n)
                  have KA0 := fun n => c_passes pa (HK5.out.c.drewN n)
                  have KB0 := fun n => c_passes pb (HK5.out.c.drewN n)
                  simp only [eE] at KE0
                  clear eE
                  have b0 : decide (0 ≤ pb) = true := by simp; omega
                  have a0 : decide (0 ≤ pa) = true := by simp; omega
                  by_cases hb : pb < z'.th
                  · have b1 : decide (pb < z'.th) = true := by simp [hb]
                    have a1 : decide (pa < z'.th) = true := by simp; omega
                    simp only [b0, b1, Bool.and_self, Bool.and_false, Bool.and_true] at KB0
                    simp only [a0, a1, Bool.and_self] at KA0
                    clear b0 b1 a0 a1
                    have KT := Lib.hid KT0
                    have KP := Lib.hid KP0
                    have KI := Lib.hid KI0
                    have KE := Lib.hid KE0
                    have KA := Lib.hid KA0
                    have KB := Lib.hid KB0
                    clear KT0 KP0 KI0 KE0 KA0 KB0 hb
                    go_wp2_with (go_at_call 7; (with_reducible refine (KP.out).mono ?_); rintro e w' ⟨rfl, rfl⟩)
                    simp only [List.append_eq, List.cons_append, List.nil_append]
                    go_big_quiet ((first | (go_at_call 7; first | (with_reducible exact quiet_left (KT.out _)) | (with_reducible exact quiet_add_left (KT.out _))) | (go_at_call 8; first | (with_reducible exact quiet_left (KI.out _)) | (with_reducible exact quiet_add_left (KI.out _))) | (go_at_call 9; first | (with_reducible exact quiet_left (KE.out _)) | (with_reducible exact quiet_add_left (KE.out _))) | (go_at_call 11; first | (with_reducible exact quiet_left (KA.out _)) | (with_reducible exact quiet_add_left (KA.out _))) | (go_at_call 11; first | (with_reducible exact quiet_left (KB.out _)) | (with_reducible exact quiet_add_left (KB.out _)))))
                    go_wp2
                    go_roundw
                    case rel => exact ⟨j + 1, _, by omega, by go_num, HK5.out.drewN nq⟩
                    case measure => simp [intOf]; omega
                  · have b1 : decide (pb < z'.th) = false := by simp; omega
                    simp only [b0, b1, Bool.and_self, Bool.and_false, Bool.and_true] at KB0
                    clear b0 b1 a0
                    have KT := Lib.hid KT0
                    have KP := Lib.hid KP0
                    have KI := Lib.hid KI0
                    have KE := Lib.hid KE0
                    have KA := Lib.hid KA0
                    have KB := Lib.hid KB0
                    clear KT0 KP0 KI0 KE0 KA0 KB0 hb
                    go_wp2_with (go_at_call 7; (with_reducible refine (KP.out).mono ?_); rintro e w' ⟨rfl, rfl⟩)
                    simp only [List.append_eq, List.cons_append, List.nil_append]
                    go_big_quiet ((first | (go_at_call 7; first | (with_reducible exact quiet_left (KT.out _)) | (with_reducible exact quiet_add_left (KT.out _))) | (go_at_call 8; first | (with_reducible exact quiet_left (KI.out _)) | (with_reducible exact quiet_add_left (KI.out _))) | (go_at_call 9; first | (with_reducible exact quiet_left (KE.out _)) | (with_reducible exact quiet_add_left (KE.out _))) | (go_at_call 11; first | (with_reducible exact quiet_left (KA.out _)) | (with_reducible exact quiet_add_left (KA.out _))) | (go_at_call 11; first | (with_reducible exact quiet_left (KB.out _)) | (with_reducible exact quiet_add_left (KB.out _)))))
                    go_wp2
                    go_roundw
                    case rel => exact ⟨j + 1, _, by omega, by go_num, HK5.out.drewN nq⟩
                    case measure => simp [intOf]; omega
            · by_cases e4 : kd = 4
              · subst e4
                obtain ⟨eT, eI, eE⟩ := hre rfl
                have n3 : decide (z.ep + 1 < z.ep) = false := by simp; omega
                have n4 : decide (z.ep + 1 ≤ z.ep) = false := by simp; omega
                clear hst hcl hre e2
                by_cases hoth : (lv : Int) = z.th
                · have n1 : ((lv : Int) == z.th) = true := by simp [hoth]
                  have n2 : ((lv : Int) != z.th) = false := by simp [hoth]
                  clear hoth
                  as_aux_lemma =>
                    have KT0 := fun n => c_threshold (HK5.out.c.drewN n)
                    have KP0 := c_threshold HK5.out.c
                    have KI0 := fun n => c_tier (HK5.out.c.drewN n)
                    have KE0 := fun n => c_epoch (HK5.out.c.drewN n)
                    have KA0 := fun n => c_passes pa (HK5.out.c.drewN n)
                    have KB0 := fun n => c_passes pb (HK5.out.c.drewN n)
                    simp only [eT] at KT0 KP0 KA0 KB0
                    simp only [eI] at KI0
                    simp only [eE] at KE0
                    clear eT eI eE
                    have b0 : decide (0 ≤ pb) = true := by simp; omega
                    have a0 : decide (0 ≤ pa) = true := by simp; omega
                    by_cases hb : pb < (lv : Int)
                    · have b1 : decide (pb < (lv : Int)) = true := by simp [hb]
                      have a1 : decide (pa < (lv : Int)) = true := by simp; omega
                      simp only [b0, b1, Bool.and_self, Bool.and_false, Bool.and_true] at KB0
                      simp only [a0, a1, Bool.and_self] at KA0
                      clear b0 b1 a0 a1
                      have KT := Lib.hid KT0
                      have KP := Lib.hid KP0
                      have KI := Lib.hid KI0
                      have KE := Lib.hid KE0
                      have KA := Lib.hid KA0
                      have KB := Lib.hid KB0
                      clear KT0 KP0 KI0 KE0 KA0 KB0 hb
                      go_wp2_with (go_at_call 7; (with_reducible refine (KP.out).mono ?_); rintro e w' ⟨rfl, rfl⟩)
                      simp only [List.append_eq, List.cons_append, List.nil_append]
                      go_big_quiet ((first | (go_at_call 7; first | (with_reducible exact quiet_left (KT.out _)) | (with_reducible exact quiet_add_left (KT.out _))) | (go_at_call 8; first | (with_reducible exact quiet_left (KI.out _)) | (with_reducible exact quiet_add_left (KI.out _))) | (go_at_call 9; first | (with_reducible exact quiet_left (KE.out _)) | (with_reducible exact quiet_add_left (KE.out _))) | (go_at_call 11; first | (with_reducible exact quiet_left (KA.out _)) | (with_reducible exact quiet_add_left (KA.out _))) | (go_at_call 11; first | (with_reducible exact quiet_left (KB.out _)) | (with_reducible exact quiet_add_left (KB.out _)))))
                      go_wp2
                      go_roundw
                      case rel => exact ⟨j + 1, _, by omega, by go_num, HK5.out.drewN nq⟩
                      case measure => simp [intOf]; omega
                    · have b1 : decide (pb < (lv : Int)) = false := by simp; omega
                      simp only [b0, b1, Bool.and_self, Bool.and_false, Bool.and_true] at KB0
                      clear b0 b1 a0
                      have KT := Lib.hid KT0
                      have KP := Lib.hid KP0
                      have KI := Lib.hid KI0
                      have KE := Lib.hid KE0
                      have KA := Lib.hid KA0
                      have KB := Lib.hid KB0
                      clear KT0 KP0 KI0 KE0 KA0 KB0 hb
                      go_wp2_with (go_at_call 7; (with_reducible refine (KP.out).mono ?_); rintro e w' ⟨rfl, rfl⟩)
                      simp only [List.append_eq, List.cons_append, List.nil_append]
                      go_big_quiet ((first | (go_at_call 7; first | (with_reducible exact quiet_left (KT.out _)) | (with_reducible exact quiet_add_left (KT.out _))) | (go_at_call 8; first | (with_reducible exact quiet_left (KI.out _)) | (with_reducible exact quiet_add_left (KI.out _))) | (go_at_call 9; first | (with_reducible exact quiet_left (KE.out _)) | (with_reducible exact quiet_add_left (KE.out _))) | (go_at_call 11; first | (with_reducible exact quiet_left (KA.out _)) | (with_reducible exact quiet_add_left (KA.out _))) | (go_at_call 11; first | (with_reducible exact quiet_left (KB.out _)) | (with_reducible exact quiet_add_left (KB.out _)))))
                      go_wp2
                      go_roundw
                      case rel => exact ⟨j + 1, _, by omega, by go_num, HK5.out.drewN nq⟩
                      case measure => simp [intOf]; omega
                · have n1 : ((lv : Int) == z.th) = false := by simp [hoth]
                  have n2 : ((lv : Int) != z.th) = true := by simp [hoth]
                  clear hoth
                  as_aux_lemma =>
                    have KT0 := fun n => c_threshold (HK5.out.c.drewN n)
                    have KP0 := c_threshold HK5.out.c
                    have KI0 := fun n => c_tier (HK5.out.c.drewN n)
                    have KE0 := fun n => c_epoch (HK5.out.c.drewN n)
                    have KA0 := fun n => c_passes pa (HK5.out.c.drewN n)
                    have KB0 := fun n => c_passes pb (HK5.out.c.drewN n)
                    simp only [eT] at KT0 KP0 KA0 KB0
                    simp only [eI] at KI0
                    simp only [eE] at KE0
                    clear eT eI eE
                    have b0 : decide (0 ≤ pb) = true := by simp; omega
                    have a0 : decide (0 ≤ pa) = true := by simp; omega
                    by_cases hb : pb < (lv : Int)
                    · have b1 : decide (pb < (lv : Int)) = true := by simp [hb]
                      have a1 : decide (pa < (lv : Int)) = true := by simp; omega
                      simp only [b0, b1, Bool.and_self, Bool.and_false, Bool.and_true] at KB0
                      simp only [a0, a1, Bool.and_self] at KA0
                      clear b0 b1 a0 a1
                      have KT := Lib.hid KT0
                      have KP := Lib.hid KP0
                      have KI := Lib.hid KI0
                      have KE := Lib.hid KE0
                      have KA := Lib.hid KA0
                      have KB := Lib.hid KB0
                      clear KT0 KP0 KI0 KE0 KA0 KB0 hb
                      go_wp2_with (go_at_call 7; (with_reducible refine (KP.out).mono ?_); rintro e w' ⟨rfl, rfl⟩)
                      simp only [List.append_eq, List.cons_append, List.nil_append]
                      go_big_quiet ((first | (go_at_call 7; first | (with_reducible exact quiet_left (KT.out _)) | (with_reducible exact quiet_add_left (KT.out _))) | (go_at_call 8; first | (with_reducible exact quiet_left (KI.out _)) | (with_reducible exact quiet_add_left (KI.out _))) | (go_at_call 9; first | (with_reducible exact quiet_left (KE.out _)) | (with_reducible exact quiet_add_left (KE.out _))) | (go_at_call 11; first | (with_reducible exact quiet_left (KA.out _)) | (with_reducible exact quiet_add_left (KA.out _))) | (go_at_call 11; first | (with_reducible exact quiet_left (KB.out _)) | (with_reducible exact quiet_add_left (KB.out _)))))
                      go_wp2
                      go_roundw
                      case rel => exact ⟨j + 1, _, by omega, by go_num, HK5.out.drewN nq⟩
                      case measure => simp [intOf]; omega
                    · have b1 : decide (pb < (lv : Int)) = false := by simp; omega
                      simp only [b0, b1, Bool.and_self, Bool.and_false, Bool.and_true] at KB0
                      clear b0 b1 a0
                      have KT := Lib.hid KT0
                      have KP := Lib.hid KP0
                      have KI := Lib.hid KI0
                      have KE := Lib.hid KE0
                      have KA := Lib.hid KA0
                      have KB := Lib.hid KB0
                      clear KT0 KP0 KI0 KE0 KA0 KB0 hb
                      go_wp2_with (go_at_call 7; (with_reducible refine (KP.out).mono ?_); rintro e w' ⟨rfl, rfl⟩)
                      simp only [List.append_eq, List.cons_append, List.nil_append]
                      go_big_quiet ((first | (go_at_call 7; first | (with_reducible exact quiet_left (KT.out _)) | (with_reducible exact quiet_add_left (KT.out _))) | (go_at_call 8; first | (with_reducible exact quiet_left (KI.out _)) | (with_reducible exact quiet_add_left (KI.out _))) | (go_at_call 9; first | (with_reducible exact quiet_left (KE.out _)) | (with_reducible exact quiet_add_left (KE.out _))) | (go_at_call 11; first | (with_reducible exact quiet_left (KA.out _)) | (with_reducible exact quiet_add_left (KA.out _))) | (go_at_call 11; first | (with_reducible exact quiet_left (KB.out _)) | (with_reducible exact quiet_add_left (KB.out _)))))
                      go_wp2
                      go_roundw
                      case rel => exact ⟨j + 1, _, by omega, by go_num, HK5.out.drewN nq⟩
                      case measure => simp [intOf]; omega
              · obtain ⟨eT, eI, eE⟩ := hst e2 e4
                have n1 : (kd == 4) = false := by simp [e4]
                have n2 : decide (kd = 4) = false := by simp [e4]
                have n3 : decide (kd = 2) = false := by simp [e2]
                clear hst hcl hre e2 e4
                as_aux_lemma =>
                  have KT0 := fun n => c_threshold (HK5.out.c.drewN n)
                  have KP0 := c_threshold HK5.out.c
                  have KI0 := fun n => c_tier (HK5.out.c.drewN n)
                  have KE0 := fun n => c_epoch (HK5.out.c.drewN n)
                  have KA0 := fun n => c_passes pa (HK5.out.c.drewN n)
                  have KB0 := fun n => c_passes pb (HK5.out.c.drewN n)
                  simp only [eT] at KT0 KP0 KA0 KB0
                  simp only [eI] at KI0
                  simp only [eE] at KE0
                  clear eT eI eE
                  have b0 : decide (0 ≤ pb) = true := by simp; omega
                  have a0 : decide (0 ≤ pa) = true := by simp; omega
                  by_cases hb : pb < z.th
                  · have b1 : decide (pb < z.th) = true := by simp [hb]
                    have a1 : decide (pa < z.th) = true := by simp; omega
                    simp only [b0, b1, Bool.and_self, Bool.and_false, Bool.and_true] at KB0
                    simp only [a0, a1, Bool.and_self] at KA0
                    clear b0 b1 a0 a1
                    have KT := Lib.hid KT0
                    have KP := Lib.hid KP0
                    have KI := Lib.hid KI0
                    have KE := Lib.hid KE0
                    have KA := Lib.hid KA0
                    have KB := Lib.hid KB0
                    clear KT0 KP0 KI0 KE0 KA0 KB0 hb
                    go_wp2_with (go_at_call 7; (with_reducible refine (KP.out).mono ?_); rintro e w' ⟨rfl, rfl⟩)
                    simp only [List.append_eq, List.cons_append, List.nil_append]
                    go_big_quiet ((first | (go_at_call 7; first | (with_reducible exact quiet_left (KT.out _)) | (with_reducible exact quiet_add_left (KT.out _))) | (go_at_call 8; first | (with_reducible exact quiet_left (KI.out _)) | (with_reducible exact quiet_add_left (KI.out _))) | (go_at_call 9; first | (with_reducible exact quiet_left (KE.out _)) | (with_reducible exact quiet_add_left (KE.out _))) | (go_at_call 11; first | (with_reducible exact quiet_left (KA.out _)) | (with_reducible exact quiet_add_left (KA.out _))) | (go_at_call 11; first | (with_reducible exact quiet_left (KB.out _)) | (with_reducible exact quiet_add_left (KB.out _)))))
                    go_wp2
                    go_roundw
                    case rel => exact ⟨j + 1, _, by omega, by go_num, HK5.out.drewN nq⟩
                    case measure => simp [intOf]; omega
                  · have b1 : decide (pb < z.th) = false := by simp; omega
                    simp only [b0, b1, Bool.and_self, Bool.and_false, Bool.and_true] at KB0
                    clear b0 b1 a0
                    have KT := Lib.hid KT0
                    have KP := Lib.hid KP0
                    have KI := Lib.hid KI0
                    have KE := Lib.hid KE0
                    have KA := Lib.hid KA0
                    have KB := Lib.hid KB0
                    clear KT0 KP0 KI0 KE0 KA0 KB0 hb
                    go_wp2_with (go_at_call 7; (with_reducible refine (KP.out).mono ?_); rintro e w' ⟨rfl, rfl⟩)
                    simp only [List.append_eq, List.cons_append, List.nil_append]
                    go_big_quiet ((first | (go_at_call 7; first | (with_reducible exact quiet_left (KT.out _)) | (with_reducible exact quiet_add_left (KT.out _))) | (go_at_call 8; first | (with_reducible exact quiet_left (KI.out _)) | (with_reducible exact quiet_add_left (KI.out _))) | (go_at_call 9; first | (with_reducible exact quiet_left (KE.out _)) | (with_reducible exact quiet_add_left (KE.out _))) | (go_at_call 11; first | (with_reducible exact quiet_left (KA.out _)) | (with_reducible exact quiet_add_left (KA.out _))) | (go_at_call 11; first | (with_reducible exact quiet_left (KB.out _)) | (with_reducible exact quiet_add_left (KB.out _)))))
                    go_wp2
                    go_roundw
                    case rel => exact ⟨j + 1, _, by omega, by go_num, HK5.out.drewN nq⟩
                    case measure => simp [intOf]; omega
          · obtain rfl : j = l.length := by omega
            have hlw : Below R w wr := B3.out.trans (HK.out.b.mono (by omega))
            have HL := Lib.hid hlw
            have hsz := hlw.size
            clear hlw
            go_wp2_with fail
            refine (awake20 _).mono ?_
            rintro e w9 ⟨rfl, b9⟩
            go_wp2_with fail
            go_ret
            exact ⟨rfl, (HL.out.mono hn2).trans (b9.mono (by omega))⟩
    · have hbad : Calls Try.prog 6 #[.int .i64 lvI, .int .i64 tr, kbV ⟨k0, k1, k2, k3, k4, k5, k6⟩] W0 fun e w' => e = .returned (.tuple #[.pointer none, .int .i64 1]) ∧ Below W0.heap.size W0 w' := by
        by_cases h1 : 1 ≤ lvI ∧ lvI ≤ 128
        · obtain ⟨lv, rfl⟩ : ∃ lv : Nat, lvI = lv := ⟨lvI.toNat, by omega⟩
          exact c_new_bad2 lv tr _ W0 (by omega) (by omega) (by omega)
        · exact c_new_bad1 lvI tr _ W0 h1
      refine hbad.mono ?_
      rintro e w3 ⟨rfl, b3⟩
      have B3 := Lib.hid (B.out.trans (b3.mono (by omega)))
      have hs3 : R ≤ w3.heap.size := by have := b3.size; omega
      clear b3 hbad q0 q1 q2 q3 q4 q5 q6 q7 q8
      go_wp2_with fail
      refine (awake20 _).mono ?_
      rintro e w1 ⟨rfl, b1⟩
      go_wp2_with fail
      go_ret
      exact ⟨rfl, (B3.out.mono hn2).trans (b1.mono (by omega))⟩
end Go.Proofs.Ytagfbnfbiadpfaa
