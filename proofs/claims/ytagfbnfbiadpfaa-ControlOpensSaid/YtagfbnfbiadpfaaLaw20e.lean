/-
  The statement ControlOpens of layer 20 (control). No condition.
-/
import Derived.Test.YtagfbnfbiadpfaaLaw20d
namespace Go.Proofs.Ytagfbnfbiadpfaa
open Go.RowKit Go.Shelf
set_option linter.unusedVariables false
set_option linter.unusedSimpArgs false

theorem act_keep (z : CSt) (a : CAct) (hk : kOk z.k z.lv = true) (hd : 0 ≤ z.dh) : kOk (actSt z a).k (actSt z a).lv = true ∧ 0 ≤ (actSt z a).dh := by
  have hM := clM_lv z
  have hc : 0 ≤ (clD z).held := dh_nn _ _ _ _ _ _ hd
  unfold actSt
  split
  · exact ⟨hk, hd⟩
  · split
    · exact ⟨hk, hd⟩
    · split
      · refine ⟨?_, hc⟩
        show kOk (clM z).k (clM z).lv = true
        rw [hM.1, hM.2.2.1]
        exact hk
      · split
        · unfold pushSt
          split
          · rename_i h
            exact ⟨h, hd⟩
          · exact ⟨hk, hd⟩
        · split
          · exact ⟨hk, (by decide : (0 : Int) ≤ 32)⟩
          · exact ⟨hk, hd⟩
theorem close_keep (z : CSt) (hk : kOk z.k z.lv = true) (hd : 0 ≤ z.dh) : kOk (clZ z).k (clZ z).lv = true ∧ 0 ≤ (clZ z).dh := act_keep z ⟨2, 0, z.k⟩ hk hd
theorem wAll_nn {z : CSt} (h : Calmly z) : 0 ≤ wAll z := by
  have hk := kOk_in h.k
  have o1 := h.ok.h1
  have o2 := h.ok.dok
  unfold DOk at o2
  have hp1 : z.ti < z.tr → z.k.k6 ≤ z.k.k6 * (z.tr - z.ti) := by
    intro hlt
    have := Int.mul_le_mul_of_nonneg_left (show (1 : Int) ≤ z.tr - z.ti by omega) (show 0 ≤ z.k.k6 by omega)
    rwa [Int.mul_one] at this
  unfold wAll wOpen wDim wWay
  generalize z.k.k6 * (z.tr - z.ti) = p at *
  by_cases hi : z.ti = z.tr
  · rw [if_pos hi]
    (repeat' split) <;> omega
  · have := hp1 (by omega)
    rw [if_neg hi]
    (repeat' split) <;> omega
/-- What the first loop holds. -/
structure OpAt (w3 : World) (C T D S L lv : Nat) (tr : Int) (z : CSt) (wr : World) : Prop where
  c : CtlAt wr C T D S L z
  lv : z.lv = lv
  tr : z.tr = tr
  k : kOk z.k z.lv = true
  dh : 0 ≤ z.dh
  b : Below S w3 wr
theorem OpAt.drewN {w3 : World} {C T D S L lv : Nat} {tr : Int} {z : CSt} {wr : World} (h : OpAt w3 C T D S L lv tr z wr) (n : Nat) : OpAt w3 C T D S L lv tr z (wr.drewN n) := ⟨h.c.drewN n, h.lv, h.tr, h.k, h.dh, below_drewN h.b n⟩
theorem two_keepx3 {H : Nat} {W W1 : World} {p1 p2 : Addr} {v1 v2 : Value} (hb : Below H W W1) (h1 : p1.block < H) (h2 : p2.block < H) (h : W.cell? p1 = some v1 ∧ W.cell? p2 = some v2) : W1.cell? p1 = some v1 ∧ W1.cell? p2 = some v2 := ⟨(hb.cell h1).trans h.1, (hb.cell h2).trans h.2⟩
/-- What the second loop holds. -/
structure CaAt (w3 : World) (C T D S L lv : Nat) (tr n : Int) (q : Nat) (z : CSt) (wr : World) : Prop where
  c : CtlAt wr C T D S L z
  lv : z.lv = lv
  tr : z.tr = tr
  y : Calmly z
  b : Below S w3 wr
  qn : (q : Int) ≤ n
  left : wAll z + q ≤ n ∨ wAll z = 0
set_option maxRecDepth 100000 in
set_option maxHeartbeats 3000000 in
theorem opens_walk (lvI tr : Int) (k : Kb) (a : Option Addr) (cap : Nat) (l : List CAct) (sv : Value) (sl : List Int) (w : World) (hsv : KInts .u8 w sv sl) (g1 : l.length ≤ cap) (g2 : cap ≤ 9223372036854775807) (hA : RowOf cactCells 9 w a l) :
    Calls Try.prog 4 #[.agg #[.int .i64 lvI, .int .i64 tr, .int .i64 k.k0, .int .i64 k.k1, .int .i64 k.k2, .int .i64 k.k3, .int .i64 k.k4, .int .i64 k.k5, .int .i64 k.k6], .slice a l.length cap, sv] w fun e w' => e = .returned (.bool true) ∧ Below w.heap.size w w' := by
  obtain ⟨k0, k1, k2, k3, k4, k5, k6⟩ := k
  have HA := Lib.hid hA
  clear hA
  obtain ⟨sa, sc, rfl, sg1, sg2, swf, sat⟩ := hsv
  have HSw := Lib.hid swf
  have HSa := Lib.hid sat
  clear swf sat
  obtain ⟨R, hR⟩ : ∃ R, R = w.heap.size := ⟨_, rfl⟩
  obtain ⟨W0, hW0⟩ : ∃ W0, W0 = w.alloc (.cells #[.int .i64 lvI, .int .i64 tr, .int .i64 k0, .int .i64 k1, .int .i64 k2, .int .i64 k3, .int .i64 k4, .int .i64 k5, .int .i64 k6] 25) := ⟨_, rfl⟩
  have o := Lib.hid (show IsObj W0 R 25 [.int .i64 lvI, .int .i64 tr, .int .i64 k0, .int .i64 k1, .int .i64 k2, .int .i64 k3, .int .i64 k4, .int .i64 k5, .int .i64 k6] by rw [hR, hW0]; exact IsObj.new w _ [.int .i64 lvI, .int .i64 tr, .int .i64 k0, .int .i64 k1, .int .i64 k2, .int .i64 k3, .int .i64 k4, .int .i64 k5, .int .i64 k6])
  have B := Lib.hid (show Below R w W0 by rw [hR, hW0]; exact (Below.refl _ _).alloc (Nat.le_refl _) _)
  have hs0 : R < W0.heap.size := o.out.lt
  have HR := Lib.hid hR
  have HW := Lib.hid hW0
  have hn1 : R ≤ w.heap.size := by omega
  have hn2 : w.heap.size ≤ R := by omega
  clear hR hW0
  by_cases hl : 150 < l.length
  · have i1 : (150 : Int) < (l.length : Int) := by omega
    go_enter Try.func4, Try.ntmps4
    go_wp2_with fail
    rw [← HW.out]
    refine (awake20 _).mono ?_
    rintro e w1 ⟨rfl, b1⟩
    go_wp2_with fail
    go_ret
    exact ⟨rfl, (B.out.mono hn2).trans (b1.mono (by omega))⟩
  · have i1 : (l.length : Int) ≤ 150 := by omega
    have q0 : W0.cell? ⟨R, 0, none⟩ = some (.int .i64 lvI) := o.out.cell 0
    have q1 : W0.cell? ⟨R, 1, none⟩ = some (.int .i64 tr) := o.out.cell 1
    have q2 : W0.cell? ⟨R, 2, none⟩ = some (.int .i64 k0) := o.out.cell 2
    have q3 : W0.cell? ⟨R, 3, none⟩ = some (.int .i64 k1) := o.out.cell 3
    have q4 : W0.cell? ⟨R, 4, none⟩ = some (.int .i64 k2) := o.out.cell 4
    have q5 : W0.cell? ⟨R, 5, none⟩ = some (.int .i64 k3) := o.out.cell 5
    have q6 : W0.cell? ⟨R, 6, none⟩ = some (.int .i64 k4) := o.out.cell 6
    have q7 : W0.cell? ⟨R, 7, none⟩ = some (.int .i64 k5) := o.out.cell 7
    have q8 : W0.cell? ⟨R, 8, none⟩ = some (.int .i64 k6) := o.out.cell 8
    go_enter Try.func4, Try.ntmps4
    go_upto_region 1 with (fail)
    rw [← HW.out, ← HR.out]
    go_wp2_with fail
    by_cases hnew : (1 ≤ lvI ∧ lvI ≤ 128) ∧ (0 ≤ tr ∧ tr ≤ 7)
    · obtain ⟨lv, rfl⟩ : ∃ lv : Nat, lvI = lv := ⟨lvI.toNat, by omega⟩
      refine (c_new lv tr ⟨k0, k1, k2, k3, k4, k5, k6⟩ W0 (by omega) (by omega) hnew.2.1 hnew.2.2).mono ?_
      rintro e w3 ⟨b3, hh⟩
      have B3 := Lib.hid (B.out.trans (b3.mono (by omega)))
      rcases hh with ⟨_, rfl⟩ | ⟨hkok, C, T, D, S, L, rfl, h3, hS⟩
      · clear q0 q1 q2 q3 q4 q5 q6 q7 q8
        have hs3 : R ≤ w3.heap.size := by have := b3.size; omega
        clear b3
        go_wp2_with fail
        refine (awake20 _).mono ?_
        rintro e w1 ⟨rfl, b1⟩
        go_wp2_with fail
        go_ret
        exact ⟨rfl, (B3.out.mono hn2).trans (b1.mono (by omega))⟩
      · have O3 := Lib.hid (IsObj.below o.out b3 o.out.lt)
        have H3 := Lib.hid h3
        have ho := h3.ord
        have hl3 := h3.lt
        clear q0 q1 q2 q3 q4 q5 q6 q7 q8 h3 b3 o
        go_wp2_with fail
        go_loopw [9] (fun i wr => ∃ (j : Nat) (z : CSt), j ≤ l.length ∧ i = .int .i64 j ∧ OpAt w3 C T D S L lv tr z wr) (fun i _ => l.length - (intOf i).toNat)
        case atStart => exact ⟨0, _, Nat.zero_le _, rfl, ⟨H3.out, rfl, rfl, hkok, (by decide : (0 : Int) ≤ 32), Below.refl _ _⟩⟩
        case round =>
          obtain ⟨j, z, hj, rfl, hK⟩ := hrel
          have HK := Lib.hid hK
          clear hK H3
          by_cases hlt : j < l.length
          · obtain ⟨b, off, rfl, hc⟩ : ∃ b off, a = some ⟨b, off, none⟩ ∧ ∀ i, i < l.length → ∀ j, j < 9 → w.cell? ⟨b, off + i * 9 + j, none⟩ = (cactCells (nth l i))[j]? := by
              rcases HA.out with rfl | ⟨b, off, rfl, hc⟩
              · simp at hlt
              · exact ⟨b, off, rfl, hc⟩
            obtain ⟨x, hx⟩ : ∃ x, x = nth l j := ⟨_, rfl⟩
            have hlw : Below R w wr := B3.out.trans (HK.out.b.mono (by omega))
            have hbw : b < R := by have := cell_lt (hc j hlt 0 (by omega)); have hh : b < w.heap.size := this; omega
            have ha : ∀ q, q < 9 → wr.cell? ⟨b, off + j * 9 + q, none⟩ = (cactCells x)[q]? := fun q hq => by rw [hx, ← hc j hlt q hq]; exact hlw.cell (p := ⟨b, off + j * 9 + q, none⟩) hbw
            obtain ⟨kd, n, m0, m1, m2, m3, m4, m5, m6⟩ := x
            have a0 : wr.cell? ⟨b, off + j * 9, none⟩ = some (.int .i64 kd) := ha 0 (by omega)
            have a1 : wr.cell? ⟨b, off + j * 9 + 1, none⟩ = some (.int .i64 n) := ha 1 (by omega)
            have a2 : wr.cell? ⟨b, off + j * 9 + 2, none⟩ = some (.int .i64 m0) := ha 2 (by omega)
            have a3 : wr.cell? ⟨b, off + j * 9 + 3, none⟩ = some (.int .i64 m1) := ha 3 (by omega)
            have a4 : wr.cell? ⟨b, off + j * 9 + 4, none⟩ = some (.int .i64 m2) := ha 4 (by omega)
            have a5 : wr.cell? ⟨b, off + j * 9 + 5, none⟩ = some (.int .i64 m3) := ha 5 (by omega)
            have a6 : wr.cell? ⟨b, off + j * 9 + 6, none⟩ = some (.int .i64 m4) := ha 6 (by omega)
            have a7 : wr.cell? ⟨b, off + j * 9 + 7, none⟩ = some (.int .i64 m5) := ha 7 (by omega)
            have a8 : wr.cell? ⟨b, off + j * 9 + 8, none⟩ = some (.int .i64 m6) := ha 8 (by omega)
            have i5 : (j : Int) < (l.length : Int) := by omega
            have hlr := HK.out.c.lt
            clear hc ha hx hlw
            go_wp2_with fail
            refine (c_act ⟨kd, n, ⟨m0, m1, m2, m3, m4, m5, m6⟩⟩ HK.out.c).mono ?_
            rintro e w5 ⟨rfl, h5, f5⟩
            have b5 : Below S wr w5 := f5.to ho (Nat.le_refl _) (by omega)
            have hlv := actSt_lv z ⟨kd, n, ⟨m0, m1, m2, m3, m4, m5, m6⟩⟩
            rw [HK.out.lv, HK.out.tr] at hlv
            have hke := act_keep z ⟨kd, n, ⟨m0, m1, m2, m3, m4, m5, m6⟩⟩ HK.out.k HK.out.dh
            generalize actSt z ⟨kd, n, ⟨m0, m1, m2, m3, m4, m5, m6⟩⟩ = z' at *
            have HK5 := Lib.hid (show OpAt w3 C T D S L lv tr z' w5 from ⟨h5, hlv.1, hlv.2, hke.1, hke.2, HK.out.b.trans b5⟩)
            clear a0 a1 a2 a3 a4 a5 a6 a7 a8 h5 f5 b5 hlv hke
            go_wp2_with fail
            go_roundw
            case rel => exact ⟨j + 1, _, by omega, by go_num, HK5.out⟩
            case measure => simp [intOf]; omega
          · obtain rfl : j = l.length := by omega
            go_wp2_with fail
            refine (c_close HK.out.c).mono ?_
            rintro e w4 ⟨rfl, h4, f4⟩
            have hke := close_keep z HK.out.k HK.out.dh
            have hM := clM_lv z
            obtain ⟨z1, hz1⟩ : ∃ z1, z1 = clZ z := ⟨_, rfl⟩
            have hm : z1.m = 0 ∧ z1.s = 0 := by rw [hz1]; exact ⟨rfl, rfl⟩
            have hl1 : z1.lv = lv ∧ z1.tr = tr := by rw [hz1]; exact ⟨hM.1.trans HK.out.lv, hM.2.1.trans HK.out.tr⟩
            rw [← hz1] at h4 hke
            have H4 := Lib.hid h4
            have hlr := HK.out.c.lt
            have B4 := Lib.hid (HK.out.b.trans (f4.to ho (Nat.le_refl _) (by omega)))
            have hs4 := f4.size
            clear hM hz1 h4 f4
            clear HK
            go_wp2_with fail
            refine (c_knobs H4.out).mono ?_
            rintro e w5 ⟨rfl, b5⟩
            have hs5 := b5.size
            have H5 := Lib.hid (H4.out.same b5)
            have B5 := Lib.hid (B4.out.trans (b5.mono (by omega)))
            clear b5 H4 B4
            have hfd : ∀ w : World, (Instr.field 23 (kbV z1.k) 0).run Try.prog w = .ok (.int .i64 z1.k.k0) w := fun _ => by kernel_rfl
            by_cases hlow : z1.k.k0 < 1
            · go_wp2_with fail
              refine (awake20 _).mono ?_
              rintro e w9 ⟨rfl, b9⟩
              go_wp2_with fail
              go_ret
              exact ⟨rfl, ((B3.out.trans (B5.out.mono (by omega))).mono hn2).trans (b9.mono (by omega))⟩
            · have i6 : 1 ≤ z1.k.k0 := by omega
              go_wp2_with fail
              refine (c_calm H5.out).mono ?_
              rintro e w6 ⟨rfl, b6⟩
              have hs6 := b6.size
              have hcm : Calmly z1 := ⟨H5.out.ok, hke.1, i6, hm.1, hm.2, hke.2⟩
              obtain ⟨n1, n2, n3⟩ := calm_enough hcm
              have H6 := Lib.hid (H5.out.same b6)
              have B6 := Lib.hid (B5.out.trans (b6.mono (by omega)))
              clear b6 H5 B5 hke hm i6 hlow
              obtain ⟨n, hn⟩ : ∃ n, n = calmN z1 := ⟨_, rfl⟩
              rw [← hn] at n1 n2 n3 ⊢
              clear hn
              have hB3 : Below S w3 w6 := B6.out
              have hQ : CaAt w3 C T D S L lv tr n 0 z1 w6 := ⟨H6.out, hl1.1, hl1.2, hcm, hB3, n3, .inl (by omega)⟩
              have HQ := Lib.hid hQ
              clear hQ hB3 H6 B6 hcm hl1 n1
              go_wp2_with fail
              go_loopw [11] (fun i wr => ∃ (q : Nat) (z : CSt), i = .int .i64 q ∧ CaAt w3 C T D S L lv tr n q z wr) (fun i _ => n.toNat - (intOf i).toNat)
              case atStart => exact ⟨0, _, rfl, HQ.out⟩
              case round =>
                obtain ⟨q, z, rfl, hK⟩ := hrel
                have HK := Lib.hid hK
                have hql := hK.qn
                have hw0 := wAll_nn hK.y
                clear hK HQ
                by_cases hlq : (q : Int) < n
                · go_wp2_with fail
                  have hlr := HK.out.c.lt
                  go_loopw [12] (fun i wr' => ∃ (k : Nat) (c' : List Int), i = .int .i64 k ∧ k ≤ sl.length ∧ k ≤ 20 ∧ CtlAt wr' C T D S L { z with c := c' } ∧ Below S w3 wr') (fun i _ => 20 - (intOf i).toNat)
                  case atStart => exact ⟨0, z.c, rfl, Nat.zero_le _, by omega, HK.out.c, HK.out.b⟩
                  case round =>
                    obtain ⟨k, c', rfl, hk1, hk2, hk3, hk4⟩ := hrel
                    have HC := Lib.hid hk3
                    have HB := Lib.hid hk4
                    clear hk3 hk4
                    have hcr := HC.out.lt
                    by_cases h20 : k < 20 ∧ k < sl.length
                    · have hk4 : k < sl.length := h20.2
                      obtain ⟨b, off, rfl, hc⟩ : ∃ b off, sa = some ⟨b, off, none⟩ ∧ ∀ i, i < sl.length → w.cell? ⟨b, off + i, none⟩ = some (.int .u8 (nth sl i)) := by
                        rcases HSa.out with h0 | h0
                        · rw [h0] at hk4; simp at hk4
                        · exact h0
                      have hlw : Below R w wr := B3.out.trans (HB.out.mono (by omega))
                      have hbw : b < R := by have := cell_lt (hc k hk4); have hh : b < w.heap.size := this; omega
                      have hx : wr.cell? ⟨b, off + k, none⟩ = some (.int .u8 (nth sl k)) := (hlw.cell (p := ⟨b, off + k, none⟩) hbw).trans (hc k hk4)
                      have hwf := HSw.out k hk4
                      have i8 : (k : Int) < (sl.length : Int) := by omega
                      have i9 : (k : Int) < 20 := by omega
                      have OO := Lib.hid (IsObj.below O3.out HB.out (by omega))
                      have u0 : wr.cell? ⟨R, 0, none⟩ = some (.int .i64 lv) := OO.out.cell 0
                      have HCD := Lib.hid (show CtlAt wr.drew C T D S L { z with c := c' } from HC.out.drewN 1)
                      have hsz : S ≤ wr.drew.heap.size := by show S ≤ wr.heap.size; omega
                      have hbS : b < S := by omega
                      have hRS : R < S := by omega
                      have hl0 : (lv : Int) ≠ 0 := by omega
                      have hlN : lv ≠ 0 := by omega
                      clear hc hlw
                      generalize nth sl k = x at *
                      simp only [Lit.wf] at hwf
                      go_wp2_with fail
                      go_region_held3 (fun w' => w'.cell? ⟨b, off + k, none⟩ = some (.int .u8 x) ∧ w'.cell? ⟨R, 0, none⟩ = some (.int .i64 lv)) (first | assumption | exact hk | go_keep)
                        (first
                          | (go_at_call 15; with_reducible refine (c_saw _ HCD.out).mono ?_; rintro e w7 ⟨rfl, h7, f7⟩; have b7 := f7.to ho (Nat.le_refl _) hsz; have hk := two_keepx3 b7 hbS hRS (by assumption)))
                      have HC7 := Lib.hid (show ∃ c7, CtlAt w7 C T D S L { z with c := c7 } from ⟨_, h7⟩)
                      have HB7 := Lib.hid (HB.out.trans ((Below.refl _ _).drew.trans b7))
                      clear h7 f7 b7 hk
                      go_wp2_with fail
                      go_roundw
                      case rel =>
                        obtain ⟨c7, hc7⟩ := HC7.out
                        exact ⟨k + 1, c7, by go_num, by omega, by omega, hc7, HB7.out⟩
                      case measure => simp [intOf]; omega
                    · by_cases hk20 : k < sl.length
                      · have i7 : (k : Int) < (sl.length : Int) := by omega
                        obtain rfl : k = 20 := by omega
                        as_aux_lemma =>
                          go_wp2_with fail
                          refine (c_waited 0 HC.out).mono ?_
                          rintro e w7 ⟨rfl, h7, f7⟩
                          have H7 := Lib.hid (show CtlAt w7 C T D S L (calmIn z c') from h7)
                          have B7 := Lib.hid (HB.out.trans (f7.to ho (Nat.le_refl _) (by omega)))
                          have hs7 := f7.size
                          clear h7 f7
                          go_wp2_with fail
                          refine (c_close H7.out).mono ?_
                          rintro e w8 ⟨rfl, h8, f8⟩
                          rw [calm_v HK.out.y c']
                          obtain ⟨s1, s2, s3, s4⟩ := calm_step HK.out.y c' h8.ok
                          rw [HK.out.lv] at s2
                          rw [HK.out.tr] at s3
                          have hle := HK.out.left
                          have hwn := wAll_nn s1
                          obtain ⟨z2, hz2⟩ : ∃ z2, z2 = clZ (calmIn z c') := ⟨_, rfl⟩
                          rw [← hz2] at h8 s1 s2 s3 s4 hwn
                          have H8 := Lib.hid h8
                          have B8 := Lib.hid (B7.out.trans (f8.to ho (Nat.le_refl _) (by omega)))
                          have hs8 := f8.size
                          clear h8 f8 hz2
                          go_wp2_with fail
                          have hb9 : ∀ o : Obj, Below w8.heap.size w8 (w8.alloc o) := fun o => (Below.refl _ _).alloc (Nat.le_refl _) o
                          refine ⟨⟨q + 1, z2, by go_num, ⟨H8.out.same (hb9 _), s2, s3, s1, B8.out.trans ((hb9 _).mono (by omega)), by omega, by omega⟩⟩, ?_⟩
                          simp [intOf]
                          omega
                      · as_aux_lemma =>
                          go_wp2_with fail
                          refine (c_waited 0 HC.out).mono ?_
                          rintro e w7 ⟨rfl, h7, f7⟩
                          have H7 := Lib.hid (show CtlAt w7 C T D S L (calmIn z c') from h7)
                          have B7 := Lib.hid (HB.out.trans (f7.to ho (Nat.le_refl _) (by omega)))
                          have hs7 := f7.size
                          clear h7 f7
                          go_wp2_with fail
                          refine (c_close H7.out).mono ?_
                          rintro e w8 ⟨rfl, h8, f8⟩
                          rw [calm_v HK.out.y c']
                          obtain ⟨s1, s2, s3, s4⟩ := calm_step HK.out.y c' h8.ok
                          rw [HK.out.lv] at s2
                          rw [HK.out.tr] at s3
                          have hle := HK.out.left
                          have hwn := wAll_nn s1
                          obtain ⟨z2, hz2⟩ : ∃ z2, z2 = clZ (calmIn z c') := ⟨_, rfl⟩
                          rw [← hz2] at h8 s1 s2 s3 s4 hwn
                          have H8 := Lib.hid h8
                          have B8 := Lib.hid (B7.out.trans (f8.to ho (Nat.le_refl _) (by omega)))
                          have hs8 := f8.size
                          clear h8 f8 hz2
                          go_wp2_with fail
                          have hb9 : ∀ o : Obj, Below w8.heap.size w8 (w8.alloc o) := fun o => (Below.refl _ _).alloc (Nat.le_refl _) o
                          refine ⟨⟨q + 1, z2, by go_num, ⟨H8.out.same (hb9 _), s2, s3, s1, B8.out.trans ((hb9 _).mono (by omega)), by omega, by omega⟩⟩, ?_⟩
                          simp [intOf]
                          omega
                · have hn0 : wAll z = 0 := by
                    have := HK.out.left
                    omega
                  obtain ⟨e1, e2, e3⟩ := calm_end HK.out.y hn0
                  rw [HK.out.lv] at e1
                  rw [HK.out.tr] at e2
                  have kt := c_threshold (show CtlAt wr.drew C T D S L z from HK.out.c.drewN 1)
                  have ki := c_tier (show CtlAt wr.drew C T D S L z from HK.out.c.drewN 1)
                  have kc := c_calm (show CtlAt wr.drew C T D S L z from HK.out.c.drewN 1)
                  rw [e1] at kt
                  rw [e2] at ki
                  rw [e3] at kc
                  have OO := Lib.hid (IsObj.below O3.out HK.out.b (by omega))
                  have u0 : wr.cell? ⟨R, 0, none⟩ = some (.int .i64 lv) := OO.out.cell 0
                  have u1 : wr.cell? ⟨R, 1, none⟩ = some (.int .i64 tr) := OO.out.cell 1
                  have KT := Lib.hid kt
                  have KI := Lib.hid ki
                  have KC := Lib.hid kc
                  have hR3 : R ≤ S := by omega
                  have hsz := HK.out.b.size
                  clear kt ki kc e1 e2 e3 hn0
                  go_wp2_with fail
                  go_region_held3 (fun w' => w'.cell? ⟨R, 0, none⟩ = some (.int .i64 lv) ∧ w'.cell? ⟨R, 1, none⟩ = some (.int .i64 tr)) (first | assumption | exact ha | exact hk | go_keep)
                    (first
                      | (go_at_call 7; with_reducible refine KT.out.mono ?_; rintro e w' ⟨rfl, rfl⟩)
                      | (go_at_call 8; with_reducible refine KI.out.mono ?_; rintro e w' ⟨rfl, rfl⟩)
                      | (go_at_call 14; with_reducible refine KC.out.mono ?_; rintro e w7 ⟨rfl, b7⟩; have hk := two_keepx b7 (by assumption))
                      | (go_at_call 5; with_reducible refine (awake20 _).mono ?_; rintro e w8 ⟨rfl, b8⟩; have ha := two_keepx b8 (by assumption)))
                  go_wp2_with fail
                  go_ret
                  exact ⟨ret_bool (by simp), (((B3.out.trans (HK.out.b.mono hR3)).trans ((below_drew_left b7).mono (by omega))).mono hn2).trans (b8.mono (by have := b7.size; have h9 : wr.heap.size ≤ w7.heap.size := this; omega))⟩
    · have hbad : Calls Try.prog 6 #[.int .i64 lvI, .int .i64 tr, kbV ⟨k0, k1, k2, k3, k4, k5, k6⟩] W0 fun e w' => e = .returned (.tuple #[.pointer none, .int .i64 1]) ∧ Below W0.heap.size W0 w' := by
        by_cases h1 : 1 ≤ lvI ∧ lvI ≤ 128
        · obtain ⟨lv, rfl⟩ : ∃ lv : Nat, lvI = lv := ⟨lvI.toNat, by omega⟩
          exact c_new_bad2 lv tr _ W0 (by omega) (by omega) (by omega)
        · exact c_new_bad1 lvI tr _ W0 h1
      refine hbad.mono ?_
      rintro e w3 ⟨rfl, b3⟩
      have B3 := Lib.hid (B.out.trans (b3.mono (by omega)))
      have hs3 : R ≤ w3.heap.size := by have := b3.size; omega
      clear b3 hbad q0 q1 q2 q3 q4 q5 q6 q7 q8
      go_wp2_with fail
      refine (awake20 _).mono ?_
      rintro e w1 ⟨rfl, b1⟩
      go_wp2_with fail
      go_ret
      exact ⟨rfl, (B3.out.mono hn2).trans (b1.mono (by omega))⟩
end Go.Proofs.Ytagfbnfbiadpfaa
