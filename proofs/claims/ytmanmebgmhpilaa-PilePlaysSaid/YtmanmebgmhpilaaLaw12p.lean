/-
  The statement PilePlays of layer 12 (pile). No condition.
-/
import Derived.Test.YtmanmebgmhpilaaPl2
import Derived.Deep.CutBlock
import Derived.Deep.CutRange
namespace Go.Proofs.Ytmanmebgmhpilaa
open Go.RowKit
set_option linter.unusedVariables false
set_option linter.unusedSimpArgs false

set_option maxRecDepth 100000 in
set_option maxHeartbeats 8000000 in
theorem plays_walk (most : Int) (a : Option Addr) (c : Nat) (l : List Ac) (w : World) (hc : l.length ≤ c) (hcm : c ≤ 9223372036854775807) (hwf : ∀ i, i < l.length → IdOk (nth l i).x.id) (hA : RowOf acCells 8 w a l) :
    Calls Try.prog 5 #[.int .i64 most, .slice a l.length c] w fun e w' => e = .returned (.bool true) ∧ Below w.heap.size w w' := by
  by_cases h100 : 100 < l.length
  · have hz : (100 : Int) < (l.length : Int) := by omega
    clear hA
    go_enter Try.func5, Try.ntmps5
    go_wp2_with (go_at_call 10; refine (awake12 _).mono ?_; rintro e w1 ⟨rfl, hb⟩)
    go_ret
    exact ⟨rfl, hb⟩
  · have hz : ¬ (100 : Int) < (l.length : Int) := by omega
    by_cases hbad : most < 0 ∨ 64 < most
    · clear hA
      have HBD := Lib.hid hbad
      by_cases h0 : most < 0
      · have j0 : decide (most < 0) = true := decide_eq_true h0
        clear hbad
        go_enter Try.func5, Try.ntmps5
        go_wp2_with (first | (go_at_call 11; refine (pnew_bad most _ HBD.out).mono ?_; rintro e w1 ⟨rfl, rfl⟩) | (go_at_call 10; refine (awake12 _).mono ?_; rintro e w1 ⟨rfl, hb⟩))
        go_ret
        exact ⟨rfl, hb⟩
      · have h1 : 64 < most := by omega
        have j0 : decide (most < 0) = false := decide_eq_false h0
        have j1 : decide (64 < most) = true := decide_eq_true h1
        clear hbad
        go_enter Try.func5, Try.ntmps5
        go_wp2_with (first | (go_at_call 11; refine (pnew_bad most _ HBD.out).mono ?_; rintro e w1 ⟨rfl, rfl⟩) | (go_at_call 10; refine (awake12 _).mono ?_; rintro e w1 ⟨rfl, hb⟩))
        go_ret
        exact ⟨rfl, hb⟩
    · have h0 : 0 ≤ most := by omega
      have h64 : most ≤ 64 := by omega
      have j0 : decide (most < 0) = false := decide_eq_false (by omega)
      have j1 : decide (64 < most) = false := decide_eq_false (by omega)
      have HA := Lib.hid hA
      obtain ⟨p, hp⟩ : ∃ p, p = w.heap.size + 1 := ⟨_, rfl⟩
      obtain ⟨M, hM⟩ : ∃ M, M = w.heap.size := ⟨_, rfl⟩
      have KN := pnew_ok most w h0 h64
      rw [← hp, ← hM] at KN
      have GE := Lib.hid (show w.heap.size ≤ M ∧ w.heap.size ≤ p by omega)
      have HM := Lib.hid hM
      clear hA hbad hp hM
      go_enter Try.func5, Try.ntmps5
      go_wp2_with (go_at_call 11; refine KN.mono ?_; rintro e w1 ⟨rfl, h1, b1⟩)
      have hst : PlAt w w1 p M most (.slice none 0 0) [] [] none 0 := ⟨h1, heap_nil, mir_nil, RowX.nil _ _ _ _, by rw [HM.out] at b1; exact b1, GE.out⟩
      have HST : Aside _ := hst
      clear KN hst h1 b1
      go_loopg [7, 8] l.length (fun kx s7 s8 wr => ∃ (i : Nat) (T X : List It) (ax : Option Addr) (cx : Nat) (tv : Value), i ≤ l.length ∧ l.length - i ≤ kx ∧ s7 = .slice ax X.length cx ∧ s8 = .int .i64 i ∧ Aside (PlAt w wr p M most tv T X ax cx))
      case atStart => exact ⟨0, [], [], none, 0, _, Nat.zero_le _, Nat.le_refl _, rfl, rfl, HST⟩
      case round =>
        clear HST
        obtain ⟨i, T, X, ax, cx, tv, hil, hkx, rfl, rfl, HP⟩ := hrel
        by_cases hlt : i < l.length
        · have hltz : (i : Int) < (l.length : Int) := by omega
          have hiz : (0 : Int) ≤ (i : Int) := by omega
          obtain ⟨b, off, rfl, hcell⟩ : ∃ b off, a = some ⟨b, off, none⟩ ∧ ∀ i, i < l.length → ∀ j, j < 8 → wr.cell? ⟨b, off + i * 8 + j, none⟩ = (acCells (nth l i))[j]? := by
            rcases HA.out.same acCells_len HP.out.B with rfl | ⟨b, off, rfl, hc⟩
            · simp at hlt
            · exact ⟨b, off, rfl, hc⟩
          obtain ⟨y0, y1, y2, y3, y4, y5, y6, y7⟩ := ac_cells hcell i hlt
          have hx : IdOk (nth l i).x.id := hwf i hlt
          generalize (nth l i).k = k at *
          generalize (nth l i).x = x at *
          clear hcell
          obtain ⟨A, hAA⟩ : ∃ A, A = wr.heap.size := ⟨_, rfl⟩
          have HAA := Lib.hid hAA
          have BA := Lib.hid (show Below wr.heap.size wr (wr.alloc (.cells #[.int .i64 k, .int .i64 x.id, .int .i64 x.lev, .int .i64 x.frm, .int .i64 x.dl, .int .i64 x.bud, .int .i64 x.since, .int .i64 x.seq] 47)) from (Below.refl _ _).alloc (Nat.le_refl _) _)
          have VA := Lib.hid (show IsObj (wr.alloc (.cells #[.int .i64 k, .int .i64 x.id, .int .i64 x.lev, .int .i64 x.frm, .int .i64 x.dl, .int .i64 x.bud, .int .i64 x.since, .int .i64 x.seq] 47)) A 47 (acCells ⟨k, x⟩) by rw [hAA]; exact IsObj.new wr _ (acCells ⟨k, x⟩))
          have YA := Lib.hid (HP.out.h.young hAA)
          clear hAA
          go_upto_region 11 with (fail)
          rw [← HAA.out]
          generalize wr.alloc (.cells #[.int .i64 k, .int .i64 x.id, .int .i64 x.lev, .int .i64 x.frm, .int .i64 x.dl, .int .i64 x.bud, .int .i64 x.since, .int .i64 x.seq] 47) = w1 at *
          have P1 := Lib.hid (HP.out.same BA.out)
          have VA1 := VA
          have h64m := h64
          have v0 : w1.cell? ⟨A, 0, none⟩ = some (.int .i64 k) := VA1.out.cell 0
          clear HP VA BA y0 y1 y2 y3 y4 y5 y6 y7 h64 HAA
          go_upto_block 2 with (fail)
          clear v0
          go_cut [7] from 43 to 144 (fun s7 wx => ∃ (T X : List It) (ax : Option Addr) (cx : Nat) (tv : Value), s7 = .slice ax X.length cx ∧ Aside (PlAt w wx p M most tv T X ax cx ∧ IsObj wx A 47 (acCells ⟨k, x⟩) ∧ A ≠ p ∧ A ≠ M ∧ some A ≠ tv.ownBlock))
          case first =>
            by_cases k0 : k = 0
            · subst k0
              have hmem := mem_ids P1.out.m x.id
              have HLEN := Lib.hid P1.out.m.len
              have h64 := P1.out.len
              have v1 : w1.cell? ⟨A, 1, none⟩ = some (.int .i64 x.id) := VA1.out.cell 1
              have v2 : w1.cell? ⟨A, 2, none⟩ = some (.int .i64 x.lev) := VA1.out.cell 2
              have v3 : w1.cell? ⟨A, 3, none⟩ = some (.int .i64 x.frm) := VA1.out.cell 3
              have v4 : w1.cell? ⟨A, 4, none⟩ = some (.int .i64 x.dl) := VA1.out.cell 4
              have v5 : w1.cell? ⟨A, 5, none⟩ = some (.int .i64 x.bud) := VA1.out.cell 5
              have v6 : w1.cell? ⟨A, 6, none⟩ = some (.int .i64 x.since) := VA1.out.cell 6
              have v7 : w1.cell? ⟨A, 7, none⟩ = some (.int .i64 x.seq) := VA1.out.cell 7
              by_cases hin : x.id ∈ X.map It.id
              · obtain ⟨q, hqT, hqid0⟩ := mem_nth (hmem.1 hin)
                have HQID := Lib.hid hqid0
                clear hqid0
                go_wp2_with fail
                refine (rpush_in ax cx X most x w1 h64 P1.out.r.row hin).mono ?_
                rintro e w2 ⟨rfl, b2⟩
                have P2 := Lib.hid (P1.out.same b2)
                have VA2 := Lib.hid (IsObj.below VA1.out b2 VA1.out.lt)
                clear P1 VA1
                clear v1 v2 v3 v4 v5 v6 v7
                clear b2
                have v1 : w2.cell? ⟨A, 1, none⟩ = some (.int .i64 x.id) := VA2.out.cell 1
                have v2 : w2.cell? ⟨A, 2, none⟩ = some (.int .i64 x.lev) := VA2.out.cell 2
                have v3 : w2.cell? ⟨A, 3, none⟩ = some (.int .i64 x.frm) := VA2.out.cell 3
                have v4 : w2.cell? ⟨A, 4, none⟩ = some (.int .i64 x.dl) := VA2.out.cell 4
                have v5 : w2.cell? ⟨A, 5, none⟩ = some (.int .i64 x.bud) := VA2.out.cell 5
                have v6 : w2.cell? ⟨A, 6, none⟩ = some (.int .i64 x.since) := VA2.out.cell 6
                have v7 : w2.cell? ⟨A, 7, none⟩ = some (.int .i64 x.seq) := VA2.out.cell 7
                go_wp2_with fail
                refine (ppush_twice q x P2.out.h hqT HQID.out).mono ?_
                rintro e w3 ⟨rfl, b3⟩
                have P3 := Lib.hid (P2.out.same b3)
                have VA3 := Lib.hid (IsObj.below VA2.out b3 VA2.out.lt)
                clear P2 VA2
                clear v1 v2 v3 v4 v5 v6 v7
                clear b3
                go_wp2_with fail
                go_meet
                case rel => exact ⟨T, X, ax, cx, tv, rfl, P3.out, VA3.out, YA.out⟩
              · have hnT : x.id ∉ T.map It.id := fun hm => hin (hmem.2 hm)
                by_cases hfull : most ≤ (X.length : Int)
                · go_wp2_with fail
                  refine (rpush_full ax cx X most x w1 h64 P1.out.r.row hin hfull).mono ?_
                  rintro e w2 ⟨rfl, b2⟩
                  have P2 := Lib.hid (P1.out.same b2)
                  have VA2 := Lib.hid (IsObj.below VA1.out b2 VA1.out.lt)
                  clear P1 VA1
                  clear v1 v2 v3 v4 v5 v6 v7
                  clear b2
                  have v1 : w2.cell? ⟨A, 1, none⟩ = some (.int .i64 x.id) := VA2.out.cell 1
                  have v2 : w2.cell? ⟨A, 2, none⟩ = some (.int .i64 x.lev) := VA2.out.cell 2
                  have v3 : w2.cell? ⟨A, 3, none⟩ = some (.int .i64 x.frm) := VA2.out.cell 3
                  have v4 : w2.cell? ⟨A, 4, none⟩ = some (.int .i64 x.dl) := VA2.out.cell 4
                  have v5 : w2.cell? ⟨A, 5, none⟩ = some (.int .i64 x.bud) := VA2.out.cell 5
                  have v6 : w2.cell? ⟨A, 6, none⟩ = some (.int .i64 x.since) := VA2.out.cell 6
                  have v7 : w2.cell? ⟨A, 7, none⟩ = some (.int .i64 x.seq) := VA2.out.cell 7
                  go_wp2_with fail
                  refine (ppush_full x P2.out.h hx hnT (by rw [← HLEN.out]; exact hfull)).mono ?_
                  rintro e w3 ⟨rfl, b3⟩
                  have P3 := Lib.hid (P2.out.same b3)
                  have VA3 := Lib.hid (IsObj.below VA2.out b3 VA2.out.lt)
                  clear P2 VA2
                  clear v1 v2 v3 v4 v5 v6 v7
                  clear b3
                  go_wp2_with fail
                  go_meet
                  case rel => exact ⟨T, X, ax, cx, tv, rfl, P3.out, VA3.out, YA.out⟩
                · have hroom : (X.length : Int) < most := by omega
                  go_wp2_with fail
                  refine (rpush_ok ax cx X most x w1 h64 P1.out.r.row hin hroom).mono ?_
                  rintro e w2 ⟨v, rfl, hown, b2⟩
                  obtain ⟨ax2, cx2, rfl, hr2⟩ := RowX.young P1.out.h hown
                  have HR2 := Lib.hid hr2
                  have HMP := Lib.hid (P1.out.m.push x)
                  clear hown hr2
                  have P2 := Lib.hid (P1.out.same b2)
                  have VA2 := Lib.hid (IsObj.below VA1.out b2 VA1.out.lt)
                  clear P1 VA1
                  clear v1 v2 v3 v4 v5 v6 v7
                  clear b2
                  have v1 : w2.cell? ⟨A, 1, none⟩ = some (.int .i64 x.id) := VA2.out.cell 1
                  have v2 : w2.cell? ⟨A, 2, none⟩ = some (.int .i64 x.lev) := VA2.out.cell 2
                  have v3 : w2.cell? ⟨A, 3, none⟩ = some (.int .i64 x.frm) := VA2.out.cell 3
                  have v4 : w2.cell? ⟨A, 4, none⟩ = some (.int .i64 x.dl) := VA2.out.cell 4
                  have v5 : w2.cell? ⟨A, 5, none⟩ = some (.int .i64 x.bud) := VA2.out.cell 5
                  have v6 : w2.cell? ⟨A, 6, none⟩ = some (.int .i64 x.since) := VA2.out.cell 6
                  have v7 : w2.cell? ⟨A, 7, none⟩ = some (.int .i64 x.seq) := VA2.out.cell 7
                  go_wp2_with fail
                  refine (ppush_ok x P2.out.h hx hnT (by have := HLEN.out; omega) h64m).mono ?_
                  rintro e w3 ⟨rfl, tv3, h3, f3⟩
                  have hq := P2.out.frp f3 h3
                  have VA3 := Lib.hid (f3.isObj VA2.out YA.out.1 YA.out.2.1 YA.out.2.2)
                  have YA3 := Lib.hid (SeAt.far f3 VA2.out.lt YA.out)
                  have P3 := Lib.hid (show PlAt w w3 p M most tv3 (upT (T ++ [x]) T.length) (ssort (X ++ [x])) ax2 cx2 from ⟨h3, push_heap P2.out.hp x, HMP.out, HR2.out.frp f3, hq.2, P2.out.ge⟩)
                  clear v1 v2 v3 v4 v5 v6 v7
                  clear hq h3 f3 P2 VA2 YA HR2 HMP
                  go_wp2_with fail
                  go_meet
                  case rel => exact ⟨_, ssort (X ++ [x]), ax2, cx2, tv3, rfl, P3.out, VA3.out, YA3.out⟩
            · have k0b : (k == 0) = false := by simpa using k0
              by_cases k1 : k = 1
              · subst k1
                have HLEN := Lib.hid P1.out.m.len
                have h64 := P1.out.len
                by_cases hX : X = []
                · subst hX
                  have hT : T = [] := List.eq_nil_of_length_eq_zero (by rw [← HLEN.out]; rfl)
                  subst hT
                  go_wp2_with fail
                  refine (ppop_empty P1.out.h).mono ?_
                  rintro e w2 ⟨rfl, b2⟩
                  have P2 := Lib.hid (P1.out.same b2)
                  have VA2 := Lib.hid (IsObj.below VA1.out b2 VA1.out.lt)
                  clear P1 VA1
                  clear b2
                  have hNV := newvar w2 (itCells it0) [.int .i64 0, .int .i64 0, .int .i64 0, .int .i64 0, .int .i64 0, .int .i64 0, .int .i64 0] 31 rfl
                  obtain ⟨Y, hY⟩ : ∃ Y, Y = w2.heap.size := ⟨_, rfl⟩
                  have HY := Lib.hid hY
                  have TH := Lib.hid hNV.1
                  have BN := Lib.hid hNV.2.2
                  have VY := Lib.hid (show IsObj ((w2.alloc (.cells #[.int .i64 0, .int .i64 0, .int .i64 0, .int .i64 0, .int .i64 0, .int .i64 0, .int .i64 0] 31)).setCells w2.heap.size 0 (itCells it0).toArray.toList) Y 31 (itCells it0) by rw [hY]; exact hNV.2.1)
                  clear hNV hY
                  go_upto_region 19 with (refine wpList_store_mid (by rfl) 31 _ _ (by rfl) w2.heap.size 0 (itCells it0).toArray (by rfl) (by rfl) (by exact TH.out) (by kernel_rfl) (it_one _) ?_; generalize (w2.alloc (.cells #[.int .i64 0, .int .i64 0, .int .i64 0, .int .i64 0, .int .i64 0, .int .i64 0, .int .i64 0] 31)).setCells w2.heap.size 0 (itCells it0).toArray.toList = w3 at *)
                  rw [← HY.out]
                  clear TH
                  have P3 := Lib.hid (P2.out.same BN.out)
                  have VA3 := Lib.hid (IsObj.below VA2.out BN.out VA2.out.lt)
                  clear P2 VA2
                  clear BN
                  have u0 : w3.cell? ⟨Y, 0, none⟩ = some (.int .i64 0) := VY.out.cell 0
                  have u1 : w3.cell? ⟨Y, 1, none⟩ = some (.int .i64 0) := VY.out.cell 1
                  have u2 : w3.cell? ⟨Y, 2, none⟩ = some (.int .i64 0) := VY.out.cell 2
                  have u3 : w3.cell? ⟨Y, 3, none⟩ = some (.int .i64 0) := VY.out.cell 3
                  have u4 : w3.cell? ⟨Y, 4, none⟩ = some (.int .i64 0) := VY.out.cell 4
                  have u5 : w3.cell? ⟨Y, 5, none⟩ = some (.int .i64 0) := VY.out.cell 5
                  have u6 : w3.cell? ⟨Y, 6, none⟩ = some (.int .i64 0) := VY.out.cell 6
                  go_quiet (fail)
                  have hbd : Below w3.heap.size w3 (w3.drewN nq) := below_drewN (Below.refl _ _) nq
                  have P4 := Lib.hid (P3.out.same hbd)
                  have VA4 := Lib.hid (IsObj.below VA3.out hbd VA3.out.lt)
                  clear P3 VA3 hbd VY u0 u1 u2 u3 u4 u5 u6
                  generalize w3.drewN nq = w4 at *
                  go_wp2_with fail
                  go_meet
                  case rel => exact ⟨[], [], ax, cx, tv, rfl, P4.out, VA4.out, YA.out⟩
                · have hX0 : 0 < X.length := List.length_pos_iff.2 hX
                  have hT0 : 0 < T.length := by have := HLEN.out; omega
                  have hhead := P1.out.m.head P1.out.h.nd P1.out.hp hT0
                  have HM2 := Lib.hid (P1.out.m.pop P1.out.h.nd P1.out.hp hT0)
                  go_wp2_with fail
                  refine (ppop_any P1.out.h hT0).mono ?_
                  rintro e w2 ⟨rfl, tv2, h2, f2⟩
                  rw [← hhead]
                  have hq := P1.out.frp f2 h2
                  have VA2 := Lib.hid (f2.isObj VA1.out YA.out.1 YA.out.2.1 YA.out.2.2)
                  have YA2 := Lib.hid (SeAt.far f2 VA1.out.lt YA.out)
                  have HQ := Lib.hid (And.intro h2 (And.intro hq.1 (And.intro hq.2 (And.intro (out_heap P1.out.hp hT0) P1.out.ge))))
                  clear hq h2 f2 P1 VA1 YA hhead
                  generalize hy : nth X 0 = y
                  have hNV := newvar w2 (itCells y) [.int .i64 0, .int .i64 0, .int .i64 0, .int .i64 0, .int .i64 0, .int .i64 0, .int .i64 0] 31 rfl
                  obtain ⟨Y, hY⟩ : ∃ Y, Y = w2.heap.size := ⟨_, rfl⟩
                  have HY := Lib.hid hY
                  have TH := Lib.hid hNV.1
                  have BN := Lib.hid hNV.2.2
                  have VY := Lib.hid (show IsObj ((w2.alloc (.cells #[.int .i64 0, .int .i64 0, .int .i64 0, .int .i64 0, .int .i64 0, .int .i64 0, .int .i64 0] 31)).setCells w2.heap.size 0 (itCells y).toArray.toList) Y 31 (itCells y) by rw [hY]; exact hNV.2.1)
                  clear hNV hY
                  go_upto_region 19 with (refine wpList_store_mid (by rfl) 31 _ _ (by rfl) w2.heap.size 0 (itCells y).toArray (by rfl) (by rfl) (by exact TH.out) (by kernel_rfl) (it_one _) ?_; generalize (w2.alloc (.cells #[.int .i64 0, .int .i64 0, .int .i64 0, .int .i64 0, .int .i64 0, .int .i64 0, .int .i64 0] 31)).setCells w2.heap.size 0 (itCells y).toArray.toList = w3 at *)
                  rw [← HY.out]
                  clear TH
                  have R3 := Lib.hid (HQ.out.2.1.same BN.out)
                  have VA3 := Lib.hid (IsObj.below VA2.out BN.out VA2.out.lt)
                  have P3 := Lib.hid (And.intro (HQ.out.1.same BN.out) (HQ.out.2.2.1.trans (BN.out.mono HQ.out.2.2.1.size)))
                  have HQ2 := Lib.hid HQ.out.2.2.2
                  clear BN HQ VA2
                  obtain ⟨bx, ox, rfl, hcx⟩ : ∃ b off, ax = some ⟨b, off, none⟩ ∧ ∀ i, i < X.length → ∀ j, j < 7 → w3.cell? ⟨b, off + i * 7 + j, none⟩ = (itCells (nth X i))[j]? := by
                    rcases R3.out.row with h | h
                    · exact absurd h hX
                    · exact h
                  have u0 : w3.cell? ⟨Y, 0, none⟩ = some (.int .i64 y.id) := VY.out.cell 0
                  have u1 : w3.cell? ⟨Y, 1, none⟩ = some (.int .i64 y.lev) := VY.out.cell 1
                  have u2 : w3.cell? ⟨Y, 2, none⟩ = some (.int .i64 y.frm) := VY.out.cell 2
                  have u3 : w3.cell? ⟨Y, 3, none⟩ = some (.int .i64 y.dl) := VY.out.cell 3
                  have u4 : w3.cell? ⟨Y, 4, none⟩ = some (.int .i64 y.bud) := VY.out.cell 4
                  have u5 : w3.cell? ⟨Y, 5, none⟩ = some (.int .i64 y.since) := VY.out.cell 5
                  have u6 : w3.cell? ⟨Y, 6, none⟩ = some (.int .i64 y.seq) := VY.out.cell 6
                  obtain ⟨t0, t1, t2, t3, t4, t5, t6⟩ := item_cells hcx 0 hX0
                  rw [Nat.zero_mul, Nat.add_zero, hy] at t0 t1 t2 t3 t4 t5 t6
                  have g0 : (0 : Int) < (X.length : Int) := by omega
                  have g1 : decide ((0 : Int) < (X.length : Int)) = true := decide_eq_true g0
                  have g2 : (1 : Int) ≤ (X.length : Int) := by omega
                  clear hcx
                  go_quiet (fail)
                  have hbd : Below w3.heap.size w3 (w3.drewN nq) := below_drewN (Below.refl _ _) nq
                  have R4 := Lib.hid (R3.out.same hbd)
                  have VA4 := Lib.hid (IsObj.below VA3.out hbd VA3.out.lt)
                  have P4 := Lib.hid (And.intro (P3.out.1.same hbd) (P3.out.2.trans (hbd.mono P3.out.2.size)))
                  clear P3 VA3 R3 hbd VY u0 u1 u2 u3 u4 u5 u6 t0 t1 t2 t3 t4 t5 t6
                  generalize w3.drewN nq = w4 at *
                  have hdl : (X.drop 1).length = X.length - 1 := List.length_drop ..
                  by_cases hc1 : cx = 1
                  · subst hc1
                    have hl1 : X.length = 1 := by have := R4.out.cap.1; omega
                    have hd : X.drop 1 = [] := List.drop_eq_nil_of_le (by omega)
                    have P5 := Lib.hid (show PlAt w w4 p M most tv2 (outT T 0) [] (some ⟨bx, ox, none⟩) 0 from ⟨P4.out.1, HQ2.out.1, by rw [← hd]; exact HM2.out, ⟨.inl rfl, ⟨Nat.le_refl _, by omega⟩, fun b off e h => by simp at h⟩, P4.out.2, HQ2.out.2⟩)
                    rw [hl1]
                    clear P4 R4
                    go_wp2_with fail
                    go_meet
                    case rel => exact ⟨_, [], _, 0, tv2, rfl, P5.out, VA4.out, YA2.out⟩
                  · have hc1n : ¬ ((cx : Int) = 1) := by omega
                    have P5 := Lib.hid (show PlAt w w4 p M most tv2 (outT T 0) (X.drop 1) (some ⟨bx, ox + 7, none⟩) (cx - 1) from ⟨P4.out.1, HQ2.out.1, HM2.out, R4.out.drop1 hX0 hc1, P4.out.2, HQ2.out.2⟩)
                    clear P4 R4
                    go_wp2_with fail
                    go_meet
                    case rel => exact ⟨_, X.drop 1, _, cx - 1, tv2, by rw [hdl], P5.out, VA4.out, YA2.out⟩
              · have k1b : (k == 1) = false := by simpa using k1
                by_cases k2 : k = 2
                · subst k2
                  have hmem := mem_ids P1.out.m x.id
                  have HLEN := Lib.hid P1.out.m.len
                  have h64 := P1.out.len
                  have v1 : w1.cell? ⟨A, 1, none⟩ = some (.int .i64 x.id) := VA1.out.cell 1
                  have v2 : w1.cell? ⟨A, 2, none⟩ = some (.int .i64 x.lev) := VA1.out.cell 2
                  have v3 : w1.cell? ⟨A, 3, none⟩ = some (.int .i64 x.frm) := VA1.out.cell 3
                  have v4 : w1.cell? ⟨A, 4, none⟩ = some (.int .i64 x.dl) := VA1.out.cell 4
                  have v5 : w1.cell? ⟨A, 5, none⟩ = some (.int .i64 x.bud) := VA1.out.cell 5
                  have v6 : w1.cell? ⟨A, 6, none⟩ = some (.int .i64 x.since) := VA1.out.cell 6
                  have v7 : w1.cell? ⟨A, 7, none⟩ = some (.int .i64 x.seq) := VA1.out.cell 7
                  rcases fnd_law X x.id with ⟨hk, hn⟩ | ⟨j, hj, hk, hjid, _⟩
                  · have hnT : x.id ∉ T.map It.id := fun hm => hn (hmem.2 hm)
                    go_wp2_with fail
                    refine (ptake_out x.id P1.out.h hx hnT).mono ?_
                    rintro e w2 ⟨rfl, b2⟩
                    have P2 := Lib.hid (P1.out.same b2)
                    have VA2 := Lib.hid (IsObj.below VA1.out b2 VA1.out.lt)
                    clear P1 VA1
                    clear v1 v2 v3 v4 v5 v6 v7
                    clear b2
                    have hNV := newvar w2 (itCells it0) [.int .i64 0, .int .i64 0, .int .i64 0, .int .i64 0, .int .i64 0, .int .i64 0, .int .i64 0] 31 rfl
                    obtain ⟨Y, hY⟩ : ∃ Y, Y = w2.heap.size := ⟨_, rfl⟩
                    have HY := Lib.hid hY
                    have TH := Lib.hid hNV.1
                    have BN := Lib.hid hNV.2.2
                    have VY := Lib.hid (show IsObj ((w2.alloc (.cells #[.int .i64 0, .int .i64 0, .int .i64 0, .int .i64 0, .int .i64 0, .int .i64 0, .int .i64 0] 31)).setCells w2.heap.size 0 (itCells it0).toArray.toList) Y 31 (itCells it0) by rw [hY]; exact hNV.2.1)
                    clear hNV hY
                    go_upto_region 25 with (refine wpList_store_mid (by rfl) 31 _ _ (by rfl) w2.heap.size 0 (itCells it0).toArray (by rfl) (by rfl) (by exact TH.out) (by kernel_rfl) (it_one _) ?_; generalize (w2.alloc (.cells #[.int .i64 0, .int .i64 0, .int .i64 0, .int .i64 0, .int .i64 0, .int .i64 0, .int .i64 0] 31)).setCells w2.heap.size 0 (itCells it0).toArray.toList = w3 at *)
                    rw [← HY.out]
                    clear TH
                    have P3 := Lib.hid (P2.out.same BN.out)
                    have VA3 := Lib.hid (IsObj.below VA2.out BN.out VA2.out.lt)
                    clear P2 VA2
                    clear BN
                    have v1 : w3.cell? ⟨A, 1, none⟩ = some (.int .i64 x.id) := VA3.out.cell 1
                    have v2 : w3.cell? ⟨A, 2, none⟩ = some (.int .i64 x.lev) := VA3.out.cell 2
                    have v3 : w3.cell? ⟨A, 3, none⟩ = some (.int .i64 x.frm) := VA3.out.cell 3
                    have v4 : w3.cell? ⟨A, 4, none⟩ = some (.int .i64 x.dl) := VA3.out.cell 4
                    have v5 : w3.cell? ⟨A, 5, none⟩ = some (.int .i64 x.bud) := VA3.out.cell 5
                    have v6 : w3.cell? ⟨A, 6, none⟩ = some (.int .i64 x.since) := VA3.out.cell 6
                    have v7 : w3.cell? ⟨A, 7, none⟩ = some (.int .i64 x.seq) := VA3.out.cell 7
                    go_wp2_with fail
                    refine (rtake_out ax cx X x.id w3 h64 P3.out.r.row hn).mono ?_
                    rintro e w4 ⟨rfl, b4⟩
                    have VY4 := Lib.hid (IsObj.below VY.out b4 VY.out.lt)
                    have P4 := Lib.hid (P3.out.same b4)
                    have VA4 := Lib.hid (IsObj.below VA3.out b4 VA3.out.lt)
                    clear P3 VA3
                    clear v1 v2 v3 v4 v5 v6 v7
                    clear b4 VY
                    have hNV := newvar w4 (itCells it0) [.int .i64 0, .int .i64 0, .int .i64 0, .int .i64 0, .int .i64 0, .int .i64 0, .int .i64 0] 31 rfl
                    obtain ⟨Z, hZ⟩ : ∃ Z, Z = w4.heap.size := ⟨_, rfl⟩
                    have HZ := Lib.hid hZ
                    have TH := Lib.hid hNV.1
                    have BN := Lib.hid hNV.2.2
                    have VZ := Lib.hid (show IsObj ((w4.alloc (.cells #[.int .i64 0, .int .i64 0, .int .i64 0, .int .i64 0, .int .i64 0, .int .i64 0, .int .i64 0] 31)).setCells w4.heap.size 0 (itCells it0).toArray.toList) Z 31 (itCells it0) by rw [hZ]; exact hNV.2.1)
                    clear hNV hZ
                    go_upto_region 26 with (refine wpList_store_mid (by rfl) 31 _ _ (by rfl) w4.heap.size 0 (itCells it0).toArray (by rfl) (by rfl) (by exact TH.out) (by kernel_rfl) (it_one _) ?_; generalize (w4.alloc (.cells #[.int .i64 0, .int .i64 0, .int .i64 0, .int .i64 0, .int .i64 0, .int .i64 0, .int .i64 0] 31)).setCells w4.heap.size 0 (itCells it0).toArray.toList = w5 at *)
                    rw [← HZ.out]
                    clear TH
                    have VY5 := Lib.hid (IsObj.below VY4.out BN.out VY4.out.lt)
                    have P5 := Lib.hid (P4.out.same BN.out)
                    have VA5 := Lib.hid (IsObj.below VA4.out BN.out VA4.out.lt)
                    clear P4 VA4
                    clear BN VY4
                    have u0 : w5.cell? ⟨Y, 0, none⟩ = some (.int .i64 0) := VY5.out.cell 0
                    have u1 : w5.cell? ⟨Y, 1, none⟩ = some (.int .i64 0) := VY5.out.cell 1
                    have u2 : w5.cell? ⟨Y, 2, none⟩ = some (.int .i64 0) := VY5.out.cell 2
                    have u3 : w5.cell? ⟨Y, 3, none⟩ = some (.int .i64 0) := VY5.out.cell 3
                    have u4 : w5.cell? ⟨Y, 4, none⟩ = some (.int .i64 0) := VY5.out.cell 4
                    have u5 : w5.cell? ⟨Y, 5, none⟩ = some (.int .i64 0) := VY5.out.cell 5
                    have u6 : w5.cell? ⟨Y, 6, none⟩ = some (.int .i64 0) := VY5.out.cell 6
                    have t0 : w5.cell? ⟨Z, 0, none⟩ = some (.int .i64 0) := VZ.out.cell 0
                    have t1 : w5.cell? ⟨Z, 1, none⟩ = some (.int .i64 0) := VZ.out.cell 1
                    have t2 : w5.cell? ⟨Z, 2, none⟩ = some (.int .i64 0) := VZ.out.cell 2
                    have t3 : w5.cell? ⟨Z, 3, none⟩ = some (.int .i64 0) := VZ.out.cell 3
                    have t4 : w5.cell? ⟨Z, 4, none⟩ = some (.int .i64 0) := VZ.out.cell 4
                    have t5 : w5.cell? ⟨Z, 5, none⟩ = some (.int .i64 0) := VZ.out.cell 5
                    have t6 : w5.cell? ⟨Z, 6, none⟩ = some (.int .i64 0) := VZ.out.cell 6
                    go_wp2_with fail
                    go_meet
                    case rel => exact ⟨T, X, ax, cx, tv, rfl, P5.out, VA5.out, YA.out⟩
                  · have hin : x.id ∈ X.map It.id := by rw [← hjid]; exact nth_mem hj
                    obtain ⟨q, hqT, hqid⟩ := mem_nth (hmem.1 hin)
                    obtain ⟨heq, hM2⟩ := P1.out.m.out P1.out.h.nd hqT hj (by rw [hjid, hqid])
                    have HM2 := Lib.hid hM2
                    have KT := ptake_in q P1.out.h hqT
                    rw [hqid, ← heq] at KT
                    clear hM2 hqid heq hjid hmem
                    go_wp2_with fail
                    refine KT.mono ?_
                    rintro e w2 ⟨rfl, tv2, h2, f2⟩
                    have hq := P1.out.frp f2 h2
                    have VA2 := Lib.hid (f2.isObj VA1.out YA.out.1 YA.out.2.1 YA.out.2.2)
                    have YA2 := Lib.hid (SeAt.far f2 VA1.out.lt YA.out)
                    have HQ := Lib.hid (And.intro h2 (And.intro hq.1 (And.intro hq.2 (And.intro (out_heap P1.out.hp hqT) P1.out.ge))))
                    clear v1 v2 v3 v4 v5 v6 v7
                    clear hq h2 f2 P1 VA1 YA KT
                    generalize hy : nth X j = y at *
                    have hNV := newvar w2 (itCells y) [.int .i64 0, .int .i64 0, .int .i64 0, .int .i64 0, .int .i64 0, .int .i64 0, .int .i64 0] 31 rfl
                    obtain ⟨Y, hY⟩ : ∃ Y, Y = w2.heap.size := ⟨_, rfl⟩
                    have HY := Lib.hid hY
                    have TH := Lib.hid hNV.1
                    have BN := Lib.hid hNV.2.2
                    have VY := Lib.hid (show IsObj ((w2.alloc (.cells #[.int .i64 0, .int .i64 0, .int .i64 0, .int .i64 0, .int .i64 0, .int .i64 0, .int .i64 0] 31)).setCells w2.heap.size 0 (itCells y).toArray.toList) Y 31 (itCells y) by rw [hY]; exact hNV.2.1)
                    clear hNV hY
                    go_upto_region 25 with (refine wpList_store_mid (by rfl) 31 _ _ (by rfl) w2.heap.size 0 (itCells y).toArray (by rfl) (by rfl) (by exact TH.out) (by kernel_rfl) (it_one _) ?_; generalize (w2.alloc (.cells #[.int .i64 0, .int .i64 0, .int .i64 0, .int .i64 0, .int .i64 0, .int .i64 0, .int .i64 0] 31)).setCells w2.heap.size 0 (itCells y).toArray.toList = w3 at *)
                    rw [← HY.out]
                    clear TH
                    have R3 := Lib.hid (HQ.out.2.1.same BN.out)
                    have VA3 := Lib.hid (IsObj.below VA2.out BN.out VA2.out.lt)
                    have P3 := Lib.hid (And.intro (HQ.out.1.same BN.out) (HQ.out.2.2.1.trans (BN.out.mono HQ.out.2.2.1.size)))
                    have HQ2 := Lib.hid HQ.out.2.2.2
                    clear BN HQ VA2
                    have v1 : w3.cell? ⟨A, 1, none⟩ = some (.int .i64 x.id) := VA3.out.cell 1
                    have v2 : w3.cell? ⟨A, 2, none⟩ = some (.int .i64 x.lev) := VA3.out.cell 2
                    have v3 : w3.cell? ⟨A, 3, none⟩ = some (.int .i64 x.frm) := VA3.out.cell 3
                    have v4 : w3.cell? ⟨A, 4, none⟩ = some (.int .i64 x.dl) := VA3.out.cell 4
                    have v5 : w3.cell? ⟨A, 5, none⟩ = some (.int .i64 x.bud) := VA3.out.cell 5
                    have v6 : w3.cell? ⟨A, 6, none⟩ = some (.int .i64 x.since) := VA3.out.cell 6
                    have v7 : w3.cell? ⟨A, 7, none⟩ = some (.int .i64 x.seq) := VA3.out.cell 7
                    have KR := rtake_in ax cx X x.id j w3 h64 R3.out.cap.1 R3.out.cap.2 R3.out.row (fun b off e => (R3.out.ap b off e (by omega)).1) hj hk
                    rw [hy] at KR
                    go_wp2_with fail
                    refine KR.mono ?_
                    rintro e w4 ⟨v, rfl, hown, b4⟩
                    obtain ⟨ax2, cx2, rfl, hr4⟩ := RowX.young P3.out.1 hown
                    have P4 := Lib.hid (show PlAt w w4 p M most tv2 (outT T q) (X.take j ++ X.drop (j + 1)) ax2 cx2 from ⟨P3.out.1.same b4, HQ2.out.1, HM2.out, hr4, P3.out.2.trans (b4.mono P3.out.2.size), HQ2.out.2⟩)
                    have VA4 := Lib.hid (IsObj.below VA3.out b4 VA3.out.lt)
                    have VY4 := Lib.hid (IsObj.below VY.out b4 VY.out.lt)
                    clear v1 v2 v3 v4 v5 v6 v7
                    clear hown hr4 b4 P3 VA3 R3 KR VY
                    generalize hX2 : X.take j ++ X.drop (j + 1) = X2 at *
                    have hNV := newvar w4 (itCells y) [.int .i64 0, .int .i64 0, .int .i64 0, .int .i64 0, .int .i64 0, .int .i64 0, .int .i64 0] 31 rfl
                    obtain ⟨Z, hZ⟩ : ∃ Z, Z = w4.heap.size := ⟨_, rfl⟩
                    have HZ := Lib.hid hZ
                    have TH := Lib.hid hNV.1
                    have BN := Lib.hid hNV.2.2
                    have VZ := Lib.hid (show IsObj ((w4.alloc (.cells #[.int .i64 0, .int .i64 0, .int .i64 0, .int .i64 0, .int .i64 0, .int .i64 0, .int .i64 0] 31)).setCells w4.heap.size 0 (itCells y).toArray.toList) Z 31 (itCells y) by rw [hZ]; exact hNV.2.1)
                    clear hNV hZ
                    go_upto_region 26 with (refine wpList_store_mid (by rfl) 31 _ _ (by rfl) w4.heap.size 0 (itCells y).toArray (by rfl) (by rfl) (by exact TH.out) (by kernel_rfl) (it_one _) ?_; generalize (w4.alloc (.cells #[.int .i64 0, .int .i64 0, .int .i64 0, .int .i64 0, .int .i64 0, .int .i64 0, .int .i64 0] 31)).setCells w4.heap.size 0 (itCells y).toArray.toList = w5 at *)
                    rw [← HZ.out]
                    clear TH
                    have VY5 := Lib.hid (IsObj.below VY4.out BN.out VY4.out.lt)
                    have P5 := Lib.hid (P4.out.same BN.out)
                    have VA5 := Lib.hid (IsObj.below VA4.out BN.out VA4.out.lt)
                    clear P4 VA4
                    clear BN VY4
                    have u0 : w5.cell? ⟨Y, 0, none⟩ = some (.int .i64 y.id) := VY5.out.cell 0
                    have u1 : w5.cell? ⟨Y, 1, none⟩ = some (.int .i64 y.lev) := VY5.out.cell 1
                    have u2 : w5.cell? ⟨Y, 2, none⟩ = some (.int .i64 y.frm) := VY5.out.cell 2
                    have u3 : w5.cell? ⟨Y, 3, none⟩ = some (.int .i64 y.dl) := VY5.out.cell 3
                    have u4 : w5.cell? ⟨Y, 4, none⟩ = some (.int .i64 y.bud) := VY5.out.cell 4
                    have u5 : w5.cell? ⟨Y, 5, none⟩ = some (.int .i64 y.since) := VY5.out.cell 5
                    have u6 : w5.cell? ⟨Y, 6, none⟩ = some (.int .i64 y.seq) := VY5.out.cell 6
                    have t0 : w5.cell? ⟨Z, 0, none⟩ = some (.int .i64 y.id) := VZ.out.cell 0
                    have t1 : w5.cell? ⟨Z, 1, none⟩ = some (.int .i64 y.lev) := VZ.out.cell 1
                    have t2 : w5.cell? ⟨Z, 2, none⟩ = some (.int .i64 y.frm) := VZ.out.cell 2
                    have t3 : w5.cell? ⟨Z, 3, none⟩ = some (.int .i64 y.dl) := VZ.out.cell 3
                    have t4 : w5.cell? ⟨Z, 4, none⟩ = some (.int .i64 y.bud) := VZ.out.cell 4
                    have t5 : w5.cell? ⟨Z, 5, none⟩ = some (.int .i64 y.since) := VZ.out.cell 5
                    have t6 : w5.cell? ⟨Z, 6, none⟩ = some (.int .i64 y.seq) := VZ.out.cell 6
                    go_wp2_with fail
                    go_meet
                    case rel => exact ⟨_, X2, ax2, cx2, tv2, rfl, P5.out, VA5.out, YA2.out⟩
                · have k2b : (k == 2) = false := by simpa using k2
                  by_cases k3 : k = 3
                  · subst k3
                    go_wp2_with fail
                    refine (pclear_any P1.out.h).mono ?_
                    rintro e w2 ⟨rfl, h2, f2⟩
                    have hq := P1.out.frp f2 h2
                    have VA2 := Lib.hid (f2.isObj VA1.out YA.out.1 YA.out.2.1 YA.out.2.2)
                    have YA2 := Lib.hid (SeAt.far f2 VA1.out.lt YA.out)
                    have P2 := Lib.hid (show PlAt w w2 p M most (.slice none 0 0) [] [] none 0 from ⟨h2, heap_nil, mir_nil, RowX.nil _ _ _ _, hq.2, P1.out.ge⟩)
                    clear hq h2 f2 P1 VA1 YA
                    go_wp2_with fail
                    go_meet
                    case rel => exact ⟨[], [], none, 0, _, rfl, P2.out, VA2.out, YA2.out⟩
                  · have k3b : (k == 3) = false := by simpa using k3
                    go_wp2_with fail
                    go_meet
                    case rel => exact ⟨T, X, ax, cx, tv, rfl, P1.out, VA1.out, YA.out⟩
          case rest =>
          obtain ⟨T2, X2, ax2, cx2, tv2, rfl, HQ⟩ := hcut
          generalize wc = w5 at *
          clear P1 VA1 YA
          have v1 : w5.cell? ⟨A, 1, none⟩ = some (.int .i64 x.id) := HQ.out.2.1.cell 1
          go_wp2_with fail
          refine (same_pl x.id hx HQ.out.1).mono ?_
          rintro e w6 ⟨rfl, b6⟩
          have HP6 : Aside _ := HQ.out.1.same b6
          clear b6 v1 HQ
          go_wp2_with fail
          go_roundg (l.length - (i + 1))
          case measure => omega
          case rel => exact ⟨i + 1, T2, X2, ax2, cx2, tv2, by omega, Nat.le_refl _, rfl, by first | rfl | go_num | (congr 1; omega), HP6⟩
        · obtain rfl : i = l.length := by omega
          go_wp2_with (go_at_call 10; refine (awake12 _).mono ?_; rintro e w1 ⟨rfl, hb⟩)
          go_ret
          exact ⟨rfl, HP.out.B.trans (hb.mono HP.out.B.size)⟩
theorem plays12_done : Walk 5 Try.f5 := by
  intro W args hs hc
  rw [Try.params5] at hs hc
  obtain ⟨l⟩ := args
  match l, hs with
  | [v0, v1], _ =>
    obtain ⟨most, rfl, _⟩ := came_int Try.underlying3 (hc 0 3 v0 rfl rfl)
    obtain ⟨a, c, l, rfl, g1, g2, hwf, hl⟩ := row_of_sl (k := 8) (cells := acCells) (fun a => IdOk a.x.id) (by omega) ac_ok (came_slice Try.underlying45 (ps := acShape) (by kernel_rfl) opens_act (hc 1 45 v1 rfl rfl))
    exact plays_walk most a c l W g1 g2 hwf hl
end Go.Proofs.Ytmanmebgmhpilaa
