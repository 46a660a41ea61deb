/-
  The statement FanRequired of layer 33 (fan), one of three cases by the tier. Condition: the case.
-/
import Derived.Test.YtgkmmoiniidhlaaFan9r
import Derived.Test.YtgkmmoiniidhlaaFan9s
import Derived.Test.YtgkmmoiniidhlaaFan9t
namespace Go.Proofs.Ytgkmmoiniidhlaa
open Go.RowKit
set_option linter.unusedVariables false
set_option linter.unusedSimpArgs false

set_option maxRecDepth 100000 in
set_option maxHeartbeats 40000000 in
theorem frequired_hund (a : Option Addr) (cap : Nat) (l : List Cl) (x : Nw) (a2 : Option Addr) (cap2 : Nat) (l2 : List Td) (w : World) (g1 : l.length ≤ cap) (g2 : cap ≤ 9223372036854775807) (g3 : l2.length ≤ cap2) (g4 : cap2 ≤ 9223372036854775807) (hx : -9223372036854775808 ≤ x.tier) (h100 : ¬ x.tier < 100 ∧ x.tier ≤ 100) (hA : RowOf clCells 4 w a l) (hA2 : RowOf tdCells 4 w a2 l2) :
    Calls Try.prog 3 #[.slice a l.length cap, nwV x, .slice a2 l2.length cap2] w fun e w' => e = .returned (.bool true) ∧ Below w.heap.size w w' := by
  have HZ := Lib.hid awake33
  have HA := Lib.hid hA
  have HA2 := Lib.hid hA2
  clear hA hA2
  by_cases hl : 12 < l.length ∨ 30 < l2.length
  · rcases hl with hl | hl
    · have hd : decide ((12 : Int) < (l.length : Int)) = true := by simp; omega
      go_enter Try.func3, Try.ntmps3
      go_wp2_with (go_at_call 12; refine (HZ.out _).mono ?_; rintro e w1 ⟨rfl, hb⟩)
      go_ret
      exact ⟨rfl, Below.trans ((Below.refl _ _).alloc (Nat.le_refl _) _) (hb.mono (by simp))⟩
    · by_cases hl0 : 12 < l.length
      · have hd : decide ((12 : Int) < (l.length : Int)) = true := by simp; omega
        go_enter Try.func3, Try.ntmps3
        go_wp2_with (go_at_call 12; refine (HZ.out _).mono ?_; rintro e w1 ⟨rfl, hb⟩)
        go_ret
        exact ⟨rfl, Below.trans ((Below.refl _ _).alloc (Nat.le_refl _) _) (hb.mono (by simp))⟩
      · have hd : decide ((12 : Int) < (l.length : Int)) = false := by simp; omega
        have hd2 : decide ((30 : Int) < (l2.length : Int)) = true := by simp; omega
        go_enter Try.func3, Try.ntmps3
        go_wp2_with (go_at_call 12; refine (HZ.out _).mono ?_; rintro e w1 ⟨rfl, hb⟩)
        go_ret
        exact ⟨rfl, Below.trans ((Below.refl _ _).alloc (Nat.le_refl _) _) (hb.mono (by simp))⟩
  · have hd : decide ((12 : Int) < (l.length : Int)) = false := by simp; omega
    have hd2 : decide ((30 : Int) < (l2.length : Int)) = false := by simp; omega
    have l1 : l.length ≤ 12 := by omega
    have l3 : l2.length ≤ 30 := by omega
    clear hl
    go_enter Try.func3, Try.ntmps3
    go_wp2_with fail
    obtain ⟨f, hf⟩ : ∃ f, f = tolds l2 := ⟨_, rfl⟩
    have hO := of_any 20 a2 cap2 l2 x (w.alloc (.cells #[.int .i64 x.tier, .int .i64 x.lev, .int .i64 x.tick, .int .i64 x.dl] 24)) (by decide) (by decide) (by omega) (HA2.out.same tdCells_len ((Below.refl _ _).alloc (Nat.le_refl _) _))
    rw [← hf] at hO
    clear hf HA2
    refine hO.mono ?_
    clear hO
    rintro e w1 ⟨T, v, rfl, hT, hK, hb⟩
    obtain ⟨kq, ka, kc, rfl⟩ : ∃ n a c, v = .slice a n c := by
      obtain ⟨a, c, h, _⟩ := hK
      exact ⟨_, a, c, h⟩
    have hbw : Below w.heap.size w w1 := Below.trans ((Below.refl _ _).alloc (Nat.le_refl _) _) (hb.mono (by simp))
    have HB1 := Lib.hid hbw
    have HT1 := Lib.hid hT
    have HK1 := Lib.hid hK
    have HX1 := Lib.hid (IsObj.below (IsObj.new w 24 [.int .i64 x.tier, .int .i64 x.lev, .int .i64 x.tick, .int .i64 x.dl]) hb (by simp))
    have HA1 := Lib.hid (HA.out.same clCells_len hbw)
    obtain ⟨H, hH⟩ : ∃ H, H = w.heap.size := ⟨_, rfl⟩
    rw [← hH] at HX1 ⊢
    clear hT hK hb hbw HA
    have x0 := HX1.out.cell 0
    have x1 := HX1.out.cell 1
    have x2 := HX1.out.cell 2
    have x3 := HX1.out.cell 3
    simp only [List.getElem?_cons_succ, List.getElem?_cons_zero] at x0 x1 x2 x3
    have hlx := HX1.out.lt
    have HW := Lib.hid hH
    clear hH
    go_wp2_with fail
    obtain ⟨W2, hW2⟩ : ∃ W2, W2 = w1.alloc (.cells #[.int .i64 x.tier, .int .i64 x.lev, .int .i64 x.tick, .int .i64 x.dl, .int .i64 20, .slice ka kq kc] 30) := ⟨_, rfl⟩
    have hb12 : Below w1.heap.size w1 W2 := by rw [hW2]; exact (Below.refl _ _).alloc (Nat.le_refl _) _
    have HN2 : Hid (IsObj W2 w1.heap.size 30 [.int .i64 x.tier, .int .i64 x.lev, .int .i64 x.tick, .int .i64 x.dl, .int .i64 20, .slice ka kq kc]) := by rw [hW2]; exact Lib.hid (IsObj.newAt _ _ _ rfl)
    rw [← hW2]
    clear hW2 x0 x1 x2 x3 hlx
    have HX2 := Lib.hid (HX1.out.below hb12 HX1.out.lt)
    have HT2 := Lib.hid (HT1.out.same hb12)
    have HK2 := Lib.hid (HK1.out.same hb12)
    have HA2 := Lib.hid (HA1.out.same clCells_len hb12)
    have HB2 := Lib.hid (HB1.out.trans (hb12.mono HB1.out.size))
    have hC := plan_any a cap l x T 20 f W2 (by omega) HA2.out HT2.out
    clear HX1 HT1 HK1 HA1 HB1 hb12
    obtain ⟨code, hcode⟩ : ∃ code, code = planCode (fun c => stepOf c x 20 f) l := ⟨_, rfl⟩
    obtain ⟨steps, hsteps⟩ : ∃ steps, steps = planSteps (fun c => stepOf c x 20 f) l := ⟨_, rfl⟩
    have hne : code ≠ 1 := by have := code_in l x 20 f; omega
    have hsl : steps.length ≤ 1000 := by have := steps_len (fun c => stepOf c x 20 f) l; rw [← hsteps] at this; omega
    rw [← hcode, ← hsteps] at hC
    have HCE := Lib.hid hcode
    have HSE := Lib.hid hsteps
    clear hcode hsteps
    generalize w1.heap.size = N at *
    refine hC.mono ?_
    clear hC
    rintro e w3 ⟨v3, rfl, ⟨a3, c3, rfl, -, -, hS3⟩, hb3⟩
    have HX3 := Lib.hid (HX2.out.below hb3 HX2.out.lt)
    have HT3 := Lib.hid (HT2.out.same hb3)
    have HA3 := Lib.hid (HA2.out.same clCells_len hb3)
    have HB3 := Lib.hid (HB2.out.trans (hb3.mono HB2.out.size))
    have HS3 := Lib.hid hS3
    clear HX2 HN2 HT2 HK2 HA2 HB2 hS3 hb3 hne
    by_cases hcz : code = 0
    · subst hcz
      have HGood := Lib.hid (good_all HCE.out.symm)
      have hst : steps = l.map (fun c => stepOf c x 20 f) := by rw [HSE.out, (all_good HGood.out).2]
      have hlen : steps.length = l.length := by rw [hst, List.length_map]
      have HST := Lib.hid hst
      rw [hlen]
      clear hst hlen HSE HCE hsl
      have x0 := HX3.out.cell 0
      have x1 := HX3.out.cell 1
      have x2 := HX3.out.cell 2
      have x3 := HX3.out.cell 3
      simp only [List.getElem?_cons_succ, List.getElem?_cons_zero] at x0 x1 x2 x3
      have hlx := HX3.out.lt
      obtain ⟨h99, h101⟩ := h100
      have hx1 : x.tier ≤ 100 := by omega
      have hx2 : ¬ 100 < x.tier := by omega
      go_wp2_with fail
      all_goals (try (exfalso; omega))
      obtain ⟨W4, hW4⟩ : ∃ W4, W4 = (w3.alloc (.cells #[.int .i64 0, .slice a3 l.length c3] 35)).alloc (.cells #[.int .i64 (x.tier + 1), .int .i64 x.lev, .int .i64 x.tick, .int .i64 x.dl] 24) := ⟨_, rfl⟩
      have hb34 : Below w3.heap.size w3 W4 := by rw [hW4]; exact ((Below.refl _ _).alloc (Nat.le_refl _) _).alloc (by simp) _
      have HP4 : Hid (IsObj W4 w3.heap.size 35 [.int .i64 0, .slice a3 l.length c3]) := by rw [hW4]; exact Lib.hid ((IsObj.newAt _ _ _ rfl).alloc _)
      rw [← hW4]
      clear hW4 x0 x1 x2 x3 hlx
      have HX4 := Lib.hid (HX3.out.below hb34 HX3.out.lt)
      have HT4 := Lib.hid (HT3.out.same hb34)
      have HA4 := Lib.hid (HA3.out.same clCells_len hb34)
      have HB4 := Lib.hid (HB3.out.trans (hb34.mono HB3.out.size))
      have HS4 := Lib.hid (HS3.out.same stpCells_len hb34)
      have hC := plan_any a cap l ⟨(x.tier + 1), x.lev, x.tick, x.dl⟩ T 20 f W4 (by omega) HA4.out HT4.out
      clear HX3 HT3 HA3 HB3 HS3 hb34
      obtain ⟨code2, hcode2⟩ : ∃ code, code = planCode (fun c => stepOf c ⟨(x.tier + 1), x.lev, x.tick, x.dl⟩ 20 f) l := ⟨_, rfl⟩
      obtain ⟨steps2, hsteps2⟩ : ∃ steps, steps = planSteps (fun c => stepOf c ⟨(x.tier + 1), x.lev, x.tick, x.dl⟩ 20 f) l := ⟨_, rfl⟩
      rw [← hcode2, ← hsteps2] at hC
      clear hcode2 hsteps2
      generalize w3.heap.size = Y at *
      refine hC.mono ?_
      clear hC
      rintro e w5 ⟨v5, rfl, ⟨a5, c5, rfl, -, -, hS5⟩, hb5⟩
      have HX5 := Lib.hid (HX4.out.below hb5 HX4.out.lt)
      have HP5 := Lib.hid (HP4.out.below hb5 HP4.out.lt)
      have HT5 := Lib.hid (HT4.out.same hb5)
      have HA5 := Lib.hid (HA4.out.same clCells_len hb5)
      have HB5 := Lib.hid (HB4.out.trans (hb5.mono HB4.out.size))
      have HS5 := Lib.hid (HS4.out.same stpCells_len hb5)
      have HR5 := Lib.hid hS5
      clear HX4 HT4 HA4 HB4 HP4 HS4 hS5 hb5
      go_wp2_with fail
      obtain ⟨W6, hW6⟩ : ∃ W6, W6 = w5.alloc (.cells #[.int .i64 code2, .slice a5 steps2.length c5] 35) := ⟨_, rfl⟩
      have hb56 : Below w5.heap.size w5 W6 := by rw [hW6]; exact (Below.refl _ _).alloc (Nat.le_refl _) _
      have HQ6 : Hid (IsObj W6 w5.heap.size 35 [.int .i64 code2, .slice a5 steps2.length c5]) := by rw [hW6]; exact Lib.hid (IsObj.newAt _ _ _ rfl)
      rw [← hW6]
      clear hW6
      have HX6 := Lib.hid (HX5.out.below hb56 HX5.out.lt)
      have HP6 := Lib.hid (HP5.out.below hb56 HP5.out.lt)
      have HT6 := Lib.hid (HT5.out.same hb56)
      have HA6 := Lib.hid (HA5.out.same clCells_len hb56)
      have HB6 := Lib.hid (HB5.out.trans (hb56.mono HB5.out.size))
      have HS6 := Lib.hid (HS5.out.same stpCells_len hb56)
      have HR6 := Lib.hid (HR5.out.same stpCells_len hb56)
      clear HX5 HT5 HA5 HB5 HP5 HS5 HR5 hb56
      generalize w5.heap.size = Z at *
      go_loopw [12] (fun i wr => ∃ (k : Nat), k ≤ l.length ∧ i = .int .i64 k ∧ Below W6.heap.size W6 wr) (fun i _ => l.length - (intOf i).toNat)
      case atStart => exact ⟨0, Nat.zero_le _, rfl, Below.refl _ _⟩
      case round =>
        obtain ⟨k, hk, rfl, hP⟩ := hrel
        have HP := Lib.hid hP
        by_cases hlt : k < l.length
        · obtain ⟨ba, off, rfl, hc⟩ : ∃ b off, a = some ⟨b, off, none⟩ ∧ ∀ i, i < l.length → ∀ j, j < 4 → wr.cell? ⟨b, off + i * 4 + j, none⟩ = (clCells (nth l i))[j]? := by
            rcases (HA6.out.same clCells_len hP) with rfl | ⟨b, off, rfl, hc⟩
            · simp at hlt
            · exact ⟨b, off, rfl, hc⟩
          obtain ⟨c0, c1, c2, c3'⟩ := cl_cells hc k hlt
          obtain ⟨b3, o3, rfl, hc3⟩ : ∃ b off, a3 = some ⟨b, off, none⟩ ∧ ∀ i, i < steps.length → ∀ j, j < 5 → wr.cell? ⟨b, off + i * 5 + j, none⟩ = (stpCells (nth steps i))[j]? := by
            rcases (HS6.out.same stpCells_len hP) with h | ⟨b, off, rfl, hc⟩
            · have h2 := congrArg List.length (HST.out.symm.trans h)
              rw [List.length_map] at h2
              simp only [List.length_nil] at h2
              omega
            · exact ⟨b, off, rfl, hc⟩
          have hks : k < steps.length := by rw [HST.out, List.length_map]; exact hlt
          obtain ⟨s0, s1, s2, s3, s4⟩ := stp_cells hc3 k hks
          rw [HST.out, nth_map' _ l k hlt] at s0 s1 s2 s3 s4
          have hbad := HGood.out (nth l k) (by rw [nth_lt l k hlt]; exact List.getElem_mem hlt)
          generalize nth l k = c at *
          have hX := HX6.out.below hP HX6.out.lt
          have hPp := HP6.out.below hP HP6.out.lt
          have hQ := HQ6.out.below hP HQ6.out.lt
          have HT := Lib.hid (HT6.out.same hP)
          have x0 := hX.cell 0
          have x1 := hX.cell 1
          have x2 := hX.cell 2
          have x3 := hX.cell 3
          have p1 := hPp.cell 1
          have q0 := hQ.cell 0
          have q1 := hQ.cell 1
          simp only [List.getElem?_cons_succ, List.getElem?_cons_zero] at x0 x1 x2 x3 p1 q0 q1
          have i1 : (0 : Int) ≤ (k : Int) := by omega
          have i2 : (k : Int) < (l.length : Int) := by omega
          have hBw := HB6.out.trans (hP.mono HB6.out.size)
          have HBw := Lib.hid hBw
          obtain ⟨g0, g1, g2, g3, hkv⟩ := kv_agg c.to (kn f 20 c.to x.tick)
          have hG := get_any T 20 f c.to x.tick
          rw [hkv] at hG
          obtain ⟨known, hkn⟩ : ∃ b, b = (kn f 20 c.to x.tick).isSome := ⟨_, rfl⟩
          rw [← hkn] at hG
          have HG := Lib.hid hG
          have hlx := hX.lt
          clear hc hc3 hP hX hPp hQ hks hBw hG hkv
          have hq := step_cases c x 20 f hbad
          clear hbad
          rcases hq with ⟨r, hr, hs, hok⟩ | ⟨hr, hs, hcut⟩ | ⟨hr, hs⟩ | ⟨hr, hs⟩
          · rw [hs] at s0 s1 s2 s3 s4
            simp only at s0 s1 s2 s3 s4
            clear hs
            have hin := goes_in x.tick x.dl c.wt c.most hok
            clear hok
            generalize spD x.tick x.dl c.wt c.most = dl at *
            generalize spW x.tick x.dl c.wt c.most = bud at *
            have HIn := Lib.hid hin
            clear hin
            cases r with
            | false =>
              go_wp2_with fail
              refine (HG.out _ (HT.out.same ((Below.refl _ _).alloc (Nat.le_refl _) _))).mono ?_
              rintro e w7 ⟨rfl, hb7⟩
              have hO := IsObj.below (IsObj.new wr 42 [.int .i64 c.to, .int .i64 0, .int .i64 dl, .int .i64 bud, .bool false]) hb7 (by simp)
              have hb37 : Below wr.heap.size wr w7 := Below.trans ((Below.refl _ _).alloc (Nat.le_refl _) _) (hb7.mono (by simp))
              go_wp2_with fail
              obtain ⟨W8, hW8⟩ : ∃ W8, W8 = w7.alloc (.cells #[.int .i64 g0, .int .i64 g1, .int .i64 g2, .int .i64 g3] 44) := ⟨_, rfl⟩
              have hb78 : Below w7.heap.size w7 W8 := by rw [hW8]; exact (Below.refl _ _).alloc (Nat.le_refl _) _
              have hb38 := hb37.trans (hb78.mono hb37.size)
              rw [← hW8]
              clear hW8
              obtain ⟨S, hS⟩ : ∃ S, S = wr.heap.size := ⟨_, rfl⟩
              have hO8 := IsObj.below hO hb78 hO.lt
              rw [← hS] at hO8
              rw [← hS]
              clear hS hO
              obtain ⟨s0, s1, s2, s3, s4⟩ := obj5 hO8
              have y0 := cell_keep hb38 c0
              have y1 := cell_keep hb38 c1
              have z0 := cell_keep hb38 x0
              have z1 := cell_keep hb38 x1
              have z2 := cell_keep hb38 x2
              have z3 := cell_keep hb38 x3
              have u1 := cell_keep hb38 p1
              have v0 := cell_keep hb38 q0
              have v1 := cell_keep hb38 q1
              have HT8 := Lib.hid (HT.out.same hb38)
              have HB8 := Lib.hid (HBw.out.trans (hb38.mono HBw.out.size))
              have HP8 := Lib.hid (HP.out.trans (hb38.mono HP.out.size))
              clear hb7 hb78 hb37 hb38 hO8 c0 c1 c2 c3' x0 x1 x2 x3 p1 q0 q1 HG HT HBw HP hlx
              refine reg17_0 (W8 := W8) (x := x) (c := c) _ dl bud i1 i2 hr ⟨y0, y1, z0, z1, z2, z3, s0, s1, s2, s3, s4, Below.refl _ _⟩ ?_ ?_
              · exact fun _ _ _ _ _ h => h
              intro t93 t94 t95 t96 t97 t98 t99 t100 t101 t102 t103 t104 t105 t106 t107 t108 t109 t110 t111 t112 t113 t114 t115 t116 t117 t118 t119 t120 t121 t122 t123 t124 t125 t126 t127 t128 t129 t130 t131 t132 t133 t134 t135 t136 t137 t138 t139 W9 hR9
              clear y0 y1 z0 z1 z2 z3 s0 s1 s2 s3 s4
              obtain ⟨y0, y1, z0, z1, z2, z3, s0, s1, s2, s3, s4, hb89⟩ := hR9
              simp only at s0 s1 s2 s3 s4
              have u1 := cell_keep hb89 u1
              have v0 := cell_keep hb89 v0
              have v1 := cell_keep hb89 v1
              have HP9 := Lib.hid (HP8.out.trans (hb89.mono HP8.out.size))
              clear hb89 HT8 HB8 HP8
              go_wp2_with fail
              all_goals (first | exact ⟨⟨k + 1, by omega, by go_num, HP9.out⟩, by simp only [intOf]; omega⟩ | (exfalso; omega) | (exfalso; have h := HIn.out (by omega) (by omega); omega))
            | true =>
              go_wp2_with fail
              refine (HG.out _ (HT.out.same ((Below.refl _ _).alloc (Nat.le_refl _) _))).mono ?_
              rintro e w7 ⟨rfl, hb7⟩
              have hO := IsObj.below (IsObj.new wr 42 [.int .i64 c.to, .int .i64 0, .int .i64 dl, .int .i64 bud, .bool true]) hb7 (by simp)
              have hb37 : Below wr.heap.size wr w7 := Below.trans ((Below.refl _ _).alloc (Nat.le_refl _) _) (hb7.mono (by simp))
              go_wp2_with fail
              obtain ⟨W8, hW8⟩ : ∃ W8, W8 = w7.alloc (.cells #[.int .i64 g0, .int .i64 g1, .int .i64 g2, .int .i64 g3] 44) := ⟨_, rfl⟩
              have hb78 : Below w7.heap.size w7 W8 := by rw [hW8]; exact (Below.refl _ _).alloc (Nat.le_refl _) _
              have hb38 := hb37.trans (hb78.mono hb37.size)
              rw [← hW8]
              clear hW8
              obtain ⟨S, hS⟩ : ∃ S, S = wr.heap.size := ⟨_, rfl⟩
              have hO8 := IsObj.below hO hb78 hO.lt
              rw [← hS] at hO8
              rw [← hS]
              clear hS hO
              obtain ⟨s0, s1, s2, s3, s4⟩ := obj5 hO8
              have y0 := cell_keep hb38 c0
              have y1 := cell_keep hb38 c1
              have z0 := cell_keep hb38 x0
              have z1 := cell_keep hb38 x1
              have z2 := cell_keep hb38 x2
              have z3 := cell_keep hb38 x3
              have u1 := cell_keep hb38 p1
              have v0 := cell_keep hb38 q0
              have v1 := cell_keep hb38 q1
              have HT8 := Lib.hid (HT.out.same hb38)
              have HB8 := Lib.hid (HBw.out.trans (hb38.mono HBw.out.size))
              have HP8 := Lib.hid (HP.out.trans (hb38.mono HP.out.size))
              clear hb7 hb78 hb37 hb38 hO8 c0 c1 c2 c3' x0 x1 x2 x3 p1 q0 q1 HG HT HBw HP hlx
              refine reg17_0t (W8 := W8) (x := x) (c := c) _ dl bud i1 i2 hr ⟨y0, y1, z0, z1, z2, z3, s0, s1, s2, s3, s4, Below.refl _ _⟩ ?_ ?_
              · exact fun _ _ _ _ _ h => h
              intro t93 t94 t95 t96 t97 t98 t99 t100 t101 t102 t103 t104 t105 t106 t107 t108 t109 t110 t111 t112 t113 t114 t115 t116 t117 t118 t119 t120 t121 t122 t123 t124 t125 t126 t127 t128 t129 t130 t131 t132 t133 t134 t135 t136 t137 t138 t139 W9 hR9
              clear y0 y1 z0 z1 z2 z3 s0 s1 s2 s3 s4
              obtain ⟨y0, y1, z0, z1, z2, z3, s0, s1, s2, s3, s4, hb89⟩ := hR9
              simp only at s0 s1 s2 s3 s4
              have u1 := cell_keep hb89 u1
              have v0 := cell_keep hb89 v0
              have v1 := cell_keep hb89 v1
              have HP9 := Lib.hid (HP8.out.trans (hb89.mono HP8.out.size))
              clear hb89 HT8 HB8 HP8
              go_wp2_with fail
              all_goals (first | exact ⟨⟨k + 1, by omega, by go_num, HP9.out⟩, by simp only [intOf]; omega⟩ | (exfalso; omega) | (exfalso; have h := HIn.out (by omega) (by omega); omega))
          · rw [hs] at s0 s1 s2 s3 s4
            simp only at s0 s1 s2 s3 s4
            clear hs
            rw [cuts_known hcut] at hkn
            subst hkn
            have HCt := Lib.hid hcut
            clear hcut
            go_wp2_with fail
            refine (HG.out _ (HT.out.same ((Below.refl _ _).alloc (Nat.le_refl _) _))).mono ?_
            rintro e w7 ⟨rfl, hb7⟩
            have hO := IsObj.below (IsObj.new wr 42 [.int .i64 c.to, .int .i64 8, .int .i64 0, .int .i64 0, .bool false]) hb7 (by simp)
            have hb37 : Below wr.heap.size wr w7 := Below.trans ((Below.refl _ _).alloc (Nat.le_refl _) _) (hb7.mono (by simp))
            go_wp2_with fail
            obtain ⟨W8, hW8⟩ : ∃ W8, W8 = w7.alloc (.cells #[.int .i64 g0, .int .i64 g1, .int .i64 g2, .int .i64 g3] 44) := ⟨_, rfl⟩
            have hb78 : Below w7.heap.size w7 W8 := by rw [hW8]; exact (Below.refl _ _).alloc (Nat.le_refl _) _
            have hb38 := hb37.trans (hb78.mono hb37.size)
            rw [← hW8]
            clear hW8
            obtain ⟨S, hS⟩ : ∃ S, S = wr.heap.size := ⟨_, rfl⟩
            have hO8 := IsObj.below hO hb78 hO.lt
            rw [← hS] at hO8
            rw [← hS]
            clear hS hO
            obtain ⟨s0, s1, s2, s3, s4⟩ := obj5 hO8
            have y0 := cell_keep hb38 c0
            have y1 := cell_keep hb38 c1
            have z0 := cell_keep hb38 x0
            have z1 := cell_keep hb38 x1
            have z2 := cell_keep hb38 x2
            have z3 := cell_keep hb38 x3
            have u1 := cell_keep hb38 p1
            have v0 := cell_keep hb38 q0
            have v1 := cell_keep hb38 q1
            have HT8 := Lib.hid (HT.out.same hb38)
            have HB8 := Lib.hid (HBw.out.trans (hb38.mono HBw.out.size))
            have HP8 := Lib.hid (HP.out.trans (hb38.mono HP.out.size))
            clear hb7 hb78 hb37 hb38 hO8 c0 c1 c2 c3' x0 x1 x2 x3 p1 q0 q1 HG HT HBw HP hlx
            refine reg17_8 (W8 := W8) (x := x) (c := c) T f HT8 HCt i1 i2 hr ⟨y0, y1, z0, z1, z2, z3, s0, s1, s2, s3, s4, Below.refl _ _⟩ ?_ ?_
            · exact fun _ _ _ _ _ h => h
            intro t93 t94 t95 t96 t97 t98 t99 t100 t101 t102 t103 t104 t105 t106 t107 t108 t109 t110 t111 t112 t113 t114 t115 t116 t117 t118 t119 t120 t121 t122 t123 t124 t125 t126 t127 t128 t129 t130 t131 t132 t133 t134 t135 t136 t137 t138 t139 W9 hR9
            clear y0 y1 z0 z1 z2 z3 s0 s1 s2 s3 s4
            obtain ⟨y0, y1, z0, z1, z2, z3, s0, s1, s2, s3, s4, hb89⟩ := hR9
            simp only at s0 s1 s2 s3 s4
            have u1 := cell_keep hb89 u1
            have v0 := cell_keep hb89 v0
            have v1 := cell_keep hb89 v1
            have HP9 := Lib.hid (HP8.out.trans (hb89.mono HP8.out.size))
            clear hb89 HT8 HB8 HP8
            go_wp2_with fail
            all_goals (first | exact ⟨⟨k + 1, by omega, by go_num, HP9.out⟩, by simp only [intOf]; omega⟩ | (exfalso; omega))
          · rw [hs] at s0 s1 s2 s3 s4
            simp only at s0 s1 s2 s3 s4
            clear hs
            go_wp2_with fail
            refine (HG.out _ (HT.out.same ((Below.refl _ _).alloc (Nat.le_refl _) _))).mono ?_
            rintro e w7 ⟨rfl, hb7⟩
            have hO := IsObj.below (IsObj.new wr 42 [.int .i64 c.to, .int .i64 9, .int .i64 0, .int .i64 0, .bool false]) hb7 (by simp)
            have hb37 : Below wr.heap.size wr w7 := Below.trans ((Below.refl _ _).alloc (Nat.le_refl _) _) (hb7.mono (by simp))
            go_wp2_with fail
            obtain ⟨W8, hW8⟩ : ∃ W8, W8 = w7.alloc (.cells #[.int .i64 g0, .int .i64 g1, .int .i64 g2, .int .i64 g3] 44) := ⟨_, rfl⟩
            have hb78 : Below w7.heap.size w7 W8 := by rw [hW8]; exact (Below.refl _ _).alloc (Nat.le_refl _) _
            have hb38 := hb37.trans (hb78.mono hb37.size)
            rw [← hW8]
            clear hW8
            obtain ⟨S, hS⟩ : ∃ S, S = wr.heap.size := ⟨_, rfl⟩
            have hO8 := IsObj.below hO hb78 hO.lt
            rw [← hS] at hO8
            rw [← hS]
            clear hS hO
            obtain ⟨s0, s1, s2, s3, s4⟩ := obj5 hO8
            have y0 := cell_keep hb38 c0
            have y1 := cell_keep hb38 c1
            have z0 := cell_keep hb38 x0
            have z1 := cell_keep hb38 x1
            have z2 := cell_keep hb38 x2
            have z3 := cell_keep hb38 x3
            have u1 := cell_keep hb38 p1
            have v0 := cell_keep hb38 q0
            have v1 := cell_keep hb38 q1
            have HT8 := Lib.hid (HT.out.same hb38)
            have HB8 := Lib.hid (HBw.out.trans (hb38.mono HBw.out.size))
            have HP8 := Lib.hid (HP.out.trans (hb38.mono HP.out.size))
            clear hb7 hb78 hb37 hb38 hO8 c0 c1 c2 c3' x0 x1 x2 x3 p1 q0 q1 HG HT HBw HP hlx
            refine reg17_9 (W8 := W8) (x := x) (c := c) _ i1 i2 hr ⟨y0, y1, z0, z1, z2, z3, s0, s1, s2, s3, s4, Below.refl _ _⟩ ?_ ?_
            · exact fun _ _ _ _ _ h => h
            intro t93 t94 t95 t96 t97 t98 t99 t100 t101 t102 t103 t104 t105 t106 t107 t108 t109 t110 t111 t112 t113 t114 t115 t116 t117 t118 t119 t120 t121 t122 t123 t124 t125 t126 t127 t128 t129 t130 t131 t132 t133 t134 t135 t136 t137 t138 t139 W9 hR9
            clear y0 y1 z0 z1 z2 z3 s0 s1 s2 s3 s4
            obtain ⟨y0, y1, z0, z1, z2, z3, s0, s1, s2, s3, s4, hb89⟩ := hR9
            simp only at s0 s1 s2 s3 s4
            have u1 := cell_keep hb89 u1
            have v0 := cell_keep hb89 v0
            have v1 := cell_keep hb89 v1
            have HP9 := Lib.hid (HP8.out.trans (hb89.mono HP8.out.size))
            clear hb89 HT8 HB8 HP8
            go_wp2_with fail
            all_goals (first | exact ⟨⟨k + 1, by omega, by go_num, HP9.out⟩, by simp only [intOf]; omega⟩ | (exfalso; omega))
          · rw [hs] at s0 s1 s2 s3 s4
            simp only at s0 s1 s2 s3 s4
            clear hs
            go_wp2_with fail
            refine (HG.out _ (HT.out.same ((Below.refl _ _).alloc (Nat.le_refl _) _))).mono ?_
            rintro e w7 ⟨rfl, hb7⟩
            have hO := IsObj.below (IsObj.new wr 42 [.int .i64 c.to, .int .i64 11, .int .i64 0, .int .i64 0, .bool false]) hb7 (by simp)
            have hb37 : Below wr.heap.size wr w7 := Below.trans ((Below.refl _ _).alloc (Nat.le_refl _) _) (hb7.mono (by simp))
            go_wp2_with fail
            obtain ⟨W8, hW8⟩ : ∃ W8, W8 = w7.alloc (.cells #[.int .i64 g0, .int .i64 g1, .int .i64 g2, .int .i64 g3] 44) := ⟨_, rfl⟩
            have hb78 : Below w7.heap.size w7 W8 := by rw [hW8]; exact (Below.refl _ _).alloc (Nat.le_refl _) _
            have hb38 := hb37.trans (hb78.mono hb37.size)
            rw [← hW8]
            clear hW8
            obtain ⟨S, hS⟩ : ∃ S, S = wr.heap.size := ⟨_, rfl⟩
            have hO8 := IsObj.below hO hb78 hO.lt
            rw [← hS] at hO8
            rw [← hS]
            clear hS hO
            obtain ⟨s0, s1, s2, s3, s4⟩ := obj5 hO8
            have y0 := cell_keep hb38 c0
            have y1 := cell_keep hb38 c1
            have z0 := cell_keep hb38 x0
            have z1 := cell_keep hb38 x1
            have z2 := cell_keep hb38 x2
            have z3 := cell_keep hb38 x3
            have u1 := cell_keep hb38 p1
            have v0 := cell_keep hb38 q0
            have v1 := cell_keep hb38 q1
            have HT8 := Lib.hid (HT.out.same hb38)
            have HB8 := Lib.hid (HBw.out.trans (hb38.mono HBw.out.size))
            have HP8 := Lib.hid (HP.out.trans (hb38.mono HP.out.size))
            clear hb7 hb78 hb37 hb38 hO8 c0 c1 c2 c3' x0 x1 x2 x3 p1 q0 q1 HG HT HBw HP hlx
            refine reg17_11 (W8 := W8) (x := x) (c := c) _ i1 i2 hr ⟨y0, y1, z0, z1, z2, z3, s0, s1, s2, s3, s4, Below.refl _ _⟩ ?_ ?_
            · exact fun _ _ _ _ _ h => h
            intro t93 t94 t95 t96 t97 t98 t99 t100 t101 t102 t103 t104 t105 t106 t107 t108 t109 t110 t111 t112 t113 t114 t115 t116 t117 t118 t119 t120 t121 t122 t123 t124 t125 t126 t127 t128 t129 t130 t131 t132 t133 t134 t135 t136 t137 t138 t139 W9 hR9
            clear y0 y1 z0 z1 z2 z3 s0 s1 s2 s3 s4
            obtain ⟨y0, y1, z0, z1, z2, z3, s0, s1, s2, s3, s4, hb89⟩ := hR9
            simp only at s0 s1 s2 s3 s4
            have u1 := cell_keep hb89 u1
            have v0 := cell_keep hb89 v0
            have v1 := cell_keep hb89 v1
            have HP9 := Lib.hid (HP8.out.trans (hb89.mono HP8.out.size))
            clear hb89 HT8 HB8 HP8
            go_wp2_with fail
            all_goals (first | exact ⟨⟨k + 1, by omega, by go_num, HP9.out⟩, by simp only [intOf]; omega⟩ | (exfalso; omega))
        · obtain rfl : k = l.length := by omega
          go_wp2_with (go_at_call 12; refine (HZ.out _).mono ?_; rintro e w11 ⟨rfl, hb11⟩)
          go_ret
          exact ⟨rfl, HB6.out.trans ((hP.trans (hb11.mono hP.size)).mono HB6.out.size)⟩
    · have hst : steps = [] := by rw [HSE.out]; unfold planSteps; rw [← HCE.out, if_neg hcz]
      have hc89 : code = 8 ∨ code = 9 := by have := code_in l x 20 f; have := HCE.out; omega
      subst hst
      clear HSE HCE hsl hcz
      rcases hc89 with rfl | rfl
      all_goals
        go_wp2_with fail
        refine (HZ.out _).mono ?_
        rintro e w5 ⟨rfl, hb5⟩
        go_wp2_with fail
        go_ret
        exact ⟨rfl, (HB3.out.alloc HB3.out.size _).trans (hb5.mono (by have := HB3.out.size; simp; omega))⟩
end Go.Proofs.Ytgkmmoiniidhlaa
