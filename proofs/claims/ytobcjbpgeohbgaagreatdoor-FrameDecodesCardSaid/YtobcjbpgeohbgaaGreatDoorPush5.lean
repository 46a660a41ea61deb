/-
  Layer 26 (push): the document's Put and Get.
-/
import Derived.Test.YtobcjbpgeohbgaaGreatDoorPush4
namespace Go.Proofs.YtobcjbpgeohbgaaGreatDoor
open Go.RowKit
set_option linter.unusedVariables false

theorem rpput_bad (x : Ps) (w : World) (h : psOk x = false) : Calls Tryz.prog 55 #[psV x] w fun e w' => e = .returned (.tuple #[.string ⟨#[]⟩, .int .i64 1]) ∧ Below w.heap.size w w' := by
  have HC := Lib.hid (fun w => rpcheck_any x w)
  rw [errP_no h] at HC
  go_enter Tryz.func55, Tryz.ntmps55
  go_wp2_with fail
  refine (HC.out _).mono ?_
  rintro e w1 ⟨rfl, hb⟩
  go_wp2
  go_returns
  exact ⟨rfl, ((Below.refl _ _).alloc (Nat.le_refl _) _).trans (hb.mono (by simp))⟩
set_option maxRecDepth 100000 in
set_option maxHeartbeats 1000000 in
theorem rpput_ok (x : Ps) (w : World) (h : psOk x = true) : Calls Tryz.prog 55 #[psV x] w fun e w' => e = .returned (.tuple #[.string (ofL (encN pw (pf x) 9)), .int .i64 0]) ∧ Below w.heap.size w w' := by
  have HC := Lib.hid (fun w => rpcheck_any x w)
  rw [errP_yes h] at HC
  have HN := Lib.hid ((psOk_iff x).1 h).2
  obtain ⟨i0, hi, hz0, hz1, hz2⟩ := info_parts info_int
  have hb0 : Below w.heap.size w (w.alloc (.cells (psCells x).toArray 30)) := (Below.refl _ _).alloc (Nat.le_refl _) _
  have HR0 := Lib.hid (show PsAt (w.alloc (.cells (psCells x).toArray 30)) w.heap.size x from IsObj.new w _ (psCells x))
  have HB0 := Lib.hid hb0
  clear hb0 h
  go_enter Tryz.func55, Tryz.ntmps55
  go_wp2_with fail
  refine (HC.out _).mono ?_
  rintro e w1 ⟨rfl, hb1⟩
  obtain ⟨a0, a1, a2, a3, a4, a5, a6, a7, a8⟩ := (PsAt.same HR0.out hb1).nine
  have HB1 := Lib.hid (HB0.out.trans (hb1.mono HB0.out.size))
  have hl1 := cell_lt a0
  simp only at hl1
  clear hb1 HR0 HB0 HC
  go_wp2_with fail
  refine (values_any x _).mono ?_
  rintro e w2 ⟨rfl, hV, hb2, hs2⟩
  have hX : IsObj w2 w1.heap.size 3 [.int .i64 x.p0, .int .i64 x.p1] := IsObj.below (IsObj.new w1 3 [.int .i64 x.p0, .int .i64 x.p1]) hb2 (IsObj.lt (IsObj.new w1 3 [.int .i64 x.p0, .int .i64 x.p1]))
  rw [alloc_sizeP] at hV ⊢
  have hsz1 := HB1.out.size
  have hB2 := (HB1.out.alloc hsz1 (.cells #[.int .i64 x.p0, .int .i64 x.p1] 3)).trans (hb2.mono (by rw [alloc_sizeP]; omega))
  have hown : w2.ownsRow w.heap.size 3 1 (.slice (some ⟨w1.heap.size, 0, none⟩) 2 2) 2 [.int .i64 x.p0, .int .i64 x.p1] := ⟨rfl, .inr ⟨w1.heap.size, 2, _, rfl, hsz1, hX, by omega, by unfold maxLen; omega, rfl, rfl⟩⟩
  have HO := Lib.hid hown
  have HV := Lib.hid hV
  have HB2 := Lib.hid hB2
  have hsz2 := hB2.size
  clear hX hown hV hB2 hb2 hs2 a0 a1 a2 a3 a4 a5 a6 a7 a8
  go_wp2_with (refine wpList_append_own _ (by rfl) _ _ 84 (by rfl) w.heap.size 3 i0 (.int .i64 0) 1 8 Tryz.underlying84 hi hz0 hz1 hz2 rfl (by decide) _ 2 _ (by rfl) HO.out ⟨w1.heap.size + 1 + 1, 0, none⟩ 7 7 (kn7 x) (by rfl) rfl (fun j u hu => by rw [addr_add0]; exact (IsObj.cell HV.out j).trans hu) (by simp [Value.oneCell']) (by unfold maxLen; omega) (by omega) hsz2 ?_; intro v' w3 hown3 hg3 _)
  have hB3 := Below.grown HB2.out hg3 hsz2 (by intro k hk; have hk2 : some w1.heap.size = some k := hk; cases hk2; omega)
  have hB3s := hB3.size
  obtain ⟨g, cap, hv, hc9⟩ : ∃ g cap, v' = .slice (some ⟨g, 0, none⟩) 9 cap ∧ ∀ k, k < 9 → w3.cell? ⟨g, k, none⟩ = some (.int .i64 (pf x k)) := by
    rcases hown3.2 with ⟨_, h0⟩ | ⟨g, cap, cur, hv, _⟩
    · cases h0
    · refine ⟨g, cap, hv, fun k hk => ?_⟩
      rw [hv] at hown3
      rw [World.ownsRow.cellAt hown3 k (by omega)]
      exact ps_at x k hk
  subst hv
  have HC9 := Lib.hid hc9
  have HB3 := Lib.hid hB3
  clear hown3 hg3 hB3 hc9 HO HV HB2
  refine (rwidths_any _).mono ?_
  rintro e w4 ⟨rfl, hWd, hb4, hs4⟩
  have HC4 := Lib.hid (fun k hk => cell_keep hb4 (HC9.out k hk))
  have HB4 := Lib.hid (HB3.out.trans (hb4.mono hB3s))
  have HW4 := Lib.hid hWd
  clear hWd hb4
  go_wp2_with fail
  refine (rowN_any pw (pf x) 9 (by omega) HN.out g 0 cap w3.heap.size _ (fun k hk => by rw [Nat.zero_add]; exact HC4.out k hk) HW4.out (by omega)).mono ?_
  rintro e w5 ⟨rfl, hb5⟩
  have HB5 := Lib.hid (HB4.out.trans (hb5.mono HB4.out.size))
  clear hb5 HC9 HC4 HW4 HB3 HB4
  go_wp2
  go_returns
  exact ⟨rfl, HB5.out⟩
def putP (x : Ps) : ByteArray := if psOk x = true then ofL (encN pw (pf x) 9) else ⟨#[]⟩
theorem rpput_any (x : Ps) (w : World) : Calls Tryz.prog 55 #[psV x] w fun e w' => e = .returned (.tuple #[.string (putP x), .int .i64 (errP x)]) ∧ Below w.heap.size w w' := by
  unfold putP errP
  cases h : psOk x with
  | true => rw [if_pos rfl, if_pos rfl]; exact rpput_ok x w h
  | false => rw [if_neg (by decide), if_neg (by decide)]; exact rpput_bad x w h
theorem pput_any (x : Ps) (w : World) (hW : WdAt w) : Calls Tryz.prog 145 #[psV x] w fun e w' => e = .returned (.tuple #[.string (putP x), .int .i64 (errP x)]) ∧ Below w.heap.size w w' := by
  unfold putP errP
  cases h : psOk x with
  | true => rw [if_pos rfl, if_pos rfl]; exact pput_ok x w hW h
  | false => rw [if_neg (by decide), if_neg (by decide)]; exact pput_bad x w hW h

theorem keep9 {W W1 : World} {b off : Nat} {y : Ps} (hb : Below W.heap.size W W1) (h : W.cell? ⟨b, off, none⟩ = some (.int .i64 y.p0) ∧ W.cell? ⟨b, off + 1, none⟩ = some (.int .i64 y.p1) ∧ W.cell? ⟨b, off + 2, none⟩ = some (.int .i64 y.p2) ∧ W.cell? ⟨b, off + 3, none⟩ = some (.int .i64 y.p3) ∧ W.cell? ⟨b, off + 4, none⟩ = some (.int .i64 y.p4) ∧ W.cell? ⟨b, off + 5, none⟩ = some (.int .i64 y.p5) ∧ W.cell? ⟨b, off + 6, none⟩ = some (.int .i64 y.p6) ∧ W.cell? ⟨b, off + 7, none⟩ = some (.int .i64 y.p7) ∧ W.cell? ⟨b, off + 8, none⟩ = some (.int .i64 y.p8)) :
    W1.cell? ⟨b, off, none⟩ = some (.int .i64 y.p0) ∧ W1.cell? ⟨b, off + 1, none⟩ = some (.int .i64 y.p1) ∧ W1.cell? ⟨b, off + 2, none⟩ = some (.int .i64 y.p2) ∧ W1.cell? ⟨b, off + 3, none⟩ = some (.int .i64 y.p3) ∧ W1.cell? ⟨b, off + 4, none⟩ = some (.int .i64 y.p4) ∧ W1.cell? ⟨b, off + 5, none⟩ = some (.int .i64 y.p5) ∧ W1.cell? ⟨b, off + 6, none⟩ = some (.int .i64 y.p6) ∧ W1.cell? ⟨b, off + 7, none⟩ = some (.int .i64 y.p7) ∧ W1.cell? ⟨b, off + 8, none⟩ = some (.int .i64 y.p8) :=
  ⟨cell_keep hb h.1, cell_keep hb h.2.1, cell_keep hb h.2.2.1, cell_keep hb h.2.2.2.1, cell_keep hb h.2.2.2.2.1, cell_keep hb h.2.2.2.2.2.1, cell_keep hb h.2.2.2.2.2.2.1, cell_keep hb h.2.2.2.2.2.2.2.1, cell_keep hb h.2.2.2.2.2.2.2.2⟩
theorem fn9 {W : World} {b off : Nat} {y : Ps} (h : W.cell? ⟨b, off, none⟩ = some (.int .i64 y.p0) ∧ W.cell? ⟨b, off + 1, none⟩ = some (.int .i64 y.p1) ∧ W.cell? ⟨b, off + 2, none⟩ = some (.int .i64 y.p2) ∧ W.cell? ⟨b, off + 3, none⟩ = some (.int .i64 y.p3) ∧ W.cell? ⟨b, off + 4, none⟩ = some (.int .i64 y.p4) ∧ W.cell? ⟨b, off + 5, none⟩ = some (.int .i64 y.p5) ∧ W.cell? ⟨b, off + 6, none⟩ = some (.int .i64 y.p6) ∧ W.cell? ⟨b, off + 7, none⟩ = some (.int .i64 y.p7) ∧ W.cell? ⟨b, off + 8, none⟩ = some (.int .i64 y.p8)) : ∀ k, k < 7 → W.cell? ⟨b, off + 2 + k, none⟩ = some (.int .i64 (pf y (k + 2))) := by
  obtain ⟨h0, h1, h2, h3, h4, h5, h6, h7, h8⟩ := h
  intro k hk
  rcases lt7 hk with rfl | rfl | rfl | rfl | rfl | rfl | rfl <;> assumption
set_option maxRecDepth 100000 in
set_option maxHeartbeats 1000000 in
theorem rpget_any (s : ByteArray) (w : World) (hs : s.size ≤ 2147483648) : Calls Tryz.prog 26 #[.string s] w fun e w' => e = .returned (.tuple #[psV (getP s).r, .int .i64 (getP s).err]) ∧ Below w.heap.size w w' := by
  have hT0 : PsAt (w.alloc (.cells (psCells default).toArray 30)) w.heap.size default := IsObj.new w _ (psCells default)
  have hb0 : Below w.heap.size w (w.alloc (.cells (psCells default).toArray 30)) := (Below.refl _ _).alloc (Nat.le_refl _) _
  by_cases h14 : s.size < 14
  · rw [show getP s = ⟨default, 3⟩ from by rw [getP, if_pos h14]]
    clear hT0 hb0
    go_enter Tryz.func26, Tryz.ntmps26
    go_wp2
    go_returns
    exact ⟨rfl, (Below.refl _ _).alloc (Nat.le_refl _) _⟩
  · have HT0 := Lib.hid hT0
    have HB0 := Lib.hid hb0
    clear hT0 hb0
    obtain ⟨r0, hr0⟩ : ∃ r0, r0 = getP s := ⟨_, rfl⟩
    rw [← hr0]
    have HG0 := Lib.hid hr0
    clear hr0
    go_enter Tryz.func26, Tryz.ntmps26
    go_wp2_with fail
    refine (rwidths_any _).mono ?_
    rintro e w1 ⟨rfl, hWd, hb1, hs1⟩
    have HT1 := Lib.hid (HT0.out.same hb1)
    have HB1 := Lib.hid (HB0.out.trans (hb1.mono HB0.out.size))
    clear hb1 HT0 HB0
    go_wp2_with fail
    have hWd2 : ∀ k, k < 9 → w1.cell? ⟨w.heap.size + 1, k, none⟩ = some (.int .i64 (pw k : Int)) := by
      intro k hk
      have := hWd k hk
      rwa [alloc_sizeP] at this
    have hle : posN pw 9 ≤ s.size := by rw [pos9]; omega
    have HNm := Lib.hid (numbersN_any pw 9 (by omega) pw_rng s (w.heap.size + 1) w1 hs hle hWd2)
    clear hWd hs1 hWd2 hle
    refine HNm.out.mono ?_
    rintro e w2 ⟨v, rfl, hI, hb2⟩
    clear HNm
    have HT2 := Lib.hid (HT1.out.same hb2)
    have HB2 := Lib.hid (HB1.out.trans (hb2.mono HB1.out.size))
    clear hb2 HT1 HB1
    obtain ⟨a, c, rfl, n1, n2, n3⟩ := hI
    rw [listN_len] at n1 ⊢
    obtain ⟨b, off, rfl, hc⟩ : ∃ b off, a = some ⟨b, off, none⟩ ∧ ∀ i, i < 9 → w2.cell? ⟨b, off + i, none⟩ = some (.int .i64 (pf (decP s 9) i)) := by
      rcases n3 with h | ⟨b, off, rfl, hc⟩
      · have := congrArg List.length h
        rw [listN_len] at this
        cases this
      · exact ⟨b, off, rfl, fun i hi => by rw [hc i (by rw [listN_len]; exact hi), listN_at _ _ _ hi, decP_fld s i hi]⟩
    have d0 : w2.cell? ⟨b, off, none⟩ = some (.int .i64 (decP s 9).p0) := hc 0 (by omega)
    have d1 : w2.cell? ⟨b, off + 1, none⟩ = some (.int .i64 (decP s 9).p1) := hc 1 (by omega)
    have d2 : w2.cell? ⟨b, off + 2, none⟩ = some (.int .i64 (decP s 9).p2) := hc 2 (by omega)
    have d3 : w2.cell? ⟨b, off + 3, none⟩ = some (.int .i64 (decP s 9).p3) := hc 3 (by omega)
    have d4 : w2.cell? ⟨b, off + 4, none⟩ = some (.int .i64 (decP s 9).p4) := hc 4 (by omega)
    have d5 : w2.cell? ⟨b, off + 5, none⟩ = some (.int .i64 (decP s 9).p5) := hc 5 (by omega)
    have d6 : w2.cell? ⟨b, off + 6, none⟩ = some (.int .i64 (decP s 9).p6) := hc 6 (by omega)
    have d7 : w2.cell? ⟨b, off + 7, none⟩ = some (.int .i64 (decP s 9).p7) := hc 7 (by omega)
    have d8 : w2.cell? ⟨b, off + 8, none⟩ = some (.int .i64 (decP s 9).p8) := hc 8 (by omega)
    have hGe : r0 = if 14 < s.size ∨ psOk (decP s 9) = false then ⟨default, 2⟩ else ⟨decP s 9, 0⟩ := by rw [HG0.out, getP, if_neg h14]
    have HCk := Lib.hid (fun w => rpcheck_any (decP s 9) w)
    clear HG0 n3 hc
    generalize decP s 9 = y at *
    have HG := Lib.hid hGe
    clear hGe
    go_wp2_with fail
    have n0 := World.new_ne w2 _ d0
    have hc2 : ¬ (c = 2) := by omega
    go_region_held3 (fun w' => w'.cell? ⟨b, off, none⟩ = some (.int .i64 y.p0) ∧ w'.cell? ⟨b, off + 1, none⟩ = some (.int .i64 y.p1) ∧ w'.cell? ⟨b, off + 2, none⟩ = some (.int .i64 y.p2) ∧ w'.cell? ⟨b, off + 3, none⟩ = some (.int .i64 y.p3) ∧ w'.cell? ⟨b, off + 4, none⟩ = some (.int .i64 y.p4) ∧ w'.cell? ⟨b, off + 5, none⟩ = some (.int .i64 y.p5) ∧ w'.cell? ⟨b, off + 6, none⟩ = some (.int .i64 y.p6) ∧ w'.cell? ⟨b, off + 7, none⟩ = some (.int .i64 y.p7) ∧ w'.cell? ⟨b, off + 8, none⟩ = some (.int .i64 y.p8)) (first | go_keep | assumption)
      ((go_at_call 49; with_reducible refine (rof18_any y b (off + 2) _ _ (fn9 (by assumption))).mono ?_; rintro e w3 ⟨rfl, hb3⟩; have hk3 := keep9 hb3 (by assumption); (first | (have hz3 : IsObj w3 w2.heap.size 30 (psCells default) := IsObj.below (IsObj.new w2 30 z9).drew hb3 (IsObj.lt (IsObj.new w2 30 z9).drew); obtain ⟨z0, z1, z2, z3, z4, z5, z6, z7, z8⟩ := nine hz3; have fr3 : ∀ j, w3.frozen? ⟨w2.heap.size, j, none⟩ = false := fun j => IsObj.free hz3 j) | skip)))
    · rename_i hHeld
      obtain ⟨T, hT⟩ : ∃ T, T = w.heap.size := ⟨_, rfl⟩
      have hwT : w.heap.size ≤ T := by omega
      rw [← hT] at HT2 ⊢
      have hb3' : Below w2.heap.size w2 w3 := (Below.refl w2.heap.size w2).drew.trans hb3
      obtain ⟨Pb, hPb⟩ : ∃ Pb, Pb = w3.heap.size := ⟨_, rfl⟩
      obtain ⟨W5, hW5⟩ : ∃ W5, W5 = w3.alloc (.cells (psCells y).toArray 30) := ⟨_, rfl⟩
      have hT3 : IsObj w3 T 30 (psCells default) := IsObj.below HT2.out hb3' HT2.out.lt
      have hB3 := HB2.out.trans (hb3'.mono HB2.out.size)
      have HT5 := Lib.hid (show IsObj W5 T 30 (psCells default) by rw [hW5]; exact hT3.alloc _)
      have HP5 := Lib.hid (show IsObj W5 Pb 30 (psCells y) by rw [hW5, hPb]; exact IsObj.new w3 _ _)
      have HB5 := Lib.hid (show Below w.heap.size w W5 by rw [hW5]; exact hB3.alloc hB3.size _)
      simp only [psCells] at hW5
      rw [← hW5, ← hPb]
      clear d0 d1 d2 d3 d4 d5 d6 d7 d8 n0 hc2 hk3 hHeld hb3 hb3' hT3 hB3 hW5 hPb hT
      obtain ⟨t0, t1, t2, t3, t4, t5, t6, t7, t8⟩ := nine HT5.out
      obtain ⟨q0, q1, q2, q3, q4, q5, q6, q7, q8⟩ := nine HP5.out
      have fr : ∀ j, W5.frozen? ⟨T, j, none⟩ = false := fun j => IsObj.free HT5.out j
      have hT5l : T < W5.heap.size := IsObj.lt HT5.out
      have hP5l : Pb < W5.heap.size := IsObj.lt HP5.out
      by_cases hl : 14 < s.size
      · have he : r0 = ⟨default, 2⟩ := by rw [HG.out, if_pos (.inl hl)]
        subst he
        go_wp2
        obtain ⟨W', hW'⟩ : ∃ W', W' = set9 W5 T 0 0 0 0 0 0 0 0 0 := ⟨_, rfl⟩
        have hF : IsObj W' T 30 (psCells default) := by rw [hW']; exact set9_at HT5.out default
        have hFB : Below w.heap.size w W' := by rw [hW']; exact set9_below HB5.out hwT
        obtain ⟨k0, k1, k2, k3, k4, k5, k6, k7, k8⟩ := nine hF
        have HFB := Lib.hid hFB
        unfold set9 at hW'
        rw [← hW']
        clear hW' hF hFB
        refine bodyPost_ret (v := .tuple #[psV default, .int .i64 2]) (by simp [results, Tryz.results26, go_sem, k0, k1, k2, k3, k4, k5, k6, k7, k8]) rfl ?_
        exact ⟨rfl, HFB.out⟩
      · cases hk2 : psOk y with
        | false =>
          have he : r0 = ⟨default, 2⟩ := by rw [HG.out, if_pos (.inr hk2)]
          subst he
          rw [errP_no hk2] at HCk
          go_wp2_with (go_at_call 50; (with_reducible refine (HCk.out _).mono ?_); rintro e w' ⟨rfl, hx⟩; obtain ⟨ux, rfl⟩ := ext_of hx; clear hx)
          obtain ⟨W', hW'⟩ : ∃ W', W' = set9 (ext W5 ux) T 0 0 0 0 0 0 0 0 0 := ⟨_, rfl⟩
          have hF : IsObj W' T 30 (psCells default) := by rw [hW']; exact set9_at (IsObj.below HT5.out ux.below HT5.out.lt) default
          have hFB : Below w.heap.size w W' := by rw [hW']; exact set9_below (below_ext ux HB5.out HB5.out.size) hwT
          obtain ⟨k0, k1, k2, k3, k4, k5, k6, k7, k8⟩ := nine hF
          have HFB := Lib.hid hFB
          unfold set9 at hW'
          rw [← hW']
          clear hW' hF hFB
          refine bodyPost_ret (v := .tuple #[psV default, .int .i64 2]) (by simp [results, Tryz.results26, go_sem, k0, k1, k2, k3, k4, k5, k6, k7, k8]) rfl ?_
          exact ⟨rfl, HFB.out⟩
        | true =>
          have he : r0 = ⟨y, 0⟩ := by rw [HG.out, if_neg (by rintro (h2 | h2); exact hl h2; rw [hk2] at h2; cases h2)]
          subst he
          rw [errP_yes hk2] at HCk
          go_wp2_with (go_at_call 50; (with_reducible refine (HCk.out _).mono ?_); rintro e w' ⟨rfl, hx⟩; obtain ⟨ux, rfl⟩ := ext_of hx; clear hx)
          obtain ⟨W', hW'⟩ : ∃ W', W' = set9 (ext W5 ux) T y.p0 y.p1 y.p2 y.p3 y.p4 y.p5 y.p6 y.p7 y.p8 := ⟨_, rfl⟩
          have hF : IsObj W' T 30 (psCells y) := by rw [hW']; exact set9_at (IsObj.below HT5.out ux.below HT5.out.lt) y
          have hFB : Below w.heap.size w W' := by rw [hW']; exact set9_below (below_ext ux HB5.out HB5.out.size) hwT
          obtain ⟨k0, k1, k2, k3, k4, k5, k6, k7, k8⟩ := nine hF
          have HFB := Lib.hid hFB
          unfold set9 at hW'
          rw [← hW']
          clear hW' hF hFB
          refine bodyPost_ret (v := .tuple #[psV y, .int .i64 0]) (by simp [results, Tryz.results26, go_sem, k0, k1, k2, k3, k4, k5, k6, k7, k8]) rfl ?_
          exact ⟨rfl, HFB.out⟩
    · rename_i hHeld
      obtain ⟨T, hT⟩ : ∃ T, T = w.heap.size := ⟨_, rfl⟩
      have hwT : w.heap.size ≤ T := by omega
      rw [← hT] at HT2 ⊢
      have hb3' : Below w2.heap.size w2 w3 := (((Below.refl w2.heap.size w2).alloc (Nat.le_refl _) _).drew).trans (hb3.mono (by show w2.heap.size ≤ (w2.alloc _).heap.size; rw [alloc_sizeP]; omega))
      obtain ⟨Pb, hPb⟩ : ∃ Pb, Pb = w2.heap.size := ⟨_, rfl⟩
      rw [← hPb] at hz3
      have hT3 : IsObj w3 T 30 (psCells default) := IsObj.below HT2.out hb3' HT2.out.lt
      have hPT : T < Pb := by rw [hPb]; exact HT2.out.lt
      have hB3 := HB2.out.trans (hb3'.mono HB2.out.size)
      obtain ⟨W5, hW5⟩ : ∃ W5, W5 = set9 w3 Pb y.p0 y.p1 y.p2 y.p3 y.p4 y.p5 y.p6 y.p7 y.p8 := ⟨_, rfl⟩
      have HT5 := Lib.hid (show IsObj W5 T 30 (psCells default) by rw [hW5]; exact IsObj.below hT3 (set9_below (Below.refl Pb w3) (Nat.le_refl _)) hPT)
      have HP5 := Lib.hid (show IsObj W5 Pb 30 (psCells y) by rw [hW5]; exact set9_at (y := default) hz3 y)
      have HB5 := Lib.hid (show Below w.heap.size w W5 by rw [hW5]; exact set9_below hB3 (by omega))
      unfold set9 at hW5
      rw [← hPb, ← hW5]
      clear d0 d1 d2 d3 d4 d5 d6 d7 d8 n0 hc2 hk3 hHeld hb3 hb3' hT3 hB3 hW5 hPb hT hz3 z0 z1 z2 z3 z4 z5 z6 z7 z8 fr3 hPT
      obtain ⟨t0, t1, t2, t3, t4, t5, t6, t7, t8⟩ := nine HT5.out
      obtain ⟨q0, q1, q2, q3, q4, q5, q6, q7, q8⟩ := nine HP5.out
      have fr : ∀ j, W5.frozen? ⟨T, j, none⟩ = false := fun j => IsObj.free HT5.out j
      have hT5l : T < W5.heap.size := IsObj.lt HT5.out
      have hP5l : Pb < W5.heap.size := IsObj.lt HP5.out
      by_cases hl : 14 < s.size
      · have he : r0 = ⟨default, 2⟩ := by rw [HG.out, if_pos (.inl hl)]
        subst he
        go_wp2
        obtain ⟨W', hW'⟩ : ∃ W', W' = set9 W5 T 0 0 0 0 0 0 0 0 0 := ⟨_, rfl⟩
        have hF : IsObj W' T 30 (psCells default) := by rw [hW']; exact set9_at HT5.out default
        have hFB : Below w.heap.size w W' := by rw [hW']; exact set9_below HB5.out hwT
        obtain ⟨k0, k1, k2, k3, k4, k5, k6, k7, k8⟩ := nine hF
        have HFB := Lib.hid hFB
        unfold set9 at hW'
        rw [← hW']
        clear hW' hF hFB
        refine bodyPost_ret (v := .tuple #[psV default, .int .i64 2]) (by simp [results, Tryz.results26, go_sem, k0, k1, k2, k3, k4, k5, k6, k7, k8]) rfl ?_
        exact ⟨rfl, HFB.out⟩
      · cases hk2 : psOk y with
        | false =>
          have he : r0 = ⟨default, 2⟩ := by rw [HG.out, if_pos (.inr hk2)]
          subst he
          rw [errP_no hk2] at HCk
          go_wp2_with (go_at_call 50; (with_reducible refine (HCk.out _).mono ?_); rintro e w' ⟨rfl, hx⟩; obtain ⟨ux, rfl⟩ := ext_of hx; clear hx)
          obtain ⟨W', hW'⟩ : ∃ W', W' = set9 (ext W5 ux) T 0 0 0 0 0 0 0 0 0 := ⟨_, rfl⟩
          have hF : IsObj W' T 30 (psCells default) := by rw [hW']; exact set9_at (IsObj.below HT5.out ux.below HT5.out.lt) default
          have hFB : Below w.heap.size w W' := by rw [hW']; exact set9_below (below_ext ux HB5.out HB5.out.size) hwT
          obtain ⟨k0, k1, k2, k3, k4, k5, k6, k7, k8⟩ := nine hF
          have HFB := Lib.hid hFB
          unfold set9 at hW'
          rw [← hW']
          clear hW' hF hFB
          refine bodyPost_ret (v := .tuple #[psV default, .int .i64 2]) (by simp [results, Tryz.results26, go_sem, k0, k1, k2, k3, k4, k5, k6, k7, k8]) rfl ?_
          exact ⟨rfl, HFB.out⟩
        | true =>
          have he : r0 = ⟨y, 0⟩ := by rw [HG.out, if_neg (by rintro (h2 | h2); exact hl h2; rw [hk2] at h2; cases h2)]
          subst he
          rw [errP_yes hk2] at HCk
          go_wp2_with (go_at_call 50; (with_reducible refine (HCk.out _).mono ?_); rintro e w' ⟨rfl, hx⟩; obtain ⟨ux, rfl⟩ := ext_of hx; clear hx)
          obtain ⟨W', hW'⟩ : ∃ W', W' = set9 (ext W5 ux) T y.p0 y.p1 y.p2 y.p3 y.p4 y.p5 y.p6 y.p7 y.p8 := ⟨_, rfl⟩
          have hF : IsObj W' T 30 (psCells y) := by rw [hW']; exact set9_at (IsObj.below HT5.out ux.below HT5.out.lt) y
          have hFB : Below w.heap.size w W' := by rw [hW']; exact set9_below (below_ext ux HB5.out HB5.out.size) hwT
          obtain ⟨k0, k1, k2, k3, k4, k5, k6, k7, k8⟩ := nine hF
          have HFB := Lib.hid hFB
          unfold set9 at hW'
          rw [← hW']
          clear hW' hF hFB
          refine bodyPost_ret (v := .tuple #[psV y, .int .i64 0]) (by simp [results, Tryz.results26, go_sem, k0, k1, k2, k3, k4, k5, k6, k7, k8]) rfl ?_
          exact ⟨rfl, HFB.out⟩
end Go.Proofs.YtobcjbpgeohbgaaGreatDoor
