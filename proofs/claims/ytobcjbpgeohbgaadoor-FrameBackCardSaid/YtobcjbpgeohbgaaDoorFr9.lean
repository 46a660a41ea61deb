/-
  The statement FrameBack of layer 27 (frame). No condition.
-/
import Derived.Test.YtobcjbpgeohbgaaDoorFr8
namespace Go.Proofs.YtobcjbpgeohbgaaDoor
open Go.RowKit
set_option linter.unusedVariables false
set_option linter.unusedSimpArgs false

abbrev fmShape : List (Value → Prop) := [IsI .i64, IsI .i64, IsI .i64, IsI .i64, IsI .i64, IsI .i64, IsI .i64, IsI .i64, IsI .i64, IsI .i64, IsI .i64, IsI .i64, IsI .i64, IsI .i64, IsI .i64, IsI .i64, IsI .i64, IsI .i64, IsI .i64, IsI .i64, IsI .i64, IsI .i64, IsI .i64]
theorem fm_of (cs : List Value) (h : Fits fmShape cs) : ∃ x : Fm, cs = fmCells x := by
  obtain ⟨_, l1, rfl, ⟨a0, rfl, _⟩, h1⟩ := fits_cons h
  obtain ⟨_, l2, rfl, ⟨a1, rfl, _⟩, h2⟩ := fits_cons h1
  obtain ⟨_, l3, rfl, ⟨a2, rfl, _⟩, h3⟩ := fits_cons h2
  obtain ⟨_, l4, rfl, ⟨a3, rfl, _⟩, h4⟩ := fits_cons h3
  obtain ⟨_, l5, rfl, ⟨a4, rfl, _⟩, h5⟩ := fits_cons h4
  obtain ⟨_, l6, rfl, ⟨a5, rfl, _⟩, h6⟩ := fits_cons h5
  obtain ⟨_, l7, rfl, ⟨a6, rfl, _⟩, h7⟩ := fits_cons h6
  obtain ⟨_, l8, rfl, ⟨a7, rfl, _⟩, h8⟩ := fits_cons h7
  obtain ⟨_, l9, rfl, ⟨a8, rfl, _⟩, h9⟩ := fits_cons h8
  obtain ⟨_, l10, rfl, ⟨a9, rfl, _⟩, h10⟩ := fits_cons h9
  obtain ⟨_, l11, rfl, ⟨a10, rfl, _⟩, h11⟩ := fits_cons h10
  obtain ⟨_, l12, rfl, ⟨a11, rfl, _⟩, h12⟩ := fits_cons h11
  obtain ⟨_, l13, rfl, ⟨a12, rfl, _⟩, h13⟩ := fits_cons h12
  obtain ⟨_, l14, rfl, ⟨a13, rfl, _⟩, h14⟩ := fits_cons h13
  obtain ⟨_, l15, rfl, ⟨a14, rfl, _⟩, h15⟩ := fits_cons h14
  obtain ⟨_, l16, rfl, ⟨a15, rfl, _⟩, h16⟩ := fits_cons h15
  obtain ⟨_, l17, rfl, ⟨a16, rfl, _⟩, h17⟩ := fits_cons h16
  obtain ⟨_, l18, rfl, ⟨a17, rfl, _⟩, h18⟩ := fits_cons h17
  obtain ⟨_, l19, rfl, ⟨a18, rfl, _⟩, h19⟩ := fits_cons h18
  obtain ⟨_, l20, rfl, ⟨a19, rfl, _⟩, h20⟩ := fits_cons h19
  obtain ⟨_, l21, rfl, ⟨a20, rfl, _⟩, h21⟩ := fits_cons h20
  obtain ⟨_, l22, rfl, ⟨a21, rfl, _⟩, h22⟩ := fits_cons h21
  obtain ⟨_, l23, rfl, ⟨a22, rfl, _⟩, h23⟩ := fits_cons h22
  obtain rfl := fits_nil h23
  exact ⟨⟨a0, ⟨a1, a2, a3, a4, a5, a6⟩, ⟨a7, a8, a9, a10, a11, a12, a13⟩, ⟨a14, a15, a16, a17, a18, a19, a20, a21, a22⟩⟩, rfl⟩
theorem opens_fq {W : World} : Opens Tryd.prog W 23 [IsI .i64, IsI .i64, IsI .i64, IsI .i64, IsI .i64, IsI .i64] := opens_struct (ss := [[IsI .i64], [IsI .i64], [IsI .i64], [IsI .i64], [IsI .i64], [IsI .i64]]) Tryd.underlying23 (by kernel_rfl) ⟨rfl, by kernel_rfl, opens_int Tryd.underlying3, rfl, by kernel_rfl, opens_int Tryd.underlying3, rfl, by kernel_rfl, opens_int Tryd.underlying3, rfl, by kernel_rfl, opens_int Tryd.underlying3, rfl, by kernel_rfl, opens_int Tryd.underlying3, rfl, by kernel_rfl, opens_int Tryd.underlying3, trivial⟩
theorem opens_fa {W : World} : Opens Tryd.prog W 25 [IsI .i64, IsI .i64, IsI .i64, IsI .i64, IsI .i64, IsI .i64, IsI .i64] := opens_struct (ss := [[IsI .i64], [IsI .i64], [IsI .i64], [IsI .i64], [IsI .i64], [IsI .i64], [IsI .i64]]) Tryd.underlying25 (by kernel_rfl) ⟨rfl, by kernel_rfl, opens_int Tryd.underlying3, rfl, by kernel_rfl, opens_int Tryd.underlying3, rfl, by kernel_rfl, opens_int Tryd.underlying3, rfl, by kernel_rfl, opens_int Tryd.underlying3, rfl, by kernel_rfl, opens_int Tryd.underlying3, rfl, by kernel_rfl, opens_int Tryd.underlying3, rfl, by kernel_rfl, opens_int Tryd.underlying3, trivial⟩
theorem opens_fk {W : World} : Opens Tryd.prog W 27 [IsI .i64, IsI .i64, IsI .i64, IsI .i64, IsI .i64, IsI .i64, IsI .i64] := opens_struct (ss := [[IsI .i64], [IsI .i64], [IsI .i64], [IsI .i64], [IsI .i64], [IsI .i64], [IsI .i64]]) Tryd.underlying27 (by kernel_rfl) ⟨rfl, by kernel_rfl, opens_int Tryd.underlying3, rfl, by kernel_rfl, opens_int Tryd.underlying3, rfl, by kernel_rfl, opens_int Tryd.underlying3, rfl, by kernel_rfl, opens_int Tryd.underlying3, rfl, by kernel_rfl, opens_int Tryd.underlying3, rfl, by kernel_rfl, opens_int Tryd.underlying3, rfl, by kernel_rfl, opens_int Tryd.underlying3, trivial⟩
theorem opens_fp {W : World} : Opens Tryd.prog W 29 [IsI .i64, IsI .i64, IsI .i64, IsI .i64, IsI .i64, IsI .i64, IsI .i64, IsI .i64, IsI .i64] := opens_struct (ss := [[IsI .i64], [IsI .i64], [IsI .i64, IsI .i64, IsI .i64, IsI .i64, IsI .i64, IsI .i64, IsI .i64]]) Tryd.underlying29 (by kernel_rfl) ⟨rfl, by kernel_rfl, opens_int Tryd.underlying3, rfl, by kernel_rfl, opens_int Tryd.underlying3, rfl, by kernel_rfl, opens_fk, trivial⟩
theorem opens_fm {W : World} : Opens Tryd.prog W 31 fmShape := opens_struct (ss := [[IsI .i64], [IsI .i64, IsI .i64, IsI .i64, IsI .i64, IsI .i64, IsI .i64], [IsI .i64, IsI .i64, IsI .i64, IsI .i64, IsI .i64, IsI .i64, IsI .i64], [IsI .i64, IsI .i64, IsI .i64, IsI .i64, IsI .i64, IsI .i64, IsI .i64, IsI .i64, IsI .i64]]) Tryd.underlying31 (by kernel_rfl) ⟨rfl, by kernel_rfl, opens_int Tryd.underlying3, rfl, by kernel_rfl, opens_fq, rfl, by kernel_rfl, opens_fa, rfl, by kernel_rfl, opens_fp, trivial⟩
theorem came_fm {W : World} {v : Value} (h : Came Tryd.prog W 31 v) : ∃ x : Fm, v = fmV x := by
  obtain ⟨l, rfl, f⟩ := came_struct Tryd.underlying31 opens_fm h
  obtain ⟨x, rfl⟩ := fm_of l f
  exact ⟨x, rfl⟩
set_option maxRecDepth 100000 in
set_option maxHeartbeats 4000000 in
theorem fback_walk (x : Fm) (s : ByteArray) (w : World) (hN : NmAt w) (hW : WdAt w) : Calls Tryd.prog 3 #[fmV x, .string s] w fun e w' => e = .returned (.bool true) ∧ Below w.heap.size w w' := by
  obtain ⟨B, hBB⟩ : ∃ B, B = w.heap.size := ⟨_, rfl⟩
  have HB0 := Lib.hid hBB
  have O1 := Lib.hid (show IsObj (w.alloc (.cells (fmCells x).toArray 31)) B 31 (fmCells x) by rw [hBB]; exact IsObj.new w _ (fmCells x))
  have B1 := Lib.hid (show Below w.heap.size w (w.alloc (.cells (fmCells x).toArray 31)) from (Below.refl _ _).alloc (Nat.le_refl _) _)
  have HN := Lib.hid (hN.same B1.out)
  have HW := Lib.hid (hW.same B1.out)
  clear hBB hN hW
  by_cases h300 : 300 < s.size
  · have hz : (300 : Int) < (s.size : Int) := by omega
    go_enter Tryd.func3, Tryd.ntmps3
    go_upto_region 1 with (fail)
    generalize w.alloc (.cells (fmCells x).toArray 31) = w1 at *
    go_wp2_with (go_at_call 4; refine (awake27 _ HN.out HW.out).mono ?_; rintro e w2 ⟨rfl, b2⟩)
    go_ret
    exact ⟨rfl, B1.out.trans (b2.mono B1.out.size)⟩
  · have hz : ¬ (300 : Int) < (s.size : Int) := by omega
    have KE := fun W h1 h2 => enc_any x W h1 h2
    have KD := fun W h1 h2 => dec_any (encS x) W (by have := encS_sz x; omega) h1 h2
    have KS := fun W h1 h2 => dec_any s W (by omega) h1 h2
    have KF := fun W h1 h2 => enc_any (decB s).f W h1 h2
    -- what comes back of the frame
    obtain ⟨t, ee, hte⟩ : ∃ t ee, encS x = t ∧ encE x = ee := ⟨_, _, rfl, rfl⟩
    obtain ⟨y, ye, hy⟩ : ∃ y ye, (decB (encS x)).f = y ∧ (decB (encS x)).err = ye := ⟨_, _, rfl, rfl⟩
    have F1 := Lib.hid (show (ee = 0 ∧ y = x ∧ ye = 0) ∨ ((ee == 0) = false ∧ (ee != 0) = true ∧ t = ⟨#[]⟩) by
      by_cases h0 : encE x = 0
      · left
        rw [dec_enc x h0] at hy
        exact ⟨by rw [← hte.2, h0], hy.1.symm, hy.2.symm⟩
      · right
        exact ⟨by rw [← hte.2]; simpa using h0, by rw [← hte.2]; simpa using h0, by rw [← hte.1, enc_none x h0]⟩)
    -- the frame of the bytes
    obtain ⟨z, ze, hz2⟩ : ∃ z ze, (decB s).f = z ∧ (decB s).err = ze := ⟨_, _, rfl, rfl⟩
    obtain ⟨u, ue, hu⟩ : ∃ u ue, encS (decB s).f = u ∧ encE (decB s).f = ue := ⟨_, _, rfl, rfl⟩
    have F2 := Lib.hid (show (ze = 0 ∧ u = s ∧ ue = 0) ∨ (ze != 0) = true by
      by_cases h0 : (decB s).err = 0
      · left
        obtain ⟨e1, e2⟩ := enc_dec s h0
        exact ⟨by rw [← hz2.2, h0], by rw [← hu.1, e2], by rw [← hu.2, e1]⟩
      · right
        rw [← hz2.2]; simpa using h0)
    rw [hy.1, hy.2] at KD
    rw [hte.1] at KD
    rw [hte.1, hte.2] at KE
    rw [hz2.1, hz2.2] at KS
    rw [hu.1, hu.2, hz2.1] at KF
    clear hte hy hz2 hu h300
    go_enter Tryd.func3, Tryd.ntmps3
    go_upto_region 1 with (fail)
    rw [← HB0.out]
    generalize w.alloc (.cells (fmCells x).toArray 31) = w1 at *
    have RG := Lib.hid (IsObj.range O1.out)
    go_upto_region 4 with (first | (refine wpList_load_mid (by rfl) 31 _ (by rfl) B 0 (by rfl) (fmCells x) _ (by exact RG.out) Tryd.underlying31 rfl (by kernel_rfl) ?_) | (go_at_call 5; refine (KE _ HN.out HW.out).mono ?_; rintro e w2 ⟨rfl, b2⟩))
    have O2 := Lib.hid (IsObj.below O1.out b2 O1.out.lt)
    have HN2 := Lib.hid (HN.out.same b2)
    have HW2 := Lib.hid (HW.out.same b2)
    have B2 := Lib.hid (B1.out.trans (b2.mono B1.out.size))
    clear b2 O1 HN HW B1 RG KE
    go_wp2_with fail
    refine (KD _ HN2.out HW2.out).mono ?_
    rintro e w3 ⟨rfl, b3⟩
    have O3 := Lib.hid (IsObj.below O2.out b3 O2.out.lt)
    have HN3 := Lib.hid (HN2.out.same b3)
    have HW3 := Lib.hid (HW2.out.same b3)
    have B3 := Lib.hid (B2.out.trans (b3.mono B2.out.size))
    clear b3 O2 HN2 HW2 B2 KD
    have hNV := newvar w3 (fmCells y) [.int .i64 0, .int .i64 0, .int .i64 0, .int .i64 0, .int .i64 0, .int .i64 0, .int .i64 0, .int .i64 0, .int .i64 0, .int .i64 0, .int .i64 0, .int .i64 0, .int .i64 0, .int .i64 0, .int .i64 0, .int .i64 0, .int .i64 0, .int .i64 0, .int .i64 0, .int .i64 0, .int .i64 0, .int .i64 0, .int .i64 0] 31 rfl
    obtain ⟨Y, hY⟩ : ∃ Y, Y = w3.heap.size := ⟨_, rfl⟩
    have HY := Lib.hid hY
    have TH := Lib.hid hNV.1
    have BN := Lib.hid hNV.2.2
    have VY := Lib.hid (show IsObj ((w3.alloc (.cells #[.int .i64 0, .int .i64 0, .int .i64 0, .int .i64 0, .int .i64 0, .int .i64 0, .int .i64 0, .int .i64 0, .int .i64 0, .int .i64 0, .int .i64 0, .int .i64 0, .int .i64 0, .int .i64 0, .int .i64 0, .int .i64 0, .int .i64 0, .int .i64 0, .int .i64 0, .int .i64 0, .int .i64 0, .int .i64 0, .int .i64 0] 31)).setCells w3.heap.size 0 (fmCells y).toArray.toList) Y 31 (fmCells y) by rw [hY]; exact hNV.2.1)
    clear hNV hY
    go_upto_region 5 with (refine wpList_store_mid (by rfl) 31 _ _ (by rfl) w3.heap.size 0 (fmCells y).toArray (by rfl) (by rfl) (by exact TH.out) (by kernel_rfl) (by kernel_rfl) ?_; generalize (w3.alloc (.cells #[.int .i64 0, .int .i64 0, .int .i64 0, .int .i64 0, .int .i64 0, .int .i64 0, .int .i64 0, .int .i64 0, .int .i64 0, .int .i64 0, .int .i64 0, .int .i64 0, .int .i64 0, .int .i64 0, .int .i64 0, .int .i64 0, .int .i64 0, .int .i64 0, .int .i64 0, .int .i64 0, .int .i64 0, .int .i64 0, .int .i64 0] 31)).setCells w3.heap.size 0 (fmCells y).toArray.toList = w4 at *)
    rw [← HY.out]
    clear TH
    have O4 := Lib.hid (IsObj.below O3.out BN.out O3.out.lt)
    have HN4 := Lib.hid (HN3.out.same BN.out)
    have HW4 := Lib.hid (HW3.out.same BN.out)
    have B4 := Lib.hid (B3.out.trans (BN.out.mono B3.out.size))
    clear BN O3 HN3 HW3 B3
    have RB := Lib.hid (IsObj.range O4.out)
    have RY := Lib.hid (IsObj.range VY.out)
    have hq : ∀ w, (binOp .neq 31 (fmV x) (fmV x)).run Tryd.prog w = .ok (.bool false) w := fun w => by rw [fm_neq, fmEq_self]; rfl
    rcases F1.out with ⟨rfl, rfl, rfl⟩ | ⟨hee1, hee2, rfl⟩
    · go_upto_region 7 with (first | (refine wpList_load_midg (by rfl) 31 _ (by rfl) B 0 (by rfl) (fmCells _) _ (by exact RB.out) Tryd.underlying31 rfl (by kernel_rfl) ?_) | (refine wpList_load_midg (by rfl) 31 _ (by rfl) Y 0 (by rfl) (fmCells _) _ (by exact RY.out) Tryd.underlying31 rfl (by kernel_rfl) ?_))
      go_wp2_with fail
      clear F1
      refine (KS _ HN4.out HW4.out).mono ?_
      rintro e w5 ⟨rfl, b5⟩
      have HN5 := Lib.hid (HN4.out.same b5)
      have HW5 := Lib.hid (HW4.out.same b5)
      have B5 := Lib.hid (B4.out.trans (b5.mono B4.out.size))
      clear b5 O4 VY HN4 HW4 B4 KS RB RY
      have hNV := newvar w5 (fmCells z) [.int .i64 0, .int .i64 0, .int .i64 0, .int .i64 0, .int .i64 0, .int .i64 0, .int .i64 0, .int .i64 0, .int .i64 0, .int .i64 0, .int .i64 0, .int .i64 0, .int .i64 0, .int .i64 0, .int .i64 0, .int .i64 0, .int .i64 0, .int .i64 0, .int .i64 0, .int .i64 0, .int .i64 0, .int .i64 0, .int .i64 0] 31 rfl
      obtain ⟨Z, hZ⟩ : ∃ Z, Z = w5.heap.size := ⟨_, rfl⟩
      have HZ := Lib.hid hZ
      have TH := Lib.hid hNV.1
      have BN := Lib.hid hNV.2.2
      have VZ := Lib.hid (show IsObj ((w5.alloc (.cells #[.int .i64 0, .int .i64 0, .int .i64 0, .int .i64 0, .int .i64 0, .int .i64 0, .int .i64 0, .int .i64 0, .int .i64 0, .int .i64 0, .int .i64 0, .int .i64 0, .int .i64 0, .int .i64 0, .int .i64 0, .int .i64 0, .int .i64 0, .int .i64 0, .int .i64 0, .int .i64 0, .int .i64 0, .int .i64 0, .int .i64 0] 31)).setCells w5.heap.size 0 (fmCells z).toArray.toList) Z 31 (fmCells z) by rw [hZ]; exact hNV.2.1)
      clear hNV hZ
      go_upto_region 8 with (refine wpList_store_mid (by rfl) 31 _ _ (by rfl) w5.heap.size 0 (fmCells z).toArray (by rfl) (by rfl) (by exact TH.out) (by kernel_rfl) (by kernel_rfl) ?_; generalize (w5.alloc (.cells #[.int .i64 0, .int .i64 0, .int .i64 0, .int .i64 0, .int .i64 0, .int .i64 0, .int .i64 0, .int .i64 0, .int .i64 0, .int .i64 0, .int .i64 0, .int .i64 0, .int .i64 0, .int .i64 0, .int .i64 0, .int .i64 0, .int .i64 0, .int .i64 0, .int .i64 0, .int .i64 0, .int .i64 0, .int .i64 0, .int .i64 0] 31)).setCells w5.heap.size 0 (fmCells z).toArray.toList = w6 at *)
      rw [← HZ.out]
      clear TH
      have HN6 := Lib.hid (HN5.out.same BN.out)
      have HW6 := Lib.hid (HW5.out.same BN.out)
      have B6 := Lib.hid (B5.out.trans (BN.out.mono B5.out.size))
      clear BN HN5 HW5 B5
      have RZ := Lib.hid (IsObj.range VZ.out)
      go_upto_region 9 with (first | (refine wpList_load_mid (by rfl) 31 _ (by rfl) Z 0 (by rfl) (fmCells z) _ (by exact RZ.out) Tryd.underlying31 rfl (by kernel_rfl) ?_) | (go_at_call 5; refine (KF _ HN6.out HW6.out).mono ?_; rintro e w7 ⟨rfl, b7⟩))
      have HN7 := Lib.hid (HN6.out.same b7)
      have HW7 := Lib.hid (HW6.out.same b7)
      have B7 := Lib.hid (B6.out.trans (b7.mono B6.out.size))
      clear b7 HN6 HW6 B6 RZ KF
      rcases F2.out with ⟨rfl, rfl, rfl⟩ | hze
      · go_wp2_with (go_at_call 4; refine (awake27 _ HN7.out HW7.out).mono ?_; rintro e w8 ⟨rfl, b8⟩)
        go_ret
        exact ⟨rfl, B7.out.trans (b8.mono B7.out.size)⟩
      · go_wp2_with (go_at_call 4; refine (awake27 _ HN7.out HW7.out).mono ?_; rintro e w8 ⟨rfl, b8⟩)
        go_ret
        exact ⟨rfl, B7.out.trans (b8.mono B7.out.size)⟩
    · go_upto_region 7 with fail
      go_wp2_with fail
      clear F1
      refine (KS _ HN4.out HW4.out).mono ?_
      rintro e w5 ⟨rfl, b5⟩
      have HN5 := Lib.hid (HN4.out.same b5)
      have HW5 := Lib.hid (HW4.out.same b5)
      have B5 := Lib.hid (B4.out.trans (b5.mono B4.out.size))
      clear b5 O4 VY HN4 HW4 B4 KS RB RY
      have hNV := newvar w5 (fmCells z) [.int .i64 0, .int .i64 0, .int .i64 0, .int .i64 0, .int .i64 0, .int .i64 0, .int .i64 0, .int .i64 0, .int .i64 0, .int .i64 0, .int .i64 0, .int .i64 0, .int .i64 0, .int .i64 0, .int .i64 0, .int .i64 0, .int .i64 0, .int .i64 0, .int .i64 0, .int .i64 0, .int .i64 0, .int .i64 0, .int .i64 0] 31 rfl
      obtain ⟨Z, hZ⟩ : ∃ Z, Z = w5.heap.size := ⟨_, rfl⟩
      have HZ := Lib.hid hZ
      have TH := Lib.hid hNV.1
      have BN := Lib.hid hNV.2.2
      have VZ := Lib.hid (show IsObj ((w5.alloc (.cells #[.int .i64 0, .int .i64 0, .int .i64 0, .int .i64 0, .int .i64 0, .int .i64 0, .int .i64 0, .int .i64 0, .int .i64 0, .int .i64 0, .int .i64 0, .int .i64 0, .int .i64 0, .int .i64 0, .int .i64 0, .int .i64 0, .int .i64 0, .int .i64 0, .int .i64 0, .int .i64 0, .int .i64 0, .int .i64 0, .int .i64 0] 31)).setCells w5.heap.size 0 (fmCells z).toArray.toList) Z 31 (fmCells z) by rw [hZ]; exact hNV.2.1)
      clear hNV hZ
      go_upto_region 8 with (refine wpList_store_mid (by rfl) 31 _ _ (by rfl) w5.heap.size 0 (fmCells z).toArray (by rfl) (by rfl) (by exact TH.out) (by kernel_rfl) (by kernel_rfl) ?_; generalize (w5.alloc (.cells #[.int .i64 0, .int .i64 0, .int .i64 0, .int .i64 0, .int .i64 0, .int .i64 0, .int .i64 0, .int .i64 0, .int .i64 0, .int .i64 0, .int .i64 0, .int .i64 0, .int .i64 0, .int .i64 0, .int .i64 0, .int .i64 0, .int .i64 0, .int .i64 0, .int .i64 0, .int .i64 0, .int .i64 0, .int .i64 0, .int .i64 0] 31)).setCells w5.heap.size 0 (fmCells z).toArray.toList = w6 at *)
      rw [← HZ.out]
      clear TH
      have HN6 := Lib.hid (HN5.out.same BN.out)
      have HW6 := Lib.hid (HW5.out.same BN.out)
      have B6 := Lib.hid (B5.out.trans (BN.out.mono B5.out.size))
      clear BN HN5 HW5 B5
      have RZ := Lib.hid (IsObj.range VZ.out)
      go_upto_region 9 with (first | (refine wpList_load_mid (by rfl) 31 _ (by rfl) Z 0 (by rfl) (fmCells z) _ (by exact RZ.out) Tryd.underlying31 rfl (by kernel_rfl) ?_) | (go_at_call 5; refine (KF _ HN6.out HW6.out).mono ?_; rintro e w7 ⟨rfl, b7⟩))
      have HN7 := Lib.hid (HN6.out.same b7)
      have HW7 := Lib.hid (HW6.out.same b7)
      have B7 := Lib.hid (B6.out.trans (b7.mono B6.out.size))
      clear b7 HN6 HW6 B6 RZ KF
      rcases F2.out with ⟨rfl, rfl, rfl⟩ | hze
      · go_wp2_with (go_at_call 4; refine (awake27 _ HN7.out HW7.out).mono ?_; rintro e w8 ⟨rfl, b8⟩)
        go_ret
        exact ⟨rfl, B7.out.trans (b8.mono B7.out.size)⟩
      · go_wp2_with (go_at_call 4; refine (awake27 _ HN7.out HW7.out).mono ?_; rintro e w8 ⟨rfl, b8⟩)
        go_ret
        exact ⟨rfl, B7.out.trans (b8.mono B7.out.size)⟩
end Go.Proofs.YtobcjbpgeohbgaaDoor
