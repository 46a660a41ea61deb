/-
  Layer 15 (walk): awake; the statement WalkSteps.
-/
import Derived.Test.YtaokofldpkjloaaWalk3
namespace Go.Proofs.Ytaokofldpkjloaa
open Go.RowKit Go.Shelf
set_option linter.unusedVariables false
set_option linter.unusedSimpArgs false

/-! ### awake -/
def cW : List Int := ofC [4, 4, 2] 3
structure WkAt (w : World) (H : Nat) (W : World) : Prop where
  h : HistAt W (H + 1) 3 cW
  b : Below H w W
theorem WkAt.next {w : World} {H : Nat} {W W' : World} (h : WkAt w H W) (hb : Below W.heap.size W W') : WkAt w H W' := ⟨h.h.same hb, h.b.trans (hb.mono (by have := h.h.o.lt; omega))⟩
section
variable {w : World} {H : Nat} {W : World}
set_option maxRecDepth 100000
theorem wk_d1 (h : WkAt w H W) : Calls Try.prog 27 #[.pointer (some ⟨H + 1, 0, none⟩), .int .i64 3, .int .i64 0, .int .i64 50] W fun e W' => e = .returned (.int .i64 1) ∧ WkAt w H W' := by
  have K := wdown_any (H + 1) 3 cW 3 0 50 W h.h (by omega)
  rw [show downW 3 cW 3 0 50 = 1 by decide +kernel] at K
  exact K.mono fun _ _ ⟨he, hb⟩ => ⟨he, h.next hb⟩
theorem wk_d2 (h : WkAt w H W) : Calls Try.prog 27 #[.pointer (some ⟨H + 1, 0, none⟩), .int .i64 3, .int .i64 0, .int .i64 10] W fun e W' => e = .returned (.int .i64 2) ∧ WkAt w H W' := by
  have K := wdown_any (H + 1) 3 cW 3 0 10 W h.h (by omega)
  rw [show downW 3 cW 3 0 10 = 2 by decide +kernel] at K
  exact K.mono fun _ _ ⟨he, hb⟩ => ⟨he, h.next hb⟩
theorem wk_u1 (h : WkAt w H W) : Calls Try.prog 28 #[.pointer (some ⟨H + 1, 0, none⟩), .int .i64 1, .int .i64 10] W fun e W' => e = .returned (.int .i64 2) ∧ WkAt w H W' := by
  have K := wup_any (H + 1) 3 cW 1 10 W h.h (by omega)
  rw [show upW 3 cW 1 10 = 2 by decide +kernel] at K
  exact K.mono fun _ _ ⟨he, hb⟩ => ⟨he, h.next hb⟩
theorem wk_u2 (h : WkAt w H W) : Calls Try.prog 28 #[.pointer (some ⟨H + 1, 0, none⟩), .int .i64 2, .int .i64 90] W fun e W' => e = .returned (.int .i64 3) ∧ WkAt w H W' := by
  have K := wup_any (H + 1) 3 cW 2 90 W h.h (by omega)
  rw [show upW 3 cW 2 90 = 3 by decide +kernel] at K
  exact K.mono fun _ _ ⟨he, hb⟩ => ⟨he, h.next hb⟩
theorem wk_p (h : WkAt w H W) : Calls Try.prog 46 #[.pointer (some ⟨H + 1, 0, none⟩), .int .i64 2] W fun e W' => e = .returned (.int .i64 8) ∧ WkAt w H W' := by
  have K := passed_any (H + 1) 3 cW 2 W h.h (by omega)
  rw [show belowH 3 cW (keep 2 (3 : Nat)) = 8 by decide +kernel] at K
  exact K.mono fun _ _ ⟨he, hb⟩ => ⟨he, h.next hb⟩
theorem wk_s (h : WkAt w H W) : Calls Try.prog 47 #[.pointer (some ⟨H + 1, 0, none⟩), .int .i64 2] W fun e W' => e = .returned (.int .i64 2) ∧ WkAt w H W' := by
  have K := wstops_any (H + 1) 3 cW 2 W h.h (by omega)
  rw [show bSub (belowH 3 cW 128) (belowH 3 cW (keep 2 (3 : Nat))) = 2 by decide +kernel] at K
  exact K.mono fun _ _ ⟨he, hb⟩ => ⟨he, h.next hb⟩
end
theorem of3 (H : Nat) (w : World) (h : IntsAt w (some ⟨H, 0, none⟩) [4, 4, 2]) (hs : w.heap.size = H + 1) : Calls Try.prog 25 #[.slice (some ⟨H, 0, none⟩) 3 3] w fun e w' => ∃ a c', e = .returned (.tuple #[.slice a 3 c', .pointer (some ⟨H + 1, 0, none⟩)]) ∧ HistAt w' (H + 1) 3 cW ∧ Below (H + 1) w w' := by
  rcases h with h | ⟨b, off, h, hc⟩
  · simp at h
  · cases h
    have K := of_any H 0 3 [4, 4, 2] 3 w rfl (by omega) (by simp) (by omega) hc
    rw [hs] at K
    exact K
set_option maxRecDepth 100000 in
set_option maxHeartbeats 4000000 in
theorem wawake_any' (w : World) : Calls Try.prog 30 #[] w fun e w' => e = .returned (.bool true) ∧ Below w.heap.size w w' := by
  obtain ⟨H, hH⟩ : ∃ H, H = w.heap.size := ⟨_, rfl⟩
  have b0 : Below H w (w.alloc (.cells #[.int .i64 4, .int .i64 4, .int .i64 2] 3)) := by rw [hH]; exact (Below.refl _ w).alloc (Nat.le_refl _) _
  have l0 : IntsAt (w.alloc (.cells #[.int .i64 4, .int .i64 4, .int .i64 2] 3)) (some ⟨H, 0, none⟩) [4, 4, 2] := by rw [hH]; exact intsAt_new w 3 [4, 4, 2]
  have K := Lib.hid (of3 H _ l0 (by simp [hH]))
  have B0 := Lib.hid b0
  have HH := Lib.hid hH
  have hn2 : w.heap.size ≤ H := by omega
  clear b0 l0 hH
  go_enter Try.func30, Try.ntmps30
  go_wp2_with fail
  rw [← HH.out]
  refine K.out.mono ?_
  rintro e w1 ⟨a, c', rfl, h1, b1⟩
  have wk := Lib.hid (show WkAt w H w1 from ⟨h1, B0.out.trans (b1.mono (by omega))⟩)
  clear h1 b1 K B0
  go_wp2_with (first
    | (go_at_call 27; (with_reducible refine (wk_d1 wk.out).mono ?_); (rintro e w' ⟨rfl, st⟩; replace wk := Lib.hid st; clear st))
    | (go_at_call 27; (with_reducible refine (wk_d2 wk.out).mono ?_); (rintro e w' ⟨rfl, st⟩; replace wk := Lib.hid st; clear st))
    | (go_at_call 28; (with_reducible refine (wk_u1 wk.out).mono ?_); (rintro e w' ⟨rfl, st⟩; replace wk := Lib.hid st; clear st))
    | (go_at_call 28; (with_reducible refine (wk_u2 wk.out).mono ?_); (rintro e w' ⟨rfl, st⟩; replace wk := Lib.hid st; clear st))
    | (go_at_call 46; (with_reducible refine (wk_p wk.out).mono ?_); (rintro e w' ⟨rfl, st⟩; replace wk := Lib.hid st; clear st))
    | (go_at_call 47; (with_reducible refine (wk_s wk.out).mono ?_); (rintro e w' ⟨rfl, st⟩; replace wk := Lib.hid st; clear st))
    | (go_at_call 29; (with_reducible refine (wsteps_any 2 5 _ (by omega) (by omega) (by omega) (by omega)).mono ?_); rintro e w' ⟨rfl, rfl⟩))
  go_ret
  exact ⟨rfl, wk.out.b.mono hn2⟩

/-! ### WalkSteps -/
/-- What the law knows of its histogram: where a threshold goes. -/
structure WKit (b0 b1 : Int) (n : Nat) (hv : Value) (R : World → Prop) (D : Int → Int → Int) (U : Int → Int) : Prop where
  keep : ∀ W W', R W → Below W.heap.size W W' → R W'
  cD : ∀ (W : World) (t f : Int), R W → 0 ≤ t → t ≤ n → 0 ≤ f → f ≤ n → Calls Try.prog 27 #[hv, .int .i64 t, .int .i64 f, .int .i64 b0] W fun e W' => e = .returned (.int .i64 (D t f)) ∧ Below W.heap.size W W'
  cU : ∀ (W : World) (t : Int), R W → 0 ≤ t → t ≤ n → Calls Try.prog 28 #[hv, .int .i64 t, .int .i64 b1] W fun e W' => e = .returned (.int .i64 (U t)) ∧ Below W.heap.size W W'
  sD : ∀ t f : Int, 0 ≤ t → t ≤ n → 0 ≤ f → f ≤ n → (t ≤ f → D t f = t) ∧ (f < t → f ≤ D t f ∧ D t f < t)
  sU : ∀ t : Int, 0 ≤ t → t ≤ n → U t ≤ n ∧ (t < n → t < U t) ∧ (t = n → U t = n)
theorem two_keepw {W W1 : World} {b : Nat} {v1 v2 : Value} (hb : Below W.heap.size W W1) (h : W.cell? ⟨b, 0, none⟩ = some v1 ∧ W.cell? ⟨b, 1, none⟩ = some v2) : W1.cell? ⟨b, 0, none⟩ = some v1 ∧ W1.cell? ⟨b, 1, none⟩ = some v2 := ⟨cell_keep hb h.1, cell_keep hb h.2⟩
set_option maxRecDepth 100000 in
set_option maxHeartbeats 4000000 in
theorem steps_walk (v : Value) (to0 to1 b0 b1 : Int) (n : Nat) (w : World) (hn : n ≤ 128)
    (cOf : ∀ W, Below w.heap.size w W → Calls Try.prog 25 #[v] W fun e W' => ∃ a c' hv R D U, e = .returned (.tuple #[.slice a n c', hv]) ∧ WKit b0 b1 n hv R D U ∧ R W' ∧ Below W.heap.size W W') :
    Calls Try.prog 6 #[v, .agg #[.int .i64 to0, .int .i64 to1], .agg #[.int .i64 b0, .int .i64 b1]] w fun e w' => e = .returned (.bool true) ∧ Below w.heap.size w w' := by
  obtain ⟨H, hH⟩ : ∃ H, H = w.heap.size := ⟨_, rfl⟩
  obtain ⟨W2, hW2⟩ : ∃ W2, W2 = (w.alloc (.cells #[.int .i64 to0, .int .i64 to1] 49)).alloc (.cells #[.int .i64 b0, .int .i64 b1] 49) := ⟨_, rfl⟩
  have bb : Below H w W2 := by rw [hH, hW2]; exact ((Below.refl _ w).alloc (Nat.le_refl _) _).alloc (by simp) _
  have oo : IsObj W2 H 49 [.int .i64 to0, .int .i64 to1] := by rw [hH, hW2]; exact (IsObj.new w _ [.int .i64 to0, .int .i64 to1]).alloc _
  have ob : IsObj W2 (H + 1) 49 [.int .i64 b0, .int .i64 b1] := by
    have h := IsObj.new (w.alloc (.cells #[.int .i64 to0, .int .i64 to1] 49)) 49 [.int .i64 b0, .int .i64 b1]
    rw [World.size_alloc] at h
    rw [hH, hW2]; exact h
  have C := Lib.hid (cOf W2 (by rw [← hH]; exact bb))
  have BB := Lib.hid bb
  have OO := Lib.hid oo
  have OB := Lib.hid ob
  have HH := Lib.hid hH
  have HW := Lib.hid hW2
  have hs2 : H + 1 < W2.heap.size := ob.lt
  have hn2 : w.heap.size ≤ H := by omega
  clear bb oo ob hH hW2 cOf
  go_enter Try.func6, Try.ntmps6
  go_wp2_with fail
  rw [← HW.out, ← HH.out]
  refine C.out.mono ?_
  rintro e w1 ⟨a, c', hv, R, D, U, rfl, kit, hr, hb1⟩
  have O1 := Lib.hid (IsObj.below OO.out hb1 (by omega))
  have P1 := Lib.hid (IsObj.below OB.out hb1 (by omega))
  have B1 := Lib.hid (BB.out.trans (hb1.mono (by omega)))
  have R1 := Lib.hid hr
  have kt := Lib.hid kit
  have hs1 : H + 1 < w1.heap.size := P1.out.lt
  clear hb1 hr kit C BB OO OB HW hs2
  have d0 := O1.out.cell 0
  have d1 := O1.out.cell 1
  simp only [List.getElem?_cons_succ, List.getElem?_cons_zero] at d0 d1
  go_wp2_with fail
  go_quiet ((first | (go_at_call 26; first | (with_reducible exact quiet_left (rkeep_any _ _ _)) | (with_reducible exact quiet_add_left (rkeep_any _ _ _)))))
  have t0 := keep_nn to0 n
  have t1 := keep_le to0 n (by omega)
  have f0 := keep_nn to1 n
  have f1 := keep_le to1 n (by omega)
  generalize keep to0 n = t at *
  generalize keep to1 n = f at *
  have hbd : Below w1.heap.size w1 (w1.drewN nq) := below_drewN (Below.refl _ _) nq
  have O2 := Lib.hid (IsObj.below O1.out hbd (by omega))
  have P2 := Lib.hid (IsObj.below P1.out hbd (by omega))
  have B2 := Lib.hid (B1.out.trans (hbd.mono (by omega)))
  have R2 := Lib.hid (kt.out.keep _ _ R1.out hbd)
  have hs2 : H + 1 < (w1.drewN nq).heap.size := P2.out.lt
  clear hbd O1 P1 B1 R1 d0 d1
  generalize w1.drewN nq = w2 at *
  have d0 := P2.out.cell 0
  have d1 := P2.out.cell 1
  simp only [List.getElem?_cons_succ, List.getElem?_cons_zero] at d0 d1
  have RD := Lib.hid (kt.out.keep _ _ R2.out ((Below.refl w2.heap.size w2).drew))
  go_wp2_with fail
  go_region_held3 (fun w' => w'.cell? ⟨H + 1, 0, none⟩ = some (.int .i64 b0) ∧ w'.cell? ⟨H + 1, 1, none⟩ = some (.int .i64 b1)) (first | go_keep | assumption)
    (first
      | (go_at_call 27; with_reducible refine (kt.out.cD _ t f RD.out t0 t1 f0 f1).mono ?_; rintro e y0 ⟨rfl, hb0⟩; have hk0 := two_keepw hb0 (by assumption))
      | (go_at_call 28; with_reducible refine (kt.out.cU _ t (kt.out.keep _ _ RD.out hb0) t0 t1).mono ?_; rintro e y1 ⟨rfl, hb1⟩; have hk1 := two_keepw hb1 (by assumption)))
  have hd := kt.out.sD t f t0 t1 f0 f1
  have hu := kt.out.sU t t0 t1
  have h23 : Below w2.heap.size w2 y1 := (show Below w2.heap.size w2 y0 from below_drew_left hb0).trans (hb1.mono (show w2.heap.size ≤ y0.heap.size from (below_drew_left hb0).size))
  have O3 := Lib.hid (IsObj.below O2.out h23 (by omega))
  have P3 := Lib.hid (IsObj.below P2.out h23 (by omega))
  have B3 := Lib.hid (B2.out.trans (h23.mono (by omega)))
  have R3 := Lib.hid (kt.out.keep _ _ R2.out h23)
  have hs3 : H + 1 < y1.heap.size := P3.out.lt
  clear h23 hb0 hb1 hk0 hk1 O2 P2 B2 R2 RD d0 d1
  generalize D t f = d at *
  generalize U t = u at *
  obtain ⟨hd1, hd2⟩ := hd
  obtain ⟨hu1, hu2, hu3⟩ := hu
  by_cases hft : f < t
  · obtain ⟨hd3, hd4⟩ := hd2 hft
    clear hd1 hd2
    by_cases htn : t < n
    · have hu4 := hu2 htn
      clear hu2 hu3
      go_wp2_with fail
      go_loopw [13, 14] (fun kv iv wr => ∃ (i : Nat) (x : Int), t + (i : Int) ≤ x ∧ x ≤ n ∧ (i : Int) ≤ (n : Int) - t ∧ kv = .int .i64 x ∧ iv = .int .i64 i ∧ Below y1.heap.size y1 wr) (fun _ iv _ => n - (intOf iv).toNat)
      case atStart => exact ⟨0, t, by omega, t1, by omega, rfl, rfl, Below.refl _ _⟩
      case round =>
        obtain ⟨i, x, x0, x1, x2, rfl, rfl, hbr⟩ := hrel
        have P4 := Lib.hid (IsObj.below P3.out hbr (by omega))
        have O4 := Lib.hid (IsObj.below O3.out hbr (by omega))
        have R4 := Lib.hid (kt.out.keep _ _ R3.out hbr)
        have HBr := Lib.hid hbr
        have hszr := hbr.size
        have d1 := P4.out.cell 1
        have d0 := O4.out.cell 0
        simp only [List.getElem?_cons_succ, List.getElem?_cons_zero] at d0 d1
        clear hbr
        have KS := Lib.hid (fun w => wsteps_any t n w t0 (by omega) (by omega) (by omega))
        rw [show max ((n : Int) - t) 0 = (n : Int) - t by omega] at KS
        by_cases hlt : (i : Int) < (n : Int) - t
        · go_wp2_with (go_at_call 29; (with_reducible refine (KS.out _).mono ?_); rintro e w' ⟨rfl, rfl⟩)
          refine (kt.out.cU _ x R4.out (by omega) x1).mono ?_
          rintro e w9 ⟨rfl, hb9⟩
          have hU := kt.out.sU x (by omega) x1
          have B9 := Lib.hid (HBr.out.trans (hb9.mono hszr))
          clear hb9
          generalize U x = y at *
          go_wp2_with fail
          go_roundw
          case rel => exact ⟨i + 1, y, by omega, by omega, by omega, rfl, by go_num, B9.out⟩
          case measure => simp [intOf]; omega
        · obtain rfl : x = n := by omega
          have q1 : (n : Int) - t ≤ (i : Int) := by omega
          have B9 := Lib.hid (B3.out.trans (HBr.out.mono (by omega)))
          go_wp2_with (first | (go_at_call 29; (with_reducible refine (KS.out _).mono ?_); rintro e w' ⟨rfl, rfl⟩) | (go_at_call 29; (with_reducible refine (wsteps_same _ _).mono ?_); rintro e w' ⟨rfl, rfl⟩) | (go_at_call 30; refine (wawake_any' _).mono ?_; rintro e w9 ⟨rfl, hb9⟩))
          go_ret
          exact ⟨rfl, (B9.out.mono hn2).trans (hb9.mono (by omega))⟩
    · have hu4 : (n : Int) ≤ t := by omega
      clear hu2 hu3
      go_wp2_with fail
      go_loopw [13, 14] (fun kv iv wr => ∃ (i : Nat) (x : Int), t + (i : Int) ≤ x ∧ x ≤ n ∧ (i : Int) ≤ (n : Int) - t ∧ kv = .int .i64 x ∧ iv = .int .i64 i ∧ Below y1.heap.size y1 wr) (fun _ iv _ => n - (intOf iv).toNat)
      case atStart => exact ⟨0, t, by omega, t1, by omega, rfl, rfl, Below.refl _ _⟩
      case round =>
        obtain ⟨i, x, x0, x1, x2, rfl, rfl, hbr⟩ := hrel
        have P4 := Lib.hid (IsObj.below P3.out hbr (by omega))
        have O4 := Lib.hid (IsObj.below O3.out hbr (by omega))
        have R4 := Lib.hid (kt.out.keep _ _ R3.out hbr)
        have HBr := Lib.hid hbr
        have hszr := hbr.size
        have d1 := P4.out.cell 1
        have d0 := O4.out.cell 0
        simp only [List.getElem?_cons_succ, List.getElem?_cons_zero] at d0 d1
        clear hbr
        have KS := Lib.hid (fun w => wsteps_any t n w t0 (by omega) (by omega) (by omega))
        rw [show max ((n : Int) - t) 0 = (n : Int) - t by omega] at KS
        by_cases hlt : (i : Int) < (n : Int) - t
        · go_wp2_with (go_at_call 29; (with_reducible refine (KS.out _).mono ?_); rintro e w' ⟨rfl, rfl⟩)
          refine (kt.out.cU _ x R4.out (by omega) x1).mono ?_
          rintro e w9 ⟨rfl, hb9⟩
          have hU := kt.out.sU x (by omega) x1
          have B9 := Lib.hid (HBr.out.trans (hb9.mono hszr))
          clear hb9
          generalize U x = y at *
          go_wp2_with fail
          go_roundw
          case rel => exact ⟨i + 1, y, by omega, by omega, by omega, rfl, by go_num, B9.out⟩
          case measure => simp [intOf]; omega
        · obtain rfl : x = n := by omega
          have q1 : (n : Int) - t ≤ (i : Int) := by omega
          have B9 := Lib.hid (B3.out.trans (HBr.out.mono (by omega)))
          go_wp2_with (first | (go_at_call 29; (with_reducible refine (KS.out _).mono ?_); rintro e w' ⟨rfl, rfl⟩) | (go_at_call 29; (with_reducible refine (wsteps_same _ _).mono ?_); rintro e w' ⟨rfl, rfl⟩) | (go_at_call 30; refine (wawake_any' _).mono ?_; rintro e w9 ⟨rfl, hb9⟩))
          go_ret
          exact ⟨rfl, (B9.out.mono hn2).trans (hb9.mono (by omega))⟩
  · have hd3 := (hd1 (by omega)).symm
    have hft2 : t ≤ f := by omega
    subst hd3
    clear hd2
    by_cases htn : t < n
    · have hu4 := hu2 htn
      clear hu2 hu3
      go_wp2_with fail
      go_loopw [13, 14] (fun kv iv wr => ∃ (i : Nat) (x : Int), t + (i : Int) ≤ x ∧ x ≤ n ∧ (i : Int) ≤ (n : Int) - t ∧ kv = .int .i64 x ∧ iv = .int .i64 i ∧ Below y1.heap.size y1 wr) (fun _ iv _ => n - (intOf iv).toNat)
      case atStart => exact ⟨0, t, by omega, t1, by omega, rfl, rfl, Below.refl _ _⟩
      case round =>
        obtain ⟨i, x, x0, x1, x2, rfl, rfl, hbr⟩ := hrel
        have P4 := Lib.hid (IsObj.below P3.out hbr (by omega))
        have O4 := Lib.hid (IsObj.below O3.out hbr (by omega))
        have R4 := Lib.hid (kt.out.keep _ _ R3.out hbr)
        have HBr := Lib.hid hbr
        have hszr := hbr.size
        have d1 := P4.out.cell 1
        have d0 := O4.out.cell 0
        simp only [List.getElem?_cons_succ, List.getElem?_cons_zero] at d0 d1
        clear hbr
        have KS := Lib.hid (fun w => wsteps_any t n w t0 (by omega) (by omega) (by omega))
        rw [show max ((n : Int) - t) 0 = (n : Int) - t by omega] at KS
        by_cases hlt : (i : Int) < (n : Int) - t
        · go_wp2_with (go_at_call 29; (with_reducible refine (KS.out _).mono ?_); rintro e w' ⟨rfl, rfl⟩)
          refine (kt.out.cU _ x R4.out (by omega) x1).mono ?_
          rintro e w9 ⟨rfl, hb9⟩
          have hU := kt.out.sU x (by omega) x1
          have B9 := Lib.hid (HBr.out.trans (hb9.mono hszr))
          clear hb9
          generalize U x = y at *
          go_wp2_with fail
          go_roundw
          case rel => exact ⟨i + 1, y, by omega, by omega, by omega, rfl, by go_num, B9.out⟩
          case measure => simp [intOf]; omega
        · obtain rfl : x = n := by omega
          have q1 : (n : Int) - t ≤ (i : Int) := by omega
          have B9 := Lib.hid (B3.out.trans (HBr.out.mono (by omega)))
          go_wp2_with (first | (go_at_call 29; (with_reducible refine (KS.out _).mono ?_); rintro e w' ⟨rfl, rfl⟩) | (go_at_call 29; (with_reducible refine (wsteps_same _ _).mono ?_); rintro e w' ⟨rfl, rfl⟩) | (go_at_call 30; refine (wawake_any' _).mono ?_; rintro e w9 ⟨rfl, hb9⟩))
          go_ret
          exact ⟨rfl, (B9.out.mono hn2).trans (hb9.mono (by omega))⟩
    · have hu4 : (n : Int) ≤ t := by omega
      clear hu2 hu3
      go_wp2_with fail
      go_loopw [13, 14] (fun kv iv wr => ∃ (i : Nat) (x : Int), t + (i : Int) ≤ x ∧ x ≤ n ∧ (i : Int) ≤ (n : Int) - t ∧ kv = .int .i64 x ∧ iv = .int .i64 i ∧ Below y1.heap.size y1 wr) (fun _ iv _ => n - (intOf iv).toNat)
      case atStart => exact ⟨0, t, by omega, t1, by omega, rfl, rfl, Below.refl _ _⟩
      case round =>
        obtain ⟨i, x, x0, x1, x2, rfl, rfl, hbr⟩ := hrel
        have P4 := Lib.hid (IsObj.below P3.out hbr (by omega))
        have O4 := Lib.hid (IsObj.below O3.out hbr (by omega))
        have R4 := Lib.hid (kt.out.keep _ _ R3.out hbr)
        have HBr := Lib.hid hbr
        have hszr := hbr.size
        have d1 := P4.out.cell 1
        have d0 := O4.out.cell 0
        simp only [List.getElem?_cons_succ, List.getElem?_cons_zero] at d0 d1
        clear hbr
        have KS := Lib.hid (fun w => wsteps_any t n w t0 (by omega) (by omega) (by omega))
        rw [show max ((n : Int) - t) 0 = (n : Int) - t by omega] at KS
        by_cases hlt : (i : Int) < (n : Int) - t
        · go_wp2_with (go_at_call 29; (with_reducible refine (KS.out _).mono ?_); rintro e w' ⟨rfl, rfl⟩)
          refine (kt.out.cU _ x R4.out (by omega) x1).mono ?_
          rintro e w9 ⟨rfl, hb9⟩
          have hU := kt.out.sU x (by omega) x1
          have B9 := Lib.hid (HBr.out.trans (hb9.mono hszr))
          clear hb9
          generalize U x = y at *
          go_wp2_with fail
          go_roundw
          case rel => exact ⟨i + 1, y, by omega, by omega, by omega, rfl, by go_num, B9.out⟩
          case measure => simp [intOf]; omega
        · obtain rfl : x = n := by omega
          have q1 : (n : Int) - t ≤ (i : Int) := by omega
          have B9 := Lib.hid (B3.out.trans (HBr.out.mono (by omega)))
          go_wp2_with (first | (go_at_call 29; (with_reducible refine (KS.out _).mono ?_); rintro e w' ⟨rfl, rfl⟩) | (go_at_call 29; (with_reducible refine (wsteps_same _ _).mono ?_); rintro e w' ⟨rfl, rfl⟩) | (go_at_call 30; refine (wawake_any' _).mono ?_; rintro e w9 ⟨rfl, hb9⟩))
          go_ret
          exact ⟨rfl, (B9.out.mono hn2).trans (hb9.mono (by omega))⟩

theorem kit_nil (b0 b1 : Int) : WKit b0 b1 0 (.pointer none) (fun _ => True) (fun _ _ => 0) (fun _ => 0) where
  keep := fun _ _ _ _ => trivial
  cD := fun W t f _ _ _ _ _ => wdown_nil t f b0 W
  cU := fun W t _ _ _ => wup_nil t b1 W
  sD := fun t f h1 h2 h3 h4 => ⟨fun _ => by omega, fun h => by omega⟩
  sU := fun t h1 h2 => ⟨by simp, fun h => by omega, fun _ => by simp⟩
theorem kit_his (b0 b1 : Int) (B n : Nat) (c : List Int) (h1 : 1 ≤ n) : WKit b0 b1 n (.pointer (some ⟨B, 0, none⟩)) (fun W => HistAt W B n c) (fun t f => downW n c t f b0) (fun t => upW n c t b1) where
  keep := fun _ _ h hb => h.same hb
  cD := fun W t f h _ _ _ _ => wdown_any B n c t f b0 W h h1
  cU := fun W t h _ _ => wup_any B n c t b1 W h h1
  sD := fun t f t0 t1 f0 f1 => down_rng n c t f b0 t0 t1 f0 f1
  sU := fun t t0 t1 => up_rng n c t b1 t0 t1
theorem of_kit (a : Option Addr) (c : Nat) (l : List Int) (w : World) (g1 : l.length ≤ c) (g2 : c ≤ 9223372036854775807) (hA : IntsAt w a l) (b0 b1 : Int) (W : World) (hb : Below w.heap.size w W) :
    Calls Try.prog 25 #[.slice a l.length c] W fun e W' => ∃ a c' hv R D U, e = .returned (.tuple #[.slice a (min l.length 128) c', hv]) ∧ WKit b0 b1 (min l.length 128) hv R D U ∧ R W' ∧ Below W.heap.size W W' := by
  by_cases h0 : l.length = 0
  · rw [h0]
    refine (of_zero a c W).mono ?_
    rintro e W' ⟨rfl, rfl⟩
    exact ⟨none, 0, .pointer none, _, _, _, rfl, kit_nil b0 b1, trivial, Below.refl _ _⟩
  · rcases hA.same hb with rfl | ⟨b, off, rfl, hc⟩
    · simp at h0
    · refine (of_any b off c l (min l.length 128) W rfl (by omega) g1 g2 hc).mono ?_
      rintro e W' ⟨a', c', rfl, h, hb'⟩
      exact ⟨a', c', _, _, _, _, rfl, kit_his b0 b1 W.heap.size (min l.length 128) _ (by omega), h, hb'⟩
theorem wsteps_done : Walk 6 Try.f6 := by
  intro W args hs hc
  rw [Try.params6] at hs hc
  obtain ⟨l⟩ := args
  match l, hs with
  | [v0, v1, v2], _ =>
    obtain ⟨l, a, c, rfl, g1, g2, hl⟩ := ints_of_sl (came_slice Try.underlying22 (ps := [IsI .i64]) (by kernel_rfl) (opens_int Try.underlying3) (hc 0 22 v0 rfl rfl))
    obtain ⟨l1, rfl, f1⟩ := came_array Try.underlying49 (opens_array (s := [IsI .i64]) Try.underlying49 (by kernel_rfl) (by kernel_rfl) (opens_int Try.underlying3)) (hc 1 49 v1 rfl rfl)
    obtain ⟨_, _, rfl, ⟨x0, rfl, _⟩, f1a⟩ := fits_cons f1
    obtain ⟨_, _, rfl, ⟨x1, rfl, _⟩, f1b⟩ := fits_cons f1a
    obtain rfl := fits_nil f1b
    obtain ⟨l2, rfl, f2⟩ := came_array Try.underlying49 (opens_array (s := [IsI .i64]) Try.underlying49 (by kernel_rfl) (by kernel_rfl) (opens_int Try.underlying3)) (hc 2 49 v2 rfl rfl)
    obtain ⟨_, _, rfl, ⟨y0, rfl, _⟩, f2a⟩ := fits_cons f2
    obtain ⟨_, _, rfl, ⟨y1, rfl, _⟩, f2b⟩ := fits_cons f2a
    obtain rfl := fits_nil f2b
    exact steps_walk _ x0 x1 y0 y1 (min l.length 128) W (by omega) (fun W' hb => of_kit a c l W g1 g2 hl y0 y1 W' hb)
end Go.Proofs.Ytaokofldpkjloaa
