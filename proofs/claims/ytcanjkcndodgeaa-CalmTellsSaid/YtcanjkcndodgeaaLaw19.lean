/-
  The statements of layer 19 (calm): CalmTells, CalmGrows. No condition.
-/
import Derived.Test.YtcanjkcndodgeaaCalm
namespace Go.Proofs.Ytcanjkcndodgeaa
open Go.RowKit

set_option maxHeartbeats 2000000 in
theorem tells_walk (k0 k1 k2 k3 k4 k5 k6 : Int) (a b c d : Int) (w : World) : Calls Try.prog 11 #[.agg #[.int .i64 k0, .int .i64 k1, .int .i64 k2, .int .i64 k3, .int .i64 k4, .int .i64 k5, .int .i64 k6], .agg #[.int .i64 a, .int .i64 b], .agg #[.int .i64 c, .int .i64 d]] w fun e w' => e = .returned (.bool true) ∧ Below w.heap.size w w' := by
  have e1 : (caWin k5 k6 a b c d == bAdd (caOpen k5 a b) (caBright k6 c d)) = true := by simp [caWin]
  have e2 : (caWin k5 k6 0 b 0 d == bAdd (caOpen k5 0 b) (caBright k6 0 d)) = true := by simp [caWin]
  go_enter Try.func11, Try.ntmps11
  go_wp2_with fail
  ((first | (with_reducible refine region_ext2 (by kernel_rfl) (by kernel_rfl) ?_) | (refine region_ext (by kernel_rfl) (by kernel_rfl) ?_)); (repeat (quiet_step ((first | (go_at_call 53; with_reducible exact ext_below (ropen_any _ _ _ _ _ _ _ _ _ _)) | (go_at_call 54; with_reducible exact ext_below (rbright_any _ _ _ _ _ _ _ _ _ _)))))); refine wpQuiet_nil ?_; rintro _ ⟨uq, rfl⟩)
  go_wp2_with fail
  ((first | (with_reducible refine region_ext2 (by kernel_rfl) (by kernel_rfl) ?_) | (refine region_ext (by kernel_rfl) (by kernel_rfl) ?_)); (repeat (quiet_step ((first | (go_at_call 55; with_reducible exact ext_below (cfirst_any _ _ _ _ _ _ _ _)) | (go_at_call 56; with_reducible exact ext_below (rfirst_any _ _ _ _ _ _ _ _)) | (go_at_call 57; with_reducible exact ext_below (copen_any _ _ _ _ _ _ _ _ _ _)) | (go_at_call 58; with_reducible exact ext_below (cbright_any _ _ _ _ _ _ _ _ _ _)) | (go_at_call 59; with_reducible exact ext_below (cwindows_any _ _ _ _ _ _ _ _ _ _ _ _)) | (go_at_call 18; with_reducible exact ext_same (radd_any _ _ _)) | (go_at_call 60; with_reducible exact ext_below (cworst_any _ _ _ _ _ _ _ _ _ _)) | (go_at_call 53; with_reducible exact ext_below (ropen_any _ _ _ _ _ _ _ _ _ _)) | (go_at_call 54; with_reducible exact ext_below (rbright_any _ _ _ _ _ _ _ _ _ _)) | (go_at_call 61; with_reducible exact ext_below (awake19 _)))))); refine wpQuiet_nil ?_; rintro _ ⟨uq, rfl⟩)
  go_wp2_with fail
  go_ret
  exact ⟨rfl, below_ext _ ((((Below.refl _ _).alloc (Nat.le_refl _) _).alloc (by simp) _).alloc (by simp; omega) _) (by simp; omega)⟩

theorem cnt_mono (a b : Int) (h : a ≤ b) : cnt a ≤ cnt b := keep_mono a b _ h
theorem bAdd_mono (a b c d : Int) (h : a ≤ b) (h2 : c ≤ d) : bAdd a c ≤ bAdd b d := by
  have := cnt_mono a b h
  have := cnt_mono c d h2
  exact cnt_mono _ _ (by omega)
theorem bAdd_pos (a b : Int) (h : 1 ≤ a ∨ 1 ≤ b) : 1 ≤ bAdd a b := by
  have := cnt_nn a
  have := cnt_nn b
  unfold bAdd cnt keep
  unfold cnt keep at *
  omega
theorem bMul_mono (a b c : Int) (h : b ≤ c) : bMul a b ≤ bMul a c := by
  have h1 := cnt_mono b c h
  exact cnt_mono _ _ (Int.mul_le_mul_of_nonneg_left h1 (cnt_nn a))
theorem bMul_pos (a b : Int) (h : 1 ≤ a) (h2 : 1 ≤ b) : 1 ≤ bMul a b := by
  have h1 : 1 ≤ cnt a := by unfold cnt keep; omega
  have h3 : 1 ≤ cnt b := by unfold cnt keep; omega
  have := Int.mul_le_mul h1 h3 (by omega) (by omega)
  unfold bMul
  have h4 := cnt_mono _ _ this
  have h5 : cnt (1 * 1) = 1 := rfl
  rw [h5] at h4
  exact h4
theorem caOpen_mono (t a b l : Int) (h : a ≤ b) : caOpen t b l ≤ caOpen t a l := by
  have h1 := cnt_mono a b h
  have hs : caSteps b l ≤ caSteps a l := by unfold caSteps; omega
  obtain ⟨s1, s2⟩ := caSteps_rng a l
  obtain ⟨s3, s4⟩ := caSteps_rng b l
  unfold caOpen
  have := bAdd_rng (caOne t - 1) (caSteps a l)
  have := bAdd_mono (caOne t - 1) (caOne t - 1) _ _ (by omega) hs
  split <;> split <;> omega
theorem caBright_mono (t a b l : Int) (h : a ≤ b) : caBright t b l ≤ caBright t a l := by
  have h1 := cnt_mono a b h
  exact bMul_mono _ _ _ (by unfold caSteps; omega)
theorem caWin_mono (t u a b l c d n : Int) (h : a ≤ b) (h2 : c ≤ d) : caWin t u b l d n ≤ caWin t u a l c n := bAdd_mono _ _ _ _ (caOpen_mono t a b l h) (caBright_mono u c d n h2)
theorem caOpen_zero (t a l : Int) (h : l ≤ a) : caOpen t a l = 0 := by
  have h1 := cnt_mono l a h
  unfold caOpen
  rw [if_pos (by unfold caSteps; omega)]
theorem caBright_zero (t a l : Int) (h : l ≤ a) : caBright t a l = 0 := by
  have h1 := cnt_mono l a h
  unfold caBright bMul
  rw [show caSteps a l = 0 by unfold caSteps; omega, show cnt 0 = 0 from rfl, Int.mul_zero]
  rfl
theorem caWin_zero (t u a l c n : Int) (h : l ≤ a) (h2 : n ≤ c) : caWin t u a l c n = 0 := by
  unfold caWin
  rw [caOpen_zero t a l h, caBright_zero u c n h2]
  rfl
theorem caSteps_pos (a l : Int) (h0 : 0 ≤ a) (h1 : l ≤ 65535) (h : a < l) : 1 ≤ caSteps a l := by
  unfold caSteps
  rw [cnt_id l (by omega) (by omega), cnt_id a (by omega) (by omega)]
  omega
theorem caWin_pos (t u a l c n : Int) (a0 : 0 ≤ a) (l1 : l ≤ 65535) (c0 : 0 ≤ c) (n1 : n ≤ 65535) (h : a < l ∨ c < n) : 1 ≤ caWin t u a l c n := by
  refine bAdd_pos _ _ ?_
  rcases h with h | h
  · refine .inl ?_
    have := caSteps_pos a l a0 l1 h
    unfold caOpen
    rw [if_neg (by omega)]
    exact bAdd_pos _ _ (.inr this)
  · exact .inr (bMul_pos _ _ (caOne_rng u).1 (caSteps_pos c n c0 n1 h))

set_option maxHeartbeats 4000000 in
theorem grows_walk (k0 k1 k2 k3 k4 k5 k6 : Int) (a b l c d n : Int) (w : World) (a0 : 0 ≤ a) (a1 : a ≤ 65535) (b0 : 0 ≤ b) (b1 : b ≤ 65535) (l0 : 0 ≤ l) (l1 : l ≤ 65535) (c0 : 0 ≤ c) (c1 : c ≤ 255) (d0 : 0 ≤ d) (d1 : d ≤ 255) (n0 : 0 ≤ n) (n1 : n ≤ 255) :
    Calls Try.prog 12 #[.agg #[.int .i64 k0, .int .i64 k1, .int .i64 k2, .int .i64 k3, .int .i64 k4, .int .i64 k5, .int .i64 k6], .agg #[.int .u16 a, .int .u16 b, .int .u16 l], .agg #[.int .u8 c, .int .u8 d, .int .u8 n]] w fun e w' => e = .returned (.bool true) ∧ Below w.heap.size w w' := by
  have f1 : b < a ∨ d < c ∨ caWin k5 k6 b l d n ≤ caWin k5 k6 a l c n := by
    by_cases h : a ≤ b
    · by_cases h2 : c ≤ d
      · exact .inr (.inr (caWin_mono k5 k6 a b l c d n h h2))
      · exact .inr (.inl (by omega))
    · exact .inl (by omega)
  have f2 : caWin k5 k6 a l c n ≤ caWin k5 k6 0 l 0 n := caWin_mono k5 k6 0 a l 0 c n a0 c0
  have f3 : a < l ∨ c < n ∨ caWin k5 k6 a l c n = 0 := by
    by_cases h : l ≤ a
    · by_cases h2 : n ≤ c
      · exact .inr (.inr (caWin_zero k5 k6 a l c n h h2))
      · exact .inr (.inl (by omega))
    · exact .inl (by omega)
  have f4 : (l ≤ a ∧ n ≤ c) ∨ 1 ≤ caWin k5 k6 a l c n := by
    by_cases h : a < l ∨ c < n
    · exact .inr (caWin_pos k5 k6 a l c n a0 l1 c0 (by omega) h)
    · exact .inl (by omega)
  have wa : IntKind.i64.wrap a = a := IntWalk.i64_in _ (by omega)
  have wb : IntKind.i64.wrap b = b := IntWalk.i64_in _ (by omega)
  have wl : IntKind.i64.wrap l = l := IntWalk.i64_in _ (by omega)
  have wc : IntKind.i64.wrap c = c := IntWalk.i64_in _ (by omega)
  have wd : IntKind.i64.wrap d = d := IntWalk.i64_in _ (by omega)
  have wn : IntKind.i64.wrap n = n := IntWalk.i64_in _ (by omega)
  have F1 := Lib.hid f1
  have F2 := Lib.hid f2
  have F3 := Lib.hid f3
  have F4 := Lib.hid f4
  clear f1 f2 f3 f4
  go_enter Try.func12, Try.ntmps12
  go_wp2_with fail
  ((first | (with_reducible refine region_ext2 (by kernel_rfl) (by kernel_rfl) ?_) | (refine region_ext (by kernel_rfl) (by kernel_rfl) ?_)); (repeat (quiet_step ((first | fail)))); refine wpQuiet_nil ?_; rintro _ ⟨uq, rfl⟩)
  go_wp2_with fail
  ((first | (with_reducible refine region_ext2 (by kernel_rfl) (by kernel_rfl) ?_) | (refine region_ext (by kernel_rfl) (by kernel_rfl) ?_)); (repeat (quiet_step ((first | fail)))); refine wpQuiet_nil ?_; rintro _ ⟨uq, rfl⟩)
  clear wa wb wl wc wd wn
  go_wp2_with fail
  ((first | (with_reducible refine region_ext2 (by kernel_rfl) (by kernel_rfl) ?_) | (refine region_ext (by kernel_rfl) (by kernel_rfl) ?_)); (repeat (quiet_step ((first | (go_at_call 59; with_reducible exact ext_below (cwindows_any _ _ _ _ _ _ _ _ _ _ _ _)))))); refine wpQuiet_nil ?_; rintro _ ⟨uq, rfl⟩)
  have g1 := F1.out
  have g2 := F2.out
  have g3 : (l ≤ a ∧ n ≤ c ∧ (caWin k5 k6 a l c n != 0) = false) ∨ (a < l ∧ 1 ≤ caWin k5 k6 a l c n) ∨ (l ≤ a ∧ c < n ∧ 1 ≤ caWin k5 k6 a l c n) := by
    have := F3.out
    have := F4.out
    by_cases h : a < l
    · exact .inr (.inl ⟨h, by omega⟩)
    · by_cases h2 : c < n
      · exact .inr (.inr ⟨by omega, h2, by omega⟩)
      · exact .inl ⟨by omega, by omega, by simp; omega⟩
  obtain ⟨X, hX⟩ : ∃ X, caWin k5 k6 a l c n = X := ⟨_, rfl⟩
  obtain ⟨Y, hY⟩ : ∃ Y, caWin k5 k6 b l d n = Y := ⟨_, rfl⟩
  rw [hX] at g1 g2 g3 ⊢
  rw [hY] at g1 ⊢
  clear hX hY F1 F2 F3 F4
  rcases g1 with g1 | g1 | g1 <;> rcases g3 with ⟨g3, g4, g5⟩ | ⟨g3, g4⟩ | ⟨g3, g4, g5⟩
  all_goals
    go_wp2_with (first | (go_at_call 60; (with_reducible refine (cworst_any _ _ _ _ _ _ _ _ _ _).mono ?_); rintro e w' ⟨rfl, hx⟩; obtain ⟨ux, rfl⟩ := ext_of hx; clear hx) | (go_at_call 61; (with_reducible refine (awake19 _).mono ?_); rintro e w' ⟨rfl, hx⟩; obtain ⟨ux, rfl⟩ := ext_of hx; clear hx))
  all_goals
    go_ret
    exact ⟨rfl, below_ext _ ((((Below.refl _ _).alloc (Nat.le_refl _) _).alloc (by simp) _).alloc (by simp; omega) _) (by simp; omega)⟩

theorem opens_knobs {W : World} : Opens Try.prog W 54 [IsI .i64, IsI .i64, IsI .i64, IsI .i64, IsI .i64, IsI .i64, IsI .i64] :=
  opens_struct (ss := [[IsI .i64], [IsI .i64], [IsI .i64], [IsI .i64], [IsI .i64], [IsI .i64], [IsI .i64]]) Try.underlying54 (by kernel_rfl)
    ⟨rfl, by kernel_rfl, opens_int Try.underlying3, rfl, by kernel_rfl, opens_int Try.underlying3, rfl, by kernel_rfl, opens_int Try.underlying3, rfl, by kernel_rfl, opens_int Try.underlying3, rfl, by kernel_rfl, opens_int Try.underlying3, rfl, by kernel_rfl, opens_int Try.underlying3, rfl, by kernel_rfl, opens_int Try.underlying3, trivial⟩

theorem tells_done : Walk 11 Try.f11 := by
  intro W args hs hc
  rw [Try.params11] at hs hc
  obtain ⟨l⟩ := args
  match l, hs with
  | [v0, v1, v2], _ =>
    obtain ⟨l0, rfl, f0⟩ := came_struct Try.underlying54 opens_knobs (hc 0 54 v0 rfl rfl)
    obtain ⟨_, _, rfl, ⟨k0, rfl, wk0⟩, f0a⟩ := fits_cons f0
    obtain ⟨_, _, rfl, ⟨k1, rfl, wk1⟩, f0b⟩ := fits_cons f0a
    obtain ⟨_, _, rfl, ⟨k2, rfl, wk2⟩, f0c⟩ := fits_cons f0b
    obtain ⟨_, _, rfl, ⟨k3, rfl, wk3⟩, f0d⟩ := fits_cons f0c
    obtain ⟨_, _, rfl, ⟨k4, rfl, wk4⟩, f0e⟩ := fits_cons f0d
    obtain ⟨_, _, rfl, ⟨k5, rfl, wk5⟩, f0f⟩ := fits_cons f0e
    obtain ⟨_, _, rfl, ⟨k6, rfl, wk6⟩, f0g⟩ := fits_cons f0f
    obtain rfl := fits_nil f0g
    obtain ⟨l1, rfl, f1⟩ := came_array Try.underlying31 (opens_array (s := [IsI .i64]) Try.underlying31 (by kernel_rfl) (by kernel_rfl) (opens_int Try.underlying3)) (hc 1 31 v1 rfl rfl)
    obtain ⟨_, _, rfl, ⟨a, rfl, wa⟩, f1a⟩ := fits_cons f1
    obtain ⟨_, _, rfl, ⟨b, rfl, wb⟩, f1b⟩ := fits_cons f1a
    obtain rfl := fits_nil f1b
    obtain ⟨l2, rfl, f2⟩ := came_array Try.underlying31 (opens_array (s := [IsI .i64]) Try.underlying31 (by kernel_rfl) (by kernel_rfl) (opens_int Try.underlying3)) (hc 2 31 v2 rfl rfl)
    obtain ⟨_, _, rfl, ⟨c, rfl, wc⟩, f2a⟩ := fits_cons f2
    obtain ⟨_, _, rfl, ⟨d, rfl, wd⟩, f2b⟩ := fits_cons f2a
    obtain rfl := fits_nil f2b
    exact tells_walk k0 k1 k2 k3 k4 k5 k6 a b c d W

theorem grows_done : Walk 12 Try.f12 := by
  intro W args hs hc
  rw [Try.params12] at hs hc
  obtain ⟨l⟩ := args
  match l, hs with
  | [v0, v1, v2], _ =>
    obtain ⟨l0, rfl, f0⟩ := came_struct Try.underlying54 opens_knobs (hc 0 54 v0 rfl rfl)
    obtain ⟨_, _, rfl, ⟨k0, rfl, wk0⟩, f0a⟩ := fits_cons f0
    obtain ⟨_, _, rfl, ⟨k1, rfl, wk1⟩, f0b⟩ := fits_cons f0a
    obtain ⟨_, _, rfl, ⟨k2, rfl, wk2⟩, f0c⟩ := fits_cons f0b
    obtain ⟨_, _, rfl, ⟨k3, rfl, wk3⟩, f0d⟩ := fits_cons f0c
    obtain ⟨_, _, rfl, ⟨k4, rfl, wk4⟩, f0e⟩ := fits_cons f0d
    obtain ⟨_, _, rfl, ⟨k5, rfl, wk5⟩, f0f⟩ := fits_cons f0e
    obtain ⟨_, _, rfl, ⟨k6, rfl, wk6⟩, f0g⟩ := fits_cons f0f
    obtain rfl := fits_nil f0g
    obtain ⟨l1, rfl, f1⟩ := came_array Try.underlying60 (opens_array (s := [IsI .u16]) Try.underlying60 (by kernel_rfl) (by kernel_rfl) (opens_int Try.underlying59)) (hc 1 60 v1 rfl rfl)
    obtain ⟨_, _, rfl, ⟨a, rfl, wa⟩, f1a⟩ := fits_cons f1
    obtain ⟨_, _, rfl, ⟨b, rfl, wb⟩, f1b⟩ := fits_cons f1a
    obtain ⟨_, _, rfl, ⟨l, rfl, wl⟩, f1c⟩ := fits_cons f1b
    obtain rfl := fits_nil f1c
    obtain ⟨l2, rfl, f2⟩ := came_array Try.underlying61 (opens_array (s := [IsI .u8]) Try.underlying61 (by kernel_rfl) (by kernel_rfl) (opens_int Try.underlying5)) (hc 2 61 v2 rfl rfl)
    obtain ⟨_, _, rfl, ⟨c, rfl, wc⟩, f2a⟩ := fits_cons f2
    obtain ⟨_, _, rfl, ⟨d, rfl, wd⟩, f2b⟩ := fits_cons f2a
    obtain ⟨_, _, rfl, ⟨n, rfl, wn⟩, f2c⟩ := fits_cons f2b
    obtain rfl := fits_nil f2c
    have ba := bounds_u16 wa
    have bb := bounds_u16 wb
    have bl := bounds_u16 wl
    have bc := bounds_u8 wc
    have bd := bounds_u8 wd
    have bn := bounds_u8 wn
    exact grows_walk k0 k1 k2 k3 k4 k5 k6 a b l c d n W ba.1 ba.2 bb.1 bb.2 bl.1 bl.2 bc.1 bc.2 bd.1 bd.2 bn.1 bn.2
end Go.Proofs.Ytcanjkcndodgeaa
