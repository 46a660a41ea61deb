/-
  The statements of layer 1 (bound): BoundKeeps, BoundShares, BoundTicks, BoundSums: for every input the law returns true, and each argument reads as it did. No condition.
-/
import Derived.Test.YtcanjkcndodgeaaFrame
import Derived.Test.YtcanjkcndodgeaaBound
import Derived.Test.YtcanjkcndodgeaaSum
namespace Go.Proofs.Ytcanjkcndodgeaa
open Go.RowKit

theorem awake01 (w : World) : Calls Try.prog 23 #[] w fun e w' => e = .returned (.bool true) ∧ w = w' := by
  have e1 : bShare 7 50 = 3 := by decide
  have e2 : bPart 7 50 = 4 := by decide
  have e3 : bAdd 2147483647 1 = 2147483647 := by decide
  have e4 : bSub 5 2 = 3 := by decide
  have e5 : bSub 2 5 = 0 := by decide
  have e6 : bMean 9 2 = 4 := by decide
  have e7 : bMean 9 0 = 0 := by decide
  have e8 : bMul 3 4 = 12 := by decide
  go_enter Try.func23, Try.ntmps23
  go_wp2_with (first | (go_at_call 24; (with_reducible refine (share_any _ _ _).mono ?_); rintro e w' ⟨rfl, rfl⟩) | (go_at_call 25; (with_reducible refine (part_any _ _ _).mono ?_); rintro e w' ⟨rfl, rfl⟩) | (go_at_call 17; (with_reducible refine (add_any _ _ _).mono ?_); rintro e w' ⟨rfl, rfl⟩) | (go_at_call 19; (with_reducible refine (sub_any _ _ _).mono ?_); rintro e w' ⟨rfl, rfl⟩) | (go_at_call 35; (with_reducible refine (mean_any _ _ _).mono ?_); rintro e w' ⟨rfl, rfl⟩) | (go_at_call 21; (with_reducible refine (mul_any _ _ _).mono ?_); rintro e w' ⟨rfl, rfl⟩))
  go_ret
  exact ⟨rfl, rfl⟩

theorem keeps_walk (a b : Int) (w : World) : Calls Try.prog 3 #[.int .i64 a, .int .i64 b] w fun e w' => e = .returned (.bool true) ∧ w = w' := by
  have e1 : (bAdd b a == bAdd a b) = true := by rw [bAdd_comm]; simp
  have e2 : (bMul b a == bMul a b) = true := by rw [bMul_comm]; simp
  go_enter Try.func3, Try.ntmps3
  go_wp2_with (first | (go_at_call 15; (with_reducible refine (keep_any _ _ _).mono ?_); rintro e w' ⟨rfl, rfl⟩) | (go_at_call 16; (with_reducible refine (rkeep_any _ _ _).mono ?_); rintro e w' ⟨rfl, rfl⟩) | (go_at_call 17; (with_reducible refine (add_any _ _ _).mono ?_); rintro e w' ⟨rfl, rfl⟩) | (go_at_call 18; (with_reducible refine (radd_any _ _ _).mono ?_); rintro e w' ⟨rfl, rfl⟩) | (go_at_call 19; (with_reducible refine (sub_any _ _ _).mono ?_); rintro e w' ⟨rfl, rfl⟩) | (go_at_call 20; (with_reducible refine (rsub_any _ _ _).mono ?_); rintro e w' ⟨rfl, rfl⟩) | (go_at_call 21; (with_reducible refine (mul_any _ _ _).mono ?_); rintro e w' ⟨rfl, rfl⟩) | (go_at_call 22; (with_reducible refine (rmul_any _ _ _).mono ?_); rintro e w' ⟨rfl, rfl⟩) | (go_at_call 23; (with_reducible refine (awake01 _).mono ?_); rintro e w' ⟨rfl, rfl⟩))
  go_ret
  exact ⟨rfl, rfl⟩

theorem ticks_walk (a b : Int) (w : World) : Calls Try.prog 5 #[.int .i64 a, .int .i64 b] w fun e w' => e = .returned (.bool true) ∧ w = w' := by
  go_enter Try.func5, Try.ntmps5
  go_wp2_with (first | (go_at_call 29; (with_reducible refine (later_any _ _ _).mono ?_); rintro e w' ⟨rfl, rfl⟩) | (go_at_call 30; (with_reducible refine (rlater_any _ _ _).mono ?_); rintro e w' ⟨rfl, rfl⟩) | (go_at_call 31; (with_reducible refine (left_any _ _ _).mono ?_); rintro e w' ⟨rfl, rfl⟩) | (go_at_call 32; (with_reducible refine (rleft_any _ _ _).mono ?_); rintro e w' ⟨rfl, rfl⟩) | (go_at_call 23; (with_reducible refine (awake01 _).mono ?_); rintro e w' ⟨rfl, rfl⟩))
  go_ret
  exact ⟨rfl, rfl⟩

theorem keeps_done : Walk 3 Try.f3 := by
  intro W args hs hc
  rw [Try.params3] at hs hc
  obtain ⟨l⟩ := args
  match l, hs with
  | [v0, v1], _ =>
    obtain ⟨a, rfl, _⟩ := came_int Try.underlying3 (hc 0 3 v0 rfl rfl)
    obtain ⟨b, rfl, _⟩ := came_int Try.underlying3 (hc 1 3 v1 rfl rfl)
    exact (keeps_walk a b W).mono fun e w' ⟨he, hw⟩ => ⟨he, hw ▸ Below.refl _ _⟩


theorem ticks_done : Walk 5 Try.f5 := by
  intro W args hs hc
  rw [Try.params5] at hs hc
  obtain ⟨l⟩ := args
  match l, hs with
  | [v0, v1], _ =>
    obtain ⟨a, rfl, _⟩ := came_int Try.underlying3 (hc 0 3 v0 rfl rfl)
    obtain ⟨b, rfl, _⟩ := came_int Try.underlying3 (hc 1 3 v1 rfl rfl)
    exact (ticks_walk a b W).mono fun e w' ⟨he, hw⟩ => ⟨he, hw ▸ Below.refl _ _⟩

theorem share_part (n p : Int) : bShare n p + bPart n (100 - keep p 100) = cnt n := by
  have k0 := keep_nn p 100
  have k1 := keep_le p 100 (by omega)
  have h : keep (100 - keep p 100) 100 = 100 - keep p 100 := keep_id _ _ (by omega) (by omega)
  unfold bShare bPart
  rw [h, Int.mul_sub]
  omega
theorem share_mono (n p q : Int) (h : keep p 100 ≤ keep q 100) : bShare n p ≤ bShare n q := by
  unfold bShare
  have := Int.mul_le_mul_of_nonneg_left h (cnt_nn n)
  omega
theorem bShare_rng (n p : Int) : 0 ≤ bShare n p ∧ bShare n p ≤ 2147483647 := by
  obtain ⟨h1, h2⟩ := mul_rng (cnt n) (keep p 100) 2147483647 100 (cnt_nn _) (cnt_le _) (keep_nn _ _) (keep_le _ _ (by omega))
  unfold bShare
  omega
theorem bPart_rng (n p : Int) : 0 ≤ bPart n p ∧ bPart n p ≤ 2147483647 := by
  obtain ⟨h1, h2⟩ := mul_rng (cnt n) (keep p 100) 2147483647 100 (cnt_nn _) (cnt_le _) (keep_nn _ _) (keep_le _ _ (by omega))
  unfold bPart
  omega

set_option maxHeartbeats 400000 in
theorem shares_walk (n p q : Int) (w : World) : Calls Try.prog 4 #[.int .i64 n, .int .i64 p, .int .i64 q] w fun e w' => e = .returned (.bool true) ∧ w = w' := by
  obtain ⟨a1, a2⟩ := bShare_rng n p
  obtain ⟨b1, b2⟩ := bPart_rng n (100 - keep p 100)
  have k0 := keep_nn p 100
  have k1 := keep_le p 100 (by omega)
  have e1 : (bShare n p + bPart n (100 - keep p 100) != cnt n) = false := by rw [share_part]; simp
  by_cases h : keep q 100 < keep p 100
  · go_enter Try.func4, Try.ntmps4
    go_wp2_with (first | (go_at_call 16; (with_reducible refine (rkeep_any _ _ _).mono ?_); rintro e w' ⟨rfl, rfl⟩) | (go_at_call 24; (with_reducible refine (share_any _ _ _).mono ?_); rintro e w' ⟨rfl, rfl⟩) | (go_at_call 25; (with_reducible refine (part_any _ _ _).mono ?_); rintro e w' ⟨rfl, rfl⟩) | (go_at_call 26; (with_reducible refine (rshare_any _ _ _).mono ?_); rintro e w' ⟨rfl, rfl⟩) | (go_at_call 27; (with_reducible refine (rpart_any _ _ _).mono ?_); rintro e w' ⟨rfl, rfl⟩) | (go_at_call 28; (with_reducible refine (rcount_any _ _).mono ?_); rintro e w' ⟨rfl, rfl⟩) | (go_at_call 23; (with_reducible refine (awake01 _).mono ?_); rintro e w' ⟨rfl, rfl⟩))
    go_ret
    exact ⟨rfl, rfl⟩
  · have hm := share_mono n p q (by omega)
    go_enter Try.func4, Try.ntmps4
    go_wp2_with (first | (go_at_call 16; (with_reducible refine (rkeep_any _ _ _).mono ?_); rintro e w' ⟨rfl, rfl⟩) | (go_at_call 24; (with_reducible refine (share_any _ _ _).mono ?_); rintro e w' ⟨rfl, rfl⟩) | (go_at_call 25; (with_reducible refine (part_any _ _ _).mono ?_); rintro e w' ⟨rfl, rfl⟩) | (go_at_call 26; (with_reducible refine (rshare_any _ _ _).mono ?_); rintro e w' ⟨rfl, rfl⟩) | (go_at_call 27; (with_reducible refine (rpart_any _ _ _).mono ?_); rintro e w' ⟨rfl, rfl⟩) | (go_at_call 28; (with_reducible refine (rcount_any _ _).mono ?_); rintro e w' ⟨rfl, rfl⟩) | (go_at_call 23; (with_reducible refine (awake01 _).mono ?_); rintro e w' ⟨rfl, rfl⟩))
    go_ret
    exact ⟨rfl, rfl⟩

theorem shares_done : Walk 4 Try.f4 := by
  intro W args hs hc
  rw [Try.params4] at hs hc
  obtain ⟨l⟩ := args
  match l, hs with
  | [v0, v1, v2], _ =>
    obtain ⟨a, rfl, _⟩ := came_int Try.underlying3 (hc 0 3 v0 rfl rfl)
    obtain ⟨b, rfl, _⟩ := came_int Try.underlying3 (hc 1 3 v1 rfl rfl)
    obtain ⟨c, rfl, _⟩ := came_int Try.underlying3 (hc 2 3 v2 rfl rfl)
    exact (shares_walk a b c W).mono fun e w' ⟨he, hw⟩ => ⟨he, hw ▸ Below.refl _ _⟩

theorem sums_walk {w : World} (v : Value) (l : List Int) (hv : Ints w v l) (n : Int) : Calls Try.prog 6 #[v, .int .i64 n] w fun e w' => e = .returned (.bool true) ∧ w = w' := by
  have key : ∀ (a : Option Addr) (c : Nat), v = .slice a l.length c → l.length ≤ maxLen → Calls Try.prog 6 #[v, .int .i64 n] w fun e w' => e = .returned (.bool true) ∧ w = w' := by
    rintro a c rfl hm
    unfold maxLen at hm
    have HV := Lib.hid hv
    clear hv
    by_cases h : 100 < l.length
    · go_enter Try.func6, Try.ntmps6
      go_wp2_with ((go_at_call 23; (with_reducible refine (awake01 _).mono ?_); rintro e w' ⟨rfl, rfl⟩))
      go_ret
      exact ⟨rfl, rfl⟩
    · go_enter Try.func6, Try.ntmps6
      go_wp2_with (first | (go_at_call 33; (with_reducible refine (sum_any _ l _ HV.out).mono ?_); rintro e w' ⟨rfl, rfl⟩) | (go_at_call 34; (with_reducible refine (rsum_any _ l _ HV.out).mono ?_); rintro e w' ⟨rfl, rfl⟩) | (go_at_call 35; (with_reducible refine (mean_any _ _ _).mono ?_); rintro e w' ⟨rfl, rfl⟩) | (go_at_call 36; (with_reducible refine (rmean_any _ _ _).mono ?_); rintro e w' ⟨rfl, rfl⟩) | (go_at_call 23; (with_reducible refine (awake01 _).mono ?_); rintro e w' ⟨rfl, rfl⟩))
      go_ret
      exact ⟨rfl, rfl⟩
  rcases hv with ⟨rfl, a, c, rfl⟩ | ⟨b, off, cap, rfl, hl, hm, hc⟩
  · exact key a c rfl (by simp)
  · exact key _ _ rfl (by omega)

theorem sums_done : Walk 6 Try.f6 := by
  intro W args hs hc
  rw [Try.params6] at hs hc
  obtain ⟨l⟩ := args
  match l, hs with
  | [v0, v1], _ =>
    obtain ⟨l, hl⟩ := ints_of_sl (came_slice Try.underlying27 (ps := [IsI .i64]) (by kernel_rfl) (opens_int Try.underlying3) (hc 0 27 v0 rfl rfl))
    obtain ⟨b, rfl, _⟩ := came_int Try.underlying3 (hc 1 3 v1 rfl rfl)
    exact (sums_walk v0 l hl b).mono fun e w' ⟨he, hw⟩ => ⟨he, hw ▸ Below.refl _ _⟩
end Go.Proofs.Ytcanjkcndodgeaa
