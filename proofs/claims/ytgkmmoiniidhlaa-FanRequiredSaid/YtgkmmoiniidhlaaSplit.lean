/-
  What the functions of the packages split and lockkeeperref22 return (Part, Hop, Call): plain Lean functions of their arguments.
-/
import Derived.Test.YtgkmmoiniidhlaaFrame
import Derived.Test.YtgkmmoiniidhlaaBound
namespace Go.Proofs.Ytgkmmoiniidhlaa
open Go.RowKit
set_option linter.unusedVariables false

def spPart (left weight : Int) : Int := tck left * keep weight 8 / 8
def spHop (part most : Int) : Int := min (tck part / 2) (keep most 65535)
def spP (now dl wt : Int) : Int := spPart (bLeft dl now) wt
def spW (now dl wt most : Int) : Int := spHop (spP now dl wt) most
def spOk (now dl wt most : Int) : Bool := !(spW now dl wt most == 0)
def spD (now dl wt most : Int) : Int := if spOk now dl wt most = true then bLater now (spP now dl wt) else 0

theorem spPart_rng (a b : Int) : 0 ≤ spPart a b ∧ spPart a b ≤ 1099511627776 := by
  obtain ⟨h1, h2⟩ := mul_rng (tck a) (keep b 8) 1099511627776 8 (tck_nn _) (tck_le _) (keep_nn _ _) (keep_le _ _ (by omega))
  unfold spPart
  omega
theorem spHop_rng (a b : Int) : 0 ≤ spHop a b ∧ spHop a b ≤ 65535 := by
  have h1 := tck_nn a
  have h2 := keep_nn b 65535
  have h3 := keep_le b 65535 (by omega)
  unfold spHop
  omega

theorem spart_any (a b : Int) (w : World) : Calls Try.prog 102 #[.int .i64 a, .int .i64 b] w fun e w' => e = .returned (.int .i64 (spPart a b)) ∧ w = w' := by
  obtain ⟨h1, h2⟩ := mul_rng (tck a) (keep b 8) 1099511627776 8 (tck_nn _) (tck_le _) (keep_nn _ _) (keep_le _ _ (by omega))
  go_enter Try.func102, Try.ntmps102
  go_wp2_with (first | (go_at_call 97; (with_reducible refine (tck_any _ _).mono ?_); rintro e w' ⟨rfl, rfl⟩) | (go_at_call 97; (with_reducible refine (keep_any _ _ _).mono ?_); rintro e w' ⟨rfl, rfl⟩))
  go_ret
  exact ⟨rfl, rfl⟩
theorem rspart_any (a b : Int) (w : World) : Calls Try.prog 105 #[.int .i64 a, .int .i64 b] w fun e w' => e = .returned (.int .i64 (spPart a b)) ∧ w = w' := by
  obtain ⟨h1, h2⟩ := mul_rng (tck a) (keep b 8) 1099511627776 8 (tck_nn _) (tck_le _) (keep_nn _ _) (keep_le _ _ (by omega))
  go_enter Try.func105, Try.ntmps105
  go_wp2_with (first | (go_at_call 98; (with_reducible refine (rtick_any _ _).mono ?_); rintro e w' ⟨rfl, rfl⟩) | (go_at_call 131; (with_reducible refine (rkeep_any _ _ _).mono ?_); rintro e w' ⟨rfl, rfl⟩))
  go_ret
  exact ⟨rfl, rfl⟩
theorem shop_any (a b : Int) (w : World) : Calls Try.prog 103 #[.int .i64 a, .int .i64 b] w fun e w' => e = .returned (.int .i64 (spHop a b)) ∧ w = w' := by
  have h1 := tck_nn a
  have h2 := tck_le a
  go_enter Try.func103, Try.ntmps103
  go_wp2_with (first | (go_at_call 97; (with_reducible refine (tck_any _ _).mono ?_); rintro e w' ⟨rfl, rfl⟩) | (go_at_call 97; (with_reducible refine (keep_any _ _ _).mono ?_); rintro e w' ⟨rfl, rfl⟩))
  all_goals
    go_ret
    exact ⟨ret_int (by unfold spHop; (repeat split at *) <;> omega), rfl⟩
theorem rshop_any (a b : Int) (w : World) : Calls Try.prog 107 #[.int .i64 a, .int .i64 b] w fun e w' => e = .returned (.int .i64 (spHop a b)) ∧ w = w' := by
  have h1 := tck_nn a
  have h2 := tck_le a
  go_enter Try.func107, Try.ntmps107
  go_wp2_with (first | (go_at_call 98; (with_reducible refine (rtick_any _ _).mono ?_); rintro e w' ⟨rfl, rfl⟩) | (go_at_call 131; (with_reducible refine (rkeep_any _ _ _).mono ?_); rintro e w' ⟨rfl, rfl⟩))
  all_goals
    go_ret
    exact ⟨ret_int (by unfold spHop; (repeat split at *) <;> omega), rfl⟩

theorem scall_any (now dl wt most : Int) (w : World) : Calls Try.prog 66 #[.int .i64 now, .int .i64 dl, .int .i64 wt, .int .i64 most] w fun e w' => e = .returned (.tuple #[.int .i64 (spD now dl wt most), .int .i64 (spW now dl wt most), .bool (spOk now dl wt most)]) ∧ w = w' := by
  by_cases h : spHop (spPart (bLeft dl now) wt) most = 0
  · have hb : (spHop (spPart (bLeft dl now) wt) most == 0) = true := by simpa using h
    have HZ := Lib.hid h
    clear h
    go_enter Try.func66, Try.ntmps66
    go_wp2_with (first | (go_at_call 63; (with_reducible refine (left_any _ _ _).mono ?_); rintro e w' ⟨rfl, rfl⟩) | (go_at_call 102; (with_reducible refine (spart_any _ _ _).mono ?_); rintro e w' ⟨rfl, rfl⟩) | (go_at_call 103; (with_reducible refine (shop_any _ _ _).mono ?_); rintro e w' ⟨rfl, rfl⟩) | (go_at_call 104; (with_reducible refine (later_any _ _ _).mono ?_); rintro e w' ⟨rfl, rfl⟩))
    go_ret3
    exact ⟨by simp [spD, spW, spOk, spP, HZ.out], rfl⟩
  · have hb : (spHop (spPart (bLeft dl now) wt) most == 0) = false := by simpa using h
    have HZ := Lib.hid h
    clear h
    go_enter Try.func66, Try.ntmps66
    go_wp2_with (first | (go_at_call 63; (with_reducible refine (left_any _ _ _).mono ?_); rintro e w' ⟨rfl, rfl⟩) | (go_at_call 102; (with_reducible refine (spart_any _ _ _).mono ?_); rintro e w' ⟨rfl, rfl⟩) | (go_at_call 103; (with_reducible refine (shop_any _ _ _).mono ?_); rintro e w' ⟨rfl, rfl⟩) | (go_at_call 104; (with_reducible refine (later_any _ _ _).mono ?_); rintro e w' ⟨rfl, rfl⟩))
    go_ret3
    exact ⟨by simp [spD, spW, spOk, spP, HZ.out], rfl⟩
theorem rscall_any (now dl wt most : Int) (w : World) : Calls Try.prog 70 #[.int .i64 now, .int .i64 dl, .int .i64 wt, .int .i64 most] w fun e w' => e = .returned (.tuple #[.int .i64 (spD now dl wt most), .int .i64 (spW now dl wt most), .bool (spOk now dl wt most)]) ∧ w = w' := by
  obtain ⟨r1, r2⟩ := spHop_rng (spPart (bLeft dl now) wt) most
  by_cases h : spHop (spPart (bLeft dl now) wt) most = 0
  · have hb : spHop (spPart (bLeft dl now) wt) most < 1 := by omega
    have HZ := Lib.hid h
    clear h
    go_enter Try.func70, Try.ntmps70
    go_wp2_with (first | (go_at_call 106; (with_reducible refine (rleft_any _ _ _).mono ?_); rintro e w' ⟨rfl, rfl⟩) | (go_at_call 105; (with_reducible refine (rspart_any _ _ _).mono ?_); rintro e w' ⟨rfl, rfl⟩) | (go_at_call 107; (with_reducible refine (rshop_any _ _ _).mono ?_); rintro e w' ⟨rfl, rfl⟩) | (go_at_call 108; (with_reducible refine (rlater_any _ _ _).mono ?_); rintro e w' ⟨rfl, rfl⟩))
    go_ret3
    exact ⟨by simp [spD, spW, spOk, spP, HZ.out], rfl⟩
  · have hb : ¬ spHop (spPart (bLeft dl now) wt) most < 1 := by omega
    have HZ := Lib.hid h
    clear h
    go_enter Try.func70, Try.ntmps70
    go_wp2_with (first | (go_at_call 106; (with_reducible refine (rleft_any _ _ _).mono ?_); rintro e w' ⟨rfl, rfl⟩) | (go_at_call 105; (with_reducible refine (rspart_any _ _ _).mono ?_); rintro e w' ⟨rfl, rfl⟩) | (go_at_call 107; (with_reducible refine (rshop_any _ _ _).mono ?_); rintro e w' ⟨rfl, rfl⟩) | (go_at_call 108; (with_reducible refine (rlater_any _ _ _).mono ?_); rintro e w' ⟨rfl, rfl⟩))
    go_ret3
    exact ⟨by simp [spD, spW, spOk, spP, HZ.out], rfl⟩
end Go.Proofs.Ytgkmmoiniidhlaa
