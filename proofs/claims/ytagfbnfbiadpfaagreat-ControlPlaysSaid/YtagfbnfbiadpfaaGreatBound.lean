/-
  What the functions of the packages bound and lockkeeperref01 return, each as one plain Lean function of its arguments, in a world that stays as it is.
-/
import Derived.Test.YtagfbnfbiadpfaaGreatProg
import Derived.WalkKit
import Derived.WalkSpells
import Derived.WalkLawsBesides
import Derived.Outline
import Derived.Lib.Hide
namespace Go.Proofs.YtagfbnfbiadpfaaGreat
open Go.RowKit
set_option linter.unusedVariables false

theorem ret_int {k : IntKind} {a b : Int} (h : a = b) : Ending.returned (.int k a) = .returned (.int k b) := by rw [h]
theorem ret_bool {a b : Bool} (h : a = b) : Ending.returned (.bool a) = .returned (.bool b) := by rw [h]
theorem w64_id (n : Int) (h : -9223372036854775808 ≤ n) (h2 : n ≤ 9223372036854775807) : wrap64 n = n := IntWalk.wrap64_in n ⟨by omega, by omega⟩

def keep (n m : Int) : Int := max (min n m) 0
theorem keep_nn (n m : Int) : 0 ≤ keep n m := by unfold keep; omega
theorem keep_le (n m : Int) (h : 0 ≤ m) : keep n m ≤ m := by unfold keep; omega
theorem keep_id (n m : Int) (h : 0 ≤ n) (h2 : n ≤ m) : keep n m = n := by unfold keep; omega
theorem keep_mono (a b m : Int) (h : a ≤ b) : keep a m ≤ keep b m := by unfold keep; omega

def cnt (n : Int) : Int := keep n 2147483647
def tck (n : Int) : Int := keep n 1099511627776
theorem cnt_nn (n : Int) : 0 ≤ cnt n := keep_nn _ _
theorem cnt_le (n : Int) : cnt n ≤ 2147483647 := keep_le _ _ (by omega)
theorem tck_nn (n : Int) : 0 ≤ tck n := keep_nn _ _
theorem tck_le (n : Int) : tck n ≤ 1099511627776 := keep_le _ _ (by omega)
theorem cnt_id (n : Int) (h : 0 ≤ n) (h2 : n ≤ 2147483647) : cnt n = n := keep_id _ _ h h2
theorem tck_id (n : Int) (h : 0 ≤ n) (h2 : n ≤ 1099511627776) : tck n = n := keep_id _ _ h h2

def bAdd (a b : Int) : Int := cnt (cnt a + cnt b)
def bSub (a b : Int) : Int := cnt (cnt a - cnt b)
def bMul (a b : Int) : Int := cnt (cnt a * cnt b)
def bMean (a b : Int) : Int := if cnt b = 0 then 0 else cnt a / cnt b
def bShare (n p : Int) : Int := cnt n * keep p 100 / 100
def bPart (n p : Int) : Int := (cnt n * keep p 100 + 99) / 100
def bLater (a b : Int) : Int := tck (tck a + tck b)
def bLeft (a b : Int) : Int := tck (tck a - tck b)
def bSum : List Int → Int := List.foldl bAdd 0

theorem bAdd_comm (a b : Int) : bAdd a b = bAdd b a := by unfold bAdd; rw [Int.add_comm]
theorem bMul_comm (a b : Int) : bMul a b = bMul b a := by unfold bMul; rw [Int.mul_comm]
theorem bAdd_rng (a b : Int) : 0 ≤ bAdd a b ∧ bAdd a b ≤ 2147483647 := ⟨cnt_nn _, cnt_le _⟩
theorem mul_rng (a b x y : Int) (ha : 0 ≤ a) (ha2 : a ≤ x) (hb : 0 ≤ b) (hb2 : b ≤ y) : 0 ≤ a * b ∧ a * b ≤ x * y :=
  ⟨Int.mul_nonneg ha hb, Int.mul_le_mul ha2 hb2 hb (by omega)⟩
theorem div_rng (a b x : Int) (ha : 0 ≤ a) (ha2 : a ≤ x) (hb : 0 < b) : 0 ≤ a / b ∧ a / b ≤ x :=
  ⟨Int.ediv_nonneg ha (by omega), Int.le_trans (Int.ediv_le_self _ ha) ha2⟩

theorem keep_any (n m : Int) (w : World) : Calls Tryz.prog 64 #[.int .i64 n, .int .i64 m] w fun e w' => e = .returned (.int .i64 (keep n m)) ∧ w = w' := by
  go_enter Tryz.func64, Tryz.ntmps64
  go_wp2
  all_goals
    go_ret
    exact ⟨ret_int (by unfold keep; (repeat split at *) <;> omega), rfl⟩

theorem cnt_any (n : Int) (w : World) : Calls Tryz.prog 64 #[.int .i64 n, .int .i64 2147483647] w fun e w' => e = .returned (.int .i64 (cnt n)) ∧ w = w' := keep_any n _ w
theorem tck_any (n : Int) (w : World) : Calls Tryz.prog 64 #[.int .i64 n, .int .i64 1099511627776] w fun e w' => e = .returned (.int .i64 (tck n)) ∧ w = w' := keep_any n _ w

theorem rkeep_any (n m : Int) (w : World) : Calls Tryz.prog 67 #[.int .i64 n, .int .i64 m] w fun e w' => e = .returned (.int .i64 (keep n m)) ∧ w = w' := by
  go_enter Tryz.func67, Tryz.ntmps67
  go_wp2
  all_goals
    go_ret
    exact ⟨ret_int (by unfold keep; (repeat split at *) <;> omega), rfl⟩
theorem rcount_any (n : Int) (w : World) : Calls Tryz.prog 83 #[.int .i64 n] w fun e w' => e = .returned (.int .i64 (cnt n)) ∧ w = w' := by
  go_enter Tryz.func83, Tryz.ntmps83
  go_wp2_with (go_at_call 67; (with_reducible refine (rkeep_any _ _ _).mono ?_); rintro e w' ⟨rfl, rfl⟩)
  go_ret
  exact ⟨rfl, rfl⟩
theorem add_any (n m : Int) (w : World) : Calls Tryz.prog 63 #[.int .i64 n, .int .i64 m] w fun e w' => e = .returned (.int .i64 (bAdd n m)) ∧ w = w' := by
  have h1 := cnt_nn n
  have h2 := cnt_nn m
  have h3 := cnt_le n
  have h4 := cnt_le m
  go_enter Tryz.func63, Tryz.ntmps63
  go_wp2_with (first | (go_at_call 64; (with_reducible refine (cnt_any _ _).mono ?_); rintro e w' ⟨rfl, rfl⟩) | (go_at_call 88; go_in) | (go_at_call 89; go_in))
  go_ret
  exact ⟨rfl, rfl⟩
theorem radd_any (n m : Int) (w : World) : Calls Tryz.prog 59 #[.int .i64 n, .int .i64 m] w fun e w' => e = .returned (.int .i64 (bAdd n m)) ∧ w = w' := by
  have h1 := cnt_nn n
  have h2 := cnt_nn m
  have h3 := cnt_le n
  have h4 := cnt_le m
  go_enter Tryz.func59, Tryz.ntmps59
  go_wp2_with (go_at_call 83; (with_reducible refine (rcount_any _ _).mono ?_); rintro e w' ⟨rfl, rfl⟩)
  go_ret
  exact ⟨rfl, rfl⟩
theorem mul_any (n m : Int) (w : World) : Calls Tryz.prog 106 #[.int .i64 n, .int .i64 m] w fun e w' => e = .returned (.int .i64 (bMul n m)) ∧ w = w' := by
  obtain ⟨h1, h2⟩ := mul_rng (cnt n) (cnt m) 2147483647 2147483647 (cnt_nn _) (cnt_le _) (cnt_nn _) (cnt_le _)
  go_enter Tryz.func106, Tryz.ntmps106
  go_wp2_with (first | (go_at_call 64; (with_reducible refine (cnt_any _ _).mono ?_); rintro e w' ⟨rfl, rfl⟩) | (go_at_call 88; go_in) | (go_at_call 116; go_in))
  go_ret
  exact ⟨rfl, rfl⟩
theorem rmul_any (n m : Int) (w : World) : Calls Tryz.prog 86 #[.int .i64 n, .int .i64 m] w fun e w' => e = .returned (.int .i64 (bMul n m)) ∧ w = w' := by
  obtain ⟨h1, h2⟩ := mul_rng (cnt n) (cnt m) 2147483647 2147483647 (cnt_nn _) (cnt_le _) (cnt_nn _) (cnt_le _)
  go_enter Tryz.func86, Tryz.ntmps86
  go_wp2_with (go_at_call 83; (with_reducible refine (rcount_any _ _).mono ?_); rintro e w' ⟨rfl, rfl⟩)
  go_ret
  exact ⟨rfl, rfl⟩
theorem mean_any (n m : Int) (w : World) : Calls Tryz.prog 91 #[.int .i64 n, .int .i64 m] w fun e w' => e = .returned (.int .i64 (bMean n m)) ∧ w = w' := by
  have h1 := cnt_nn n
  have h2 := cnt_nn m
  have h3 := cnt_le n
  have h4 := cnt_le m
  by_cases h : cnt m = 0
  · have hb : (cnt m == 0) = true := by simpa using h
    have HZ := Lib.hid h
    clear h
    go_enter Tryz.func91, Tryz.ntmps91
    go_wp2_with (first | (go_at_call 64; (with_reducible refine (cnt_any _ _).mono ?_); rintro e w' ⟨rfl, rfl⟩) | (go_at_call 88; go_in) | (go_at_call 108; go_in))
    go_ret
    exact ⟨ret_int (by unfold bMean; rw [if_pos HZ.out]; rfl), rfl⟩
  · have hb : (cnt m == 0) = false := by simpa using h
    have hp : 1 ≤ cnt m := by omega
    obtain ⟨d1, d2⟩ := div_rng (cnt n) (cnt m) 2147483647 (cnt_nn _) (cnt_le _) (by omega)
    go_enter Tryz.func91, Tryz.ntmps91
    go_wp2_with (first | (go_at_call 64; (with_reducible refine (cnt_any _ _).mono ?_); rintro e w' ⟨rfl, rfl⟩) | (go_at_call 88; go_in) | (go_at_call 108; go_in))
    go_ret
    exact ⟨ret_int (by unfold bMean; rw [if_neg h]; exact cnt_id _ d1 d2), rfl⟩
theorem rmean_any (n m : Int) (w : World) : Calls Tryz.prog 65 #[.int .i64 n, .int .i64 m] w fun e w' => e = .returned (.int .i64 (bMean n m)) ∧ w = w' := by
  have h1 := cnt_nn n
  have h2 := cnt_nn m
  have h3 := cnt_le n
  have h4 := cnt_le m
  by_cases h : cnt m = 0
  · have hb : (cnt m == 0) = true := by simpa using h
    have HZ := Lib.hid h
    clear h
    go_enter Tryz.func65, Tryz.ntmps65
    go_wp2_with (go_at_call 83; (with_reducible refine (rcount_any _ _).mono ?_); rintro e w' ⟨rfl, rfl⟩)
    go_ret
    exact ⟨ret_int (by unfold bMean; rw [if_pos HZ.out]), rfl⟩
  · have hb : (cnt m == 0) = false := by simpa using h
    have hp : 1 ≤ cnt m := by omega
    go_enter Tryz.func65, Tryz.ntmps65
    go_wp2_with (go_at_call 83; (with_reducible refine (rcount_any _ _).mono ?_); rintro e w' ⟨rfl, rfl⟩)
    go_ret
    exact ⟨ret_int (by unfold bMean; rw [if_neg h]), rfl⟩
theorem part_any (n p : Int) (w : World) : Calls Tryz.prog 96 #[.int .i64 n, .int .i64 p] w fun e w' => e = .returned (.int .i64 (bPart n p)) ∧ w = w' := by
  have k0 := keep_nn p 100
  have k1 := keep_le p 100 (by omega)
  have k2 : cnt (keep p 100) = keep p 100 := cnt_id _ k0 (by omega)
  obtain ⟨h1, h2⟩ := mul_rng (cnt n) (keep p 100) 2147483647 100 (cnt_nn _) (cnt_le _) k0 k1
  go_enter Tryz.func96, Tryz.ntmps96
  go_wp2_with (first | (go_at_call 64; (with_reducible refine (cnt_any _ _).mono ?_); rintro e w' ⟨rfl, rfl⟩) | (go_at_call 64; (with_reducible refine (keep_any _ _ _).mono ?_); rintro e w' ⟨rfl, rfl⟩) | (go_at_call 88; go_in) | (go_at_call 112; go_in))
  go_ret
  exact ⟨ret_int (by unfold bPart; rw [cnt_id _ (by omega) (by omega)]; omega), rfl⟩
theorem rpart_any (n p : Int) (w : World) : Calls Tryz.prog 69 #[.int .i64 n, .int .i64 p] w fun e w' => e = .returned (.int .i64 (bPart n p)) ∧ w = w' := by
  have k0 := keep_nn p 100
  have k1 := keep_le p 100 (by omega)
  obtain ⟨h1, h2⟩ := mul_rng (cnt n) (keep p 100) 2147483647 100 (cnt_nn _) (cnt_le _) k0 k1
  go_enter Tryz.func69, Tryz.ntmps69
  go_wp2_with (first | (go_at_call 83; (with_reducible refine (rcount_any _ _).mono ?_); rintro e w' ⟨rfl, rfl⟩) | (go_at_call 67; (with_reducible refine (rkeep_any _ _ _).mono ?_); rintro e w' ⟨rfl, rfl⟩))
  all_goals
    go_ret
    exact ⟨ret_int (by unfold bPart; omega), rfl⟩
end Go.Proofs.YtagfbnfbiadpfaaGreat
