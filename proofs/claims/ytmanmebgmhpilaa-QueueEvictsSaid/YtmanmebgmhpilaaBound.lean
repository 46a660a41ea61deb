/-
  What the functions of the packages bound and lockkeeperref01 return, each as one plain Lean function of its arguments, in a world that stays as it is.
-/
import Derived.Test.YtmanmebgmhpilaaProg
import Derived.WalkKit
import Derived.WalkSpells
import Derived.WalkLawsBesides
import Derived.Outline
import Derived.Lib.Hide
namespace Go.Proofs.Ytmanmebgmhpilaa
open Go.RowKit
set_option linter.unusedVariables false

theorem ret_int {k : IntKind} {a b : Int} (h : a = b) : Ending.returned (.int k a) = .returned (.int k b) := by rw [h]
theorem ret_bool {a b : Bool} (h : a = b) : Ending.returned (.bool a) = .returned (.bool b) := by rw [h]
theorem w64_id (n : Int) (h : -9223372036854775808 ≤ n) (h2 : n ≤ 9223372036854775807) : wrap64 n = n := IntWalk.wrap64_in n ⟨by omega, by omega⟩

def keep (n m : Int) : Int := max (min n m) 0
theorem keep_nn (n m : Int) : 0 ≤ keep n m := by unfold keep; omega
theorem keep_le (n m : Int) (h : 0 ≤ m) : keep n m ≤ m := by unfold keep; omega
theorem keep_id (n m : Int) (h : 0 ≤ n) (h2 : n ≤ m) : keep n m = n := by unfold keep; omega
theorem keep_mono (a b m : Int) (h : a ≤ b) : keep a m ≤ keep b m := by unfold keep; omega

def cnt (n : Int) : Int := keep n 2147483647
def tck (n : Int) : Int := keep n 1099511627776
theorem cnt_nn (n : Int) : 0 ≤ cnt n := keep_nn _ _
theorem cnt_le (n : Int) : cnt n ≤ 2147483647 := keep_le _ _ (by omega)
theorem tck_nn (n : Int) : 0 ≤ tck n := keep_nn _ _
theorem tck_le (n : Int) : tck n ≤ 1099511627776 := keep_le _ _ (by omega)
theorem cnt_id (n : Int) (h : 0 ≤ n) (h2 : n ≤ 2147483647) : cnt n = n := keep_id _ _ h h2
theorem tck_id (n : Int) (h : 0 ≤ n) (h2 : n ≤ 1099511627776) : tck n = n := keep_id _ _ h h2

def bAdd (a b : Int) : Int := cnt (cnt a + cnt b)
def bSub (a b : Int) : Int := cnt (cnt a - cnt b)
def bMul (a b : Int) : Int := cnt (cnt a * cnt b)
def bMean (a b : Int) : Int := if cnt b = 0 then 0 else cnt a / cnt b
def bShare (n p : Int) : Int := cnt n * keep p 100 / 100
def bPart (n p : Int) : Int := (cnt n * keep p 100 + 99) / 100
def bLater (a b : Int) : Int := tck (tck a + tck b)
def bLeft (a b : Int) : Int := tck (tck a - tck b)
def bSum : List Int → Int := List.foldl bAdd 0

theorem bAdd_comm (a b : Int) : bAdd a b = bAdd b a := by unfold bAdd; rw [Int.add_comm]
theorem bMul_comm (a b : Int) : bMul a b = bMul b a := by unfold bMul; rw [Int.mul_comm]
theorem bAdd_rng (a b : Int) : 0 ≤ bAdd a b ∧ bAdd a b ≤ 2147483647 := ⟨cnt_nn _, cnt_le _⟩
theorem mul_rng (a b x y : Int) (ha : 0 ≤ a) (ha2 : a ≤ x) (hb : 0 ≤ b) (hb2 : b ≤ y) : 0 ≤ a * b ∧ a * b ≤ x * y :=
  ⟨Int.mul_nonneg ha hb, Int.mul_le_mul ha2 hb2 hb (by omega)⟩
theorem div_rng (a b x : Int) (ha : 0 ≤ a) (ha2 : a ≤ x) (hb : 0 < b) : 0 ≤ a / b ∧ a / b ≤ x :=
  ⟨Int.ediv_nonneg ha (by omega), Int.le_trans (Int.ediv_le_self _ ha) ha2⟩

theorem keep_any (n m : Int) (w : World) : Calls Try.prog 74 #[.int .i64 n, .int .i64 m] w fun e w' => e = .returned (.int .i64 (keep n m)) ∧ w = w' := by
  go_enter Try.func74, Try.ntmps74
  go_wp2
  all_goals
    go_ret
    exact ⟨ret_int (by unfold keep; (repeat split at *) <;> omega), rfl⟩

theorem cnt_any (n : Int) (w : World) : Calls Try.prog 74 #[.int .i64 n, .int .i64 2147483647] w fun e w' => e = .returned (.int .i64 (cnt n)) ∧ w = w' := keep_any n _ w
theorem tck_any (n : Int) (w : World) : Calls Try.prog 74 #[.int .i64 n, .int .i64 1099511627776] w fun e w' => e = .returned (.int .i64 (tck n)) ∧ w = w' := keep_any n _ w

theorem rkeep_any (n m : Int) (w : World) : Calls Try.prog 73 #[.int .i64 n, .int .i64 m] w fun e w' => e = .returned (.int .i64 (keep n m)) ∧ w = w' := by
  go_enter Try.func73, Try.ntmps73
  go_wp2
  all_goals
    go_ret
    exact ⟨ret_int (by unfold keep; (repeat split at *) <;> omega), rfl⟩
theorem rtick_any (n : Int) (w : World) : Calls Try.prog 67 #[.int .i64 n] w fun e w' => e = .returned (.int .i64 (tck n)) ∧ w = w' := by
  go_enter Try.func67, Try.ntmps67
  go_wp2_with (go_at_call 73; (with_reducible refine (rkeep_any _ _ _).mono ?_); rintro e w' ⟨rfl, rfl⟩)
  go_ret
  exact ⟨rfl, rfl⟩
theorem left_any (n m : Int) (w : World) : Calls Try.prog 65 #[.int .i64 n, .int .i64 m] w fun e w' => e = .returned (.int .i64 (bLeft n m)) ∧ w = w' := by
  have h1 := tck_nn n
  have h2 := tck_nn m
  have h3 := tck_le n
  have h4 := tck_le m
  go_enter Try.func65, Try.ntmps65
  go_wp2_with (first | (go_at_call 74; (with_reducible refine (tck_any _ _).mono ?_); rintro e w' ⟨rfl, rfl⟩) | (go_at_call 69; go_in) | (go_at_call 70; go_in))
  go_ret
  exact ⟨rfl, rfl⟩
theorem rleft_any (n m : Int) (w : World) : Calls Try.prog 59 #[.int .i64 n, .int .i64 m] w fun e w' => e = .returned (.int .i64 (bLeft n m)) ∧ w = w' := by
  have h1 := tck_nn n
  have h2 := tck_nn m
  have h3 := tck_le n
  have h4 := tck_le m
  go_enter Try.func59, Try.ntmps59
  go_wp2_with (go_at_call 67; (with_reducible refine (rtick_any _ _).mono ?_); rintro e w' ⟨rfl, rfl⟩)
  go_ret
  exact ⟨rfl, rfl⟩
end Go.Proofs.Ytmanmebgmhpilaa
