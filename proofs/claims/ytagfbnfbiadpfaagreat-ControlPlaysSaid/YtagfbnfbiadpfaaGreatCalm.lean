
/-
  What the functions of the packages calm and lockkeeperref19 return: plain Lean functions of their arguments. A struct that comes by value lies in a block of the call's own: below the old heap's size nothing has changed.
-/
import Derived.Test.YtagfbnfbiadpfaaGreatSum
namespace Go.Proofs.YtagfbnfbiadpfaaGreat
open Go.RowKit
set_option linter.unusedVariables false

def caOne (n : Int) : Int := max (cnt n) 1
def caSteps (a b : Int) : Int := max (cnt b - cnt a) 0
def caOpen (turn a b : Int) : Int := if caSteps a b = 0 then 0 else bAdd (caOne turn - 1) (caSteps a b)
def caBright (dwell a b : Int) : Int := bMul (caOne dwell) (caSteps a b)
def caWin (turn dwell a b c d : Int) : Int := bAdd (caOpen turn a b) (caBright dwell c d)

theorem caOne_rng (n : Int) : 1 ≤ caOne n ∧ caOne n ≤ 2147483647 := by
  have := cnt_le n
  unfold caOne
  omega
theorem caSteps_rng (a b : Int) : 0 ≤ caSteps a b ∧ caSteps a b ≤ 2147483647 := by
  have := cnt_le b
  have := cnt_nn a
  unfold caSteps
  omega
theorem bSum_two (a b : Int) : bSum [a, b] = bAdd a b := by
  unfold bSum bAdd
  simp only [List.foldl]
  have h0 : cnt 0 = 0 := rfl
  have h1 : cnt (cnt a) = cnt a := cnt_id _ (cnt_nn _) (cnt_le _)
  rw [h0, Int.zero_add, h1, h1]

theorem walkSteps_any (a b : Int) (w : World) (a0 : 0 ≤ a) (a1 : a ≤ 2147483647) (b0 : 0 ≤ b) (b1 : b ≤ 2147483647) : Calls Tryz.prog 115 #[.int .i64 a, .int .i64 b] w fun e w' => e = .returned (.int .i64 (max (b - a) 0)) ∧ w = w' := by
  by_cases h : b ≤ a
  · go_enter Tryz.func115, Tryz.ntmps115
    go_wp2
    go_ret
    exact ⟨ret_int (by omega), rfl⟩
  · have hp : 0 < b - a := by omega
    go_enter Tryz.func115, Tryz.ntmps115
    go_wp2_with (go_at_call 64; (with_reducible refine (cnt_any _ _).mono ?_); rintro e w' ⟨rfl, rfl⟩)
    go_ret
    exact ⟨ret_int (by show cnt (b - a) = _; rw [cnt_id _ (by omega) (by omega)]; omega), rfl⟩
theorem ccount_any (n m : Int) (w : World) : Calls Tryz.prog 107 #[.int .i64 n, .int .i64 m] w fun e w' => e = .returned (.int .i64 (max (cnt n) m)) ∧ w = w' := by
  go_enter Tryz.func107, Tryz.ntmps107
  go_wp2_with (go_at_call 64; (with_reducible refine (cnt_any _ _).mono ?_); rintro e w' ⟨rfl, rfl⟩)
  all_goals
    go_ret
    exact ⟨ret_int (by (repeat split at *) <;> omega), rfl⟩
theorem ccount0_any (n : Int) (w : World) : Calls Tryz.prog 107 #[.int .i64 n, .int .i64 0] w fun e w' => e = .returned (.int .i64 (cnt n)) ∧ w = w' :=
  (ccount_any n 0 w).mono fun e w' ⟨he, hw⟩ => ⟨by rw [he]; exact ret_int (by have := cnt_nn n; omega), hw⟩
theorem ccount1_any (n : Int) (w : World) : Calls Tryz.prog 107 #[.int .i64 n, .int .i64 1] w fun e w' => e = .returned (.int .i64 (caOne n)) ∧ w = w' := ccount_any n 1 w
theorem csteps_any (a b : Int) (w : World) : Calls Tryz.prog 104 #[.int .i64 a, .int .i64 b] w fun e w' => e = .returned (.int .i64 (caSteps a b)) ∧ w = w' := by
  go_enter Tryz.func104, Tryz.ntmps104
  go_wp2_with (first | (go_at_call 107; (with_reducible refine (ccount0_any _ _).mono ?_); rintro e w' ⟨rfl, rfl⟩) | (go_at_call 115; (with_reducible refine (walkSteps_any _ _ _ (cnt_nn _) (cnt_le _) (cnt_nn _) (cnt_le _)).mono ?_); rintro e w' ⟨rfl, rfl⟩))
  go_ret
  exact ⟨rfl, rfl⟩
theorem rsteps_any (a b : Int) (w : World) : Calls Tryz.prog 84 #[.int .i64 a, .int .i64 b] w fun e w' => e = .returned (.int .i64 (caSteps a b)) ∧ w = w' := by
  have h1 := cnt_nn a
  have h2 := cnt_nn b
  have h3 := cnt_le a
  have h4 := cnt_le b
  go_enter Tryz.func84, Tryz.ntmps84
  go_wp2_with (go_at_call 83; (with_reducible refine (rcount_any _ _).mono ?_); rintro e w' ⟨rfl, rfl⟩)
  all_goals
    go_ret
    exact ⟨ret_int (by unfold caSteps; omega), rfl⟩
theorem rone_any (n : Int) (w : World) : Calls Tryz.prog 85 #[.int .i64 n] w fun e w' => e = .returned (.int .i64 (caOne n)) ∧ w = w' := by
  go_enter Tryz.func85, Tryz.ntmps85
  go_wp2_with (go_at_call 83; (with_reducible refine (rcount_any _ _).mono ?_); rintro e w' ⟨rfl, rfl⟩)
  all_goals
    go_ret
    exact ⟨ret_int (by unfold caOne cnt keep; omega), rfl⟩

theorem cfirst_any (k0 k1 k2 k3 k4 k5 k6 : Int) (w : World) : Calls Tryz.prog 105 #[.agg #[.int .i64 k0, .int .i64 k1, .int .i64 k2, .int .i64 k3, .int .i64 k4, .int .i64 k5, .int .i64 k6]] w fun e w' => e = .returned (.int .i64 (caOne k5)) ∧ Below w.heap.size w w' := by
  go_enter Tryz.func105, Tryz.ntmps105
  go_wp2_with (go_at_call 107; (with_reducible refine (ccount1_any _ _).mono ?_); rintro e w' ⟨rfl, rfl⟩)
  go_ret
  exact ⟨rfl, (Below.refl _ _).alloc (Nat.le_refl _) _⟩
theorem cbright_any (k0 k1 k2 k3 k4 k5 k6 : Int) (a b : Int) (w : World) : Calls Tryz.prog 82 #[.agg #[.int .i64 k0, .int .i64 k1, .int .i64 k2, .int .i64 k3, .int .i64 k4, .int .i64 k5, .int .i64 k6], .int .i64 a, .int .i64 b] w fun e w' => e = .returned (.int .i64 (caBright k6 a b)) ∧ Below w.heap.size w w' := by
  go_enter Tryz.func82, Tryz.ntmps82
  go_wp2_with (first | (go_at_call 107; (with_reducible refine (ccount1_any _ _).mono ?_); rintro e w' ⟨rfl, rfl⟩) | (go_at_call 104; (with_reducible refine (csteps_any _ _ _).mono ?_); rintro e w' ⟨rfl, rfl⟩) | (go_at_call 106; (with_reducible refine (mul_any _ _ _).mono ?_); rintro e w' ⟨rfl, rfl⟩))
  go_ret
  exact ⟨rfl, (Below.refl _ _).alloc (Nat.le_refl _) _⟩
theorem rbright_any (k0 k1 k2 k3 k4 k5 k6 : Int) (a b : Int) (w : World) : Calls Tryz.prog 61 #[.agg #[.int .i64 k0, .int .i64 k1, .int .i64 k2, .int .i64 k3, .int .i64 k4, .int .i64 k5, .int .i64 k6], .int .i64 a, .int .i64 b] w fun e w' => e = .returned (.int .i64 (caBright k6 a b)) ∧ Below w.heap.size w w' := by
  go_enter Tryz.func61, Tryz.ntmps61
  go_wp2_with (first | (go_at_call 85; (with_reducible refine (rone_any _ _).mono ?_); rintro e w' ⟨rfl, rfl⟩) | (go_at_call 84; (with_reducible refine (rsteps_any _ _ _).mono ?_); rintro e w' ⟨rfl, rfl⟩) | (go_at_call 86; (with_reducible refine (rmul_any _ _ _).mono ?_); rintro e w' ⟨rfl, rfl⟩))
  go_ret
  exact ⟨rfl, (Below.refl _ _).alloc (Nat.le_refl _) _⟩
theorem ropen_any (k0 k1 k2 k3 k4 k5 k6 : Int) (a b : Int) (w : World) : Calls Tryz.prog 60 #[.agg #[.int .i64 k0, .int .i64 k1, .int .i64 k2, .int .i64 k3, .int .i64 k4, .int .i64 k5, .int .i64 k6], .int .i64 a, .int .i64 b] w fun e w' => e = .returned (.int .i64 (caOpen k5 a b)) ∧ Below w.heap.size w w' := by
  obtain ⟨o1, o2⟩ := caOne_rng k5
  by_cases h : caSteps a b = 0
  · have hb : (caSteps a b == 0) = true := by simpa using h
    have HZ := Lib.hid h
    clear h
    go_enter Tryz.func60, Tryz.ntmps60
    go_wp2_with (first | (go_at_call 85; (with_reducible refine (rone_any _ _).mono ?_); rintro e w' ⟨rfl, rfl⟩) | (go_at_call 84; (with_reducible refine (rsteps_any _ _ _).mono ?_); rintro e w' ⟨rfl, rfl⟩) | (go_at_call 59; (with_reducible refine (radd_any _ _ _).mono ?_); rintro e w' ⟨rfl, rfl⟩))
    go_ret
    exact ⟨ret_int (by unfold caOpen; rw [if_pos HZ.out]), (Below.refl _ _).alloc (Nat.le_refl _) _⟩
  · have hb : (caSteps a b == 0) = false := by simpa using h
    have HZ := Lib.hid h
    clear h
    go_enter Tryz.func60, Tryz.ntmps60
    go_wp2_with (first | (go_at_call 85; (with_reducible refine (rone_any _ _).mono ?_); rintro e w' ⟨rfl, rfl⟩) | (go_at_call 84; (with_reducible refine (rsteps_any _ _ _).mono ?_); rintro e w' ⟨rfl, rfl⟩) | (go_at_call 59; (with_reducible refine (radd_any _ _ _).mono ?_); rintro e w' ⟨rfl, rfl⟩))
    go_ret
    exact ⟨ret_int (by unfold caOpen; rw [if_neg HZ.out]), (Below.refl _ _).alloc (Nat.le_refl _) _⟩

theorem sum_two (a b : Int) (w : World) (ty : TypeId) : Calls Tryz.prog 103 #[.slice (some ⟨w.heap.size, 0, none⟩) 2 2] (w.alloc (.cells #[.int .i64 a, .int .i64 b] ty)) fun e w' => e = .returned (.int .i64 (bAdd a b)) ∧ w.alloc (.cells #[.int .i64 a, .int .i64 b] ty) = w' := by
  rw [← bSum_two]
  exact sum_any _ [a, b] _ ⟨some ⟨w.heap.size, 0, none⟩, 2, rfl, by simp, by simp, intsAt_new w ty [a, b]⟩
theorem copen_any (k0 k1 k2 k3 k4 k5 k6 : Int) (a b : Int) (w : World) : Calls Tryz.prog 81 #[.agg #[.int .i64 k0, .int .i64 k1, .int .i64 k2, .int .i64 k3, .int .i64 k4, .int .i64 k5, .int .i64 k6], .int .i64 a, .int .i64 b] w fun e w' => e = .returned (.int .i64 (caOpen k5 a b)) ∧ Below w.heap.size w w' := by
  obtain ⟨o1, o2⟩ := caOne_rng k5
  by_cases h : caSteps a b = 0
  · have hb : (caSteps a b == 0) = true := by simpa using h
    have HZ := Lib.hid h
    clear h
    go_enter Tryz.func81, Tryz.ntmps81
    go_wp2_with (first | (go_at_call 104; (with_reducible refine (csteps_any _ _ _).mono ?_); rintro e w' ⟨rfl, rfl⟩))
    go_ret
    exact ⟨ret_int (by unfold caOpen; rw [if_pos HZ.out]), (Below.refl _ _).alloc (Nat.le_refl _) _⟩
  · have hb : (caSteps a b == 0) = false := by simpa using h
    have HZ := Lib.hid h
    clear h
    go_enter Tryz.func81, Tryz.ntmps81
    go_wp2_with (first | (go_at_call 104; (with_reducible refine (csteps_any _ _ _).mono ?_); rintro e w' ⟨rfl, rfl⟩))
    refine (cfirst_any _ _ _ _ _ _ _ _).mono ?_
    rintro e w1 ⟨rfl, hb1⟩
    have hs := hb1.size
    simp at hs
    go_wp2_with fail
    refine (sum_two _ _ _ _).mono ?_
    rintro e w2 ⟨rfl, rfl⟩
    go_wp2_with fail
    go_ret
    exact ⟨ret_int (by unfold caOpen; rw [if_neg HZ.out]), (((Below.refl _ _).alloc (Nat.le_refl _) _).trans (hb1.mono (by simp))).alloc (by omega) _⟩

theorem ctogether_two (a b : Int) (w : World) (e : TypeId) : Calls Tryz.prog 80 #[.slice (some ⟨w.heap.size, 0, none⟩) 2 2] (w.alloc (.cells #[.int .i64 a, .int .i64 b] e)) fun e' w' => e' = .returned (.int .i64 (bAdd a b)) ∧ w.alloc (.cells #[.int .i64 a, .int .i64 b] e) = w' := by
  go_enter Tryz.func80, Tryz.ntmps80
  go_wp2_with (go_at_call 103; refine (sum_two a b w e).mono ?_; rintro e w' ⟨rfl, rfl⟩)
  go_ret
  exact ⟨rfl, rfl⟩

theorem knobs_keep {n : Nat} {k0 k1 k2 k3 k4 k5 k6 : Int} {W W1 : World} (hb : Below W.heap.size W W1) (h : W.cell? ⟨n, 0, none⟩ = some (.int .i64 k0) ∧ W.cell? ⟨n, 1, none⟩ = some (.int .i64 k1) ∧ W.cell? ⟨n, 2, none⟩ = some (.int .i64 k2) ∧ W.cell? ⟨n, 3, none⟩ = some (.int .i64 k3) ∧ W.cell? ⟨n, 4, none⟩ = some (.int .i64 k4) ∧ W.cell? ⟨n, 5, none⟩ = some (.int .i64 k5) ∧ W.cell? ⟨n, 6, none⟩ = some (.int .i64 k6)) :
    W1.cell? ⟨n, 0, none⟩ = some (.int .i64 k0) ∧ W1.cell? ⟨n, 1, none⟩ = some (.int .i64 k1) ∧ W1.cell? ⟨n, 2, none⟩ = some (.int .i64 k2) ∧ W1.cell? ⟨n, 3, none⟩ = some (.int .i64 k3) ∧ W1.cell? ⟨n, 4, none⟩ = some (.int .i64 k4) ∧ W1.cell? ⟨n, 5, none⟩ = some (.int .i64 k5) ∧ W1.cell? ⟨n, 6, none⟩ = some (.int .i64 k6) := by
  obtain ⟨c0, c1, c2, c3, c4, c5, c6⟩ := h
  exact ⟨cell_keep hb c0, cell_keep hb c1, cell_keep hb c2, cell_keep hb c3, cell_keep hb c4, cell_keep hb c5, cell_keep hb c6⟩

set_option maxHeartbeats 1000000 in
theorem cwindows_any (k0 k1 k2 k3 k4 k5 k6 : Int) (a b c d : Int) (w : World) : Calls Tryz.prog 58 #[.agg #[.int .i64 k0, .int .i64 k1, .int .i64 k2, .int .i64 k3, .int .i64 k4, .int .i64 k5, .int .i64 k6], .int .i64 a, .int .i64 b, .int .i64 c, .int .i64 d] w fun e w' => e = .returned (.int .i64 (caWin k5 k6 a b c d)) ∧ Below w.heap.size w w' := by
  go_enter Tryz.func58, Tryz.ntmps58
  go_wp2_with fail
  go_region_held3 (fun w' => w'.cell? ⟨w.heap.size, 0, none⟩ = some (.int .i64 k0) ∧ w'.cell? ⟨w.heap.size, 1, none⟩ = some (.int .i64 k1) ∧ w'.cell? ⟨w.heap.size, 2, none⟩ = some (.int .i64 k2) ∧ w'.cell? ⟨w.heap.size, 3, none⟩ = some (.int .i64 k3) ∧ w'.cell? ⟨w.heap.size, 4, none⟩ = some (.int .i64 k4) ∧ w'.cell? ⟨w.heap.size, 5, none⟩ = some (.int .i64 k5) ∧ w'.cell? ⟨w.heap.size, 6, none⟩ = some (.int .i64 k6)) (first | go_keep | assumption)
    (first | (go_at_call 81; refine (copen_any _ _ _ _ _ _ _ _ _ _).mono ?_; rintro e w1 ⟨rfl, hb1⟩; have hk1 := knobs_keep hb1 (by assumption)) | (go_at_call 82; refine (cbright_any _ _ _ _ _ _ _ _ _ _).mono ?_; rintro e w2 ⟨rfl, hb2⟩; have hk2 := knobs_keep hb2 (by assumption)) | (go_at_call 80; refine (ctogether_two _ _ _ _).mono ?_; rintro e w3 ⟨rfl, rfl⟩))
  go_wp2_with fail
  go_ret
  have s1 := hb1.size
  have s2 := hb2.size
  simp at s1
  exact ⟨rfl, (((((Below.refl _ _).alloc (Nat.le_refl _) _).drew).trans (hb1.mono (by simp))).trans (hb2.mono (by omega))).alloc (by omega) _⟩

end Go.Proofs.YtagfbnfbiadpfaaGreat
