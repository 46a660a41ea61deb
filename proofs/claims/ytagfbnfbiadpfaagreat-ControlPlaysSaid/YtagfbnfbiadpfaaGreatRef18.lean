/-
  Layer 18 (knob), the document's: Check.
-/
import Derived.Test.YtagfbnfbiadpfaaGreatKnob
namespace Go.Proofs.YtagfbnfbiadpfaaGreat
open Go.RowKit
set_option linter.unusedVariables false
set_option linter.unusedSimpArgs false

theorem rcheck_0 (k0 k1 k2 k3 k4 k5 k6 lv : Int) (w : World)  (n0 : lv < 1) : Calls Tryz.prog 14 #[kbV ⟨k0, k1, k2, k3, k4, k5, k6⟩, .int .i64 lv] w fun e w' => e = .returned (.int .i64 (kErr ⟨k0, k1, k2, k3, k4, k5, k6⟩ lv)) ∧ Below w.heap.size w w' := by
  have E := Lib.hid (show kErr ⟨k0, k1, k2, k3, k4, k5, k6⟩ lv = 10 by unfold kErr kOk kIn; simp; omega)
  go_enter Tryz.func14, Tryz.ntmps14
  go_wp2
  go_ret
  exact ⟨ret_int E.out.symm, (Below.refl _ _).alloc (Nat.le_refl _) _⟩
theorem rcheck_1 (k0 k1 k2 k3 k4 k5 k6 lv : Int) (w : World) (n0 : 1 ≤ lv) (n1 : 128 < lv) : Calls Tryz.prog 14 #[kbV ⟨k0, k1, k2, k3, k4, k5, k6⟩, .int .i64 lv] w fun e w' => e = .returned (.int .i64 (kErr ⟨k0, k1, k2, k3, k4, k5, k6⟩ lv)) ∧ Below w.heap.size w w' := by
  have E := Lib.hid (show kErr ⟨k0, k1, k2, k3, k4, k5, k6⟩ lv = 10 by unfold kErr kOk kIn; simp; omega)
  go_enter Tryz.func14, Tryz.ntmps14
  go_wp2
  go_ret
  exact ⟨ret_int E.out.symm, (Below.refl _ _).alloc (Nat.le_refl _) _⟩
theorem rcheck_2 (k0 k1 k2 k3 k4 k5 k6 lv : Int) (w : World) (n0 : 1 ≤ lv) (n1 : lv ≤ 128) (n2 : k0 < 0) : Calls Tryz.prog 14 #[kbV ⟨k0, k1, k2, k3, k4, k5, k6⟩, .int .i64 lv] w fun e w' => e = .returned (.int .i64 (kErr ⟨k0, k1, k2, k3, k4, k5, k6⟩ lv)) ∧ Below w.heap.size w w' := by
  have E := Lib.hid (show kErr ⟨k0, k1, k2, k3, k4, k5, k6⟩ lv = 10 by unfold kErr kOk kIn; simp; omega)
  go_enter Tryz.func14, Tryz.ntmps14
  go_wp2
  go_ret
  exact ⟨ret_int E.out.symm, (Below.refl _ _).alloc (Nat.le_refl _) _⟩
theorem rcheck_3 (k0 k1 k2 k3 k4 k5 k6 lv : Int) (w : World) (n0 : 1 ≤ lv) (n1 : lv ≤ 128) (n2 : 0 ≤ k0) (n3 : k1 < k0) : Calls Tryz.prog 14 #[kbV ⟨k0, k1, k2, k3, k4, k5, k6⟩, .int .i64 lv] w fun e w' => e = .returned (.int .i64 (kErr ⟨k0, k1, k2, k3, k4, k5, k6⟩ lv)) ∧ Below w.heap.size w w' := by
  have E := Lib.hid (show kErr ⟨k0, k1, k2, k3, k4, k5, k6⟩ lv = 10 by unfold kErr kOk kIn; simp; omega)
  go_enter Tryz.func14, Tryz.ntmps14
  go_wp2
  go_ret
  exact ⟨ret_int E.out.symm, (Below.refl _ _).alloc (Nat.le_refl _) _⟩
theorem rcheck_4 (k0 k1 k2 k3 k4 k5 k6 lv : Int) (w : World) (n0 : 1 ≤ lv) (n1 : lv ≤ 128) (n2 : 0 ≤ k0) (n3 : k0 ≤ k1) (n4 : 10000 < k1) : Calls Tryz.prog 14 #[kbV ⟨k0, k1, k2, k3, k4, k5, k6⟩, .int .i64 lv] w fun e w' => e = .returned (.int .i64 (kErr ⟨k0, k1, k2, k3, k4, k5, k6⟩ lv)) ∧ Below w.heap.size w w' := by
  have E := Lib.hid (show kErr ⟨k0, k1, k2, k3, k4, k5, k6⟩ lv = 10 by unfold kErr kOk kIn; simp; omega)
  go_enter Tryz.func14, Tryz.ntmps14
  go_wp2
  go_ret
  exact ⟨ret_int E.out.symm, (Below.refl _ _).alloc (Nat.le_refl _) _⟩
theorem rcheck_5 (k0 k1 k2 k3 k4 k5 k6 lv : Int) (w : World) (n0 : 1 ≤ lv) (n1 : lv ≤ 128) (n2 : 0 ≤ k0) (n3 : k0 ≤ k1) (n4 : k1 ≤ 10000) (n5 : k2 < 1) : Calls Tryz.prog 14 #[kbV ⟨k0, k1, k2, k3, k4, k5, k6⟩, .int .i64 lv] w fun e w' => e = .returned (.int .i64 (kErr ⟨k0, k1, k2, k3, k4, k5, k6⟩ lv)) ∧ Below w.heap.size w w' := by
  have E := Lib.hid (show kErr ⟨k0, k1, k2, k3, k4, k5, k6⟩ lv = 10 by unfold kErr kOk kIn; simp; omega)
  go_enter Tryz.func14, Tryz.ntmps14
  go_wp2
  go_ret
  exact ⟨ret_int E.out.symm, (Below.refl _ _).alloc (Nat.le_refl _) _⟩
theorem rcheck_6 (k0 k1 k2 k3 k4 k5 k6 lv : Int) (w : World) (n0 : 1 ≤ lv) (n1 : lv ≤ 128) (n2 : 0 ≤ k0) (n3 : k0 ≤ k1) (n4 : k1 ≤ 10000) (n5 : 1 ≤ k2) (n6 : 99 < k2) : Calls Tryz.prog 14 #[kbV ⟨k0, k1, k2, k3, k4, k5, k6⟩, .int .i64 lv] w fun e w' => e = .returned (.int .i64 (kErr ⟨k0, k1, k2, k3, k4, k5, k6⟩ lv)) ∧ Below w.heap.size w w' := by
  have E := Lib.hid (show kErr ⟨k0, k1, k2, k3, k4, k5, k6⟩ lv = 10 by unfold kErr kOk kIn; simp; omega)
  go_enter Tryz.func14, Tryz.ntmps14
  go_wp2
  go_ret
  exact ⟨ret_int E.out.symm, (Below.refl _ _).alloc (Nat.le_refl _) _⟩
theorem rcheck_7 (k0 k1 k2 k3 k4 k5 k6 lv : Int) (w : World) (n0 : 1 ≤ lv) (n1 : lv ≤ 128) (n2 : 0 ≤ k0) (n3 : k0 ≤ k1) (n4 : k1 ≤ 10000) (n5 : 1 ≤ k2) (n6 : k2 ≤ 99) (n7 : k3 < 1) : Calls Tryz.prog 14 #[kbV ⟨k0, k1, k2, k3, k4, k5, k6⟩, .int .i64 lv] w fun e w' => e = .returned (.int .i64 (kErr ⟨k0, k1, k2, k3, k4, k5, k6⟩ lv)) ∧ Below w.heap.size w w' := by
  have E := Lib.hid (show kErr ⟨k0, k1, k2, k3, k4, k5, k6⟩ lv = 10 by unfold kErr kOk kIn; simp; omega)
  go_enter Tryz.func14, Tryz.ntmps14
  go_wp2
  go_ret
  exact ⟨ret_int E.out.symm, (Below.refl _ _).alloc (Nat.le_refl _) _⟩
theorem rcheck_8 (k0 k1 k2 k3 k4 k5 k6 lv : Int) (w : World) (n0 : 1 ≤ lv) (n1 : lv ≤ 128) (n2 : 0 ≤ k0) (n3 : k0 ≤ k1) (n4 : k1 ≤ 10000) (n5 : 1 ≤ k2) (n6 : k2 ≤ 99) (n7 : 1 ≤ k3) (n8 : 100 < k3) : Calls Tryz.prog 14 #[kbV ⟨k0, k1, k2, k3, k4, k5, k6⟩, .int .i64 lv] w fun e w' => e = .returned (.int .i64 (kErr ⟨k0, k1, k2, k3, k4, k5, k6⟩ lv)) ∧ Below w.heap.size w w' := by
  have E := Lib.hid (show kErr ⟨k0, k1, k2, k3, k4, k5, k6⟩ lv = 10 by unfold kErr kOk kIn; simp; omega)
  go_enter Tryz.func14, Tryz.ntmps14
  go_wp2
  go_ret
  exact ⟨ret_int E.out.symm, (Below.refl _ _).alloc (Nat.le_refl _) _⟩
theorem rcheck_9 (k0 k1 k2 k3 k4 k5 k6 lv : Int) (w : World) (n0 : 1 ≤ lv) (n1 : lv ≤ 128) (n2 : 0 ≤ k0) (n3 : k0 ≤ k1) (n4 : k1 ≤ 10000) (n5 : 1 ≤ k2) (n6 : k2 ≤ 99) (n7 : 1 ≤ k3) (n8 : k3 ≤ 100) (n9 : k4 < 0) : Calls Tryz.prog 14 #[kbV ⟨k0, k1, k2, k3, k4, k5, k6⟩, .int .i64 lv] w fun e w' => e = .returned (.int .i64 (kErr ⟨k0, k1, k2, k3, k4, k5, k6⟩ lv)) ∧ Below w.heap.size w w' := by
  have E := Lib.hid (show kErr ⟨k0, k1, k2, k3, k4, k5, k6⟩ lv = 10 by unfold kErr kOk kIn; simp; omega)
  go_enter Tryz.func14, Tryz.ntmps14
  go_wp2
  go_ret
  exact ⟨ret_int E.out.symm, (Below.refl _ _).alloc (Nat.le_refl _) _⟩
theorem rcheck_10 (k0 k1 k2 k3 k4 k5 k6 lv : Int) (w : World) (n0 : 1 ≤ lv) (n1 : lv ≤ 128) (n2 : 0 ≤ k0) (n3 : k0 ≤ k1) (n4 : k1 ≤ 10000) (n5 : 1 ≤ k2) (n6 : k2 ≤ 99) (n7 : 1 ≤ k3) (n8 : k3 ≤ 100) (n9 : 0 ≤ k4) (n10 : lv < k4) : Calls Tryz.prog 14 #[kbV ⟨k0, k1, k2, k3, k4, k5, k6⟩, .int .i64 lv] w fun e w' => e = .returned (.int .i64 (kErr ⟨k0, k1, k2, k3, k4, k5, k6⟩ lv)) ∧ Below w.heap.size w w' := by
  have E := Lib.hid (show kErr ⟨k0, k1, k2, k3, k4, k5, k6⟩ lv = 10 by unfold kErr kOk kIn; simp; omega)
  go_enter Tryz.func14, Tryz.ntmps14
  go_wp2
  go_ret
  exact ⟨ret_int E.out.symm, (Below.refl _ _).alloc (Nat.le_refl _) _⟩
theorem rcheck_11 (k0 k1 k2 k3 k4 k5 k6 lv : Int) (w : World) (n0 : 1 ≤ lv) (n1 : lv ≤ 128) (n2 : 0 ≤ k0) (n3 : k0 ≤ k1) (n4 : k1 ≤ 10000) (n5 : 1 ≤ k2) (n6 : k2 ≤ 99) (n7 : 1 ≤ k3) (n8 : k3 ≤ 100) (n9 : 0 ≤ k4) (n10 : k4 ≤ lv) (n11 : k5 < 1) : Calls Tryz.prog 14 #[kbV ⟨k0, k1, k2, k3, k4, k5, k6⟩, .int .i64 lv] w fun e w' => e = .returned (.int .i64 (kErr ⟨k0, k1, k2, k3, k4, k5, k6⟩ lv)) ∧ Below w.heap.size w w' := by
  have E := Lib.hid (show kErr ⟨k0, k1, k2, k3, k4, k5, k6⟩ lv = 10 by unfold kErr kOk kIn; simp; omega)
  go_enter Tryz.func14, Tryz.ntmps14
  go_wp2
  go_ret
  exact ⟨ret_int E.out.symm, (Below.refl _ _).alloc (Nat.le_refl _) _⟩
theorem rcheck_12 (k0 k1 k2 k3 k4 k5 k6 lv : Int) (w : World) (n0 : 1 ≤ lv) (n1 : lv ≤ 128) (n2 : 0 ≤ k0) (n3 : k0 ≤ k1) (n4 : k1 ≤ 10000) (n5 : 1 ≤ k2) (n6 : k2 ≤ 99) (n7 : 1 ≤ k3) (n8 : k3 ≤ 100) (n9 : 0 ≤ k4) (n10 : k4 ≤ lv) (n11 : 1 ≤ k5) (n12 : 32 < k5) : Calls Tryz.prog 14 #[kbV ⟨k0, k1, k2, k3, k4, k5, k6⟩, .int .i64 lv] w fun e w' => e = .returned (.int .i64 (kErr ⟨k0, k1, k2, k3, k4, k5, k6⟩ lv)) ∧ Below w.heap.size w w' := by
  have E := Lib.hid (show kErr ⟨k0, k1, k2, k3, k4, k5, k6⟩ lv = 10 by unfold kErr kOk kIn; simp; omega)
  go_enter Tryz.func14, Tryz.ntmps14
  go_wp2
  go_ret
  exact ⟨ret_int E.out.symm, (Below.refl _ _).alloc (Nat.le_refl _) _⟩
theorem rcheck_13 (k0 k1 k2 k3 k4 k5 k6 lv : Int) (w : World) (n0 : 1 ≤ lv) (n1 : lv ≤ 128) (n2 : 0 ≤ k0) (n3 : k0 ≤ k1) (n4 : k1 ≤ 10000) (n5 : 1 ≤ k2) (n6 : k2 ≤ 99) (n7 : 1 ≤ k3) (n8 : k3 ≤ 100) (n9 : 0 ≤ k4) (n10 : k4 ≤ lv) (n11 : 1 ≤ k5) (n12 : k5 ≤ 32) (n13 : k6 < 1) : Calls Tryz.prog 14 #[kbV ⟨k0, k1, k2, k3, k4, k5, k6⟩, .int .i64 lv] w fun e w' => e = .returned (.int .i64 (kErr ⟨k0, k1, k2, k3, k4, k5, k6⟩ lv)) ∧ Below w.heap.size w w' := by
  have E := Lib.hid (show kErr ⟨k0, k1, k2, k3, k4, k5, k6⟩ lv = 10 by unfold kErr kOk kIn; simp; omega)
  go_enter Tryz.func14, Tryz.ntmps14
  go_wp2
  go_ret
  exact ⟨ret_int E.out.symm, (Below.refl _ _).alloc (Nat.le_refl _) _⟩
theorem rcheck_14 (k0 k1 k2 k3 k4 k5 k6 lv : Int) (w : World) (n0 : 1 ≤ lv) (n1 : lv ≤ 128) (n2 : 0 ≤ k0) (n3 : k0 ≤ k1) (n4 : k1 ≤ 10000) (n5 : 1 ≤ k2) (n6 : k2 ≤ 99) (n7 : 1 ≤ k3) (n8 : k3 ≤ 100) (n9 : 0 ≤ k4) (n10 : k4 ≤ lv) (n11 : 1 ≤ k5) (n12 : k5 ≤ 32) (n13 : 1 ≤ k6) (n14 : 32 < k6) : Calls Tryz.prog 14 #[kbV ⟨k0, k1, k2, k3, k4, k5, k6⟩, .int .i64 lv] w fun e w' => e = .returned (.int .i64 (kErr ⟨k0, k1, k2, k3, k4, k5, k6⟩ lv)) ∧ Below w.heap.size w w' := by
  have E := Lib.hid (show kErr ⟨k0, k1, k2, k3, k4, k5, k6⟩ lv = 10 by unfold kErr kOk kIn; simp; omega)
  go_enter Tryz.func14, Tryz.ntmps14
  go_wp2
  go_ret
  exact ⟨ret_int E.out.symm, (Below.refl _ _).alloc (Nat.le_refl _) _⟩
theorem rcheck_15 (k0 k1 k2 k3 k4 k5 k6 lv : Int) (w : World) (n0 : 1 ≤ lv) (n1 : lv ≤ 128) (n2 : 0 ≤ k0) (n3 : k0 ≤ k1) (n4 : k1 ≤ 10000) (n5 : 1 ≤ k2) (n6 : k2 ≤ 99) (n7 : 1 ≤ k3) (n8 : k3 ≤ 100) (n9 : 0 ≤ k4) (n10 : k4 ≤ lv) (n11 : 1 ≤ k5) (n12 : k5 ≤ 32) (n13 : 1 ≤ k6) (n14 : k6 ≤ 32)  : Calls Tryz.prog 14 #[kbV ⟨k0, k1, k2, k3, k4, k5, k6⟩, .int .i64 lv] w fun e w' => e = .returned (.int .i64 (kErr ⟨k0, k1, k2, k3, k4, k5, k6⟩ lv)) ∧ Below w.heap.size w w' := by
  have E := Lib.hid (show kErr ⟨k0, k1, k2, k3, k4, k5, k6⟩ lv = 0 by unfold kErr kOk kIn; simp; omega)
  go_enter Tryz.func14, Tryz.ntmps14
  go_wp2
  go_ret
  exact ⟨ret_int E.out.symm, (Below.refl _ _).alloc (Nat.le_refl _) _⟩
theorem rcheck_any (k : Kb) (lv : Int) (w : World) : Calls Tryz.prog 14 #[kbV k, .int .i64 lv] w fun e w' => e = .returned (.int .i64 (kErr k lv)) ∧ Below w.heap.size w w' := by
  obtain ⟨k0, k1, k2, k3, k4, k5, k6⟩ := k
  by_cases c0 : lv < 1
  · exact rcheck_0 k0 k1 k2 k3 k4 k5 k6 lv w  c0
  by_cases c1 : 128 < lv
  · exact rcheck_1 k0 k1 k2 k3 k4 k5 k6 lv w (by omega) c1
  by_cases c2 : k0 < 0
  · exact rcheck_2 k0 k1 k2 k3 k4 k5 k6 lv w (by omega) (by omega) c2
  by_cases c3 : k1 < k0
  · exact rcheck_3 k0 k1 k2 k3 k4 k5 k6 lv w (by omega) (by omega) (by omega) c3
  by_cases c4 : 10000 < k1
  · exact rcheck_4 k0 k1 k2 k3 k4 k5 k6 lv w (by omega) (by omega) (by omega) (by omega) c4
  by_cases c5 : k2 < 1
  · exact rcheck_5 k0 k1 k2 k3 k4 k5 k6 lv w (by omega) (by omega) (by omega) (by omega) (by omega) c5
  by_cases c6 : 99 < k2
  · exact rcheck_6 k0 k1 k2 k3 k4 k5 k6 lv w (by omega) (by omega) (by omega) (by omega) (by omega) (by omega) c6
  by_cases c7 : k3 < 1
  · exact rcheck_7 k0 k1 k2 k3 k4 k5 k6 lv w (by omega) (by omega) (by omega) (by omega) (by omega) (by omega) (by omega) c7
  by_cases c8 : 100 < k3
  · exact rcheck_8 k0 k1 k2 k3 k4 k5 k6 lv w (by omega) (by omega) (by omega) (by omega) (by omega) (by omega) (by omega) (by omega) c8
  by_cases c9 : k4 < 0
  · exact rcheck_9 k0 k1 k2 k3 k4 k5 k6 lv w (by omega) (by omega) (by omega) (by omega) (by omega) (by omega) (by omega) (by omega) (by omega) c9
  by_cases c10 : lv < k4
  · exact rcheck_10 k0 k1 k2 k3 k4 k5 k6 lv w (by omega) (by omega) (by omega) (by omega) (by omega) (by omega) (by omega) (by omega) (by omega) (by omega) c10
  by_cases c11 : k5 < 1
  · exact rcheck_11 k0 k1 k2 k3 k4 k5 k6 lv w (by omega) (by omega) (by omega) (by omega) (by omega) (by omega) (by omega) (by omega) (by omega) (by omega) (by omega) c11
  by_cases c12 : 32 < k5
  · exact rcheck_12 k0 k1 k2 k3 k4 k5 k6 lv w (by omega) (by omega) (by omega) (by omega) (by omega) (by omega) (by omega) (by omega) (by omega) (by omega) (by omega) (by omega) c12
  by_cases c13 : k6 < 1
  · exact rcheck_13 k0 k1 k2 k3 k4 k5 k6 lv w (by omega) (by omega) (by omega) (by omega) (by omega) (by omega) (by omega) (by omega) (by omega) (by omega) (by omega) (by omega) (by omega) c13
  by_cases c14 : 32 < k6
  · exact rcheck_14 k0 k1 k2 k3 k4 k5 k6 lv w (by omega) (by omega) (by omega) (by omega) (by omega) (by omega) (by omega) (by omega) (by omega) (by omega) (by omega) (by omega) (by omega) (by omega) c14
  exact rcheck_15 k0 k1 k2 k3 k4 k5 k6 lv w (by omega) (by omega) (by omega) (by omega) (by omega) (by omega) (by omega) (by omega) (by omega) (by omega) (by omega) (by omega) (by omega) (by omega) (by omega)
end Go.Proofs.YtagfbnfbiadpfaaGreat
