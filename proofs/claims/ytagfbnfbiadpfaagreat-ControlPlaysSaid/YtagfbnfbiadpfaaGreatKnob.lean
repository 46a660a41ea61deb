/-
  knob: Check.
-/
import Derived.Test.YtagfbnfbiadpfaaGreatFrame
import Derived.Test.YtagfbnfbiadpfaaGreatBound
import Derived.Handy
import Derived.Lib.Hide
namespace Go.Proofs.YtagfbnfbiadpfaaGreat
open Go.RowKit
set_option linter.unusedVariables false
set_option linter.unusedSimpArgs false

/-- Settings. -/
structure Kb where
  k0 : Int
  k1 : Int
  k2 : Int
  k3 : Int
  k4 : Int
  k5 : Int
  k6 : Int
abbrev kbCells (k : Kb) : List Value := [.int .i64 k.k0, .int .i64 k.k1, .int .i64 k.k2, .int .i64 k.k3, .int .i64 k.k4, .int .i64 k.k5, .int .i64 k.k6]
abbrev kbV (k : Kb) : Value := .agg #[.int .i64 k.k0, .int .i64 k.k1, .int .i64 k.k2, .int .i64 k.k3, .int .i64 k.k4, .int .i64 k.k5, .int .i64 k.k6]
/-- May a setting be? -/
def kIn (k : Kb) (lv : Int) : Nat → Bool
  | 0 => decide (0 ≤ k.k0 ∧ k.k0 ≤ k.k1)
  | 1 => decide (0 ≤ k.k1 ∧ k.k1 ≤ 10000)
  | 2 => decide (1 ≤ k.k2 ∧ k.k2 ≤ 99)
  | 3 => decide (1 ≤ k.k3 ∧ k.k3 ≤ 100)
  | 4 => decide (0 ≤ k.k4 ∧ k.k4 ≤ lv)
  | 5 => decide (1 ≤ k.k5 ∧ k.k5 ≤ 32)
  | _ => decide (1 ≤ k.k6 ∧ k.k6 ≤ 32)
def kOk (k : Kb) (lv : Int) : Bool := decide (1 ≤ lv ∧ lv ≤ 128) && (kIn k lv 0 && kIn k lv 1 && kIn k lv 2 && kIn k lv 3 && kIn k lv 4 && kIn k lv 5 && kIn k lv 6)
def kErr (k : Kb) (lv : Int) : Int := if kOk k lv = true then 0 else 10
theorem field_at (B : Nat) (k : Nat) (hk : k < 7) (w : World) : Calls Tryz.prog 55 #[.pointer (some ⟨B, 0, none⟩), .int .i64 k] w fun e w' => e = .returned (.pointer (some ⟨B, k, none⟩)) ∧ w = w' := by
  match k, hk with
  | 0, _ | 1, _ | 2, _ | 3, _ | 4, _ | 5, _ | 6, _ =>
    go_enter Tryz.func55, Tryz.ntmps55
    go_wp2
    go_ret
    exact ⟨rfl, rfl⟩
theorem kErr_bad {k : Kb} {lv : Int} (q : Nat) (hq : q < 7) (h : kIn k lv q = false) : kErr k lv = 10 := by
  unfold kErr
  rw [if_neg]
  unfold kOk
  match q, hq with
  | 0, _ | 1, _ | 2, _ | 3, _ | 4, _ | 5, _ | 6, _ => simp [h]
theorem kErr_good {k : Kb} {lv : Int} (h1 : 1 ≤ lv) (h2 : lv ≤ 128) (h : ∀ q, q < 7 → kIn k lv q = true) : kErr k lv = 0 := by
  unfold kErr
  rw [if_pos]
  unfold kOk
  simp [h 0 (by omega), h 1 (by omega), h 2 (by omega), h 3 (by omega), h 4 (by omega), h 5 (by omega), h 6 (by omega), h1, h2]
theorem check_lv (k : Kb) (lv : Int) (w : World) (h : lv < 1 ∨ (1 ≤ lv ∧ 128 < lv)) : Calls Tryz.prog 23 #[kbV k, .int .i64 lv] w fun e w' => e = .returned (.int .i64 10) ∧ Below w.heap.size w w' := by
  rcases h with h | ⟨h, h2⟩
  all_goals
    go_enter Tryz.func23, Tryz.ntmps23
    go_wp2
    go_ret
    exact ⟨rfl, (Below.refl _ _).alloc (Nat.le_refl _) _⟩
theorem ix_0 (k1 lv : Int) (w : World) : (Instr.index 95 (.agg #[.int .i64 0, .int .i64 k1, .int .i64 0, .int .i64 10000, .int .i64 1, .int .i64 99, .int .i64 1, .int .i64 100, .int .i64 0, .int .i64 lv, .int .i64 1, .int .i64 32, .int .i64 1, .int .i64 32]) (.int .i64 0)).run Tryz.prog w = .ok (.agg #[.int .i64 0, .int .i64 k1]) w := by kernel_rfl
theorem field_0 (B : Nat) (w : World) : Calls Tryz.prog 55 #[.pointer (some ⟨B, 0, none⟩), .int .i64 0] w fun e w' => e = .returned (.pointer (some ⟨B, 0, none⟩)) ∧ w = w' := field_at B 0 (by omega) w
theorem ix_1 (k1 lv : Int) (w : World) : (Instr.index 95 (.agg #[.int .i64 0, .int .i64 k1, .int .i64 0, .int .i64 10000, .int .i64 1, .int .i64 99, .int .i64 1, .int .i64 100, .int .i64 0, .int .i64 lv, .int .i64 1, .int .i64 32, .int .i64 1, .int .i64 32]) (.int .i64 1)).run Tryz.prog w = .ok (.agg #[.int .i64 0, .int .i64 10000]) w := by kernel_rfl
theorem field_1 (B : Nat) (w : World) : Calls Tryz.prog 55 #[.pointer (some ⟨B, 0, none⟩), .int .i64 1] w fun e w' => e = .returned (.pointer (some ⟨B, 1, none⟩)) ∧ w = w' := field_at B 1 (by omega) w
theorem ix_2 (k1 lv : Int) (w : World) : (Instr.index 95 (.agg #[.int .i64 0, .int .i64 k1, .int .i64 0, .int .i64 10000, .int .i64 1, .int .i64 99, .int .i64 1, .int .i64 100, .int .i64 0, .int .i64 lv, .int .i64 1, .int .i64 32, .int .i64 1, .int .i64 32]) (.int .i64 2)).run Tryz.prog w = .ok (.agg #[.int .i64 1, .int .i64 99]) w := by kernel_rfl
theorem field_2 (B : Nat) (w : World) : Calls Tryz.prog 55 #[.pointer (some ⟨B, 0, none⟩), .int .i64 2] w fun e w' => e = .returned (.pointer (some ⟨B, 2, none⟩)) ∧ w = w' := field_at B 2 (by omega) w
theorem ix_3 (k1 lv : Int) (w : World) : (Instr.index 95 (.agg #[.int .i64 0, .int .i64 k1, .int .i64 0, .int .i64 10000, .int .i64 1, .int .i64 99, .int .i64 1, .int .i64 100, .int .i64 0, .int .i64 lv, .int .i64 1, .int .i64 32, .int .i64 1, .int .i64 32]) (.int .i64 3)).run Tryz.prog w = .ok (.agg #[.int .i64 1, .int .i64 100]) w := by kernel_rfl
theorem field_3 (B : Nat) (w : World) : Calls Tryz.prog 55 #[.pointer (some ⟨B, 0, none⟩), .int .i64 3] w fun e w' => e = .returned (.pointer (some ⟨B, 3, none⟩)) ∧ w = w' := field_at B 3 (by omega) w
theorem ix_4 (k1 lv : Int) (w : World) : (Instr.index 95 (.agg #[.int .i64 0, .int .i64 k1, .int .i64 0, .int .i64 10000, .int .i64 1, .int .i64 99, .int .i64 1, .int .i64 100, .int .i64 0, .int .i64 lv, .int .i64 1, .int .i64 32, .int .i64 1, .int .i64 32]) (.int .i64 4)).run Tryz.prog w = .ok (.agg #[.int .i64 0, .int .i64 lv]) w := by kernel_rfl
theorem field_4 (B : Nat) (w : World) : Calls Tryz.prog 55 #[.pointer (some ⟨B, 0, none⟩), .int .i64 4] w fun e w' => e = .returned (.pointer (some ⟨B, 4, none⟩)) ∧ w = w' := field_at B 4 (by omega) w
theorem ix_5 (k1 lv : Int) (w : World) : (Instr.index 95 (.agg #[.int .i64 0, .int .i64 k1, .int .i64 0, .int .i64 10000, .int .i64 1, .int .i64 99, .int .i64 1, .int .i64 100, .int .i64 0, .int .i64 lv, .int .i64 1, .int .i64 32, .int .i64 1, .int .i64 32]) (.int .i64 5)).run Tryz.prog w = .ok (.agg #[.int .i64 1, .int .i64 32]) w := by kernel_rfl
theorem field_5 (B : Nat) (w : World) : Calls Tryz.prog 55 #[.pointer (some ⟨B, 0, none⟩), .int .i64 5] w fun e w' => e = .returned (.pointer (some ⟨B, 5, none⟩)) ∧ w = w' := field_at B 5 (by omega) w
theorem ix_6 (k1 lv : Int) (w : World) : (Instr.index 95 (.agg #[.int .i64 0, .int .i64 k1, .int .i64 0, .int .i64 10000, .int .i64 1, .int .i64 99, .int .i64 1, .int .i64 100, .int .i64 0, .int .i64 lv, .int .i64 1, .int .i64 32, .int .i64 1, .int .i64 32]) (.int .i64 6)).run Tryz.prog w = .ok (.agg #[.int .i64 1, .int .i64 32]) w := by kernel_rfl
theorem field_6 (B : Nat) (w : World) : Calls Tryz.prog 55 #[.pointer (some ⟨B, 0, none⟩), .int .i64 6] w fun e w' => e = .returned (.pointer (some ⟨B, 6, none⟩)) ∧ w = w' := field_at B 6 (by omega) w
set_option maxRecDepth 100000 in
set_option maxHeartbeats 4000000 in
theorem check_in (k : Kb) (lv : Int) (w : World) (h1 : 1 ≤ lv) (h2 : lv ≤ 128) : Calls Tryz.prog 23 #[kbV k, .int .i64 lv] w fun e w' => e = .returned (.int .i64 (kErr k lv)) ∧ Below w.heap.size w w' := by
  obtain ⟨k0, k1, k2, k3, k4, k5, k6⟩ := k
  obtain ⟨B, hB⟩ : ∃ B, B = w.heap.size := ⟨_, rfl⟩
  have hH := Lib.hid hB
  clear hB
  go_enter Tryz.func23, Tryz.ntmps23
  go_wp2
  rw [← hH.out]
  have O0 := Lib.hid (show IsObj ((w.alloc (.cells #[.int .i64 k0, .int .i64 k1, .int .i64 k2, .int .i64 k3, .int .i64 k4, .int .i64 k5, .int .i64 k6] 23)).alloc (.cells #[.int .i64 0, .int .i64 k1, .int .i64 0, .int .i64 10000, .int .i64 1, .int .i64 99, .int .i64 1, .int .i64 100, .int .i64 0, .int .i64 lv, .int .i64 1, .int .i64 32, .int .i64 1, .int .i64 32] 95)) B 23 (kbCells ⟨k0, k1, k2, k3, k4, k5, k6⟩) by rw [hH.out]; exact (IsObj.new w _ (kbCells ⟨k0, k1, k2, k3, k4, k5, k6⟩)).alloc _)
  have HW0 := Lib.hid (show Below w.heap.size w ((w.alloc (.cells #[.int .i64 k0, .int .i64 k1, .int .i64 k2, .int .i64 k3, .int .i64 k4, .int .i64 k5, .int .i64 k6] 23)).alloc (.cells #[.int .i64 0, .int .i64 k1, .int .i64 0, .int .i64 10000, .int .i64 1, .int .i64 99, .int .i64 1, .int .i64 100, .int .i64 0, .int .i64 lv, .int .i64 1, .int .i64 32, .int .i64 1, .int .i64 32] 95)) from ((Below.refl _ w).alloc (Nat.le_refl _) _).alloc (by simp) _)
  have hsz0 : w.heap.size ≤ ((w.alloc (.cells #[.int .i64 k0, .int .i64 k1, .int .i64 k2, .int .i64 k3, .int .i64 k4, .int .i64 k5, .int .i64 k6] 23)).alloc (.cells #[.int .i64 0, .int .i64 k1, .int .i64 0, .int .i64 10000, .int .i64 1, .int .i64 99, .int .i64 1, .int .i64 100, .int .i64 0, .int .i64 lv, .int .i64 1, .int .i64 32, .int .i64 1, .int .i64 32] 95)).heap.size := HW0.out.size
  generalize ((w.alloc (.cells #[.int .i64 k0, .int .i64 k1, .int .i64 k2, .int .i64 k3, .int .i64 k4, .int .i64 k5, .int .i64 k6] 23)).alloc (.cells #[.int .i64 0, .int .i64 k1, .int .i64 0, .int .i64 10000, .int .i64 1, .int .i64 99, .int .i64 1, .int .i64 100, .int .i64 0, .int .i64 lv, .int .i64 1, .int .i64 32, .int .i64 1, .int .i64 32] 95)) = W0 at *
  go_loopw [27] (fun i wr => ∃ j : Nat, j ≤ 7 ∧ i = .int .i64 j ∧ (∀ q, q < j → kIn ⟨k0, k1, k2, k3, k4, k5, k6⟩ lv q = true) ∧ Below W0.heap.size W0 wr) (fun i _ => 7 - (intOf i).toNat)
  case atStart => exact ⟨0, by omega, rfl, fun q hq => by omega, Below.refl _ _⟩
  case round =>
    obtain ⟨j, hj, rfl, hA, hW⟩ := hrel
    have HA := Lib.hid hA
    have HW := Lib.hid hW
    have HB := Lib.hid (IsObj.below O0.out hW O0.out.lt)
    have hlt : B < wr.heap.size := HB.out.lt
    have hne : B ≠ wr.heap.size := by omega
    clear hA hW
    match j, hj with
    | 0, _ =>
      have hix : ∀ w, (Instr.index 95 (.agg #[.int .i64 0, .int .i64 k1, .int .i64 0, .int .i64 10000, .int .i64 1, .int .i64 99, .int .i64 1, .int .i64 100, .int .i64 0, .int .i64 lv, .int .i64 1, .int .i64 32, .int .i64 1, .int .i64 32]) (.int .i64 0)).run Tryz.prog w = .ok (.agg #[.int .i64 0, .int .i64 k1]) w := fun w => ix_0 k1 lv w
      have K := Lib.hid (fun w => field_0 B w)
      have c0 : wr.cell? ⟨B, 0, none⟩ = some (.int .i64 k0) := HB.out.cell 0
      by_cases hin : 0 ≤ k0 ∧ k0 ≤ k1
      · have i1 : 0 ≤ k0 := hin.1
        have i2 : k0 ≤ k1 := hin.2
        have HK := Lib.hid (show kIn ⟨k0, k1, k2, k3, k4, k5, k6⟩ lv 0 = true by simp [kIn]; omega)
        clear hin
        go_wp2_with (go_at_call 55; (with_reducible refine (K.out _).mono ?_); rintro e w' ⟨rfl, rfl⟩)
        go_roundw
        case rel => exact ⟨0 + 1, by omega, rfl, fun p hp => by (by_cases e : p = 0); (· rw [e]; exact HK.out); (· exact HA.out p (by omega)), HW.out.trans (((Below.refl _ _).alloc (Nat.le_refl _) _).mono HW.out.size)⟩
        case measure => simp [intOf]
      · have HK := Lib.hid (show kIn ⟨k0, k1, k2, k3, k4, k5, k6⟩ lv 0 = false by simp [kIn]; omega)
        have hc : k0 < 0 ∨ (0 ≤ k0 ∧ k1 < k0) := by omega
        clear hin
        rcases hc with hc | ⟨hc, hc2⟩
        all_goals
          go_wp2_with (go_at_call 55; (with_reducible refine (K.out _).mono ?_); rintro e w' ⟨rfl, rfl⟩)
          go_ret
          exact ⟨ret_int (kErr_bad 0 (by omega) HK.out).symm, HW0.out.trans ((HW.out.trans (((Below.refl _ _).alloc (Nat.le_refl _) _).mono HW.out.size)).mono hsz0)⟩
    | 1, _ =>
      have hix : ∀ w, (Instr.index 95 (.agg #[.int .i64 0, .int .i64 k1, .int .i64 0, .int .i64 10000, .int .i64 1, .int .i64 99, .int .i64 1, .int .i64 100, .int .i64 0, .int .i64 lv, .int .i64 1, .int .i64 32, .int .i64 1, .int .i64 32]) (.int .i64 1)).run Tryz.prog w = .ok (.agg #[.int .i64 0, .int .i64 10000]) w := fun w => ix_1 k1 lv w
      have K := Lib.hid (fun w => field_1 B w)
      have c0 : wr.cell? ⟨B, 1, none⟩ = some (.int .i64 k1) := HB.out.cell 1
      by_cases hin : 0 ≤ k1 ∧ k1 ≤ 10000
      · have i1 : 0 ≤ k1 := hin.1
        have i2 : k1 ≤ 10000 := hin.2
        have HK := Lib.hid (show kIn ⟨k0, k1, k2, k3, k4, k5, k6⟩ lv 1 = true by simp [kIn]; omega)
        clear hin
        go_wp2_with (go_at_call 55; (with_reducible refine (K.out _).mono ?_); rintro e w' ⟨rfl, rfl⟩)
        go_roundw
        case rel => exact ⟨1 + 1, by omega, rfl, fun p hp => by (by_cases e : p = 1); (· rw [e]; exact HK.out); (· exact HA.out p (by omega)), HW.out.trans (((Below.refl _ _).alloc (Nat.le_refl _) _).mono HW.out.size)⟩
        case measure => simp [intOf]
      · have HK := Lib.hid (show kIn ⟨k0, k1, k2, k3, k4, k5, k6⟩ lv 1 = false by simp [kIn]; omega)
        have hc : k1 < 0 ∨ (0 ≤ k1 ∧ 10000 < k1) := by omega
        clear hin
        rcases hc with hc | ⟨hc, hc2⟩
        all_goals
          go_wp2_with (go_at_call 55; (with_reducible refine (K.out _).mono ?_); rintro e w' ⟨rfl, rfl⟩)
          go_ret
          exact ⟨ret_int (kErr_bad 1 (by omega) HK.out).symm, HW0.out.trans ((HW.out.trans (((Below.refl _ _).alloc (Nat.le_refl _) _).mono HW.out.size)).mono hsz0)⟩
    | 2, _ =>
      have hix : ∀ w, (Instr.index 95 (.agg #[.int .i64 0, .int .i64 k1, .int .i64 0, .int .i64 10000, .int .i64 1, .int .i64 99, .int .i64 1, .int .i64 100, .int .i64 0, .int .i64 lv, .int .i64 1, .int .i64 32, .int .i64 1, .int .i64 32]) (.int .i64 2)).run Tryz.prog w = .ok (.agg #[.int .i64 1, .int .i64 99]) w := fun w => ix_2 k1 lv w
      have K := Lib.hid (fun w => field_2 B w)
      have c0 : wr.cell? ⟨B, 2, none⟩ = some (.int .i64 k2) := HB.out.cell 2
      by_cases hin : 1 ≤ k2 ∧ k2 ≤ 99
      · have i1 : 1 ≤ k2 := hin.1
        have i2 : k2 ≤ 99 := hin.2
        have HK := Lib.hid (show kIn ⟨k0, k1, k2, k3, k4, k5, k6⟩ lv 2 = true by simp [kIn]; omega)
        clear hin
        go_wp2_with (go_at_call 55; (with_reducible refine (K.out _).mono ?_); rintro e w' ⟨rfl, rfl⟩)
        go_roundw
        case rel => exact ⟨2 + 1, by omega, rfl, fun p hp => by (by_cases e : p = 2); (· rw [e]; exact HK.out); (· exact HA.out p (by omega)), HW.out.trans (((Below.refl _ _).alloc (Nat.le_refl _) _).mono HW.out.size)⟩
        case measure => simp [intOf]
      · have HK := Lib.hid (show kIn ⟨k0, k1, k2, k3, k4, k5, k6⟩ lv 2 = false by simp [kIn]; omega)
        have hc : k2 < 1 ∨ (1 ≤ k2 ∧ 99 < k2) := by omega
        clear hin
        rcases hc with hc | ⟨hc, hc2⟩
        all_goals
          go_wp2_with (go_at_call 55; (with_reducible refine (K.out _).mono ?_); rintro e w' ⟨rfl, rfl⟩)
          go_ret
          exact ⟨ret_int (kErr_bad 2 (by omega) HK.out).symm, HW0.out.trans ((HW.out.trans (((Below.refl _ _).alloc (Nat.le_refl _) _).mono HW.out.size)).mono hsz0)⟩
    | 3, _ =>
      have hix : ∀ w, (Instr.index 95 (.agg #[.int .i64 0, .int .i64 k1, .int .i64 0, .int .i64 10000, .int .i64 1, .int .i64 99, .int .i64 1, .int .i64 100, .int .i64 0, .int .i64 lv, .int .i64 1, .int .i64 32, .int .i64 1, .int .i64 32]) (.int .i64 3)).run Tryz.prog w = .ok (.agg #[.int .i64 1, .int .i64 100]) w := fun w => ix_3 k1 lv w
      have K := Lib.hid (fun w => field_3 B w)
      have c0 : wr.cell? ⟨B, 3, none⟩ = some (.int .i64 k3) := HB.out.cell 3
      by_cases hin : 1 ≤ k3 ∧ k3 ≤ 100
      · have i1 : 1 ≤ k3 := hin.1
        have i2 : k3 ≤ 100 := hin.2
        have HK := Lib.hid (show kIn ⟨k0, k1, k2, k3, k4, k5, k6⟩ lv 3 = true by simp [kIn]; omega)
        clear hin
        go_wp2_with (go_at_call 55; (with_reducible refine (K.out _).mono ?_); rintro e w' ⟨rfl, rfl⟩)
        go_roundw
        case rel => exact ⟨3 + 1, by omega, rfl, fun p hp => by (by_cases e : p = 3); (· rw [e]; exact HK.out); (· exact HA.out p (by omega)), HW.out.trans (((Below.refl _ _).alloc (Nat.le_refl _) _).mono HW.out.size)⟩
        case measure => simp [intOf]
      · have HK := Lib.hid (show kIn ⟨k0, k1, k2, k3, k4, k5, k6⟩ lv 3 = false by simp [kIn]; omega)
        have hc : k3 < 1 ∨ (1 ≤ k3 ∧ 100 < k3) := by omega
        clear hin
        rcases hc with hc | ⟨hc, hc2⟩
        all_goals
          go_wp2_with (go_at_call 55; (with_reducible refine (K.out _).mono ?_); rintro e w' ⟨rfl, rfl⟩)
          go_ret
          exact ⟨ret_int (kErr_bad 3 (by omega) HK.out).symm, HW0.out.trans ((HW.out.trans (((Below.refl _ _).alloc (Nat.le_refl _) _).mono HW.out.size)).mono hsz0)⟩
    | 4, _ =>
      have hix : ∀ w, (Instr.index 95 (.agg #[.int .i64 0, .int .i64 k1, .int .i64 0, .int .i64 10000, .int .i64 1, .int .i64 99, .int .i64 1, .int .i64 100, .int .i64 0, .int .i64 lv, .int .i64 1, .int .i64 32, .int .i64 1, .int .i64 32]) (.int .i64 4)).run Tryz.prog w = .ok (.agg #[.int .i64 0, .int .i64 lv]) w := fun w => ix_4 k1 lv w
      have K := Lib.hid (fun w => field_4 B w)
      have c0 : wr.cell? ⟨B, 4, none⟩ = some (.int .i64 k4) := HB.out.cell 4
      by_cases hin : 0 ≤ k4 ∧ k4 ≤ lv
      · have i1 : 0 ≤ k4 := hin.1
        have i2 : k4 ≤ lv := hin.2
        have HK := Lib.hid (show kIn ⟨k0, k1, k2, k3, k4, k5, k6⟩ lv 4 = true by simp [kIn]; omega)
        clear hin
        go_wp2_with (go_at_call 55; (with_reducible refine (K.out _).mono ?_); rintro e w' ⟨rfl, rfl⟩)
        go_roundw
        case rel => exact ⟨4 + 1, by omega, rfl, fun p hp => by (by_cases e : p = 4); (· rw [e]; exact HK.out); (· exact HA.out p (by omega)), HW.out.trans (((Below.refl _ _).alloc (Nat.le_refl _) _).mono HW.out.size)⟩
        case measure => simp [intOf]
      · have HK := Lib.hid (show kIn ⟨k0, k1, k2, k3, k4, k5, k6⟩ lv 4 = false by simp [kIn]; omega)
        have hc : k4 < 0 ∨ (0 ≤ k4 ∧ lv < k4) := by omega
        clear hin
        rcases hc with hc | ⟨hc, hc2⟩
        all_goals
          go_wp2_with (go_at_call 55; (with_reducible refine (K.out _).mono ?_); rintro e w' ⟨rfl, rfl⟩)
          go_ret
          exact ⟨ret_int (kErr_bad 4 (by omega) HK.out).symm, HW0.out.trans ((HW.out.trans (((Below.refl _ _).alloc (Nat.le_refl _) _).mono HW.out.size)).mono hsz0)⟩
    | 5, _ =>
      have hix : ∀ w, (Instr.index 95 (.agg #[.int .i64 0, .int .i64 k1, .int .i64 0, .int .i64 10000, .int .i64 1, .int .i64 99, .int .i64 1, .int .i64 100, .int .i64 0, .int .i64 lv, .int .i64 1, .int .i64 32, .int .i64 1, .int .i64 32]) (.int .i64 5)).run Tryz.prog w = .ok (.agg #[.int .i64 1, .int .i64 32]) w := fun w => ix_5 k1 lv w
      have K := Lib.hid (fun w => field_5 B w)
      have c0 : wr.cell? ⟨B, 5, none⟩ = some (.int .i64 k5) := HB.out.cell 5
      by_cases hin : 1 ≤ k5 ∧ k5 ≤ 32
      · have i1 : 1 ≤ k5 := hin.1
        have i2 : k5 ≤ 32 := hin.2
        have HK := Lib.hid (show kIn ⟨k0, k1, k2, k3, k4, k5, k6⟩ lv 5 = true by simp [kIn]; omega)
        clear hin
        go_wp2_with (go_at_call 55; (with_reducible refine (K.out _).mono ?_); rintro e w' ⟨rfl, rfl⟩)
        go_roundw
        case rel => exact ⟨5 + 1, by omega, rfl, fun p hp => by (by_cases e : p = 5); (· rw [e]; exact HK.out); (· exact HA.out p (by omega)), HW.out.trans (((Below.refl _ _).alloc (Nat.le_refl _) _).mono HW.out.size)⟩
        case measure => simp [intOf]
      · have HK := Lib.hid (show kIn ⟨k0, k1, k2, k3, k4, k5, k6⟩ lv 5 = false by simp [kIn]; omega)
        have hc : k5 < 1 ∨ (1 ≤ k5 ∧ 32 < k5) := by omega
        clear hin
        rcases hc with hc | ⟨hc, hc2⟩
        all_goals
          go_wp2_with (go_at_call 55; (with_reducible refine (K.out _).mono ?_); rintro e w' ⟨rfl, rfl⟩)
          go_ret
          exact ⟨ret_int (kErr_bad 5 (by omega) HK.out).symm, HW0.out.trans ((HW.out.trans (((Below.refl _ _).alloc (Nat.le_refl _) _).mono HW.out.size)).mono hsz0)⟩
    | 6, _ =>
      have hix : ∀ w, (Instr.index 95 (.agg #[.int .i64 0, .int .i64 k1, .int .i64 0, .int .i64 10000, .int .i64 1, .int .i64 99, .int .i64 1, .int .i64 100, .int .i64 0, .int .i64 lv, .int .i64 1, .int .i64 32, .int .i64 1, .int .i64 32]) (.int .i64 6)).run Tryz.prog w = .ok (.agg #[.int .i64 1, .int .i64 32]) w := fun w => ix_6 k1 lv w
      have K := Lib.hid (fun w => field_6 B w)
      have c0 : wr.cell? ⟨B, 6, none⟩ = some (.int .i64 k6) := HB.out.cell 6
      by_cases hin : 1 ≤ k6 ∧ k6 ≤ 32
      · have i1 : 1 ≤ k6 := hin.1
        have i2 : k6 ≤ 32 := hin.2
        have HK := Lib.hid (show kIn ⟨k0, k1, k2, k3, k4, k5, k6⟩ lv 6 = true by simp [kIn]; omega)
        clear hin
        go_wp2_with (go_at_call 55; (with_reducible refine (K.out _).mono ?_); rintro e w' ⟨rfl, rfl⟩)
        go_roundw
        case rel => exact ⟨6 + 1, by omega, rfl, fun p hp => by (by_cases e : p = 6); (· rw [e]; exact HK.out); (· exact HA.out p (by omega)), HW.out.trans (((Below.refl _ _).alloc (Nat.le_refl _) _).mono HW.out.size)⟩
        case measure => simp [intOf]
      · have HK := Lib.hid (show kIn ⟨k0, k1, k2, k3, k4, k5, k6⟩ lv 6 = false by simp [kIn]; omega)
        have hc : k6 < 1 ∨ (1 ≤ k6 ∧ 32 < k6) := by omega
        clear hin
        rcases hc with hc | ⟨hc, hc2⟩
        all_goals
          go_wp2_with (go_at_call 55; (with_reducible refine (K.out _).mono ?_); rintro e w' ⟨rfl, rfl⟩)
          go_ret
          exact ⟨ret_int (kErr_bad 6 (by omega) HK.out).symm, HW0.out.trans ((HW.out.trans (((Below.refl _ _).alloc (Nat.le_refl _) _).mono HW.out.size)).mono hsz0)⟩
    | 7, _ =>
      have HK := Lib.hid (kErr_good (k := ⟨k0, k1, k2, k3, k4, k5, k6⟩) h1 h2 HA.out)
      go_wp2
      go_ret
      exact ⟨ret_int HK.out.symm, HW0.out.trans (HW.out.mono hsz0)⟩
theorem check_any (k : Kb) (lv : Int) (w : World) : Calls Tryz.prog 23 #[kbV k, .int .i64 lv] w fun e w' => e = .returned (.int .i64 (kErr k lv)) ∧ Below w.heap.size w w' := by
  by_cases h : 1 ≤ lv ∧ lv ≤ 128
  · exact check_in k lv w h.1 h.2
  · have e : kErr k lv = 10 := by
      unfold kErr
      rw [if_neg]
      unfold kOk
      rw [decide_eq_false h]
      simp
    rw [e]
    exact check_lv k lv w (by omega)
end Go.Proofs.YtagfbnfbiadpfaaGreat
