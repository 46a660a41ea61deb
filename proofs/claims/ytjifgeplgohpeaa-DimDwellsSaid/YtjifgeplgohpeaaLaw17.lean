/-
  The statements of layer 17 (dim): DimNobody. No condition.
-/
import Derived.Test.YtjifgeplgohpeaaDim
namespace Go.Proofs.Ytjifgeplgohpeaa
open Go.RowKit
set_option linter.unusedVariables false

set_option maxHeartbeats 1000000 in
theorem awake17 (w : World) : Calls Try.prog 31 #[] w fun e w' => e = .returned (.bool true) ∧ Below w.heap.size w w' := by
  have s1 : dstep 2 2 32 1 true 2 = ⟨1, 0, true⟩ := rfl
  have s2 : dstep 2 1 0 1 true 2 = ⟨1, 1, false⟩ := rfl
  have s3 : dstep 2 1 1 1 true 2 = ⟨0, 0, true⟩ := rfl
  have k1 : DOk 2 2 := ⟨by omega, by omega, by omega⟩
  have k2 : DOk 2 1 := ⟨by omega, by omega, by omega⟩
  go_enter Try.func31, Try.ntmps31
  go_wp2_with fail
  refine (dimNew_any 2 (by omega) (by omega) _).mono ?_
  rintro e w1 ⟨rfl, hT, hb, hs⟩
  go_wp2_with fail
  refine (dstep_any _ _ _ _ 1 2 true _ hT k1).mono ?_
  rw [s1]
  rintro e w2 ⟨rfl, hT2, hO2⟩
  have HT2 := Lib.hid hT2
  go_wp2_with (first | (go_at_call 34; (with_reducible refine (dtier_any _ _ _ _ _ HT2.out).mono ?_); rintro e w' ⟨rfl, rfl⟩))
  refine (dstep_any _ _ _ _ 1 2 true _ hT2 k2).mono ?_
  rw [s2]
  rintro e w3 ⟨rfl, hT3, hO3⟩
  go_wp2_with fail
  refine (dstep_any _ _ _ _ 1 2 true _ hT3 k2).mono ?_
  rw [s3]
  rintro e w4 ⟨rfl, hT4, hO4⟩
  have hO := (hO2.trans hO3).trans hO4
  have HB := Lib.hid (hb.trans (hO.below (Nat.le_refl _) (by omega)))
  have HT := Lib.hid hT4
  clear hT hb hT2 hT3 hT4 hO2 hO3 hO4 hO HT2
  go_wp2_with (first | (go_at_call 34; (with_reducible refine (dtier_any _ _ _ _ _ HT.out).mono ?_); rintro e w' ⟨rfl, rfl⟩) | (go_at_call 42; (with_reducible refine (permits_any _ _ _ _ _ _ HT.out).mono ?_); rintro e w' ⟨rfl, rfl⟩))
  go_ret
  exact ⟨rfl, HB.out⟩

set_option maxRecDepth 100000 in
set_option maxHeartbeats 4000000 in
theorem dnobody_walk (v k : Int) (o : Bool) (w : World) : Calls Try.prog 9 #[.int .i64 v, .int .i64 k, .bool o] w fun e w' => e = .returned (.bool true) ∧ Below w.heap.size w w' := by
  have HD : Hid (OddAt (w.alloc (.cells #[.bool false, .int .i64 0, .int .i64 0, .int .i64 0] 83)) w.heap.size) := Lib.hid (IsObj.new w _ _)
  go_enter Try.func9, Try.ntmps9
  go_wp2_with (first | (go_at_call 39; (with_reducible refine (dclear_nil _).mono ?_); rintro e w' ⟨rfl, rfl⟩) | (go_at_call 39; (with_reducible refine (dclear_odd _ _ HD.out).mono ?_); rintro e w' ⟨rfl, rfl⟩) | (go_at_call 33; (with_reducible refine (dstep_nil _ _ _ _).mono ?_); rintro e w' ⟨rfl, rfl⟩) | (go_at_call 33; (with_reducible refine (dstep_odd _ _ _ _ _ HD.out).mono ?_); rintro e w' ⟨rfl, rfl⟩) | (go_at_call 34; (with_reducible refine (dtier_nil _).mono ?_); rintro e w' ⟨rfl, rfl⟩) | (go_at_call 34; (with_reducible refine (dtier_odd _ _ HD.out).mono ?_); rintro e w' ⟨rfl, rfl⟩) | (go_at_call 41; (with_reducible refine (dheld_nil _).mono ?_); rintro e w' ⟨rfl, rfl⟩) | (go_at_call 41; (with_reducible refine (dheld_odd _ _ HD.out).mono ?_); rintro e w' ⟨rfl, rfl⟩) | (go_at_call 42; (with_reducible refine (permits_nil _ _).mono ?_); rintro e w' ⟨rfl, rfl⟩) | (go_at_call 42; (with_reducible refine (permits_odd _ _ _ HD.out).mono ?_); rintro e w' ⟨rfl, rfl⟩) | (go_at_call 31; refine (awake17 _).mono ?_; rintro e w2 ⟨rfl, hb2⟩))
  go_ret
  exact ⟨rfl, ((Below.refl _ _).alloc (Nat.le_refl _) _).trans (hb2.mono (by simp))⟩

theorem dnobody_done : Walk 9 Try.f9 := by
  intro W args hs hc
  rw [Try.params9] at hs hc
  obtain ⟨l⟩ := args
  match l, hs with
  | [v0, v1, v2], _ =>
    obtain ⟨a, rfl, _⟩ := came_int Try.underlying3 (hc 0 3 v0 rfl rfl)
    obtain ⟨b, rfl, _⟩ := came_int Try.underlying3 (hc 1 3 v1 rfl rfl)
    obtain ⟨c, rfl⟩ := came_bool Try.underlying4 (hc 2 4 v2 rfl rfl)
    exact dnobody_walk a b c W
end Go.Proofs.Ytjifgeplgohpeaa
