/-
  Layer 20 (control), the document's: New.
-/
import Derived.Test.YtagfbnfbiadpfaaGreatRefC
namespace Go.Proofs.YtagfbnfbiadpfaaGreat
open Go.RowKit Go.Shelf
set_option linter.unusedVariables false
set_option linter.unusedSimpArgs false

/-- A controller that is none. -/
def z0C : List Value := [.int .i64 0, .int .i64 0, .int .i64 0, .int .i64 0, .int .i64 0, .int .i64 0, .int .i64 0, .int .i64 0, .slice none 0 0, .slice none 0 0, .int .i64 0, .int .i64 0, .int .i64 0, .int .i64 0, .int .i64 0, .int .i64 0, .int .i64 0]
def S7N (B : Nat) (k0 k1 k2 k3 k4 k5 k6 : Int) (W : World) : Prop := W.cell? ⟨B, 0, none⟩ = some (.int .i64 k0) ∧ W.cell? ⟨B, 1, none⟩ = some (.int .i64 k1) ∧ W.cell? ⟨B, 2, none⟩ = some (.int .i64 k2) ∧ W.cell? ⟨B, 3, none⟩ = some (.int .i64 k3) ∧ W.cell? ⟨B, 4, none⟩ = some (.int .i64 k4) ∧ W.cell? ⟨B, 5, none⟩ = some (.int .i64 k5) ∧ W.cell? ⟨B, 6, none⟩ = some (.int .i64 k6)
theorem S7N.keep {B : Nat} {k0 k1 k2 k3 k4 k5 k6 : Int} {W W' : World} (hb : Below W.heap.size W W') (h : S7N B k0 k1 k2 k3 k4 k5 k6 W) : S7N B k0 k1 k2 k3 k4 k5 k6 W' := seven_keepx hb h
theorem S7N.only {B b : Nat} {k0 k1 k2 k3 k4 k5 k6 : Int} {W W' : World} (hb : Only b W W') (h1 : B ≠ b) (h : S7N B k0 k1 k2 k3 k4 k5 k6 W) : S7N B k0 k1 k2 k3 k4 k5 k6 W' := ⟨hb.keep h.1 h1, hb.keep h.2.1 h1, hb.keep h.2.2.1 h1, hb.keep h.2.2.2.1 h1, hb.keep h.2.2.2.2.1 h1, hb.keep h.2.2.2.2.2.1 h1, hb.keep h.2.2.2.2.2.2 h1⟩
theorem z0_one : z0C.toArray.all (·.oneCell') = true := by kernel_rfl
set_option maxRecDepth 100000 in
set_option maxHeartbeats 4000000 in
theorem rnew_b1 (lv tr : Int) (k0 k1 k2 k3 k4 k5 k6 : Int) (w : World) (h : lv < 1) : Calls Tryz.prog 6 #[.int .i64 lv, .int .i64 tr, .agg #[.int .i64 k0, .int .i64 k1, .int .i64 k2, .int .i64 k3, .int .i64 k4, .int .i64 k5, .int .i64 k6]] w fun e w' => e = .returned (.tuple #[.agg z0C.toArray, .int .i64 1]) ∧ Below w.heap.size w w' := by
  obtain ⟨B, hB⟩ : ∃ B, B = w.heap.size := ⟨_, rfl⟩
  have B0 := Lib.hid (show Below w.heap.size w ((w.alloc (.cells #[.int .i64 k0, .int .i64 k1, .int .i64 k2, .int .i64 k3, .int .i64 k4, .int .i64 k5, .int .i64 k6] 23)).alloc (.cells #[.int .i64 0, .int .i64 0, .int .i64 0, .int .i64 0, .int .i64 0, .int .i64 0, .int .i64 0, .int .i64 0, .slice none 0 0, .slice none 0 0, .int .i64 0, .int .i64 0, .int .i64 0, .int .i64 0, .int .i64 0, .int .i64 0, .int .i64 0] 38)) from ((Below.refl _ w).alloc (Nat.le_refl _) _).alloc (by simp) _)
  have HB := Lib.hid hB
  have O0 := Lib.hid (show IsObj ((w.alloc (.cells #[.int .i64 k0, .int .i64 k1, .int .i64 k2, .int .i64 k3, .int .i64 k4, .int .i64 k5, .int .i64 k6] 23)).alloc (.cells #[.int .i64 0, .int .i64 0, .int .i64 0, .int .i64 0, .int .i64 0, .int .i64 0, .int .i64 0, .int .i64 0, .slice none 0 0, .slice none 0 0, .int .i64 0, .int .i64 0, .int .i64 0, .int .i64 0, .int .i64 0, .int .i64 0, .int .i64 0] 38)) B 23 [.int .i64 k0, .int .i64 k1, .int .i64 k2, .int .i64 k3, .int .i64 k4, .int .i64 k5, .int .i64 k6] by rw [hB]; exact (IsObj.new w _ [.int .i64 k0, .int .i64 k1, .int .i64 k2, .int .i64 k3, .int .i64 k4, .int .i64 k5, .int .i64 k6]).alloc _)
  have R0 := Lib.hid (show IsObj ((w.alloc (.cells #[.int .i64 k0, .int .i64 k1, .int .i64 k2, .int .i64 k3, .int .i64 k4, .int .i64 k5, .int .i64 k6] 23)).alloc (.cells #[.int .i64 0, .int .i64 0, .int .i64 0, .int .i64 0, .int .i64 0, .int .i64 0, .int .i64 0, .int .i64 0, .slice none 0 0, .slice none 0 0, .int .i64 0, .int .i64 0, .int .i64 0, .int .i64 0, .int .i64 0, .int .i64 0, .int .i64 0] 38)) (B + 1) 38 [.int .i64 0, .int .i64 0, .int .i64 0, .int .i64 0, .int .i64 0, .int .i64 0, .int .i64 0, .int .i64 0, .slice none 0 0, .slice none 0 0, .int .i64 0, .int .i64 0, .int .i64 0, .int .i64 0, .int .i64 0, .int .i64 0, .int .i64 0] by
    have h := IsObj.new (w.alloc (.cells #[.int .i64 k0, .int .i64 k1, .int .i64 k2, .int .i64 k3, .int .i64 k4, .int .i64 k5, .int .i64 k6] 23)) 38 [.int .i64 0, .int .i64 0, .int .i64 0, .int .i64 0, .int .i64 0, .int .i64 0, .int .i64 0, .int .i64 0, .slice none 0 0, .slice none 0 0, .int .i64 0, .int .i64 0, .int .i64 0, .int .i64 0, .int .i64 0, .int .i64 0, .int .i64 0]
    rw [World.size_alloc, ← hB] at h
    exact h)
  clear hB
  go_enter Tryz.func6, Tryz.ntmps6
  go_upto_region 1 with (fail)
  rw [← HB.out]
  generalize ((w.alloc (.cells #[.int .i64 k0, .int .i64 k1, .int .i64 k2, .int .i64 k3, .int .i64 k4, .int .i64 k5, .int .i64 k6] 23)).alloc (.cells #[.int .i64 0, .int .i64 0, .int .i64 0, .int .i64 0, .int .i64 0, .int .i64 0, .int .i64 0, .int .i64 0, .slice none 0 0, .slice none 0 0, .int .i64 0, .int .i64 0, .int .i64 0, .int .i64 0, .int .i64 0, .int .i64 0, .int .i64 0] 38)) = w0 at *
  have RT := Lib.hid (show w0.there (B + 1) 0 z0C.toArray.size from IsObj.there R0.out 0 17 (by simp))
  have OF := Lib.hid (show IsObj (w0.setCells (B + 1) 0 z0C.toArray.toList) (B + 1) 38 z0C from IsObj.setAll R0.out (by rfl))
  have BF := Lib.hid (show Only (B + 1) w0 (w0.setCells (B + 1) 0 z0C.toArray.toList) from Only.setCells (b := B + 1) z0C 0 (Only.refl (B + 1) w0))
  have ZO : z0C.toArray.all (·.oneCell') = true := z0_one
  go_wp2_with (refine wpList_store_mid (by rfl) 38 _ _ (by rfl) (B + 1) 0 z0C.toArray (by rfl) (by rfl) RT.out zinfo ZO ?_; generalize w0.setCells (B + 1) 0 z0C.toArray.toList = wf at *)
  have RL := run_loadVar_mid (P := Tryz.prog) wf (B + 1) 0 38 z0C _ (IsObj.range OF.out) Tryz.underlying38 rfl zinfo
  refine bodyPost_ret (v := .tuple #[.agg z0C.toArray, .int .i64 1]) ?_ rfl ?_
  · exact results_cell_tmp (by rfl) (by rfl) (by rfl) RL
  · have hw := HB.out
    exact ⟨rfl, B0.out.trans (BF.out.below (by omega) B0.out.size)⟩
set_option maxRecDepth 100000 in
set_option maxHeartbeats 4000000 in
theorem rnew_b2 (lv tr : Int) (k0 k1 k2 k3 k4 k5 k6 : Int) (w : World) (h0 : 1 ≤ lv) (h : 128 < lv) : Calls Tryz.prog 6 #[.int .i64 lv, .int .i64 tr, .agg #[.int .i64 k0, .int .i64 k1, .int .i64 k2, .int .i64 k3, .int .i64 k4, .int .i64 k5, .int .i64 k6]] w fun e w' => e = .returned (.tuple #[.agg z0C.toArray, .int .i64 1]) ∧ Below w.heap.size w w' := by
  obtain ⟨B, hB⟩ : ∃ B, B = w.heap.size := ⟨_, rfl⟩
  have B0 := Lib.hid (show Below w.heap.size w ((w.alloc (.cells #[.int .i64 k0, .int .i64 k1, .int .i64 k2, .int .i64 k3, .int .i64 k4, .int .i64 k5, .int .i64 k6] 23)).alloc (.cells #[.int .i64 0, .int .i64 0, .int .i64 0, .int .i64 0, .int .i64 0, .int .i64 0, .int .i64 0, .int .i64 0, .slice none 0 0, .slice none 0 0, .int .i64 0, .int .i64 0, .int .i64 0, .int .i64 0, .int .i64 0, .int .i64 0, .int .i64 0] 38)) from ((Below.refl _ w).alloc (Nat.le_refl _) _).alloc (by simp) _)
  have HB := Lib.hid hB
  have O0 := Lib.hid (show IsObj ((w.alloc (.cells #[.int .i64 k0, .int .i64 k1, .int .i64 k2, .int .i64 k3, .int .i64 k4, .int .i64 k5, .int .i64 k6] 23)).alloc (.cells #[.int .i64 0, .int .i64 0, .int .i64 0, .int .i64 0, .int .i64 0, .int .i64 0, .int .i64 0, .int .i64 0, .slice none 0 0, .slice none 0 0, .int .i64 0, .int .i64 0, .int .i64 0, .int .i64 0, .int .i64 0, .int .i64 0, .int .i64 0] 38)) B 23 [.int .i64 k0, .int .i64 k1, .int .i64 k2, .int .i64 k3, .int .i64 k4, .int .i64 k5, .int .i64 k6] by rw [hB]; exact (IsObj.new w _ [.int .i64 k0, .int .i64 k1, .int .i64 k2, .int .i64 k3, .int .i64 k4, .int .i64 k5, .int .i64 k6]).alloc _)
  have R0 := Lib.hid (show IsObj ((w.alloc (.cells #[.int .i64 k0, .int .i64 k1, .int .i64 k2, .int .i64 k3, .int .i64 k4, .int .i64 k5, .int .i64 k6] 23)).alloc (.cells #[.int .i64 0, .int .i64 0, .int .i64 0, .int .i64 0, .int .i64 0, .int .i64 0, .int .i64 0, .int .i64 0, .slice none 0 0, .slice none 0 0, .int .i64 0, .int .i64 0, .int .i64 0, .int .i64 0, .int .i64 0, .int .i64 0, .int .i64 0] 38)) (B + 1) 38 [.int .i64 0, .int .i64 0, .int .i64 0, .int .i64 0, .int .i64 0, .int .i64 0, .int .i64 0, .int .i64 0, .slice none 0 0, .slice none 0 0, .int .i64 0, .int .i64 0, .int .i64 0, .int .i64 0, .int .i64 0, .int .i64 0, .int .i64 0] by
    have h := IsObj.new (w.alloc (.cells #[.int .i64 k0, .int .i64 k1, .int .i64 k2, .int .i64 k3, .int .i64 k4, .int .i64 k5, .int .i64 k6] 23)) 38 [.int .i64 0, .int .i64 0, .int .i64 0, .int .i64 0, .int .i64 0, .int .i64 0, .int .i64 0, .int .i64 0, .slice none 0 0, .slice none 0 0, .int .i64 0, .int .i64 0, .int .i64 0, .int .i64 0, .int .i64 0, .int .i64 0, .int .i64 0]
    rw [World.size_alloc, ← hB] at h
    exact h)
  clear hB
  go_enter Tryz.func6, Tryz.ntmps6
  go_upto_region 1 with (fail)
  rw [← HB.out]
  generalize ((w.alloc (.cells #[.int .i64 k0, .int .i64 k1, .int .i64 k2, .int .i64 k3, .int .i64 k4, .int .i64 k5, .int .i64 k6] 23)).alloc (.cells #[.int .i64 0, .int .i64 0, .int .i64 0, .int .i64 0, .int .i64 0, .int .i64 0, .int .i64 0, .int .i64 0, .slice none 0 0, .slice none 0 0, .int .i64 0, .int .i64 0, .int .i64 0, .int .i64 0, .int .i64 0, .int .i64 0, .int .i64 0] 38)) = w0 at *
  have RT := Lib.hid (show w0.there (B + 1) 0 z0C.toArray.size from IsObj.there R0.out 0 17 (by simp))
  have OF := Lib.hid (show IsObj (w0.setCells (B + 1) 0 z0C.toArray.toList) (B + 1) 38 z0C from IsObj.setAll R0.out (by rfl))
  have BF := Lib.hid (show Only (B + 1) w0 (w0.setCells (B + 1) 0 z0C.toArray.toList) from Only.setCells (b := B + 1) z0C 0 (Only.refl (B + 1) w0))
  have ZO : z0C.toArray.all (·.oneCell') = true := z0_one
  go_wp2_with (refine wpList_store_mid (by rfl) 38 _ _ (by rfl) (B + 1) 0 z0C.toArray (by rfl) (by rfl) RT.out zinfo ZO ?_; generalize w0.setCells (B + 1) 0 z0C.toArray.toList = wf at *)
  have RL := run_loadVar_mid (P := Tryz.prog) wf (B + 1) 0 38 z0C _ (IsObj.range OF.out) Tryz.underlying38 rfl zinfo
  refine bodyPost_ret (v := .tuple #[.agg z0C.toArray, .int .i64 1]) ?_ rfl ?_
  · exact results_cell_tmp (by rfl) (by rfl) (by rfl) RL
  · have hw := HB.out
    exact ⟨rfl, B0.out.trans (BF.out.below (by omega) B0.out.size)⟩
set_option maxRecDepth 100000 in
set_option maxHeartbeats 4000000 in
theorem rnew_b3 (lv tr : Int) (k0 k1 k2 k3 k4 k5 k6 : Int) (w : World) (h0 : 1 ≤ lv) (h1 : lv ≤ 128) (h : tr < 0) : Calls Tryz.prog 6 #[.int .i64 lv, .int .i64 tr, .agg #[.int .i64 k0, .int .i64 k1, .int .i64 k2, .int .i64 k3, .int .i64 k4, .int .i64 k5, .int .i64 k6]] w fun e w' => e = .returned (.tuple #[.agg z0C.toArray, .int .i64 1]) ∧ Below w.heap.size w w' := by
  obtain ⟨B, hB⟩ : ∃ B, B = w.heap.size := ⟨_, rfl⟩
  have B0 := Lib.hid (show Below w.heap.size w ((w.alloc (.cells #[.int .i64 k0, .int .i64 k1, .int .i64 k2, .int .i64 k3, .int .i64 k4, .int .i64 k5, .int .i64 k6] 23)).alloc (.cells #[.int .i64 0, .int .i64 0, .int .i64 0, .int .i64 0, .int .i64 0, .int .i64 0, .int .i64 0, .int .i64 0, .slice none 0 0, .slice none 0 0, .int .i64 0, .int .i64 0, .int .i64 0, .int .i64 0, .int .i64 0, .int .i64 0, .int .i64 0] 38)) from ((Below.refl _ w).alloc (Nat.le_refl _) _).alloc (by simp) _)
  have HB := Lib.hid hB
  have O0 := Lib.hid (show IsObj ((w.alloc (.cells #[.int .i64 k0, .int .i64 k1, .int .i64 k2, .int .i64 k3, .int .i64 k4, .int .i64 k5, .int .i64 k6] 23)).alloc (.cells #[.int .i64 0, .int .i64 0, .int .i64 0, .int .i64 0, .int .i64 0, .int .i64 0, .int .i64 0, .int .i64 0, .slice none 0 0, .slice none 0 0, .int .i64 0, .int .i64 0, .int .i64 0, .int .i64 0, .int .i64 0, .int .i64 0, .int .i64 0] 38)) B 23 [.int .i64 k0, .int .i64 k1, .int .i64 k2, .int .i64 k3, .int .i64 k4, .int .i64 k5, .int .i64 k6] by rw [hB]; exact (IsObj.new w _ [.int .i64 k0, .int .i64 k1, .int .i64 k2, .int .i64 k3, .int .i64 k4, .int .i64 k5, .int .i64 k6]).alloc _)
  have R0 := Lib.hid (show IsObj ((w.alloc (.cells #[.int .i64 k0, .int .i64 k1, .int .i64 k2, .int .i64 k3, .int .i64 k4, .int .i64 k5, .int .i64 k6] 23)).alloc (.cells #[.int .i64 0, .int .i64 0, .int .i64 0, .int .i64 0, .int .i64 0, .int .i64 0, .int .i64 0, .int .i64 0, .slice none 0 0, .slice none 0 0, .int .i64 0, .int .i64 0, .int .i64 0, .int .i64 0, .int .i64 0, .int .i64 0, .int .i64 0] 38)) (B + 1) 38 [.int .i64 0, .int .i64 0, .int .i64 0, .int .i64 0, .int .i64 0, .int .i64 0, .int .i64 0, .int .i64 0, .slice none 0 0, .slice none 0 0, .int .i64 0, .int .i64 0, .int .i64 0, .int .i64 0, .int .i64 0, .int .i64 0, .int .i64 0] by
    have h := IsObj.new (w.alloc (.cells #[.int .i64 k0, .int .i64 k1, .int .i64 k2, .int .i64 k3, .int .i64 k4, .int .i64 k5, .int .i64 k6] 23)) 38 [.int .i64 0, .int .i64 0, .int .i64 0, .int .i64 0, .int .i64 0, .int .i64 0, .int .i64 0, .int .i64 0, .slice none 0 0, .slice none 0 0, .int .i64 0, .int .i64 0, .int .i64 0, .int .i64 0, .int .i64 0, .int .i64 0, .int .i64 0]
    rw [World.size_alloc, ← hB] at h
    exact h)
  clear hB
  go_enter Tryz.func6, Tryz.ntmps6
  go_upto_region 1 with (fail)
  rw [← HB.out]
  generalize ((w.alloc (.cells #[.int .i64 k0, .int .i64 k1, .int .i64 k2, .int .i64 k3, .int .i64 k4, .int .i64 k5, .int .i64 k6] 23)).alloc (.cells #[.int .i64 0, .int .i64 0, .int .i64 0, .int .i64 0, .int .i64 0, .int .i64 0, .int .i64 0, .int .i64 0, .slice none 0 0, .slice none 0 0, .int .i64 0, .int .i64 0, .int .i64 0, .int .i64 0, .int .i64 0, .int .i64 0, .int .i64 0] 38)) = w0 at *
  have RT := Lib.hid (show w0.there (B + 1) 0 z0C.toArray.size from IsObj.there R0.out 0 17 (by simp))
  have OF := Lib.hid (show IsObj (w0.setCells (B + 1) 0 z0C.toArray.toList) (B + 1) 38 z0C from IsObj.setAll R0.out (by rfl))
  have BF := Lib.hid (show Only (B + 1) w0 (w0.setCells (B + 1) 0 z0C.toArray.toList) from Only.setCells (b := B + 1) z0C 0 (Only.refl (B + 1) w0))
  have ZO : z0C.toArray.all (·.oneCell') = true := z0_one
  go_wp2_with (refine wpList_store_mid (by rfl) 38 _ _ (by rfl) (B + 1) 0 z0C.toArray (by rfl) (by rfl) RT.out zinfo ZO ?_; generalize w0.setCells (B + 1) 0 z0C.toArray.toList = wf at *)
  have RL := run_loadVar_mid (P := Tryz.prog) wf (B + 1) 0 38 z0C _ (IsObj.range OF.out) Tryz.underlying38 rfl zinfo
  refine bodyPost_ret (v := .tuple #[.agg z0C.toArray, .int .i64 1]) ?_ rfl ?_
  · exact results_cell_tmp (by rfl) (by rfl) (by rfl) RL
  · have hw := HB.out
    exact ⟨rfl, B0.out.trans (BF.out.below (by omega) B0.out.size)⟩
set_option maxRecDepth 100000 in
set_option maxHeartbeats 4000000 in
theorem rnew_b4 (lv tr : Int) (k0 k1 k2 k3 k4 k5 k6 : Int) (w : World) (h0 : 1 ≤ lv) (h1 : lv ≤ 128) (h2 : 0 ≤ tr) (h : 7 < tr) : Calls Tryz.prog 6 #[.int .i64 lv, .int .i64 tr, .agg #[.int .i64 k0, .int .i64 k1, .int .i64 k2, .int .i64 k3, .int .i64 k4, .int .i64 k5, .int .i64 k6]] w fun e w' => e = .returned (.tuple #[.agg z0C.toArray, .int .i64 1]) ∧ Below w.heap.size w w' := by
  obtain ⟨B, hB⟩ : ∃ B, B = w.heap.size := ⟨_, rfl⟩
  have B0 := Lib.hid (show Below w.heap.size w ((w.alloc (.cells #[.int .i64 k0, .int .i64 k1, .int .i64 k2, .int .i64 k3, .int .i64 k4, .int .i64 k5, .int .i64 k6] 23)).alloc (.cells #[.int .i64 0, .int .i64 0, .int .i64 0, .int .i64 0, .int .i64 0, .int .i64 0, .int .i64 0, .int .i64 0, .slice none 0 0, .slice none 0 0, .int .i64 0, .int .i64 0, .int .i64 0, .int .i64 0, .int .i64 0, .int .i64 0, .int .i64 0] 38)) from ((Below.refl _ w).alloc (Nat.le_refl _) _).alloc (by simp) _)
  have HB := Lib.hid hB
  have O0 := Lib.hid (show IsObj ((w.alloc (.cells #[.int .i64 k0, .int .i64 k1, .int .i64 k2, .int .i64 k3, .int .i64 k4, .int .i64 k5, .int .i64 k6] 23)).alloc (.cells #[.int .i64 0, .int .i64 0, .int .i64 0, .int .i64 0, .int .i64 0, .int .i64 0, .int .i64 0, .int .i64 0, .slice none 0 0, .slice none 0 0, .int .i64 0, .int .i64 0, .int .i64 0, .int .i64 0, .int .i64 0, .int .i64 0, .int .i64 0] 38)) B 23 [.int .i64 k0, .int .i64 k1, .int .i64 k2, .int .i64 k3, .int .i64 k4, .int .i64 k5, .int .i64 k6] by rw [hB]; exact (IsObj.new w _ [.int .i64 k0, .int .i64 k1, .int .i64 k2, .int .i64 k3, .int .i64 k4, .int .i64 k5, .int .i64 k6]).alloc _)
  have R0 := Lib.hid (show IsObj ((w.alloc (.cells #[.int .i64 k0, .int .i64 k1, .int .i64 k2, .int .i64 k3, .int .i64 k4, .int .i64 k5, .int .i64 k6] 23)).alloc (.cells #[.int .i64 0, .int .i64 0, .int .i64 0, .int .i64 0, .int .i64 0, .int .i64 0, .int .i64 0, .int .i64 0, .slice none 0 0, .slice none 0 0, .int .i64 0, .int .i64 0, .int .i64 0, .int .i64 0, .int .i64 0, .int .i64 0, .int .i64 0] 38)) (B + 1) 38 [.int .i64 0, .int .i64 0, .int .i64 0, .int .i64 0, .int .i64 0, .int .i64 0, .int .i64 0, .int .i64 0, .slice none 0 0, .slice none 0 0, .int .i64 0, .int .i64 0, .int .i64 0, .int .i64 0, .int .i64 0, .int .i64 0, .int .i64 0] by
    have h := IsObj.new (w.alloc (.cells #[.int .i64 k0, .int .i64 k1, .int .i64 k2, .int .i64 k3, .int .i64 k4, .int .i64 k5, .int .i64 k6] 23)) 38 [.int .i64 0, .int .i64 0, .int .i64 0, .int .i64 0, .int .i64 0, .int .i64 0, .int .i64 0, .int .i64 0, .slice none 0 0, .slice none 0 0, .int .i64 0, .int .i64 0, .int .i64 0, .int .i64 0, .int .i64 0, .int .i64 0, .int .i64 0]
    rw [World.size_alloc, ← hB] at h
    exact h)
  clear hB
  go_enter Tryz.func6, Tryz.ntmps6
  go_upto_region 1 with (fail)
  rw [← HB.out]
  generalize ((w.alloc (.cells #[.int .i64 k0, .int .i64 k1, .int .i64 k2, .int .i64 k3, .int .i64 k4, .int .i64 k5, .int .i64 k6] 23)).alloc (.cells #[.int .i64 0, .int .i64 0, .int .i64 0, .int .i64 0, .int .i64 0, .int .i64 0, .int .i64 0, .int .i64 0, .slice none 0 0, .slice none 0 0, .int .i64 0, .int .i64 0, .int .i64 0, .int .i64 0, .int .i64 0, .int .i64 0, .int .i64 0] 38)) = w0 at *
  have RT := Lib.hid (show w0.there (B + 1) 0 z0C.toArray.size from IsObj.there R0.out 0 17 (by simp))
  have OF := Lib.hid (show IsObj (w0.setCells (B + 1) 0 z0C.toArray.toList) (B + 1) 38 z0C from IsObj.setAll R0.out (by rfl))
  have BF := Lib.hid (show Only (B + 1) w0 (w0.setCells (B + 1) 0 z0C.toArray.toList) from Only.setCells (b := B + 1) z0C 0 (Only.refl (B + 1) w0))
  have ZO : z0C.toArray.all (·.oneCell') = true := z0_one
  go_wp2_with (refine wpList_store_mid (by rfl) 38 _ _ (by rfl) (B + 1) 0 z0C.toArray (by rfl) (by rfl) RT.out zinfo ZO ?_; generalize w0.setCells (B + 1) 0 z0C.toArray.toList = wf at *)
  have RL := run_loadVar_mid (P := Tryz.prog) wf (B + 1) 0 38 z0C _ (IsObj.range OF.out) Tryz.underlying38 rfl zinfo
  refine bodyPost_ret (v := .tuple #[.agg z0C.toArray, .int .i64 1]) ?_ rfl ?_
  · exact results_cell_tmp (by rfl) (by rfl) (by rfl) RL
  · have hw := HB.out
    exact ⟨rfl, B0.out.trans (BF.out.below (by omega) B0.out.size)⟩
theorem rnew_bad (lv tr : Int) (k : Kb) (w : World) (h : ¬ ((1 ≤ lv ∧ lv ≤ 128) ∧ (0 ≤ tr ∧ tr ≤ 7))) : Calls Tryz.prog 6 #[.int .i64 lv, .int .i64 tr, kbV k] w fun e w' => e = .returned (.tuple #[.agg z0C.toArray, .int .i64 1]) ∧ Below w.heap.size w w' := by
  obtain ⟨k0, k1, k2, k3, k4, k5, k6⟩ := k
  by_cases h1 : lv < 1
  · exact rnew_b1 lv tr k0 k1 k2 k3 k4 k5 k6 w h1
  by_cases h2 : 128 < lv
  · exact rnew_b2 lv tr k0 k1 k2 k3 k4 k5 k6 w (by omega) h2
  by_cases h3 : tr < 0
  · exact rnew_b3 lv tr k0 k1 k2 k3 k4 k5 k6 w (by omega) (by omega) h3
  · exact rnew_b4 lv tr k0 k1 k2 k3 k4 k5 k6 w (by omega) (by omega) (by omega) (by omega)
set_option maxRecDepth 100000 in
set_option maxHeartbeats 4000000 in
theorem rnew_no {Q : Nat → Prop} (lv : Nat) (tr : Int) (k0 k1 k2 k3 k4 k5 k6 : Int) (w : World) (l1 : 1 ≤ lv) (l2 : lv ≤ 128) (t0 : 0 ≤ tr) (t1 : tr ≤ 7) (hk : kOk ⟨k0, k1, k2, k3, k4, k5, k6⟩ lv = false) (hQ : ∀ b, w.heap.size ≤ b → Q b) : Calls Tryz.prog 6 #[.int .i64 lv, .int .i64 tr, .agg #[.int .i64 k0, .int .i64 k1, .int .i64 k2, .int .i64 k3, .int .i64 k4, .int .i64 k5, .int .i64 k6]] w fun e w' => e = .returned (.tuple #[.agg z0C.toArray, .int .i64 10]) ∧ Below w.heap.size w w' := by
  obtain ⟨B, hB⟩ : ∃ B, B = w.heap.size := ⟨_, rfl⟩
  have B0 := Lib.hid (show Below w.heap.size w ((w.alloc (.cells #[.int .i64 k0, .int .i64 k1, .int .i64 k2, .int .i64 k3, .int .i64 k4, .int .i64 k5, .int .i64 k6] 23)).alloc (.cells #[.int .i64 0, .int .i64 0, .int .i64 0, .int .i64 0, .int .i64 0, .int .i64 0, .int .i64 0, .int .i64 0, .slice none 0 0, .slice none 0 0, .int .i64 0, .int .i64 0, .int .i64 0, .int .i64 0, .int .i64 0, .int .i64 0, .int .i64 0] 38)) from ((Below.refl _ w).alloc (Nat.le_refl _) _).alloc (by simp) _)
  have HB := Lib.hid hB
  have O0 := Lib.hid (show IsObj ((w.alloc (.cells #[.int .i64 k0, .int .i64 k1, .int .i64 k2, .int .i64 k3, .int .i64 k4, .int .i64 k5, .int .i64 k6] 23)).alloc (.cells #[.int .i64 0, .int .i64 0, .int .i64 0, .int .i64 0, .int .i64 0, .int .i64 0, .int .i64 0, .int .i64 0, .slice none 0 0, .slice none 0 0, .int .i64 0, .int .i64 0, .int .i64 0, .int .i64 0, .int .i64 0, .int .i64 0, .int .i64 0] 38)) B 23 [.int .i64 k0, .int .i64 k1, .int .i64 k2, .int .i64 k3, .int .i64 k4, .int .i64 k5, .int .i64 k6] by rw [hB]; exact (IsObj.new w _ [.int .i64 k0, .int .i64 k1, .int .i64 k2, .int .i64 k3, .int .i64 k4, .int .i64 k5, .int .i64 k6]).alloc _)
  have R0 := Lib.hid (show IsObj ((w.alloc (.cells #[.int .i64 k0, .int .i64 k1, .int .i64 k2, .int .i64 k3, .int .i64 k4, .int .i64 k5, .int .i64 k6] 23)).alloc (.cells #[.int .i64 0, .int .i64 0, .int .i64 0, .int .i64 0, .int .i64 0, .int .i64 0, .int .i64 0, .int .i64 0, .slice none 0 0, .slice none 0 0, .int .i64 0, .int .i64 0, .int .i64 0, .int .i64 0, .int .i64 0, .int .i64 0, .int .i64 0] 38)) (B + 1) 38 [.int .i64 0, .int .i64 0, .int .i64 0, .int .i64 0, .int .i64 0, .int .i64 0, .int .i64 0, .int .i64 0, .slice none 0 0, .slice none 0 0, .int .i64 0, .int .i64 0, .int .i64 0, .int .i64 0, .int .i64 0, .int .i64 0, .int .i64 0] by
    have h := IsObj.new (w.alloc (.cells #[.int .i64 k0, .int .i64 k1, .int .i64 k2, .int .i64 k3, .int .i64 k4, .int .i64 k5, .int .i64 k6] 23)) 38 [.int .i64 0, .int .i64 0, .int .i64 0, .int .i64 0, .int .i64 0, .int .i64 0, .int .i64 0, .int .i64 0, .slice none 0 0, .slice none 0 0, .int .i64 0, .int .i64 0, .int .i64 0, .int .i64 0, .int .i64 0, .int .i64 0, .int .i64 0]
    rw [World.size_alloc, ← hB] at h
    exact h)
  clear hB
  go_enter Tryz.func6, Tryz.ntmps6
  go_upto_region 1 with (fail)
  rw [← HB.out]
  generalize ((w.alloc (.cells #[.int .i64 k0, .int .i64 k1, .int .i64 k2, .int .i64 k3, .int .i64 k4, .int .i64 k5, .int .i64 k6] 23)).alloc (.cells #[.int .i64 0, .int .i64 0, .int .i64 0, .int .i64 0, .int .i64 0, .int .i64 0, .int .i64 0, .int .i64 0, .slice none 0 0, .slice none 0 0, .int .i64 0, .int .i64 0, .int .i64 0, .int .i64 0, .int .i64 0, .int .i64 0, .int .i64 0] 38)) = w0 at *
  have q0 : w0.cell? ⟨B, 0, none⟩ = some (.int .i64 k0) := O0.out.cell 0
  have q1 : w0.cell? ⟨B, 1, none⟩ = some (.int .i64 k1) := O0.out.cell 1
  have q2 : w0.cell? ⟨B, 2, none⟩ = some (.int .i64 k2) := O0.out.cell 2
  have q3 : w0.cell? ⟨B, 3, none⟩ = some (.int .i64 k3) := O0.out.cell 3
  have q4 : w0.cell? ⟨B, 4, none⟩ = some (.int .i64 k4) := O0.out.cell 4
  have q5 : w0.cell? ⟨B, 5, none⟩ = some (.int .i64 k5) := O0.out.cell 5
  have q6 : w0.cell? ⟨B, 6, none⟩ = some (.int .i64 k6) := O0.out.cell 6
  have l1' : (1 : Int) ≤ (lv : Int) := by omega
  have l2' : (lv : Int) ≤ 128 := by omega
  have KC : Calls Tryz.prog 14 #[.agg #[.int .i64 k0, .int .i64 k1, .int .i64 k2, .int .i64 k3, .int .i64 k4, .int .i64 k5, .int .i64 k6], .int .i64 lv] w0 fun e w' => e = .returned (.int .i64 10) ∧ Below w0.heap.size w0 w' := by
    have K := rcheck_any ⟨k0, k1, k2, k3, k4, k5, k6⟩ lv w0
    unfold kErr at K
    rw [hk] at K
    exact K
  go_upto_region 3 with (fail)
  go_upto_region 4 with (fail)
  refine KC.mono ?_
  rintro e w1 ⟨rfl, hb1⟩
  have O1 := Lib.hid (IsObj.below O0.out hb1 O0.out.lt)
  have R1 := Lib.hid (IsObj.below R0.out hb1 R0.out.lt)
  have B1 := Lib.hid (B0.out.trans (hb1.mono B0.out.size))
  clear hb1 KC q0 q1 q2 q3 q4 q5 q6
  have RT := Lib.hid (show w1.there (B + 1) 0 z0C.toArray.size from IsObj.there R1.out 0 17 (by simp))
  have OF := Lib.hid (show IsObj (w1.setCells (B + 1) 0 z0C.toArray.toList) (B + 1) 38 z0C from IsObj.setAll R1.out (by rfl))
  have BF := Lib.hid (show Only (B + 1) w1 (w1.setCells (B + 1) 0 z0C.toArray.toList) from Only.setCells (b := B + 1) z0C 0 (Only.refl (B + 1) w1))
  have ZO : z0C.toArray.all (·.oneCell') = true := z0_one
  go_wp2_with (refine wpList_store_mid (by rfl) 38 _ _ (by rfl) (B + 1) 0 z0C.toArray (by rfl) (by rfl) RT.out zinfo ZO ?_; generalize w1.setCells (B + 1) 0 z0C.toArray.toList = wf at *)
  have RL := run_loadVar_mid (P := Tryz.prog) wf (B + 1) 0 38 z0C _ (IsObj.range OF.out) Tryz.underlying38 rfl zinfo
  refine bodyPost_ret (v := .tuple #[.agg z0C.toArray, .int .i64 10]) ?_ rfl ?_
  · exact results_cell_tmp (by rfl) (by rfl) (by rfl) RL
  · have hw := HB.out
    exact ⟨rfl, B1.out.trans (BF.out.below (by omega) B1.out.size)⟩
set_option maxRecDepth 100000 in
set_option maxHeartbeats 4000000 in
theorem rnew_yes {Q : Nat → Prop} (lv : Nat) (tr : Int) (k0 k1 k2 k3 k4 k5 k6 : Int) (w : World) (l1 : 1 ≤ lv) (l2 : lv ≤ 128) (t0 : 0 ≤ tr) (t1 : tr ≤ 7) (hk : kOk ⟨k0, k1, k2, k3, k4, k5, k6⟩ lv = true) (hQ : ∀ b, w.heap.size ≤ b → Q b) : Calls Tryz.prog 6 #[.int .i64 lv, .int .i64 tr, .agg #[.int .i64 k0, .int .i64 k1, .int .i64 k2, .int .i64 k3, .int .i64 k4, .int .i64 k5, .int .i64 k6]] w fun e w' => ∃ sv, e = .returned (.tuple #[zV (newSt lv tr ⟨k0, k1, k2, k3, k4, k5, k6⟩) sv (.slice none 0 0), .int .i64 0]) ∧ RSt Q 0 w' (newSt lv tr ⟨k0, k1, k2, k3, k4, k5, k6⟩) sv (.slice none 0 0) ∧ Below w.heap.size w w' := by
  obtain ⟨B, hB⟩ : ∃ B, B = w.heap.size := ⟨_, rfl⟩
  have B0 := Lib.hid (show Below w.heap.size w ((w.alloc (.cells #[.int .i64 k0, .int .i64 k1, .int .i64 k2, .int .i64 k3, .int .i64 k4, .int .i64 k5, .int .i64 k6] 23)).alloc (.cells #[.int .i64 0, .int .i64 0, .int .i64 0, .int .i64 0, .int .i64 0, .int .i64 0, .int .i64 0, .int .i64 0, .slice none 0 0, .slice none 0 0, .int .i64 0, .int .i64 0, .int .i64 0, .int .i64 0, .int .i64 0, .int .i64 0, .int .i64 0] 38)) from ((Below.refl _ w).alloc (Nat.le_refl _) _).alloc (by simp) _)
  have HB := Lib.hid hB
  have O0 := Lib.hid (show IsObj ((w.alloc (.cells #[.int .i64 k0, .int .i64 k1, .int .i64 k2, .int .i64 k3, .int .i64 k4, .int .i64 k5, .int .i64 k6] 23)).alloc (.cells #[.int .i64 0, .int .i64 0, .int .i64 0, .int .i64 0, .int .i64 0, .int .i64 0, .int .i64 0, .int .i64 0, .slice none 0 0, .slice none 0 0, .int .i64 0, .int .i64 0, .int .i64 0, .int .i64 0, .int .i64 0, .int .i64 0, .int .i64 0] 38)) B 23 [.int .i64 k0, .int .i64 k1, .int .i64 k2, .int .i64 k3, .int .i64 k4, .int .i64 k5, .int .i64 k6] by rw [hB]; exact (IsObj.new w _ [.int .i64 k0, .int .i64 k1, .int .i64 k2, .int .i64 k3, .int .i64 k4, .int .i64 k5, .int .i64 k6]).alloc _)
  have R0 := Lib.hid (show IsObj ((w.alloc (.cells #[.int .i64 k0, .int .i64 k1, .int .i64 k2, .int .i64 k3, .int .i64 k4, .int .i64 k5, .int .i64 k6] 23)).alloc (.cells #[.int .i64 0, .int .i64 0, .int .i64 0, .int .i64 0, .int .i64 0, .int .i64 0, .int .i64 0, .int .i64 0, .slice none 0 0, .slice none 0 0, .int .i64 0, .int .i64 0, .int .i64 0, .int .i64 0, .int .i64 0, .int .i64 0, .int .i64 0] 38)) (B + 1) 38 [.int .i64 0, .int .i64 0, .int .i64 0, .int .i64 0, .int .i64 0, .int .i64 0, .int .i64 0, .int .i64 0, .slice none 0 0, .slice none 0 0, .int .i64 0, .int .i64 0, .int .i64 0, .int .i64 0, .int .i64 0, .int .i64 0, .int .i64 0] by
    have h := IsObj.new (w.alloc (.cells #[.int .i64 k0, .int .i64 k1, .int .i64 k2, .int .i64 k3, .int .i64 k4, .int .i64 k5, .int .i64 k6] 23)) 38 [.int .i64 0, .int .i64 0, .int .i64 0, .int .i64 0, .int .i64 0, .int .i64 0, .int .i64 0, .int .i64 0, .slice none 0 0, .slice none 0 0, .int .i64 0, .int .i64 0, .int .i64 0, .int .i64 0, .int .i64 0, .int .i64 0, .int .i64 0]
    rw [World.size_alloc, ← hB] at h
    exact h)
  clear hB
  go_enter Tryz.func6, Tryz.ntmps6
  go_upto_region 1 with (fail)
  rw [← HB.out]
  generalize ((w.alloc (.cells #[.int .i64 k0, .int .i64 k1, .int .i64 k2, .int .i64 k3, .int .i64 k4, .int .i64 k5, .int .i64 k6] 23)).alloc (.cells #[.int .i64 0, .int .i64 0, .int .i64 0, .int .i64 0, .int .i64 0, .int .i64 0, .int .i64 0, .int .i64 0, .slice none 0 0, .slice none 0 0, .int .i64 0, .int .i64 0, .int .i64 0, .int .i64 0, .int .i64 0, .int .i64 0, .int .i64 0] 38)) = w0 at *
  have q0 : w0.cell? ⟨B, 0, none⟩ = some (.int .i64 k0) := O0.out.cell 0
  have q1 : w0.cell? ⟨B, 1, none⟩ = some (.int .i64 k1) := O0.out.cell 1
  have q2 : w0.cell? ⟨B, 2, none⟩ = some (.int .i64 k2) := O0.out.cell 2
  have q3 : w0.cell? ⟨B, 3, none⟩ = some (.int .i64 k3) := O0.out.cell 3
  have q4 : w0.cell? ⟨B, 4, none⟩ = some (.int .i64 k4) := O0.out.cell 4
  have q5 : w0.cell? ⟨B, 5, none⟩ = some (.int .i64 k5) := O0.out.cell 5
  have q6 : w0.cell? ⟨B, 6, none⟩ = some (.int .i64 k6) := O0.out.cell 6
  have l1' : (1 : Int) ≤ (lv : Int) := by omega
  have l2' : (lv : Int) ≤ 128 := by omega
  have KC : Calls Tryz.prog 14 #[.agg #[.int .i64 k0, .int .i64 k1, .int .i64 k2, .int .i64 k3, .int .i64 k4, .int .i64 k5, .int .i64 k6], .int .i64 lv] w0 fun e w' => e = .returned (.int .i64 0) ∧ Below w0.heap.size w0 w' := by
    have K := rcheck_any ⟨k0, k1, k2, k3, k4, k5, k6⟩ lv w0
    unfold kErr at K
    rw [hk] at K
    exact K
  go_upto_region 3 with (fail)
  go_upto_region 5 with (fail)
  refine KC.mono ?_
  rintro e w1 ⟨rfl, hb1⟩
  have O1 := Lib.hid (IsObj.below O0.out hb1 O0.out.lt)
  have R1 := Lib.hid (IsObj.below R0.out hb1 R0.out.lt)
  have B1 := Lib.hid (B0.out.trans (hb1.mono B0.out.size))
  clear hb1 KC q0 q1 q2 q3 q4 q5 q6
  have q0 : w1.cell? ⟨B, 0, none⟩ = some (.int .i64 k0) := O1.out.cell 0
  have q1 : w1.cell? ⟨B, 1, none⟩ = some (.int .i64 k1) := O1.out.cell 1
  have q2 : w1.cell? ⟨B, 2, none⟩ = some (.int .i64 k2) := O1.out.cell 2
  have q3 : w1.cell? ⟨B, 3, none⟩ = some (.int .i64 k3) := O1.out.cell 3
  have q4 : w1.cell? ⟨B, 4, none⟩ = some (.int .i64 k4) := O1.out.cell 4
  have q5 : w1.cell? ⟨B, 5, none⟩ = some (.int .i64 k5) := O1.out.cell 5
  have q6 : w1.cell? ⟨B, 6, none⟩ = some (.int .i64 k6) := O1.out.cell 6
  go_upto_region 5 with (fail)
  have K0 : S7N B k0 k1 k2 k3 k4 k5 k6 w1.drew := ⟨O1.out.drew.cell 0, O1.out.drew.cell 1, O1.out.drew.cell 2, O1.out.drew.cell 3, O1.out.drew.cell 4, O1.out.drew.cell 5, O1.out.drew.cell 6⟩
  refine wp_region_held_drew (S := S7N B k0 k1 k2 k3 k4 k5 k6) (by kernel_rfl) ?_ (fun hHeld => ?_)
  · exact K0
  refine wpAnyH_take (i := 0) (oi := ?oi1) (v := ?v1) ?hi1 (by kernel_rfl) (by kernel_rfl) (by kernel_rfl) ?hQ1 ?hy1 (by assumption) ?_
  case hi1 => (simp only [List.getElem?_toArray, List.getElem?_cons_succ, List.getElem?_cons_zero]; rfl)
  case hQ1 => exact fun _ _ _ h => h
  case hy1 => (refine Or.inl ⟨by rfl, ?_⟩; intro w hSw; (obtain ⟨hSw0, hSw1, hSw2, hSw3, hSw4, hSw5, hSw6⟩ := hSw); go_simp; try with_reducible rfl)
  try simp only [Act.put, List.setIfInBounds_toArray, List.set_cons_zero, List.set_cons_succ]
  refine wpAnyH_take (i := 1) (oi := ?oi2) (v := ?v2) ?hi2 (by kernel_rfl) (by kernel_rfl) (by kernel_rfl) ?hQ2 ?hy2 (by assumption) ?_
  case hi2 => (simp only [List.getElem?_toArray, List.getElem?_cons_succ, List.getElem?_cons_zero]; rfl)
  case hQ2 => exact fun _ _ _ h => h
  case hy2 => (refine Or.inl ⟨by rfl, ?_⟩; intro w hSw; (obtain ⟨hSw0, hSw1, hSw2, hSw3, hSw4, hSw5, hSw6⟩ := hSw); go_simp; try with_reducible rfl)
  try simp only [Act.put, List.setIfInBounds_toArray, List.set_cons_zero, List.set_cons_succ]
  refine wpAnyH_take (i := 2) (oi := ?oi3) (v := ?v3) ?hi3 (by kernel_rfl) (by kernel_rfl) (by kernel_rfl) ?hQ3 ?hy3 (by assumption) ?_
  case hi3 => (simp only [List.getElem?_toArray, List.getElem?_cons_succ, List.getElem?_cons_zero]; rfl)
  case hQ3 => exact fun _ _ _ h => h
  case hy3 => (refine Or.inl ⟨by rfl, ?_⟩; intro w hSw; (obtain ⟨hSw0, hSw1, hSw2, hSw3, hSw4, hSw5, hSw6⟩ := hSw); go_simp; try with_reducible rfl)
  try simp only [Act.put, List.setIfInBounds_toArray, List.set_cons_zero, List.set_cons_succ]
  refine wpAnyH_take (i := 4) (oi := ?oi4) (v := ?v4) ?hi4 (by kernel_rfl) (by kernel_rfl) (by kernel_rfl) ?hQ4 ?hy4 (by assumption) ?_
  case hi4 => (simp only [List.getElem?_toArray, List.getElem?_cons_succ, List.getElem?_cons_zero]; rfl)
  case hQ4 => exact fun _ _ _ h => h
  case hy4 => (refine Or.inl ⟨by rfl, ?_⟩; intro w hSw; (obtain ⟨hSw0, hSw1, hSw2, hSw3, hSw4, hSw5, hSw6⟩ := hSw); go_simp; try with_reducible rfl)
  try simp only [Act.put, List.setIfInBounds_toArray, List.set_cons_zero, List.set_cons_succ]
  refine wpAnyH_take (i := 6) (oi := ?oi5) (v := ?v5) ?hi5 (by kernel_rfl) (by kernel_rfl) (by kernel_rfl) ?hQ5 ?hy5 (by assumption) ?_
  case hi5 => (simp only [List.getElem?_toArray, List.getElem?_cons_succ, List.getElem?_cons_zero]; rfl)
  case hQ5 => exact fun _ _ _ h => h
  case hy5 => (refine Or.inl ⟨by rfl, ?_⟩; intro w hSw; (obtain ⟨hSw0, hSw1, hSw2, hSw3, hSw4, hSw5, hSw6⟩ := hSw); go_simp; try with_reducible rfl)
  try simp only [Act.put, List.setIfInBounds_toArray, List.set_cons_zero, List.set_cons_succ]
  have HQ := Lib.hid hQ
  have hB1 : B + 1 < w1.heap.size := R1.out.lt
  clear hQ hk
  obtain ⟨w2, hmk, hO, hB2, hlt2⟩ := make_ints lv w1.drew (by omega)
  refine wpAnyH_ready (rs := [3, 5]) (by kernel_rfl) (by simp) ?_
  refine AllReadyH.cons (o := ?oi1403) ?ho1403 (fun K hK => ?_) (AllReadyH.cons (o := ?oi1405) ?ho1405 (fun K hK => ?_) AllReadyH.nil)
  case ho1403 => (simp only [List.getElem?_toArray, List.getElem?_cons_succ, List.getElem?_cons_zero]; rfl)
  case ho1405 => (simp only [List.getElem?_toArray, List.getElem?_cons_succ, List.getElem?_cons_zero]; rfl)
  · go_simp
    have hk2 := S7N.keep hB2 K0
    refine hK.out _ _ ?_ (fun hHeld => ?_)
    · (try dsimp only); assumption
    clear hK K
    try simp only [Act.put, List.setIfInBounds_toArray, List.set_cons_zero, List.set_cons_succ]
    refine wpAnyH_ready (rs := [5]) (by kernel_rfl) (by simp) ?_
    refine AllReadyH.cons (o := ?oi600) ?ho600 (fun K hK => ?_) AllReadyH.nil
    case ho600 => (simp only [List.getElem?_toArray, List.getElem?_cons_succ, List.getElem?_cons_zero]; rfl)
    go_simp
    go_at_call 26
    refine (rdNew_any tr w2).mono ?_
    rintro e wK ⟨rfl, hbK⟩
    have hSX := S7N.keep hbK hk2
    have RX := Lib.hid (IsObj.below (IsObj.below R1.out.drew hB2 R1.out.lt) hbK (by have := hB2.size; exact Nat.lt_of_lt_of_le R1.out.lt this))
    have HOX := Lib.hid (IsObj.below hO hbK hO.lt)
    have BX := Lib.hid ((B1.out.trans ((below_drew_left hB2).mono B1.out.size)).trans (hbK.mono (by have := (B1.out.trans ((below_drew_left hB2).mono B1.out.size)).size; exact this)))
    have hgB : B + 1 < w1.heap.size := hB1
    clear hmk hO hB2 hlt2 hbK
    refine hK.out _ _ ?_ (fun hHeld => ?_)
    · (try dsimp only); exact hSX
    clear hK K
    try simp only [Act.put, List.setIfInBounds_toArray, List.set_cons_zero, List.set_cons_succ]
    refine wpAnyH_take (i := 7) (oi := ?oi7) (v := ?v7) ?hi7 (by kernel_rfl) (by kernel_rfl) (by kernel_rfl) ?hQ7 ?hy7 (by assumption) ?_
    case hi7 => (simp only [List.getElem?_toArray, List.getElem?_cons_succ, List.getElem?_cons_zero]; rfl)
    case hQ7 => exact fun _ _ _ h => h
    case hy7 => (refine Or.inl ⟨by rfl, ?_⟩; intro w hSw; (obtain ⟨hSw0, hSw1, hSw2, hSw3, hSw4, hSw5, hSw6⟩ := hSw); go_simp; try with_reducible rfl)
    try simp only [Act.put, List.setIfInBounds_toArray, List.set_cons_zero, List.set_cons_succ]
    have RT := Lib.hid (show wK.there (B + 1) 0 (zC (newSt lv tr ⟨k0, k1, k2, k3, k4, k5, k6⟩) (.slice (some ⟨w1.heap.size, 0, none⟩) lv lv) (.slice none 0 0)).toArray.size from IsObj.there RX.out 0 17 (by simp))
    have OF := Lib.hid (show IsObj (wK.setCells (B + 1) 0 (zC (newSt lv tr ⟨k0, k1, k2, k3, k4, k5, k6⟩) (.slice (some ⟨w1.heap.size, 0, none⟩) lv lv) (.slice none 0 0)).toArray.toList) (B + 1) 38 (zC (newSt lv tr ⟨k0, k1, k2, k3, k4, k5, k6⟩) (.slice (some ⟨w1.heap.size, 0, none⟩) lv lv) (.slice none 0 0)) from IsObj.setAll RX.out (by rfl))
    have BF := Lib.hid (show Only (B + 1) wK (wK.setCells (B + 1) 0 (zC (newSt lv tr ⟨k0, k1, k2, k3, k4, k5, k6⟩) (.slice (some ⟨w1.heap.size, 0, none⟩) lv lv) (.slice none 0 0)).toArray.toList) from Only.setCells (b := B + 1) (zC (newSt lv tr ⟨k0, k1, k2, k3, k4, k5, k6⟩) (.slice (some ⟨w1.heap.size, 0, none⟩) lv lv) (.slice none 0 0)) 0 (Only.refl (B + 1) wK))
    have ZO : (zC (newSt lv tr ⟨k0, k1, k2, k3, k4, k5, k6⟩) (.slice (some ⟨w1.heap.size, 0, none⟩) lv lv) (.slice none 0 0)).toArray.all (·.oneCell') = true := zC_one rfl rfl
    have hSF := S7N.only BF.out (by omega) hSX
    refine wpAnyH_ready (rs := [8]) (by kernel_rfl) (by simp) ?_
    refine AllReadyH.cons (o := ?oi800) ?ho800 (fun K hK => ?_) AllReadyH.nil
    case ho800 => (simp only [List.getElem?_toArray, List.getElem?_cons_succ, List.getElem?_cons_zero]; rfl)
    refine wp_store_mid 38 _ _ (by rfl) (B + 1) 0 (zC (newSt lv tr ⟨k0, k1, k2, k3, k4, k5, k6⟩) (.slice (some ⟨w1.heap.size, 0, none⟩) lv lv) (.slice none 0 0)).toArray (by rfl) (by rfl) RT.out zinfo ZO ?_
    generalize wK.setCells (B + 1) 0 (zC (newSt lv tr ⟨k0, k1, k2, k3, k4, k5, k6⟩) (.slice (some ⟨w1.heap.size, 0, none⟩) lv lv) (.slice none 0 0)).toArray.toList = wf at *
    refine hK.out _ _ ?_ (fun hHeld => ?_)
    · (try dsimp only); exact hSF
    clear hK K
    try simp only [Act.put, List.setIfInBounds_toArray, List.set_cons_zero, List.set_cons_succ]
    refine wpAnyH_take (i := 9) (oi := ?oi9) (v := ?v9) ?hi9 (by kernel_rfl) (by kernel_rfl) (by kernel_rfl) ?hQ9 ?hy9 (by assumption) ?_
    case hi9 => (simp only [List.getElem?_toArray, List.getElem?_cons_succ, List.getElem?_cons_zero]; rfl)
    case hQ9 => exact fun _ _ _ h => h
    case hy9 => (refine Or.inl ⟨by rfl, ?_⟩; intro w hSw; (obtain ⟨hSw0, hSw1, hSw2, hSw3, hSw4, hSw5, hSw6⟩ := hSw); go_simp; try with_reducible rfl)
    try simp only [Act.put, List.setIfInBounds_toArray, List.set_cons_zero, List.set_cons_succ]
    refine wpAnyH_done (by kernel_rfl) ?_ _
    go_wp2
    have RL := run_loadVar_mid (P := Tryz.prog) wf (B + 1) 0 38 (zC (newSt lv tr ⟨k0, k1, k2, k3, k4, k5, k6⟩) (.slice (some ⟨w1.heap.size, 0, none⟩) lv lv) (.slice none 0 0)) _ (IsObj.range OF.out) Tryz.underlying38 rfl zinfo
    refine bodyPost_ret (v := .tuple #[.agg (zC (newSt lv tr ⟨k0, k1, k2, k3, k4, k5, k6⟩) (.slice (some ⟨w1.heap.size, 0, none⟩) lv lv) (.slice none 0 0)).toArray, .int .i64 0]) ?_ rfl ?_
    · exact results_cell_tmp (by rfl) (by rfl) (by rfl) RL
    · have hw := HB.out
      have hg : B + 1 < w1.heap.size := hgB
      exact ⟨_, rfl, RSt.fresh (z := newSt lv tr ⟨k0, k1, k2, k3, k4, k5, k6⟩) l2 (IsObj.only HOX.out BF.out (by omega)) (HQ.out _ (by omega)), BX.out.trans (BF.out.below (by omega) BX.out.size)⟩
  · go_simp
    go_at_call 26
    refine (rdNew_any tr w1.drew).mono ?_
    rintro e wK ⟨rfl, hbK⟩
    have hkK := S7N.keep hbK K0
    clear hmk hO hB2 hlt2
    refine hK.out _ _ ?_ (fun hHeld => ?_)
    · (try dsimp only); assumption
    clear hK K
    try simp only [Act.put, List.setIfInBounds_toArray, List.set_cons_zero, List.set_cons_succ]
    refine wpAnyH_ready (rs := [3]) (by kernel_rfl) (by simp) ?_
    refine AllReadyH.cons (o := ?oi1000) ?ho1000 (fun K hK => ?_) AllReadyH.nil
    case ho1000 => (simp only [List.getElem?_toArray, List.getElem?_cons_succ, List.getElem?_cons_zero]; rfl)
    obtain ⟨w3, hmk3, hO3, hB3, hlt3⟩ := make_ints lv wK (by omega)
    go_simp
    have hSX := S7N.keep hB3 hkK
    have RX := Lib.hid (IsObj.below (IsObj.below R1.out.drew hbK R1.out.lt) hB3 (by have := hbK.size; exact Nat.lt_of_lt_of_le R1.out.lt this))
    have HOX := Lib.hid hO3
    have BX := Lib.hid ((B1.out.trans ((below_drew_left hbK).mono B1.out.size)).trans (hB3.mono (by have := (B1.out.trans ((below_drew_left hbK).mono B1.out.size)).size; exact this)))
    have hgB : B + 1 < wK.heap.size := by have h1 := hbK.size; have h2 : w1.heap.size ≤ wK.heap.size := h1; omega
    clear hmk3 hO3 hB3 hlt3 hbK
    refine hK.out _ _ ?_ (fun hHeld => ?_)
    · (try dsimp only); exact hSX
    clear hK K
    try simp only [Act.put, List.setIfInBounds_toArray, List.set_cons_zero, List.set_cons_succ]
    refine wpAnyH_take (i := 7) (oi := ?oi11) (v := ?v11) ?hi11 (by kernel_rfl) (by kernel_rfl) (by kernel_rfl) ?hQ11 ?hy11 (by assumption) ?_
    case hi11 => (simp only [List.getElem?_toArray, List.getElem?_cons_succ, List.getElem?_cons_zero]; rfl)
    case hQ11 => exact fun _ _ _ h => h
    case hy11 => (refine Or.inl ⟨by rfl, ?_⟩; intro w hSw; (obtain ⟨hSw0, hSw1, hSw2, hSw3, hSw4, hSw5, hSw6⟩ := hSw); go_simp; try with_reducible rfl)
    try simp only [Act.put, List.setIfInBounds_toArray, List.set_cons_zero, List.set_cons_succ]
    have RT := Lib.hid (show w3.there (B + 1) 0 (zC (newSt lv tr ⟨k0, k1, k2, k3, k4, k5, k6⟩) (.slice (some ⟨wK.heap.size, 0, none⟩) lv lv) (.slice none 0 0)).toArray.size from IsObj.there RX.out 0 17 (by simp))
    have OF := Lib.hid (show IsObj (w3.setCells (B + 1) 0 (zC (newSt lv tr ⟨k0, k1, k2, k3, k4, k5, k6⟩) (.slice (some ⟨wK.heap.size, 0, none⟩) lv lv) (.slice none 0 0)).toArray.toList) (B + 1) 38 (zC (newSt lv tr ⟨k0, k1, k2, k3, k4, k5, k6⟩) (.slice (some ⟨wK.heap.size, 0, none⟩) lv lv) (.slice none 0 0)) from IsObj.setAll RX.out (by rfl))
    have BF := Lib.hid (show Only (B + 1) w3 (w3.setCells (B + 1) 0 (zC (newSt lv tr ⟨k0, k1, k2, k3, k4, k5, k6⟩) (.slice (some ⟨wK.heap.size, 0, none⟩) lv lv) (.slice none 0 0)).toArray.toList) from Only.setCells (b := B + 1) (zC (newSt lv tr ⟨k0, k1, k2, k3, k4, k5, k6⟩) (.slice (some ⟨wK.heap.size, 0, none⟩) lv lv) (.slice none 0 0)) 0 (Only.refl (B + 1) w3))
    have ZO : (zC (newSt lv tr ⟨k0, k1, k2, k3, k4, k5, k6⟩) (.slice (some ⟨wK.heap.size, 0, none⟩) lv lv) (.slice none 0 0)).toArray.all (·.oneCell') = true := zC_one rfl rfl
    have hSF := S7N.only BF.out (by omega) hSX
    refine wpAnyH_ready (rs := [8]) (by kernel_rfl) (by simp) ?_
    refine AllReadyH.cons (o := ?oi1200) ?ho1200 (fun K hK => ?_) AllReadyH.nil
    case ho1200 => (simp only [List.getElem?_toArray, List.getElem?_cons_succ, List.getElem?_cons_zero]; rfl)
    refine wp_store_mid 38 _ _ (by rfl) (B + 1) 0 (zC (newSt lv tr ⟨k0, k1, k2, k3, k4, k5, k6⟩) (.slice (some ⟨wK.heap.size, 0, none⟩) lv lv) (.slice none 0 0)).toArray (by rfl) (by rfl) RT.out zinfo ZO ?_
    generalize w3.setCells (B + 1) 0 (zC (newSt lv tr ⟨k0, k1, k2, k3, k4, k5, k6⟩) (.slice (some ⟨wK.heap.size, 0, none⟩) lv lv) (.slice none 0 0)).toArray.toList = wf at *
    refine hK.out _ _ ?_ (fun hHeld => ?_)
    · (try dsimp only); exact hSF
    clear hK K
    try simp only [Act.put, List.setIfInBounds_toArray, List.set_cons_zero, List.set_cons_succ]
    refine wpAnyH_take (i := 9) (oi := ?oi13) (v := ?v13) ?hi13 (by kernel_rfl) (by kernel_rfl) (by kernel_rfl) ?hQ13 ?hy13 (by assumption) ?_
    case hi13 => (simp only [List.getElem?_toArray, List.getElem?_cons_succ, List.getElem?_cons_zero]; rfl)
    case hQ13 => exact fun _ _ _ h => h
    case hy13 => (refine Or.inl ⟨by rfl, ?_⟩; intro w hSw; (obtain ⟨hSw0, hSw1, hSw2, hSw3, hSw4, hSw5, hSw6⟩ := hSw); go_simp; try with_reducible rfl)
    try simp only [Act.put, List.setIfInBounds_toArray, List.set_cons_zero, List.set_cons_succ]
    refine wpAnyH_done (by kernel_rfl) ?_ _
    go_wp2
    have RL := run_loadVar_mid (P := Tryz.prog) wf (B + 1) 0 38 (zC (newSt lv tr ⟨k0, k1, k2, k3, k4, k5, k6⟩) (.slice (some ⟨wK.heap.size, 0, none⟩) lv lv) (.slice none 0 0)) _ (IsObj.range OF.out) Tryz.underlying38 rfl zinfo
    refine bodyPost_ret (v := .tuple #[.agg (zC (newSt lv tr ⟨k0, k1, k2, k3, k4, k5, k6⟩) (.slice (some ⟨wK.heap.size, 0, none⟩) lv lv) (.slice none 0 0)).toArray, .int .i64 0]) ?_ rfl ?_
    · exact results_cell_tmp (by rfl) (by rfl) (by rfl) RL
    · have hw := HB.out
      have hg : B + 1 < wK.heap.size := hgB
      exact ⟨_, rfl, RSt.fresh (z := newSt lv tr ⟨k0, k1, k2, k3, k4, k5, k6⟩) l2 (IsObj.only HOX.out BF.out (by omega)) (HQ.out _ (by omega)), BX.out.trans (BF.out.below (by omega) BX.out.size)⟩
end Go.Proofs.YtagfbnfbiadpfaaGreat
