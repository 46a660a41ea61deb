/-
  Layer 27 (frame): the frame of a part; the body of a part.
-/
import Derived.Test.YtobcjbpgeohbgaaDoorFr1
import Derived.Test.YtobcjbpgeohbgaaDoorFrK
namespace Go.Proofs.YtobcjbpgeohbgaaDoor
open Go.RowKit
set_option linter.unusedVariables false
set_option linter.unusedSimpArgs false

set_option maxRecDepth 100000 in
set_option maxHeartbeats 4000000 in
theorem whole_q (q : Rq) (w : World) : Calls Tryd.prog 11 #[.iface 54 (rqV q)] w fun e w' => e = .returned (fmV ⟨1, q, a0, p0⟩) ∧ Below w.heap.size w w' := by
  obtain ⟨B, hB⟩ : ∃ B, B = w.heap.size := ⟨_, rfl⟩
  have O0 := Lib.hid (show IsObj (w.alloc (.cells #[.int .i64 0, .int .i64 0, .int .i64 0, .int .i64 0, .int .i64 0, .int .i64 0, .int .i64 0, .int .i64 0, .int .i64 0, .int .i64 0, .int .i64 0, .int .i64 0, .int .i64 0, .int .i64 0, .int .i64 0, .int .i64 0, .int .i64 0, .int .i64 0, .int .i64 0, .int .i64 0, .int .i64 0, .int .i64 0, .int .i64 0] 31)) B 31 (fmCells fm0) by rw [hB]; exact IsObj.new w _ (fmCells fm0))
  have B0 := Lib.hid (show Below w.heap.size w (w.alloc (.cells #[.int .i64 0, .int .i64 0, .int .i64 0, .int .i64 0, .int .i64 0, .int .i64 0, .int .i64 0, .int .i64 0, .int .i64 0, .int .i64 0, .int .i64 0, .int .i64 0, .int .i64 0, .int .i64 0, .int .i64 0, .int .i64 0, .int .i64 0, .int .i64 0, .int .i64 0, .int .i64 0, .int .i64 0, .int .i64 0, .int .i64 0] 31)) from (Below.refl _ _).alloc (Nat.le_refl _) _)
  have HB := Lib.hid hB
  clear hB
  have h0 := ta_q q
  go_enter Tryd.func11, Tryd.ntmps11
  go_upto_region 1 with (fail)
  rw [← HB.out]
  generalize w.alloc (.cells #[.int .i64 0, .int .i64 0, .int .i64 0, .int .i64 0, .int .i64 0, .int .i64 0, .int .i64 0, .int .i64 0, .int .i64 0, .int .i64 0, .int .i64 0, .int .i64 0, .int .i64 0, .int .i64 0, .int .i64 0, .int .i64 0, .int .i64 0, .int .i64 0, .int .i64 0, .int .i64 0, .int .i64 0, .int .i64 0, .int .i64 0] 31) = w0 at *
  have BW : Below w0.heap.size w0 (w0.alloc (.cells #[.int .i64 q.id, .int .i64 q.frm, .int .i64 q.tto, .int .i64 q.lev, .int .i64 q.dl, .int .i64 q.bud] 54)) := (Below.refl _ _).alloc (Nat.le_refl _) _
  have HBW := Lib.hid BW
  clear BW
  have O1 := Lib.hid (show IsObj (w0.alloc (.cells #[.int .i64 q.id, .int .i64 q.frm, .int .i64 q.tto, .int .i64 q.lev, .int .i64 q.dl, .int .i64 q.bud] 54)) B 31 (fmCells fm0) from (IsObj.alloc O0.out _))
  have RT := Lib.hid (show (w0.alloc (.cells #[.int .i64 q.id, .int .i64 q.frm, .int .i64 q.tto, .int .i64 q.lev, .int .i64 q.dl, .int .i64 q.bud] 54)).there B 0 (fmCells ⟨1, q, a0, p0⟩).toArray.size from IsObj.there O1.out 0 23 (by decide))
  have OF := Lib.hid (show IsObj ((w0.alloc (.cells #[.int .i64 q.id, .int .i64 q.frm, .int .i64 q.tto, .int .i64 q.lev, .int .i64 q.dl, .int .i64 q.bud] 54)).setCells B 0 (fmCells ⟨1, q, a0, p0⟩).toArray.toList) B 31 (fmCells ⟨1, q, a0, p0⟩) from IsObj.setAll O1.out (by rfl))
  have BF := Lib.hid (show Only B (w0.alloc (.cells #[.int .i64 q.id, .int .i64 q.frm, .int .i64 q.tto, .int .i64 q.lev, .int .i64 q.dl, .int .i64 q.bud] 54)) ((w0.alloc (.cells #[.int .i64 q.id, .int .i64 q.frm, .int .i64 q.tto, .int .i64 q.lev, .int .i64 q.dl, .int .i64 q.bud] 54)).setCells B 0 (fmCells ⟨1, q, a0, p0⟩).toArray.toList) from Only.setCells (b := B) (fmCells ⟨1, q, a0, p0⟩) 0 (Only.refl B (w0.alloc (.cells #[.int .i64 q.id, .int .i64 q.frm, .int .i64 q.tto, .int .i64 q.lev, .int .i64 q.dl, .int .i64 q.bud] 54))))
  have HL := Lib.hid O0.out.lt
  clear O1
  go_wp2_with (refine wpList_store_mid (by rfl) 31 _ _ (by rfl) B 0 (fmCells ⟨1, q, a0, p0⟩).toArray (by rfl) (by rfl) (by exact RT.out) (by kernel_rfl) (by kernel_rfl) ?_; generalize (w0.alloc (.cells #[.int .i64 q.id, .int .i64 q.frm, .int .i64 q.tto, .int .i64 q.lev, .int .i64 q.dl, .int .i64 q.bud] 54)).setCells B 0 (fmCells ⟨1, q, a0, p0⟩).toArray.toList = wf at *)
  have RL := run_loadVar_mid (P := Tryd.prog) wf B 0 31 (fmCells ⟨1, q, a0, p0⟩) _ (IsObj.range OF.out) Tryd.underlying31 rfl (by kernel_rfl)
  refine bodyPost_ret (v := fmV ⟨1, q, a0, p0⟩) ?_ rfl ?_
  · exact results_cell (by rfl) (by rfl) RL
  · exact ⟨rfl, B0.out.trans ((HBW.out.mono B0.out.size).trans (BF.out.below (by rw [HB.out]; exact Nat.le_refl _) (Nat.le_trans B0.out.size HBW.out.size)))⟩
set_option maxRecDepth 100000 in
set_option maxHeartbeats 4000000 in
theorem whole_a (q : Rp) (w : World) : Calls Tryd.prog 11 #[.iface 57 (rpV q)] w fun e w' => e = .returned (fmV ⟨2, q0, q, p0⟩) ∧ Below w.heap.size w w' := by
  obtain ⟨B, hB⟩ : ∃ B, B = w.heap.size := ⟨_, rfl⟩
  have O0 := Lib.hid (show IsObj (w.alloc (.cells #[.int .i64 0, .int .i64 0, .int .i64 0, .int .i64 0, .int .i64 0, .int .i64 0, .int .i64 0, .int .i64 0, .int .i64 0, .int .i64 0, .int .i64 0, .int .i64 0, .int .i64 0, .int .i64 0, .int .i64 0, .int .i64 0, .int .i64 0, .int .i64 0, .int .i64 0, .int .i64 0, .int .i64 0, .int .i64 0, .int .i64 0] 31)) B 31 (fmCells fm0) by rw [hB]; exact IsObj.new w _ (fmCells fm0))
  have B0 := Lib.hid (show Below w.heap.size w (w.alloc (.cells #[.int .i64 0, .int .i64 0, .int .i64 0, .int .i64 0, .int .i64 0, .int .i64 0, .int .i64 0, .int .i64 0, .int .i64 0, .int .i64 0, .int .i64 0, .int .i64 0, .int .i64 0, .int .i64 0, .int .i64 0, .int .i64 0, .int .i64 0, .int .i64 0, .int .i64 0, .int .i64 0, .int .i64 0, .int .i64 0, .int .i64 0] 31)) from (Below.refl _ _).alloc (Nat.le_refl _) _)
  have HB := Lib.hid hB
  clear hB
  have h0 := ta_aq q
  have h1 := ta_a q
  go_enter Tryd.func11, Tryd.ntmps11
  go_upto_region 1 with (fail)
  rw [← HB.out]
  generalize w.alloc (.cells #[.int .i64 0, .int .i64 0, .int .i64 0, .int .i64 0, .int .i64 0, .int .i64 0, .int .i64 0, .int .i64 0, .int .i64 0, .int .i64 0, .int .i64 0, .int .i64 0, .int .i64 0, .int .i64 0, .int .i64 0, .int .i64 0, .int .i64 0, .int .i64 0, .int .i64 0, .int .i64 0, .int .i64 0, .int .i64 0, .int .i64 0] 31) = w0 at *
  have BW : Below w0.heap.size w0 ((w0.alloc (.cells #[.int .i64 0, .int .i64 0, .int .i64 0, .int .i64 0, .int .i64 0, .int .i64 0] 54)).alloc (.cells #[.int .i64 q.id, .int .i64 q.frm, .int .i64 q.tto, .int .i64 q.cod, .int .i64 q.thr, .int .i64 q.epo, .int .i64 q.tie] 57)) := ((Below.refl _ _).alloc (Nat.le_refl _) _).alloc (by simp) _
  have HBW := Lib.hid BW
  clear BW
  have O1 := Lib.hid (show IsObj ((w0.alloc (.cells #[.int .i64 0, .int .i64 0, .int .i64 0, .int .i64 0, .int .i64 0, .int .i64 0] 54)).alloc (.cells #[.int .i64 q.id, .int .i64 q.frm, .int .i64 q.tto, .int .i64 q.cod, .int .i64 q.thr, .int .i64 q.epo, .int .i64 q.tie] 57)) B 31 (fmCells fm0) from (IsObj.alloc (IsObj.alloc O0.out _) _))
  have RT := Lib.hid (show ((w0.alloc (.cells #[.int .i64 0, .int .i64 0, .int .i64 0, .int .i64 0, .int .i64 0, .int .i64 0] 54)).alloc (.cells #[.int .i64 q.id, .int .i64 q.frm, .int .i64 q.tto, .int .i64 q.cod, .int .i64 q.thr, .int .i64 q.epo, .int .i64 q.tie] 57)).there B 0 (fmCells ⟨2, q0, q, p0⟩).toArray.size from IsObj.there O1.out 0 23 (by decide))
  have OF := Lib.hid (show IsObj (((w0.alloc (.cells #[.int .i64 0, .int .i64 0, .int .i64 0, .int .i64 0, .int .i64 0, .int .i64 0] 54)).alloc (.cells #[.int .i64 q.id, .int .i64 q.frm, .int .i64 q.tto, .int .i64 q.cod, .int .i64 q.thr, .int .i64 q.epo, .int .i64 q.tie] 57)).setCells B 0 (fmCells ⟨2, q0, q, p0⟩).toArray.toList) B 31 (fmCells ⟨2, q0, q, p0⟩) from IsObj.setAll O1.out (by rfl))
  have BF := Lib.hid (show Only B ((w0.alloc (.cells #[.int .i64 0, .int .i64 0, .int .i64 0, .int .i64 0, .int .i64 0, .int .i64 0] 54)).alloc (.cells #[.int .i64 q.id, .int .i64 q.frm, .int .i64 q.tto, .int .i64 q.cod, .int .i64 q.thr, .int .i64 q.epo, .int .i64 q.tie] 57)) (((w0.alloc (.cells #[.int .i64 0, .int .i64 0, .int .i64 0, .int .i64 0, .int .i64 0, .int .i64 0] 54)).alloc (.cells #[.int .i64 q.id, .int .i64 q.frm, .int .i64 q.tto, .int .i64 q.cod, .int .i64 q.thr, .int .i64 q.epo, .int .i64 q.tie] 57)).setCells B 0 (fmCells ⟨2, q0, q, p0⟩).toArray.toList) from Only.setCells (b := B) (fmCells ⟨2, q0, q, p0⟩) 0 (Only.refl B ((w0.alloc (.cells #[.int .i64 0, .int .i64 0, .int .i64 0, .int .i64 0, .int .i64 0, .int .i64 0] 54)).alloc (.cells #[.int .i64 q.id, .int .i64 q.frm, .int .i64 q.tto, .int .i64 q.cod, .int .i64 q.thr, .int .i64 q.epo, .int .i64 q.tie] 57))))
  have HL := Lib.hid O0.out.lt
  clear O1
  go_wp2_with (refine wpList_store_mid (by rfl) 31 _ _ (by rfl) B 0 (fmCells ⟨2, q0, q, p0⟩).toArray (by rfl) (by rfl) (by exact RT.out) (by kernel_rfl) (by kernel_rfl) ?_; generalize ((w0.alloc (.cells #[.int .i64 0, .int .i64 0, .int .i64 0, .int .i64 0, .int .i64 0, .int .i64 0] 54)).alloc (.cells #[.int .i64 q.id, .int .i64 q.frm, .int .i64 q.tto, .int .i64 q.cod, .int .i64 q.thr, .int .i64 q.epo, .int .i64 q.tie] 57)).setCells B 0 (fmCells ⟨2, q0, q, p0⟩).toArray.toList = wf at *)
  have RL := run_loadVar_mid (P := Tryd.prog) wf B 0 31 (fmCells ⟨2, q0, q, p0⟩) _ (IsObj.range OF.out) Tryd.underlying31 rfl (by kernel_rfl)
  refine bodyPost_ret (v := fmV ⟨2, q0, q, p0⟩) ?_ rfl ?_
  · exact results_cell (by rfl) (by rfl) RL
  · exact ⟨rfl, B0.out.trans ((HBW.out.mono B0.out.size).trans (BF.out.below (by rw [HB.out]; exact Nat.le_refl _) (Nat.le_trans B0.out.size HBW.out.size)))⟩
set_option maxRecDepth 100000 in
set_option maxHeartbeats 4000000 in
theorem whole_p (q : Ps) (w : World) : Calls Tryd.prog 11 #[.iface 61 (psV q)] w fun e w' => e = .returned (fmV ⟨3, q0, a0, q⟩) ∧ Below w.heap.size w w' := by
  obtain ⟨B, hB⟩ : ∃ B, B = w.heap.size := ⟨_, rfl⟩
  have O0 := Lib.hid (show IsObj (w.alloc (.cells #[.int .i64 0, .int .i64 0, .int .i64 0, .int .i64 0, .int .i64 0, .int .i64 0, .int .i64 0, .int .i64 0, .int .i64 0, .int .i64 0, .int .i64 0, .int .i64 0, .int .i64 0, .int .i64 0, .int .i64 0, .int .i64 0, .int .i64 0, .int .i64 0, .int .i64 0, .int .i64 0, .int .i64 0, .int .i64 0, .int .i64 0] 31)) B 31 (fmCells fm0) by rw [hB]; exact IsObj.new w _ (fmCells fm0))
  have B0 := Lib.hid (show Below w.heap.size w (w.alloc (.cells #[.int .i64 0, .int .i64 0, .int .i64 0, .int .i64 0, .int .i64 0, .int .i64 0, .int .i64 0, .int .i64 0, .int .i64 0, .int .i64 0, .int .i64 0, .int .i64 0, .int .i64 0, .int .i64 0, .int .i64 0, .int .i64 0, .int .i64 0, .int .i64 0, .int .i64 0, .int .i64 0, .int .i64 0, .int .i64 0, .int .i64 0] 31)) from (Below.refl _ _).alloc (Nat.le_refl _) _)
  have HB := Lib.hid hB
  clear hB
  have h0 := ta_pq q
  have h1 := ta_pa q
  have h2 := ta_p q
  have hfd : ∀ w, (Instr.field 61 (psV q) 0).run Tryd.prog w = .ok (psV q) w := fun _ => by kernel_rfl
  go_enter Tryd.func11, Tryd.ntmps11
  go_upto_region 1 with (fail)
  rw [← HB.out]
  generalize w.alloc (.cells #[.int .i64 0, .int .i64 0, .int .i64 0, .int .i64 0, .int .i64 0, .int .i64 0, .int .i64 0, .int .i64 0, .int .i64 0, .int .i64 0, .int .i64 0, .int .i64 0, .int .i64 0, .int .i64 0, .int .i64 0, .int .i64 0, .int .i64 0, .int .i64 0, .int .i64 0, .int .i64 0, .int .i64 0, .int .i64 0, .int .i64 0] 31) = w0 at *
  have BW : Below w0.heap.size w0 ((w0.alloc (.cells #[.int .i64 0, .int .i64 0, .int .i64 0, .int .i64 0, .int .i64 0, .int .i64 0] 54)).alloc (.cells #[.int .i64 0, .int .i64 0, .int .i64 0, .int .i64 0, .int .i64 0, .int .i64 0, .int .i64 0] 57)) := ((Below.refl _ _).alloc (Nat.le_refl _) _).alloc (by simp) _
  have HBW := Lib.hid BW
  clear BW
  have O1 := Lib.hid (show IsObj ((w0.alloc (.cells #[.int .i64 0, .int .i64 0, .int .i64 0, .int .i64 0, .int .i64 0, .int .i64 0] 54)).alloc (.cells #[.int .i64 0, .int .i64 0, .int .i64 0, .int .i64 0, .int .i64 0, .int .i64 0, .int .i64 0] 57)) B 31 (fmCells fm0) from (IsObj.alloc (IsObj.alloc O0.out _) _))
  have RT := Lib.hid (show ((w0.alloc (.cells #[.int .i64 0, .int .i64 0, .int .i64 0, .int .i64 0, .int .i64 0, .int .i64 0] 54)).alloc (.cells #[.int .i64 0, .int .i64 0, .int .i64 0, .int .i64 0, .int .i64 0, .int .i64 0, .int .i64 0] 57)).there B 0 (fmCells ⟨3, q0, a0, q⟩).toArray.size from IsObj.there O1.out 0 23 (by decide))
  have OF := Lib.hid (show IsObj (((w0.alloc (.cells #[.int .i64 0, .int .i64 0, .int .i64 0, .int .i64 0, .int .i64 0, .int .i64 0] 54)).alloc (.cells #[.int .i64 0, .int .i64 0, .int .i64 0, .int .i64 0, .int .i64 0, .int .i64 0, .int .i64 0] 57)).setCells B 0 (fmCells ⟨3, q0, a0, q⟩).toArray.toList) B 31 (fmCells ⟨3, q0, a0, q⟩) from IsObj.setAll O1.out (by rfl))
  have BF := Lib.hid (show Only B ((w0.alloc (.cells #[.int .i64 0, .int .i64 0, .int .i64 0, .int .i64 0, .int .i64 0, .int .i64 0] 54)).alloc (.cells #[.int .i64 0, .int .i64 0, .int .i64 0, .int .i64 0, .int .i64 0, .int .i64 0, .int .i64 0] 57)) (((w0.alloc (.cells #[.int .i64 0, .int .i64 0, .int .i64 0, .int .i64 0, .int .i64 0, .int .i64 0] 54)).alloc (.cells #[.int .i64 0, .int .i64 0, .int .i64 0, .int .i64 0, .int .i64 0, .int .i64 0, .int .i64 0] 57)).setCells B 0 (fmCells ⟨3, q0, a0, q⟩).toArray.toList) from Only.setCells (b := B) (fmCells ⟨3, q0, a0, q⟩) 0 (Only.refl B ((w0.alloc (.cells #[.int .i64 0, .int .i64 0, .int .i64 0, .int .i64 0, .int .i64 0, .int .i64 0] 54)).alloc (.cells #[.int .i64 0, .int .i64 0, .int .i64 0, .int .i64 0, .int .i64 0, .int .i64 0, .int .i64 0] 57))))
  have HL := Lib.hid O0.out.lt
  clear O1
  go_wp2_with (refine wpList_store_mid (by rfl) 31 _ _ (by rfl) B 0 (fmCells ⟨3, q0, a0, q⟩).toArray (by rfl) (by rfl) (by exact RT.out) (by kernel_rfl) (by kernel_rfl) ?_; generalize ((w0.alloc (.cells #[.int .i64 0, .int .i64 0, .int .i64 0, .int .i64 0, .int .i64 0, .int .i64 0] 54)).alloc (.cells #[.int .i64 0, .int .i64 0, .int .i64 0, .int .i64 0, .int .i64 0, .int .i64 0, .int .i64 0] 57)).setCells B 0 (fmCells ⟨3, q0, a0, q⟩).toArray.toList = wf at *)
  have RL := run_loadVar_mid (P := Tryd.prog) wf B 0 31 (fmCells ⟨3, q0, a0, q⟩) _ (IsObj.range OF.out) Tryd.underlying31 rfl (by kernel_rfl)
  refine bodyPost_ret (v := fmV ⟨3, q0, a0, q⟩) ?_ rfl ?_
  · exact results_cell (by rfl) (by rfl) RL
  · exact ⟨rfl, B0.out.trans ((HBW.out.mono B0.out.size).trans (BF.out.below (by rw [HB.out]; exact Nat.le_refl _) (Nat.le_trans B0.out.size HBW.out.size)))⟩
theorem body_q (q : Rq) (w : World) : Calls Tryd.prog 67 #[rqV q] w fun e w' => e = .returned (.tuple #[.string (putS q), .int .i64 (errOf q)]) ∧ Below w.heap.size w w' := by
  have hb : Below w.heap.size w (w.alloc (.cells (rqCells q).toArray 54)) := (Below.refl _ _).alloc (Nat.le_refl _) _
  go_enter Tryd.func67, Tryd.ntmps67
  go_wp2_with (go_at_call 70; refine (qput_any q _).mono ?_; rintro e w1 ⟨rfl, hb1⟩)
  go_returns
  exact ⟨rfl, hb.trans (hb1.mono hb.size)⟩
theorem body_a (q : Rp) (w : World) (hN : NmAt w) : Calls Tryd.prog 97 #[rpV q] w fun e w' => e = .returned (.tuple #[.string (putR q), .int .i64 (errR q)]) ∧ Below w.heap.size w w' := by
  have hb : Below w.heap.size w (w.alloc (.cells (rpCells q).toArray 57)) := (Below.refl _ _).alloc (Nat.le_refl _) _
  have KP := ypput_any q _ (hN.same hb)
  go_enter Tryd.func97, Tryd.ntmps97
  go_wp2_with (go_at_call 100; refine KP.mono ?_; rintro e w1 ⟨rfl, hb1⟩)
  go_returns
  exact ⟨rfl, hb.trans (hb1.mono hb.size)⟩
theorem body_p (q : Ps) (w : World) (hW : WdAt w) : Calls Tryd.prog 101 #[psV q] w fun e w' => e = .returned (.tuple #[.string (putP q), .int .i64 (errP q)]) ∧ Below w.heap.size w w' := by
  have hb : Below w.heap.size w (w.alloc (.cells (psCells q).toArray 61)) := (Below.refl _ _).alloc (Nat.le_refl _) _
  have KP := pput_any q _ (hW.same hb)
  go_enter Tryd.func101, Tryd.ntmps101
  go_wp2_with (go_at_call 104; refine KP.mono ?_; rintro e w1 ⟨rfl, hb1⟩)
  go_returns
  exact ⟨rfl, hb.trans (hb1.mono hb.size)⟩
end Go.Proofs.YtobcjbpgeohbgaaDoor
