/-
  Layer 27 (frame): the frame of a part; the body of a part.
-/
import Derived.Test.YtobcjbpgeohbgaaGreatDoorFr1
import Derived.Test.YtobcjbpgeohbgaaGreatDoorFrK
namespace Go.Proofs.YtobcjbpgeohbgaaGreatDoor
open Go.RowKit
set_option linter.unusedVariables false
set_option linter.unusedSimpArgs false

set_option maxRecDepth 100000 in
set_option maxHeartbeats 4000000 in
theorem whole_q (q : Rq) (w : World) : Calls Tryz.prog 21 #[.iface 68 (rqV q)] w fun e w' => e = .returned (fmV ⟨1, q, a0, p0⟩) ∧ Below w.heap.size w w' := by
  obtain ⟨B, hB⟩ : ∃ B, B = w.heap.size := ⟨_, rfl⟩
  have O0 := Lib.hid (show IsObj (w.alloc (.cells #[.int .i64 0, .int .i64 0, .int .i64 0, .int .i64 0, .int .i64 0, .int .i64 0, .int .i64 0, .int .i64 0, .int .i64 0, .int .i64 0, .int .i64 0, .int .i64 0, .int .i64 0, .int .i64 0, .int .i64 0, .int .i64 0, .int .i64 0, .int .i64 0, .int .i64 0, .int .i64 0, .int .i64 0, .int .i64 0, .int .i64 0] 32)) B 32 (fmCells fm0) by rw [hB]; exact IsObj.new w _ (fmCells fm0))
  have B0 := Lib.hid (show Below w.heap.size w (w.alloc (.cells #[.int .i64 0, .int .i64 0, .int .i64 0, .int .i64 0, .int .i64 0, .int .i64 0, .int .i64 0, .int .i64 0, .int .i64 0, .int .i64 0, .int .i64 0, .int .i64 0, .int .i64 0, .int .i64 0, .int .i64 0, .int .i64 0, .int .i64 0, .int .i64 0, .int .i64 0, .int .i64 0, .int .i64 0, .int .i64 0, .int .i64 0] 32)) from (Below.refl _ _).alloc (Nat.le_refl _) _)
  have HB := Lib.hid hB
  clear hB
  have h0 := ta_q q
  go_enter Tryz.func21, Tryz.ntmps21
  go_upto_region 1 with (fail)
  rw [← HB.out]
  generalize w.alloc (.cells #[.int .i64 0, .int .i64 0, .int .i64 0, .int .i64 0, .int .i64 0, .int .i64 0, .int .i64 0, .int .i64 0, .int .i64 0, .int .i64 0, .int .i64 0, .int .i64 0, .int .i64 0, .int .i64 0, .int .i64 0, .int .i64 0, .int .i64 0, .int .i64 0, .int .i64 0, .int .i64 0, .int .i64 0, .int .i64 0, .int .i64 0] 32) = w0 at *
  have BW : Below w0.heap.size w0 (w0.alloc (.cells #[.int .i64 q.id, .int .i64 q.frm, .int .i64 q.tto, .int .i64 q.lev, .int .i64 q.dl, .int .i64 q.bud] 68)) := (Below.refl _ _).alloc (Nat.le_refl _) _
  have HBW := Lib.hid BW
  clear BW
  have O1 := Lib.hid (show IsObj (w0.alloc (.cells #[.int .i64 q.id, .int .i64 q.frm, .int .i64 q.tto, .int .i64 q.lev, .int .i64 q.dl, .int .i64 q.bud] 68)) B 32 (fmCells fm0) from (IsObj.alloc O0.out _))
  have RT := Lib.hid (show (w0.alloc (.cells #[.int .i64 q.id, .int .i64 q.frm, .int .i64 q.tto, .int .i64 q.lev, .int .i64 q.dl, .int .i64 q.bud] 68)).there B 0 (fmCells ⟨1, q, a0, p0⟩).toArray.size from IsObj.there O1.out 0 23 (by decide))
  have OF := Lib.hid (show IsObj ((w0.alloc (.cells #[.int .i64 q.id, .int .i64 q.frm, .int .i64 q.tto, .int .i64 q.lev, .int .i64 q.dl, .int .i64 q.bud] 68)).setCells B 0 (fmCells ⟨1, q, a0, p0⟩).toArray.toList) B 32 (fmCells ⟨1, q, a0, p0⟩) from IsObj.setAll O1.out (by rfl))
  have BF := Lib.hid (show Only B (w0.alloc (.cells #[.int .i64 q.id, .int .i64 q.frm, .int .i64 q.tto, .int .i64 q.lev, .int .i64 q.dl, .int .i64 q.bud] 68)) ((w0.alloc (.cells #[.int .i64 q.id, .int .i64 q.frm, .int .i64 q.tto, .int .i64 q.lev, .int .i64 q.dl, .int .i64 q.bud] 68)).setCells B 0 (fmCells ⟨1, q, a0, p0⟩).toArray.toList) from Only.setCells (b := B) (fmCells ⟨1, q, a0, p0⟩) 0 (Only.refl B (w0.alloc (.cells #[.int .i64 q.id, .int .i64 q.frm, .int .i64 q.tto, .int .i64 q.lev, .int .i64 q.dl, .int .i64 q.bud] 68))))
  have HL := Lib.hid O0.out.lt
  clear O1
  go_wp2_with (refine wpList_store_mid (by rfl) 32 _ _ (by rfl) B 0 (fmCells ⟨1, q, a0, p0⟩).toArray (by rfl) (by rfl) (by exact RT.out) (by kernel_rfl) (by kernel_rfl) ?_; generalize (w0.alloc (.cells #[.int .i64 q.id, .int .i64 q.frm, .int .i64 q.tto, .int .i64 q.lev, .int .i64 q.dl, .int .i64 q.bud] 68)).setCells B 0 (fmCells ⟨1, q, a0, p0⟩).toArray.toList = wf at *)
  have RL := run_loadVar_mid (P := Tryz.prog) wf B 0 32 (fmCells ⟨1, q, a0, p0⟩) _ (IsObj.range OF.out) Tryz.underlying32 rfl (by kernel_rfl)
  refine bodyPost_ret (v := fmV ⟨1, q, a0, p0⟩) ?_ rfl ?_
  · exact results_cell (by rfl) (by rfl) RL
  · exact ⟨rfl, B0.out.trans ((HBW.out.mono B0.out.size).trans (BF.out.below (by rw [HB.out]; exact Nat.le_refl _) (Nat.le_trans B0.out.size HBW.out.size)))⟩
set_option maxRecDepth 100000 in
set_option maxHeartbeats 4000000 in
theorem whole_a (q : Rp) (w : World) : Calls Tryz.prog 21 #[.iface 71 (rpV q)] w fun e w' => e = .returned (fmV ⟨2, q0, q, p0⟩) ∧ Below w.heap.size w w' := by
  obtain ⟨B, hB⟩ : ∃ B, B = w.heap.size := ⟨_, rfl⟩
  have O0 := Lib.hid (show IsObj (w.alloc (.cells #[.int .i64 0, .int .i64 0, .int .i64 0, .int .i64 0, .int .i64 0, .int .i64 0, .int .i64 0, .int .i64 0, .int .i64 0, .int .i64 0, .int .i64 0, .int .i64 0, .int .i64 0, .int .i64 0, .int .i64 0, .int .i64 0, .int .i64 0, .int .i64 0, .int .i64 0, .int .i64 0, .int .i64 0, .int .i64 0, .int .i64 0] 32)) B 32 (fmCells fm0) by rw [hB]; exact IsObj.new w _ (fmCells fm0))
  have B0 := Lib.hid (show Below w.heap.size w (w.alloc (.cells #[.int .i64 0, .int .i64 0, .int .i64 0, .int .i64 0, .int .i64 0, .int .i64 0, .int .i64 0, .int .i64 0, .int .i64 0, .int .i64 0, .int .i64 0, .int .i64 0, .int .i64 0, .int .i64 0, .int .i64 0, .int .i64 0, .int .i64 0, .int .i64 0, .int .i64 0, .int .i64 0, .int .i64 0, .int .i64 0, .int .i64 0] 32)) from (Below.refl _ _).alloc (Nat.le_refl _) _)
  have HB := Lib.hid hB
  clear hB
  have h0 := ta_aq q
  have h1 := ta_a q
  go_enter Tryz.func21, Tryz.ntmps21
  go_upto_region 1 with (fail)
  rw [← HB.out]
  generalize w.alloc (.cells #[.int .i64 0, .int .i64 0, .int .i64 0, .int .i64 0, .int .i64 0, .int .i64 0, .int .i64 0, .int .i64 0, .int .i64 0, .int .i64 0, .int .i64 0, .int .i64 0, .int .i64 0, .int .i64 0, .int .i64 0, .int .i64 0, .int .i64 0, .int .i64 0, .int .i64 0, .int .i64 0, .int .i64 0, .int .i64 0, .int .i64 0] 32) = w0 at *
  have BW : Below w0.heap.size w0 ((w0.alloc (.cells #[.int .i64 0, .int .i64 0, .int .i64 0, .int .i64 0, .int .i64 0, .int .i64 0] 68)).alloc (.cells #[.int .i64 q.id, .int .i64 q.frm, .int .i64 q.tto, .int .i64 q.cod, .int .i64 q.thr, .int .i64 q.epo, .int .i64 q.tie] 71)) := ((Below.refl _ _).alloc (Nat.le_refl _) _).alloc (by simp) _
  have HBW := Lib.hid BW
  clear BW
  have O1 := Lib.hid (show IsObj ((w0.alloc (.cells #[.int .i64 0, .int .i64 0, .int .i64 0, .int .i64 0, .int .i64 0, .int .i64 0] 68)).alloc (.cells #[.int .i64 q.id, .int .i64 q.frm, .int .i64 q.tto, .int .i64 q.cod, .int .i64 q.thr, .int .i64 q.epo, .int .i64 q.tie] 71)) B 32 (fmCells fm0) from (IsObj.alloc (IsObj.alloc O0.out _) _))
  have RT := Lib.hid (show ((w0.alloc (.cells #[.int .i64 0, .int .i64 0, .int .i64 0, .int .i64 0, .int .i64 0, .int .i64 0] 68)).alloc (.cells #[.int .i64 q.id, .int .i64 q.frm, .int .i64 q.tto, .int .i64 q.cod, .int .i64 q.thr, .int .i64 q.epo, .int .i64 q.tie] 71)).there B 0 (fmCells ⟨2, q0, q, p0⟩).toArray.size from IsObj.there O1.out 0 23 (by decide))
  have OF := Lib.hid (show IsObj (((w0.alloc (.cells #[.int .i64 0, .int .i64 0, .int .i64 0, .int .i64 0, .int .i64 0, .int .i64 0] 68)).alloc (.cells #[.int .i64 q.id, .int .i64 q.frm, .int .i64 q.tto, .int .i64 q.cod, .int .i64 q.thr, .int .i64 q.epo, .int .i64 q.tie] 71)).setCells B 0 (fmCells ⟨2, q0, q, p0⟩).toArray.toList) B 32 (fmCells ⟨2, q0, q, p0⟩) from IsObj.setAll O1.out (by rfl))
  have BF := Lib.hid (show Only B ((w0.alloc (.cells #[.int .i64 0, .int .i64 0, .int .i64 0, .int .i64 0, .int .i64 0, .int .i64 0] 68)).alloc (.cells #[.int .i64 q.id, .int .i64 q.frm, .int .i64 q.tto, .int .i64 q.cod, .int .i64 q.thr, .int .i64 q.epo, .int .i64 q.tie] 71)) (((w0.alloc (.cells #[.int .i64 0, .int .i64 0, .int .i64 0, .int .i64 0, .int .i64 0, .int .i64 0] 68)).alloc (.cells #[.int .i64 q.id, .int .i64 q.frm, .int .i64 q.tto, .int .i64 q.cod, .int .i64 q.thr, .int .i64 q.epo, .int .i64 q.tie] 71)).setCells B 0 (fmCells ⟨2, q0, q, p0⟩).toArray.toList) from Only.setCells (b := B) (fmCells ⟨2, q0, q, p0⟩) 0 (Only.refl B ((w0.alloc (.cells #[.int .i64 0, .int .i64 0, .int .i64 0, .int .i64 0, .int .i64 0, .int .i64 0] 68)).alloc (.cells #[.int .i64 q.id, .int .i64 q.frm, .int .i64 q.tto, .int .i64 q.cod, .int .i64 q.thr, .int .i64 q.epo, .int .i64 q.tie] 71))))
  have HL := Lib.hid O0.out.lt
  clear O1
  go_wp2_with (refine wpList_store_mid (by rfl) 32 _ _ (by rfl) B 0 (fmCells ⟨2, q0, q, p0⟩).toArray (by rfl) (by rfl) (by exact RT.out) (by kernel_rfl) (by kernel_rfl) ?_; generalize ((w0.alloc (.cells #[.int .i64 0, .int .i64 0, .int .i64 0, .int .i64 0, .int .i64 0, .int .i64 0] 68)).alloc (.cells #[.int .i64 q.id, .int .i64 q.frm, .int .i64 q.tto, .int .i64 q.cod, .int .i64 q.thr, .int .i64 q.epo, .int .i64 q.tie] 71)).setCells B 0 (fmCells ⟨2, q0, q, p0⟩).toArray.toList = wf at *)
  have RL := run_loadVar_mid (P := Tryz.prog) wf B 0 32 (fmCells ⟨2, q0, q, p0⟩) _ (IsObj.range OF.out) Tryz.underlying32 rfl (by kernel_rfl)
  refine bodyPost_ret (v := fmV ⟨2, q0, q, p0⟩) ?_ rfl ?_
  · exact results_cell (by rfl) (by rfl) RL
  · exact ⟨rfl, B0.out.trans ((HBW.out.mono B0.out.size).trans (BF.out.below (by rw [HB.out]; exact Nat.le_refl _) (Nat.le_trans B0.out.size HBW.out.size)))⟩
set_option maxRecDepth 100000 in
set_option maxHeartbeats 4000000 in
theorem whole_p (q : Ps) (w : World) : Calls Tryz.prog 21 #[.iface 74 (psV q)] w fun e w' => e = .returned (fmV ⟨3, q0, a0, q⟩) ∧ Below w.heap.size w w' := by
  obtain ⟨B, hB⟩ : ∃ B, B = w.heap.size := ⟨_, rfl⟩
  have O0 := Lib.hid (show IsObj (w.alloc (.cells #[.int .i64 0, .int .i64 0, .int .i64 0, .int .i64 0, .int .i64 0, .int .i64 0, .int .i64 0, .int .i64 0, .int .i64 0, .int .i64 0, .int .i64 0, .int .i64 0, .int .i64 0, .int .i64 0, .int .i64 0, .int .i64 0, .int .i64 0, .int .i64 0, .int .i64 0, .int .i64 0, .int .i64 0, .int .i64 0, .int .i64 0] 32)) B 32 (fmCells fm0) by rw [hB]; exact IsObj.new w _ (fmCells fm0))
  have B0 := Lib.hid (show Below w.heap.size w (w.alloc (.cells #[.int .i64 0, .int .i64 0, .int .i64 0, .int .i64 0, .int .i64 0, .int .i64 0, .int .i64 0, .int .i64 0, .int .i64 0, .int .i64 0, .int .i64 0, .int .i64 0, .int .i64 0, .int .i64 0, .int .i64 0, .int .i64 0, .int .i64 0, .int .i64 0, .int .i64 0, .int .i64 0, .int .i64 0, .int .i64 0, .int .i64 0] 32)) from (Below.refl _ _).alloc (Nat.le_refl _) _)
  have HB := Lib.hid hB
  clear hB
  have h0 := ta_pq q
  have h1 := ta_pa q
  have h2 := ta_p q
  have hfd : ∀ w, (Instr.field 74 (psV q) 0).run Tryz.prog w = .ok (psV q) w := fun _ => by kernel_rfl
  go_enter Tryz.func21, Tryz.ntmps21
  go_upto_region 1 with (fail)
  rw [← HB.out]
  generalize w.alloc (.cells #[.int .i64 0, .int .i64 0, .int .i64 0, .int .i64 0, .int .i64 0, .int .i64 0, .int .i64 0, .int .i64 0, .int .i64 0, .int .i64 0, .int .i64 0, .int .i64 0, .int .i64 0, .int .i64 0, .int .i64 0, .int .i64 0, .int .i64 0, .int .i64 0, .int .i64 0, .int .i64 0, .int .i64 0, .int .i64 0, .int .i64 0] 32) = w0 at *
  have BW : Below w0.heap.size w0 ((w0.alloc (.cells #[.int .i64 0, .int .i64 0, .int .i64 0, .int .i64 0, .int .i64 0, .int .i64 0] 68)).alloc (.cells #[.int .i64 0, .int .i64 0, .int .i64 0, .int .i64 0, .int .i64 0, .int .i64 0, .int .i64 0] 71)) := ((Below.refl _ _).alloc (Nat.le_refl _) _).alloc (by simp) _
  have HBW := Lib.hid BW
  clear BW
  have O1 := Lib.hid (show IsObj ((w0.alloc (.cells #[.int .i64 0, .int .i64 0, .int .i64 0, .int .i64 0, .int .i64 0, .int .i64 0] 68)).alloc (.cells #[.int .i64 0, .int .i64 0, .int .i64 0, .int .i64 0, .int .i64 0, .int .i64 0, .int .i64 0] 71)) B 32 (fmCells fm0) from (IsObj.alloc (IsObj.alloc O0.out _) _))
  have RT := Lib.hid (show ((w0.alloc (.cells #[.int .i64 0, .int .i64 0, .int .i64 0, .int .i64 0, .int .i64 0, .int .i64 0] 68)).alloc (.cells #[.int .i64 0, .int .i64 0, .int .i64 0, .int .i64 0, .int .i64 0, .int .i64 0, .int .i64 0] 71)).there B 0 (fmCells ⟨3, q0, a0, q⟩).toArray.size from IsObj.there O1.out 0 23 (by decide))
  have OF := Lib.hid (show IsObj (((w0.alloc (.cells #[.int .i64 0, .int .i64 0, .int .i64 0, .int .i64 0, .int .i64 0, .int .i64 0] 68)).alloc (.cells #[.int .i64 0, .int .i64 0, .int .i64 0, .int .i64 0, .int .i64 0, .int .i64 0, .int .i64 0] 71)).setCells B 0 (fmCells ⟨3, q0, a0, q⟩).toArray.toList) B 32 (fmCells ⟨3, q0, a0, q⟩) from IsObj.setAll O1.out (by rfl))
  have BF := Lib.hid (show Only B ((w0.alloc (.cells #[.int .i64 0, .int .i64 0, .int .i64 0, .int .i64 0, .int .i64 0, .int .i64 0] 68)).alloc (.cells #[.int .i64 0, .int .i64 0, .int .i64 0, .int .i64 0, .int .i64 0, .int .i64 0, .int .i64 0] 71)) (((w0.alloc (.cells #[.int .i64 0, .int .i64 0, .int .i64 0, .int .i64 0, .int .i64 0, .int .i64 0] 68)).alloc (.cells #[.int .i64 0, .int .i64 0, .int .i64 0, .int .i64 0, .int .i64 0, .int .i64 0, .int .i64 0] 71)).setCells B 0 (fmCells ⟨3, q0, a0, q⟩).toArray.toList) from Only.setCells (b := B) (fmCells ⟨3, q0, a0, q⟩) 0 (Only.refl B ((w0.alloc (.cells #[.int .i64 0, .int .i64 0, .int .i64 0, .int .i64 0, .int .i64 0, .int .i64 0] 68)).alloc (.cells #[.int .i64 0, .int .i64 0, .int .i64 0, .int .i64 0, .int .i64 0, .int .i64 0, .int .i64 0] 71))))
  have HL := Lib.hid O0.out.lt
  clear O1
  go_wp2_with (refine wpList_store_mid (by rfl) 32 _ _ (by rfl) B 0 (fmCells ⟨3, q0, a0, q⟩).toArray (by rfl) (by rfl) (by exact RT.out) (by kernel_rfl) (by kernel_rfl) ?_; generalize ((w0.alloc (.cells #[.int .i64 0, .int .i64 0, .int .i64 0, .int .i64 0, .int .i64 0, .int .i64 0] 68)).alloc (.cells #[.int .i64 0, .int .i64 0, .int .i64 0, .int .i64 0, .int .i64 0, .int .i64 0, .int .i64 0] 71)).setCells B 0 (fmCells ⟨3, q0, a0, q⟩).toArray.toList = wf at *)
  have RL := run_loadVar_mid (P := Tryz.prog) wf B 0 32 (fmCells ⟨3, q0, a0, q⟩) _ (IsObj.range OF.out) Tryz.underlying32 rfl (by kernel_rfl)
  refine bodyPost_ret (v := fmV ⟨3, q0, a0, q⟩) ?_ rfl ?_
  · exact results_cell (by rfl) (by rfl) RL
  · exact ⟨rfl, B0.out.trans ((HBW.out.mono B0.out.size).trans (BF.out.below (by rw [HB.out]; exact Nat.le_refl _) (Nat.le_trans B0.out.size HBW.out.size)))⟩
theorem body_q (q : Rq) (w : World) : Calls Tryz.prog 124 #[rqV q] w fun e w' => e = .returned (.tuple #[.string (putS q), .int .i64 (errOf q)]) ∧ Below w.heap.size w w' := by
  have hb : Below w.heap.size w (w.alloc (.cells (rqCells q).toArray 68)) := (Below.refl _ _).alloc (Nat.le_refl _) _
  go_enter Tryz.func124, Tryz.ntmps124
  go_wp2_with (go_at_call 127; refine (qput_any q _).mono ?_; rintro e w1 ⟨rfl, hb1⟩)
  go_returns
  exact ⟨rfl, hb.trans (hb1.mono hb.size)⟩
theorem body_a (q : Rp) (w : World) (hN : NmAt w) : Calls Tryz.prog 138 #[rpV q] w fun e w' => e = .returned (.tuple #[.string (putR q), .int .i64 (errR q)]) ∧ Below w.heap.size w w' := by
  have hb : Below w.heap.size w (w.alloc (.cells (rpCells q).toArray 71)) := (Below.refl _ _).alloc (Nat.le_refl _) _
  have KP := ypput_any q _ (hN.same hb)
  go_enter Tryz.func138, Tryz.ntmps138
  go_wp2_with (go_at_call 141; refine KP.mono ?_; rintro e w1 ⟨rfl, hb1⟩)
  go_returns
  exact ⟨rfl, hb.trans (hb1.mono hb.size)⟩
theorem body_p (q : Ps) (w : World) (hW : WdAt w) : Calls Tryz.prog 142 #[psV q] w fun e w' => e = .returned (.tuple #[.string (putP q), .int .i64 (errP q)]) ∧ Below w.heap.size w w' := by
  have hb : Below w.heap.size w (w.alloc (.cells (psCells q).toArray 74)) := (Below.refl _ _).alloc (Nat.le_refl _) _
  have KP := pput_any q _ (hW.same hb)
  go_enter Tryz.func142, Tryz.ntmps142
  go_wp2_with (go_at_call 145; refine KP.mono ?_; rintro e w1 ⟨rfl, hb1⟩)
  go_returns
  exact ⟨rfl, hb.trans (hb1.mono hb.size)⟩
end Go.Proofs.YtobcjbpgeohbgaaGreatDoor
