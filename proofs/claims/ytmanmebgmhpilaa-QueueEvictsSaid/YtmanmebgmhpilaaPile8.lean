/-
  Layer 12 (pile): the first one is taken; the one with an id is taken; a new pile.
-/
import Derived.Test.YtmanmebgmhpilaaPile7
namespace Go.Proofs.Ytmanmebgmhpilaa
open Go.RowKit Go.Maps
set_option linter.unusedVariables false
set_option linter.unusedSimpArgs false

set_option maxRecDepth 100000 in
theorem ppop_nil (w : World) : Calls Try.prog 13 #[.pointer none] w fun e w' => e = .returned (.tuple #[.agg (itCells it0).toArray, .bool false]) ∧ Below w.heap.size w w' := by
  obtain ⟨H, hH⟩ : ∃ H, H = w.heap.size := ⟨_, rfl⟩
  have HH := Lib.hid hH
  have B0 := Lib.hid (show Below w.heap.size w (w.alloc (.cells #[.int .i64 0, .int .i64 0, .int .i64 0, .int .i64 0, .int .i64 0, .int .i64 0, .int .i64 0] 31)) from (Below.refl _ w).alloc (Nat.le_refl _) _)
  have O0 := Lib.hid (show IsObj (w.alloc (.cells #[.int .i64 0, .int .i64 0, .int .i64 0, .int .i64 0, .int .i64 0, .int .i64 0, .int .i64 0] 31)) H 31 [.int .i64 0, .int .i64 0, .int .i64 0, .int .i64 0, .int .i64 0, .int .i64 0, .int .i64 0] by rw [hH]; exact IsObj.new w _ [.int .i64 0, .int .i64 0, .int .i64 0, .int .i64 0, .int .i64 0, .int .i64 0, .int .i64 0])
  clear hH
  go_enter Try.func13, Try.ntmps13
  go_upto_region 1 with (fail)
  rw [← HH.out]
  generalize w.alloc (.cells #[.int .i64 0, .int .i64 0, .int .i64 0, .int .i64 0, .int .i64 0, .int .i64 0, .int .i64 0] 31) = w0 at *
  have RT := Lib.hid (show w0.there H 0 (itCells it0).toArray.size from IsObj.there O0.out 0 7 (by simp))
  have OF := Lib.hid (show IsObj (w0.setCells H 0 (itCells it0).toArray.toList) H 31 (itCells it0) from IsObj.setAll O0.out rfl)
  have BF := Lib.hid (show Only H w0 (w0.setCells H 0 (itCells it0).toArray.toList) from Only.setCells (b := H) (itCells it0) 0 (Only.refl H w0))
  go_wp2_with (first | (go_at_call 16; (with_reducible refine (plen_nil _).mono ?_); rintro e w' ⟨rfl, rfl⟩) | (refine wpList_store_mid (by rfl) 31 _ _ (by rfl) H 0 (itCells it0).toArray (by rfl) (by rfl) (by exact RT.out) (by kernel_rfl) (it_one _) ?_; generalize w0.setCells H 0 (itCells it0).toArray.toList = wf at *))
  have RL := run_loadVar_mid (P := Try.prog) wf H 0 31 (itCells it0) _ (IsObj.range OF.out) Try.underlying31 rfl (by kernel_rfl)
  refine bodyPost_ret (v := .tuple #[.agg (itCells it0).toArray, .bool false]) ?_ rfl ?_
  · exact results_cell_tmp (by rfl) (by rfl) (by rfl) RL
  · exact ⟨rfl, B0.out.trans (BF.out.below (by have := HH.out; omega) B0.out.size)⟩
set_option maxRecDepth 100000 in
theorem ppeek_nil (w : World) : Calls Try.prog 44 #[.pointer none] w fun e w' => e = .returned (.tuple #[.agg (itCells it0).toArray, .bool false]) ∧ Below w.heap.size w w' := by
  obtain ⟨H, hH⟩ : ∃ H, H = w.heap.size := ⟨_, rfl⟩
  have HH := Lib.hid hH
  have B0 := Lib.hid (show Below w.heap.size w (w.alloc (.cells #[.int .i64 0, .int .i64 0, .int .i64 0, .int .i64 0, .int .i64 0, .int .i64 0, .int .i64 0] 31)) from (Below.refl _ w).alloc (Nat.le_refl _) _)
  have O0 := Lib.hid (show IsObj (w.alloc (.cells #[.int .i64 0, .int .i64 0, .int .i64 0, .int .i64 0, .int .i64 0, .int .i64 0, .int .i64 0] 31)) H 31 [.int .i64 0, .int .i64 0, .int .i64 0, .int .i64 0, .int .i64 0, .int .i64 0, .int .i64 0] by rw [hH]; exact IsObj.new w _ [.int .i64 0, .int .i64 0, .int .i64 0, .int .i64 0, .int .i64 0, .int .i64 0, .int .i64 0])
  clear hH
  go_enter Try.func44, Try.ntmps44
  go_upto_region 1 with (fail)
  rw [← HH.out]
  generalize w.alloc (.cells #[.int .i64 0, .int .i64 0, .int .i64 0, .int .i64 0, .int .i64 0, .int .i64 0, .int .i64 0] 31) = w0 at *
  have RT := Lib.hid (show w0.there H 0 (itCells it0).toArray.size from IsObj.there O0.out 0 7 (by simp))
  have OF := Lib.hid (show IsObj (w0.setCells H 0 (itCells it0).toArray.toList) H 31 (itCells it0) from IsObj.setAll O0.out rfl)
  have BF := Lib.hid (show Only H w0 (w0.setCells H 0 (itCells it0).toArray.toList) from Only.setCells (b := H) (itCells it0) 0 (Only.refl H w0))
  go_wp2_with (first | (go_at_call 16; (with_reducible refine (plen_nil _).mono ?_); rintro e w' ⟨rfl, rfl⟩) | (refine wpList_store_mid (by rfl) 31 _ _ (by rfl) H 0 (itCells it0).toArray (by rfl) (by rfl) (by exact RT.out) (by kernel_rfl) (it_one _) ?_; generalize w0.setCells H 0 (itCells it0).toArray.toList = wf at *))
  have RL := run_loadVar_mid (P := Try.prog) wf H 0 31 (itCells it0) _ (IsObj.range OF.out) Try.underlying31 rfl (by kernel_rfl)
  refine bodyPost_ret (v := .tuple #[.agg (itCells it0).toArray, .bool false]) ?_ rfl ?_
  · exact results_cell_tmp (by rfl) (by rfl) (by rfl) RL
  · exact ⟨rfl, B0.out.trans (BF.out.below (by have := HH.out; omega) B0.out.size)⟩
set_option maxRecDepth 100000 in
theorem ptake_nil (w : World) (id : Int) : Calls Try.prog 15 #[.pointer none, .int .i64 id] w fun e w' => e = .returned (.tuple #[.agg (itCells it0).toArray, .bool false]) ∧ Below w.heap.size w w' := by
  obtain ⟨H, hH⟩ : ∃ H, H = w.heap.size := ⟨_, rfl⟩
  have HH := Lib.hid hH
  have B0 := Lib.hid (show Below w.heap.size w (w.alloc (.cells #[.int .i64 0, .int .i64 0, .int .i64 0, .int .i64 0, .int .i64 0, .int .i64 0, .int .i64 0] 31)) from (Below.refl _ w).alloc (Nat.le_refl _) _)
  have O0 := Lib.hid (show IsObj (w.alloc (.cells #[.int .i64 0, .int .i64 0, .int .i64 0, .int .i64 0, .int .i64 0, .int .i64 0, .int .i64 0] 31)) H 31 [.int .i64 0, .int .i64 0, .int .i64 0, .int .i64 0, .int .i64 0, .int .i64 0, .int .i64 0] by rw [hH]; exact IsObj.new w _ [.int .i64 0, .int .i64 0, .int .i64 0, .int .i64 0, .int .i64 0, .int .i64 0, .int .i64 0])
  clear hH
  go_enter Try.func15, Try.ntmps15
  go_upto_region 1 with (fail)
  rw [← HH.out]
  generalize w.alloc (.cells #[.int .i64 0, .int .i64 0, .int .i64 0, .int .i64 0, .int .i64 0, .int .i64 0, .int .i64 0] 31) = w0 at *
  have RT := Lib.hid (show w0.there H 0 (itCells it0).toArray.size from IsObj.there O0.out 0 7 (by simp))
  have OF := Lib.hid (show IsObj (w0.setCells H 0 (itCells it0).toArray.toList) H 31 (itCells it0) from IsObj.setAll O0.out rfl)
  have BF := Lib.hid (show Only H w0 (w0.setCells H 0 (itCells it0).toArray.toList) from Only.setCells (b := H) (itCells it0) 0 (Only.refl H w0))
  go_wp2_with (refine wpList_store_mid (by rfl) 31 _ _ (by rfl) H 0 (itCells it0).toArray (by rfl) (by rfl) (by exact RT.out) (by kernel_rfl) (it_one _) ?_; generalize w0.setCells H 0 (itCells it0).toArray.toList = wf at *)
  have RL := run_loadVar_mid (P := Try.prog) wf H 0 31 (itCells it0) _ (IsObj.range OF.out) Try.underlying31 rfl (by kernel_rfl)
  refine bodyPost_ret (v := .tuple #[.agg (itCells it0).toArray, .bool false]) ?_ rfl ?_
  · exact results_cell_tmp (by rfl) (by rfl) (by rfl) RL
  · exact ⟨rfl, B0.out.trans (BF.out.below (by have := HH.out; omega) B0.out.size)⟩
set_option maxRecDepth 100000 in
theorem ppop_empty {w : World} {p M : Nat} {most : Int} {tv : Value} (h : PAt w p M most tv []) : Calls Try.prog 13 #[.pointer (some ⟨p, 0, none⟩)] w fun e w' => e = .returned (.tuple #[.agg (itCells it0).toArray, .bool false]) ∧ Below w.heap.size w w' := by
  obtain ⟨H, hH⟩ : ∃ H, H = w.heap.size := ⟨_, rfl⟩
  have HH := Lib.hid hH
  have B0 := Lib.hid (show Below w.heap.size w (w.alloc (.cells #[.int .i64 0, .int .i64 0, .int .i64 0, .int .i64 0, .int .i64 0, .int .i64 0, .int .i64 0] 31)) from (Below.refl _ w).alloc (Nat.le_refl _) _)
  have O0 := Lib.hid (show IsObj (w.alloc (.cells #[.int .i64 0, .int .i64 0, .int .i64 0, .int .i64 0, .int .i64 0, .int .i64 0, .int .i64 0] 31)) H 31 [.int .i64 0, .int .i64 0, .int .i64 0, .int .i64 0, .int .i64 0, .int .i64 0, .int .i64 0] by rw [hH]; exact IsObj.new w _ [.int .i64 0, .int .i64 0, .int .i64 0, .int .i64 0, .int .i64 0, .int .i64 0, .int .i64 0])
  have KL : Calls Try.prog 16 #[.pointer (some ⟨p, 0, none⟩)] _ fun e w' => e = .returned (.int .i64 0) ∧ _ = w' := plen_any (h.same B0.out)
  clear h
  clear hH
  go_enter Try.func13, Try.ntmps13
  go_upto_region 1 with (fail)
  rw [← HH.out]
  generalize w.alloc (.cells #[.int .i64 0, .int .i64 0, .int .i64 0, .int .i64 0, .int .i64 0, .int .i64 0, .int .i64 0] 31) = w0 at *
  have RT := Lib.hid (show w0.there H 0 (itCells it0).toArray.size from IsObj.there O0.out 0 7 (by simp))
  have OF := Lib.hid (show IsObj (w0.setCells H 0 (itCells it0).toArray.toList) H 31 (itCells it0) from IsObj.setAll O0.out rfl)
  have BF := Lib.hid (show Only H w0 (w0.setCells H 0 (itCells it0).toArray.toList) from Only.setCells (b := H) (itCells it0) 0 (Only.refl H w0))
  go_wp2_with (first | (go_at_call 16; (with_reducible refine (KL).mono ?_); rintro e w' ⟨rfl, rfl⟩) | (refine wpList_store_mid (by rfl) 31 _ _ (by rfl) H 0 (itCells it0).toArray (by rfl) (by rfl) (by exact RT.out) (by kernel_rfl) (it_one _) ?_; generalize w0.setCells H 0 (itCells it0).toArray.toList = wf at *))
  have RL := run_loadVar_mid (P := Try.prog) wf H 0 31 (itCells it0) _ (IsObj.range OF.out) Try.underlying31 rfl (by kernel_rfl)
  refine bodyPost_ret (v := .tuple #[.agg (itCells it0).toArray, .bool false]) ?_ rfl ?_
  · exact results_cell_tmp (by rfl) (by rfl) (by rfl) RL
  · exact ⟨rfl, B0.out.trans (BF.out.below (by have := HH.out; omega) B0.out.size)⟩
set_option maxRecDepth 100000 in
theorem ppeek_empty {w : World} {p M : Nat} {most : Int} {tv : Value} (h : PAt w p M most tv []) : Calls Try.prog 44 #[.pointer (some ⟨p, 0, none⟩)] w fun e w' => e = .returned (.tuple #[.agg (itCells it0).toArray, .bool false]) ∧ Below w.heap.size w w' := by
  obtain ⟨H, hH⟩ : ∃ H, H = w.heap.size := ⟨_, rfl⟩
  have HH := Lib.hid hH
  have B0 := Lib.hid (show Below w.heap.size w (w.alloc (.cells #[.int .i64 0, .int .i64 0, .int .i64 0, .int .i64 0, .int .i64 0, .int .i64 0, .int .i64 0] 31)) from (Below.refl _ w).alloc (Nat.le_refl _) _)
  have O0 := Lib.hid (show IsObj (w.alloc (.cells #[.int .i64 0, .int .i64 0, .int .i64 0, .int .i64 0, .int .i64 0, .int .i64 0, .int .i64 0] 31)) H 31 [.int .i64 0, .int .i64 0, .int .i64 0, .int .i64 0, .int .i64 0, .int .i64 0, .int .i64 0] by rw [hH]; exact IsObj.new w _ [.int .i64 0, .int .i64 0, .int .i64 0, .int .i64 0, .int .i64 0, .int .i64 0, .int .i64 0])
  have KL : Calls Try.prog 16 #[.pointer (some ⟨p, 0, none⟩)] _ fun e w' => e = .returned (.int .i64 0) ∧ _ = w' := plen_any (h.same B0.out)
  clear h
  clear hH
  go_enter Try.func44, Try.ntmps44
  go_upto_region 1 with (fail)
  rw [← HH.out]
  generalize w.alloc (.cells #[.int .i64 0, .int .i64 0, .int .i64 0, .int .i64 0, .int .i64 0, .int .i64 0, .int .i64 0] 31) = w0 at *
  have RT := Lib.hid (show w0.there H 0 (itCells it0).toArray.size from IsObj.there O0.out 0 7 (by simp))
  have OF := Lib.hid (show IsObj (w0.setCells H 0 (itCells it0).toArray.toList) H 31 (itCells it0) from IsObj.setAll O0.out rfl)
  have BF := Lib.hid (show Only H w0 (w0.setCells H 0 (itCells it0).toArray.toList) from Only.setCells (b := H) (itCells it0) 0 (Only.refl H w0))
  go_wp2_with (first | (go_at_call 16; (with_reducible refine (KL).mono ?_); rintro e w' ⟨rfl, rfl⟩) | (refine wpList_store_mid (by rfl) 31 _ _ (by rfl) H 0 (itCells it0).toArray (by rfl) (by rfl) (by exact RT.out) (by kernel_rfl) (it_one _) ?_; generalize w0.setCells H 0 (itCells it0).toArray.toList = wf at *))
  have RL := run_loadVar_mid (P := Try.prog) wf H 0 31 (itCells it0) _ (IsObj.range OF.out) Try.underlying31 rfl (by kernel_rfl)
  refine bodyPost_ret (v := .tuple #[.agg (itCells it0).toArray, .bool false]) ?_ rfl ?_
  · exact results_cell_tmp (by rfl) (by rfl) (by rfl) RL
  · exact ⟨rfl, B0.out.trans (BF.out.below (by have := HH.out; omega) B0.out.size)⟩
set_option maxRecDepth 100000 in
theorem ptake_out {w : World} {p M : Nat} {most : Int} {tv : Value} {T : List It} (id : Int) (h : PAt w p M most tv T) (hid : IdOk id) (hn : id ∉ T.map It.id) : Calls Try.prog 15 #[.pointer (some ⟨p, 0, none⟩), .int .i64 id] w fun e w' => e = .returned (.tuple #[.agg (itCells it0).toArray, .bool false]) ∧ Below w.heap.size w w' := by
  obtain ⟨H, hH⟩ : ∃ H, H = w.heap.size := ⟨_, rfl⟩
  have HH := Lib.hid hH
  have B0 := Lib.hid (show Below w.heap.size w (w.alloc (.cells #[.int .i64 0, .int .i64 0, .int .i64 0, .int .i64 0, .int .i64 0, .int .i64 0, .int .i64 0] 31)) from (Below.refl _ w).alloc (Nat.le_refl _) _)
  have O0 := Lib.hid (show IsObj (w.alloc (.cells #[.int .i64 0, .int .i64 0, .int .i64 0, .int .i64 0, .int .i64 0, .int .i64 0, .int .i64 0] 31)) H 31 [.int .i64 0, .int .i64 0, .int .i64 0, .int .i64 0, .int .i64 0, .int .i64 0, .int .i64 0] by rw [hH]; exact IsObj.new w _ [.int .i64 0, .int .i64 0, .int .i64 0, .int .i64 0, .int .i64 0, .int .i64 0, .int .i64 0])
  have KW := Lib.hid (pwhere_out (h.same B0.out) hid hn)
  clear h
  clear hH
  go_enter Try.func15, Try.ntmps15
  go_upto_region 1 with (fail)
  rw [← HH.out]
  generalize w.alloc (.cells #[.int .i64 0, .int .i64 0, .int .i64 0, .int .i64 0, .int .i64 0, .int .i64 0, .int .i64 0] 31) = w0 at *
  have RT := Lib.hid (show w0.there H 0 (itCells it0).toArray.size from IsObj.there O0.out 0 7 (by simp))
  have OF := Lib.hid (show IsObj (w0.setCells H 0 (itCells it0).toArray.toList) H 31 (itCells it0) from IsObj.setAll O0.out rfl)
  have BF := Lib.hid (show Only H w0 (w0.setCells H 0 (itCells it0).toArray.toList) from Only.setCells (b := H) (itCells it0) 0 (Only.refl H w0))
  go_wp2_with (first | (go_at_call 48; (with_reducible refine (KW.out).mono ?_); rintro e w' ⟨rfl, rfl⟩) | (refine wpList_store_mid (by rfl) 31 _ _ (by rfl) H 0 (itCells it0).toArray (by rfl) (by rfl) (by exact RT.out) (by kernel_rfl) (it_one _) ?_; generalize w0.setCells H 0 (itCells it0).toArray.toList = wf at *))
  have RL := run_loadVar_mid (P := Try.prog) wf H 0 31 (itCells it0) _ (IsObj.range OF.out) Try.underlying31 rfl (by kernel_rfl)
  refine bodyPost_ret (v := .tuple #[.agg (itCells it0).toArray, .bool false]) ?_ rfl ?_
  · exact results_cell_tmp (by rfl) (by rfl) (by rfl) RL
  · exact ⟨rfl, B0.out.trans (BF.out.below (by have := HH.out; omega) B0.out.size)⟩
set_option maxRecDepth 100000 in
set_option maxHeartbeats 1000000 in
theorem ppop_any {w : World} {p M : Nat} {most : Int} {tv : Value} {T : List It} (h : PAt w p M most tv T) (h0 : 0 < T.length) : Calls Try.prog 13 #[.pointer (some ⟨p, 0, none⟩)] w fun e w' => e = .returned (.tuple #[.agg (itCells (nth T 0)).toArray, .bool true]) ∧ ∃ tv', PAt w' p M most tv' (outT T 0) ∧ Frp p M tv tv' w w' := by
  obtain ⟨H, hH⟩ : ∃ H, H = w.heap.size := ⟨_, rfl⟩
  have HH := Lib.hid hH
  have B0 := Lib.hid (show Below w.heap.size w (w.alloc (.cells #[.int .i64 0, .int .i64 0, .int .i64 0, .int .i64 0, .int .i64 0, .int .i64 0, .int .i64 0] 31)) from (Below.refl _ w).alloc (Nat.le_refl _) _)
  have O0 := Lib.hid (show IsObj (w.alloc (.cells #[.int .i64 0, .int .i64 0, .int .i64 0, .int .i64 0, .int .i64 0, .int .i64 0, .int .i64 0] 31)) H 31 [.int .i64 0, .int .i64 0, .int .i64 0, .int .i64 0, .int .i64 0, .int .i64 0, .int .i64 0] by rw [hH]; exact IsObj.new w _ [.int .i64 0, .int .i64 0, .int .i64 0, .int .i64 0, .int .i64 0, .int .i64 0, .int .i64 0])
  have H0 := Lib.hid (h.same B0.out)
  have hpb : p ≠ H ∧ M ≠ H ∧ some H ≠ tv.ownBlock := by
    obtain ⟨D, hr, _⟩ := h.raw
    have h1 := hr.o.lt
    have h2 := hr.m.lt
    exact ⟨by omega, by omega, fun e => by have := (hr.t.lt H e.symm).2; omega⟩
  have KL := Lib.hid (plen_any (h.same B0.out))
  have j0 : ((T.length : Int) == 0) = false := by rw [beq_eq_false_iff_ne]; omega
  clear h
  clear hH
  go_enter Try.func13, Try.ntmps13
  go_upto_region 1 with (fail)
  rw [← HH.out]
  generalize w.alloc (.cells #[.int .i64 0, .int .i64 0, .int .i64 0, .int .i64 0, .int .i64 0, .int .i64 0, .int .i64 0] 31) = w0 at *
  go_wp2_with (go_at_call 16; (with_reducible refine (KL.out).mono ?_); rintro e w' ⟨rfl, rfl⟩)
  clear j0
  refine (pout_any 0 H0.out h0).mono ?_
  rintro e w1 ⟨rfl, tv', h1, f1⟩
  have HP1 := Lib.hid h1
  have O1 := Lib.hid (f1.isObj O0.out (fun e => hpb.1 e.symm) (fun e => hpb.2.1 e.symm) hpb.2.2)
  have F1 := Lib.hid ((Frp.below B0.out).trans f1)
  have hpb1 : some H ≠ tv'.ownBlock := by
    intro e
    rcases f1.own with h2 | h2
    · exact hpb.2.2 (by rw [e, h2])
    · have h3 := h2 H e.symm
      have h4 := O0.out.lt
      omega
  clear h1 f1
  have RT := Lib.hid (show w1.there H 0 (itCells (nth T 0)).toArray.size from IsObj.there O1.out 0 7 (by simp))
  have OF := Lib.hid (show IsObj (w1.setCells H 0 (itCells (nth T 0)).toArray.toList) H 31 (itCells (nth T 0)) from IsObj.setAll O1.out rfl)
  have BF := Lib.hid (show Only H w1 (w1.setCells H 0 (itCells (nth T 0)).toArray.toList) from Only.setCells (b := H) (itCells (nth T 0)) 0 (Only.refl H w1))
  go_wp2_with (refine wpList_store_mid (by rfl) 31 _ _ (by rfl) H 0 (itCells (nth T 0)).toArray (by rfl) (by rfl) (by exact RT.out) (by kernel_rfl) (it_one _) ?_; generalize w1.setCells H 0 (itCells (nth T 0)).toArray.toList = wf at *)
  have RL := run_loadVar_mid (P := Try.prog) wf H 0 31 (itCells (nth T 0)) _ (IsObj.range OF.out) Try.underlying31 rfl (by kernel_rfl)
  refine bodyPost_ret (v := .tuple #[.agg (itCells (nth T 0)).toArray, .bool true]) ?_ rfl ?_
  · exact results_cell_tmp (by rfl) (by rfl) (by rfl) RL
  · exact ⟨rfl, tv', HP1.out.other BF.out (fun e => hpb.1 e.symm) (fun e => hpb.2.1 e.symm) hpb1, F1.out.late BF.out (by have := HH.out; omega)⟩
set_option maxRecDepth 100000 in
set_option maxHeartbeats 1000000 in
theorem ptake_in {w : World} {p M : Nat} {most : Int} {tv : Value} {T : List It} (k : Nat) (h : PAt w p M most tv T) (hk : k < T.length) : Calls Try.prog 15 #[.pointer (some ⟨p, 0, none⟩), .int .i64 (nth T k).id] w fun e w' => e = .returned (.tuple #[.agg (itCells (nth T k)).toArray, .bool true]) ∧ ∃ tv', PAt w' p M most tv' (outT T k) ∧ Frp p M tv tv' w w' := by
  obtain ⟨H, hH⟩ : ∃ H, H = w.heap.size := ⟨_, rfl⟩
  have HH := Lib.hid hH
  have B0 := Lib.hid (show Below w.heap.size w (w.alloc (.cells #[.int .i64 0, .int .i64 0, .int .i64 0, .int .i64 0, .int .i64 0, .int .i64 0, .int .i64 0] 31)) from (Below.refl _ w).alloc (Nat.le_refl _) _)
  have O0 := Lib.hid (show IsObj (w.alloc (.cells #[.int .i64 0, .int .i64 0, .int .i64 0, .int .i64 0, .int .i64 0, .int .i64 0, .int .i64 0] 31)) H 31 [.int .i64 0, .int .i64 0, .int .i64 0, .int .i64 0, .int .i64 0, .int .i64 0, .int .i64 0] by rw [hH]; exact IsObj.new w _ [.int .i64 0, .int .i64 0, .int .i64 0, .int .i64 0, .int .i64 0, .int .i64 0, .int .i64 0])
  have H0 := Lib.hid (h.same B0.out)
  have hpb : p ≠ H ∧ M ≠ H ∧ some H ≠ tv.ownBlock := by
    obtain ⟨D, hr, _⟩ := h.raw
    have h1 := hr.o.lt
    have h2 := hr.m.lt
    exact ⟨by omega, by omega, fun e => by have := (hr.t.lt H e.symm).2; omega⟩
  have KW := Lib.hid (pwhere_in (h.same B0.out) hk)
  clear h
  clear hH
  go_enter Try.func15, Try.ntmps15
  go_upto_region 1 with (fail)
  rw [← HH.out]
  generalize w.alloc (.cells #[.int .i64 0, .int .i64 0, .int .i64 0, .int .i64 0, .int .i64 0, .int .i64 0, .int .i64 0] 31) = w0 at *
  go_wp2_with (go_at_call 48; (with_reducible refine (KW.out).mono ?_); rintro e w' ⟨rfl, rfl⟩)
  refine (pout_any k H0.out hk).mono ?_
  rintro e w1 ⟨rfl, tv', h1, f1⟩
  have HP1 := Lib.hid h1
  have O1 := Lib.hid (f1.isObj O0.out (fun e => hpb.1 e.symm) (fun e => hpb.2.1 e.symm) hpb.2.2)
  have F1 := Lib.hid ((Frp.below B0.out).trans f1)
  have hpb1 : some H ≠ tv'.ownBlock := by
    intro e
    rcases f1.own with h2 | h2
    · exact hpb.2.2 (by rw [e, h2])
    · have h3 := h2 H e.symm
      have h4 := O0.out.lt
      omega
  clear h1 f1
  have RT := Lib.hid (show w1.there H 0 (itCells (nth T k)).toArray.size from IsObj.there O1.out 0 7 (by simp))
  have OF := Lib.hid (show IsObj (w1.setCells H 0 (itCells (nth T k)).toArray.toList) H 31 (itCells (nth T k)) from IsObj.setAll O1.out rfl)
  have BF := Lib.hid (show Only H w1 (w1.setCells H 0 (itCells (nth T k)).toArray.toList) from Only.setCells (b := H) (itCells (nth T k)) 0 (Only.refl H w1))
  go_wp2_with (refine wpList_store_mid (by rfl) 31 _ _ (by rfl) H 0 (itCells (nth T k)).toArray (by rfl) (by rfl) (by exact RT.out) (by kernel_rfl) (it_one _) ?_; generalize w1.setCells H 0 (itCells (nth T k)).toArray.toList = wf at *)
  have RL := run_loadVar_mid (P := Try.prog) wf H 0 31 (itCells (nth T k)) _ (IsObj.range OF.out) Try.underlying31 rfl (by kernel_rfl)
  refine bodyPost_ret (v := .tuple #[.agg (itCells (nth T k)).toArray, .bool true]) ?_ rfl ?_
  · exact results_cell_tmp (by rfl) (by rfl) (by rfl) RL
  · exact ⟨rfl, tv', HP1.out.other BF.out (fun e => hpb.1 e.symm) (fun e => hpb.2.1 e.symm) hpb1, F1.out.late BF.out (by have := HH.out; omega)⟩
set_option maxRecDepth 100000 in
theorem ppeek_any {w : World} {p M : Nat} {most : Int} {tv : Value} {T : List It} (h : PAt w p M most tv T) (h0 : 0 < T.length) : Calls Try.prog 44 #[.pointer (some ⟨p, 0, none⟩)] w fun e w' => e = .returned (.tuple #[.agg (itCells (nth T 0)).toArray, .bool true]) ∧ Below w.heap.size w w' := by
  obtain ⟨H, hH⟩ : ∃ H, H = w.heap.size := ⟨_, rfl⟩
  have HH := Lib.hid hH
  have B0 := Lib.hid (show Below w.heap.size w (w.alloc (.cells #[.int .i64 0, .int .i64 0, .int .i64 0, .int .i64 0, .int .i64 0, .int .i64 0, .int .i64 0] 31)) from (Below.refl _ w).alloc (Nat.le_refl _) _)
  have O0 := Lib.hid (show IsObj (w.alloc (.cells #[.int .i64 0, .int .i64 0, .int .i64 0, .int .i64 0, .int .i64 0, .int .i64 0, .int .i64 0] 31)) H 31 [.int .i64 0, .int .i64 0, .int .i64 0, .int .i64 0, .int .i64 0, .int .i64 0, .int .i64 0] by rw [hH]; exact IsObj.new w _ [.int .i64 0, .int .i64 0, .int .i64 0, .int .i64 0, .int .i64 0, .int .i64 0, .int .i64 0])
  have KL := Lib.hid (plen_any (h.same B0.out))
  have H0 := Lib.hid (h.same B0.out)
  obtain ⟨g, cap, rfl, hg⟩ : ∃ g cap, tv = .slice (some ⟨g, 0, none⟩) T.length cap ∧ p + 1 ≤ g := by
    obtain ⟨D, hr, _⟩ := h.raw
    obtain ⟨g, cap, e, h1, _⟩ := hr.shape (by omega)
    exact ⟨g, cap, e, h1⟩
  have j0 : ((T.length : Int) == 0) = false := by rw [beq_eq_false_iff_ne]; omega
  have i3 : (0 : Int) < (T.length : Int) := by omega
  clear h
  clear hH
  go_enter Try.func44, Try.ntmps44
  go_upto_region 1 with (fail)
  rw [← HH.out]
  generalize w.alloc (.cells #[.int .i64 0, .int .i64 0, .int .i64 0, .int .i64 0, .int .i64 0, .int .i64 0, .int .i64 0] 31) = w0 at *
  have c2 : w0.cell? ⟨p, 2, none⟩ = some (.slice (some ⟨g, 0, none⟩) T.length cap) := by
    obtain ⟨D, hr, _⟩ := H0.out.raw
    exact hr.o.cell 2
  have RI := Lib.hid (show w0.rangeAt g 0 (itCells (nth T 0)) by
    obtain ⟨D, hr, _⟩ := H0.out.raw
    exact own_range hr.t 0 h0)
  have RT := Lib.hid (show w0.there H 0 (itCells (nth T 0)).toArray.size from IsObj.there O0.out 0 7 (by simp))
  have OF := Lib.hid (show IsObj (w0.setCells H 0 (itCells (nth T 0)).toArray.toList) H 31 (itCells (nth T 0)) from IsObj.setAll O0.out rfl)
  have BF := Lib.hid (show Only H w0 (w0.setCells H 0 (itCells (nth T 0)).toArray.toList) from Only.setCells (b := H) (itCells (nth T 0)) 0 (Only.refl H w0))
  go_wp2_with (first | (go_at_call 16; (with_reducible refine (KL.out).mono ?_); rintro e w' ⟨rfl, rfl⟩) | (refine wpList_load_mid (by rfl) 31 _ (by rfl) g 0 (by rfl) (itCells (nth T 0)) _ (by exact RI.out) Try.underlying31 rfl (by kernel_rfl) ?_) | (refine wpList_store_mid (by rfl) 31 _ _ (by rfl) H 0 (itCells (nth T 0)).toArray (by rfl) (by rfl) (by exact RT.out) (by kernel_rfl) (it_one _) ?_; generalize w0.setCells H 0 (itCells (nth T 0)).toArray.toList = wf at *))
  have RL := run_loadVar_mid (P := Try.prog) wf H 0 31 (itCells (nth T 0)) _ (IsObj.range OF.out) Try.underlying31 rfl (by kernel_rfl)
  refine bodyPost_ret (v := .tuple #[.agg (itCells (nth T 0)).toArray, .bool true]) ?_ rfl ?_
  · exact results_cell_tmp (by rfl) (by rfl) (by rfl) RL
  · exact ⟨rfl, B0.out.trans (BF.out.below (by have := HH.out; omega) B0.out.size)⟩
end Go.Proofs.Ytmanmebgmhpilaa
