/-
  Layer 12 (pile): a pile that nobody made.
-/
import Derived.Test.YtmanmebgmhpilaaPile11
namespace Go.Proofs.Ytmanmebgmhpilaa
open Go.RowKit Go.Maps
set_option linter.unusedVariables false
set_option linter.unusedSimpArgs false

abbrev OddAt (w : World) (p : Nat) : Prop := IsObj w p 58 [.map none, .int .i64 0, .slice none 0 0]
theorem OddAt.same {w w' : World} {p : Nat} (h : OddAt w p) (hb : Below w.heap.size w w') : OddAt w' p := (hb.block p h.lt).trans h
set_option maxRecDepth 100000 in
theorem owhere_any {w : World} {p : Nat} (id : Int) (h : OddAt w p) (hid : IdOk id) : Calls Try.prog 48 #[.pointer (some ⟨p, 0, none⟩), .int .i64 id] w fun e w' => e = .returned (.tuple #[.int .i64 0, .bool false]) ∧ w = w' := by
  have c0 : w.cell? ⟨p, 0, none⟩ = some (.map none) := h.cell 0
  have hr := Maps.look_nil (P := Try.prog) (w := w) true int_law Try.underlying54 (zero_int w) (id_key hid)
  clear h
  go_enter Try.func48, Try.ntmps48
  go_wp2
  first | go_ret2 | go_returns
  exact ⟨rfl, rfl⟩
set_option maxRecDepth 100000 in
theorem olen_any {w : World} {p : Nat} (h : OddAt w p) : Calls Try.prog 16 #[.pointer (some ⟨p, 0, none⟩)] w fun e w' => e = .returned (.int .i64 0) ∧ w = w' := by
  have c2 : w.cell? ⟨p, 2, none⟩ = some (.slice none 0 0) := h.cell 2
  clear h
  go_enter Try.func16, Try.ntmps16
  go_wp2
  go_ret
  exact ⟨rfl, rfl⟩
set_option maxRecDepth 100000 in
theorem oall_any {w : World} {p : Nat} (h : OddAt w p) : Calls Try.prog 27 #[.pointer (some ⟨p, 0, none⟩)] w fun e w' => e = .returned (.slice none 0 0) ∧ w = w' := by
  have KL := olen_any h
  clear h
  go_enter Try.func27, Try.ntmps27
  go_wp2_with ((go_at_call 16; (with_reducible refine (KL).mono ?_); rintro e w' ⟨rfl, rfl⟩))
  go_ret
  exact ⟨rfl, rfl⟩
set_option maxRecDepth 100000 in
theorem oclear_any {w : World} {p : Nat} (h : OddAt w p) : Calls Try.prog 25 #[.pointer (some ⟨p, 0, none⟩)] w fun e w' => e = .returned (.tuple #[]) ∧ OddAt w' p ∧ Only p w w' := by
  have c2 : w.cell? ⟨p, 2, none⟩ = some (.slice none 0 0) := h.cell 2
  have f2 := IsObj.free h 2
  have h1 := IsObj.set h 2 (.slice none 0 0)
  have c0 : (w.setCell ⟨p, 2, none⟩ (.slice none 0 0)).cell? ⟨p, 0, none⟩ = some (.map none) := h1.cell 0
  have HH := Lib.hid h1
  have hc : ∀ W, (Builtin.clear_ #[54] 0 #[.map none]).run Try.prog W = .ok (.tuple #[]) W := fun W => by simp [Builtin.clear_, run_underlying Try.underlying54, Result.andThen]
  clear h h1
  go_enter Try.func25, Try.ntmps25
  go_wp2
  go_end0
  exact ⟨rfl, HH.out, (Only.refl p w).setCell (.inl rfl) _⟩
set_option maxRecDepth 100000 in
theorem opop_any {w : World} {p : Nat} (h : OddAt w p) : Calls Try.prog 13 #[.pointer (some ⟨p, 0, none⟩)] w fun e w' => e = .returned (.tuple #[.agg (itCells it0).toArray, .bool false]) ∧ Below w.heap.size w w' := by
  obtain ⟨H, hH⟩ : ∃ H, H = w.heap.size := ⟨_, rfl⟩
  have HH := Lib.hid hH
  have B0 := Lib.hid (show Below w.heap.size w (w.alloc (.cells #[.int .i64 0, .int .i64 0, .int .i64 0, .int .i64 0, .int .i64 0, .int .i64 0, .int .i64 0] 31)) from (Below.refl _ w).alloc (Nat.le_refl _) _)
  have O0 := Lib.hid (show IsObj (w.alloc (.cells #[.int .i64 0, .int .i64 0, .int .i64 0, .int .i64 0, .int .i64 0, .int .i64 0, .int .i64 0] 31)) H 31 [.int .i64 0, .int .i64 0, .int .i64 0, .int .i64 0, .int .i64 0, .int .i64 0, .int .i64 0] by rw [hH]; exact IsObj.new w _ [.int .i64 0, .int .i64 0, .int .i64 0, .int .i64 0, .int .i64 0, .int .i64 0, .int .i64 0])
  have KL : Calls Try.prog 16 #[.pointer (some ⟨p, 0, none⟩)] _ fun e w' => e = .returned (.int .i64 0) ∧ _ = w' := olen_any (h.same B0.out)
  clear h
  clear hH
  go_enter Try.func13, Try.ntmps13
  go_upto_region 1 with (fail)
  rw [← HH.out]
  generalize w.alloc (.cells #[.int .i64 0, .int .i64 0, .int .i64 0, .int .i64 0, .int .i64 0, .int .i64 0, .int .i64 0] 31) = w0 at *
  have RT := Lib.hid (show w0.there H 0 (itCells it0).toArray.size from IsObj.there O0.out 0 7 (by simp))
  have OF := Lib.hid (show IsObj (w0.setCells H 0 (itCells it0).toArray.toList) H 31 (itCells it0) from IsObj.setAll O0.out rfl)
  have BF := Lib.hid (show Only H w0 (w0.setCells H 0 (itCells it0).toArray.toList) from Only.setCells (b := H) (itCells it0) 0 (Only.refl H w0))
  go_wp2_with (first | (go_at_call 16; (with_reducible refine (KL).mono ?_); rintro e w' ⟨rfl, rfl⟩) | (refine wpList_store_mid (by rfl) 31 _ _ (by rfl) H 0 (itCells it0).toArray (by rfl) (by rfl) (by exact RT.out) (by kernel_rfl) (it_one _) ?_; generalize w0.setCells H 0 (itCells it0).toArray.toList = wf at *))
  have RL := run_loadVar_mid (P := Try.prog) wf H 0 31 (itCells it0) _ (IsObj.range OF.out) Try.underlying31 rfl (by kernel_rfl)
  refine bodyPost_ret (v := .tuple #[.agg (itCells it0).toArray, .bool false]) ?_ rfl ?_
  · exact results_cell_tmp (by rfl) (by rfl) (by rfl) RL
  · exact ⟨rfl, B0.out.trans (BF.out.below (by have := HH.out; omega) B0.out.size)⟩
set_option maxRecDepth 100000 in
theorem opeek_any {w : World} {p : Nat} (h : OddAt w p) : Calls Try.prog 44 #[.pointer (some ⟨p, 0, none⟩)] w fun e w' => e = .returned (.tuple #[.agg (itCells it0).toArray, .bool false]) ∧ Below w.heap.size w w' := by
  obtain ⟨H, hH⟩ : ∃ H, H = w.heap.size := ⟨_, rfl⟩
  have HH := Lib.hid hH
  have B0 := Lib.hid (show Below w.heap.size w (w.alloc (.cells #[.int .i64 0, .int .i64 0, .int .i64 0, .int .i64 0, .int .i64 0, .int .i64 0, .int .i64 0] 31)) from (Below.refl _ w).alloc (Nat.le_refl _) _)
  have O0 := Lib.hid (show IsObj (w.alloc (.cells #[.int .i64 0, .int .i64 0, .int .i64 0, .int .i64 0, .int .i64 0, .int .i64 0, .int .i64 0] 31)) H 31 [.int .i64 0, .int .i64 0, .int .i64 0, .int .i64 0, .int .i64 0, .int .i64 0, .int .i64 0] by rw [hH]; exact IsObj.new w _ [.int .i64 0, .int .i64 0, .int .i64 0, .int .i64 0, .int .i64 0, .int .i64 0, .int .i64 0])
  have KL : Calls Try.prog 16 #[.pointer (some ⟨p, 0, none⟩)] _ fun e w' => e = .returned (.int .i64 0) ∧ _ = w' := olen_any (h.same B0.out)
  clear h
  clear hH
  go_enter Try.func44, Try.ntmps44
  go_upto_region 1 with (fail)
  rw [← HH.out]
  generalize w.alloc (.cells #[.int .i64 0, .int .i64 0, .int .i64 0, .int .i64 0, .int .i64 0, .int .i64 0, .int .i64 0] 31) = w0 at *
  have RT := Lib.hid (show w0.there H 0 (itCells it0).toArray.size from IsObj.there O0.out 0 7 (by simp))
  have OF := Lib.hid (show IsObj (w0.setCells H 0 (itCells it0).toArray.toList) H 31 (itCells it0) from IsObj.setAll O0.out rfl)
  have BF := Lib.hid (show Only H w0 (w0.setCells H 0 (itCells it0).toArray.toList) from Only.setCells (b := H) (itCells it0) 0 (Only.refl H w0))
  go_wp2_with (first | (go_at_call 16; (with_reducible refine (KL).mono ?_); rintro e w' ⟨rfl, rfl⟩) | (refine wpList_store_mid (by rfl) 31 _ _ (by rfl) H 0 (itCells it0).toArray (by rfl) (by rfl) (by exact RT.out) (by kernel_rfl) (it_one _) ?_; generalize w0.setCells H 0 (itCells it0).toArray.toList = wf at *))
  have RL := run_loadVar_mid (P := Try.prog) wf H 0 31 (itCells it0) _ (IsObj.range OF.out) Try.underlying31 rfl (by kernel_rfl)
  refine bodyPost_ret (v := .tuple #[.agg (itCells it0).toArray, .bool false]) ?_ rfl ?_
  · exact results_cell_tmp (by rfl) (by rfl) (by rfl) RL
  · exact ⟨rfl, B0.out.trans (BF.out.below (by have := HH.out; omega) B0.out.size)⟩
set_option maxRecDepth 100000 in
theorem oget_any {w : World} {p : Nat} (id : Int) (h : OddAt w p) (hid : IdOk id) : Calls Try.prog 28 #[.pointer (some ⟨p, 0, none⟩), .int .i64 id] w fun e w' => e = .returned (.tuple #[.agg (itCells it0).toArray, .bool false]) ∧ Below w.heap.size w w' := by
  obtain ⟨H, hH⟩ : ∃ H, H = w.heap.size := ⟨_, rfl⟩
  have HH := Lib.hid hH
  have B0 := Lib.hid (show Below w.heap.size w (w.alloc (.cells #[.int .i64 0, .int .i64 0, .int .i64 0, .int .i64 0, .int .i64 0, .int .i64 0, .int .i64 0] 31)) from (Below.refl _ w).alloc (Nat.le_refl _) _)
  have O0 := Lib.hid (show IsObj (w.alloc (.cells #[.int .i64 0, .int .i64 0, .int .i64 0, .int .i64 0, .int .i64 0, .int .i64 0, .int .i64 0] 31)) H 31 [.int .i64 0, .int .i64 0, .int .i64 0, .int .i64 0, .int .i64 0, .int .i64 0, .int .i64 0] by rw [hH]; exact IsObj.new w _ [.int .i64 0, .int .i64 0, .int .i64 0, .int .i64 0, .int .i64 0, .int .i64 0, .int .i64 0])
  have KW := Lib.hid (owhere_any id (h.same B0.out) hid)
  clear h
  clear hH
  go_enter Try.func28, Try.ntmps28
  go_upto_region 1 with (fail)
  rw [← HH.out]
  generalize w.alloc (.cells #[.int .i64 0, .int .i64 0, .int .i64 0, .int .i64 0, .int .i64 0, .int .i64 0, .int .i64 0] 31) = w0 at *
  have RT := Lib.hid (show w0.there H 0 (itCells it0).toArray.size from IsObj.there O0.out 0 7 (by simp))
  have OF := Lib.hid (show IsObj (w0.setCells H 0 (itCells it0).toArray.toList) H 31 (itCells it0) from IsObj.setAll O0.out rfl)
  have BF := Lib.hid (show Only H w0 (w0.setCells H 0 (itCells it0).toArray.toList) from Only.setCells (b := H) (itCells it0) 0 (Only.refl H w0))
  go_wp2_with (first | (go_at_call 48; (with_reducible refine (KW.out).mono ?_); rintro e w' ⟨rfl, rfl⟩) | (refine wpList_store_mid (by rfl) 31 _ _ (by rfl) H 0 (itCells it0).toArray (by rfl) (by rfl) (by exact RT.out) (by kernel_rfl) (it_one _) ?_; generalize w0.setCells H 0 (itCells it0).toArray.toList = wf at *))
  have RL := run_loadVar_mid (P := Try.prog) wf H 0 31 (itCells it0) _ (IsObj.range OF.out) Try.underlying31 rfl (by kernel_rfl)
  refine bodyPost_ret (v := .tuple #[.agg (itCells it0).toArray, .bool false]) ?_ rfl ?_
  · exact results_cell_tmp (by rfl) (by rfl) (by rfl) RL
  · exact ⟨rfl, B0.out.trans (BF.out.below (by have := HH.out; omega) B0.out.size)⟩
set_option maxRecDepth 100000 in
theorem otake_any {w : World} {p : Nat} (id : Int) (h : OddAt w p) (hid : IdOk id) : Calls Try.prog 15 #[.pointer (some ⟨p, 0, none⟩), .int .i64 id] w fun e w' => e = .returned (.tuple #[.agg (itCells it0).toArray, .bool false]) ∧ Below w.heap.size w w' := by
  obtain ⟨H, hH⟩ : ∃ H, H = w.heap.size := ⟨_, rfl⟩
  have HH := Lib.hid hH
  have B0 := Lib.hid (show Below w.heap.size w (w.alloc (.cells #[.int .i64 0, .int .i64 0, .int .i64 0, .int .i64 0, .int .i64 0, .int .i64 0, .int .i64 0] 31)) from (Below.refl _ w).alloc (Nat.le_refl _) _)
  have O0 := Lib.hid (show IsObj (w.alloc (.cells #[.int .i64 0, .int .i64 0, .int .i64 0, .int .i64 0, .int .i64 0, .int .i64 0, .int .i64 0] 31)) H 31 [.int .i64 0, .int .i64 0, .int .i64 0, .int .i64 0, .int .i64 0, .int .i64 0, .int .i64 0] by rw [hH]; exact IsObj.new w _ [.int .i64 0, .int .i64 0, .int .i64 0, .int .i64 0, .int .i64 0, .int .i64 0, .int .i64 0])
  have KW := Lib.hid (owhere_any id (h.same B0.out) hid)
  clear h
  clear hH
  go_enter Try.func15, Try.ntmps15
  go_upto_region 1 with (fail)
  rw [← HH.out]
  generalize w.alloc (.cells #[.int .i64 0, .int .i64 0, .int .i64 0, .int .i64 0, .int .i64 0, .int .i64 0, .int .i64 0] 31) = w0 at *
  have RT := Lib.hid (show w0.there H 0 (itCells it0).toArray.size from IsObj.there O0.out 0 7 (by simp))
  have OF := Lib.hid (show IsObj (w0.setCells H 0 (itCells it0).toArray.toList) H 31 (itCells it0) from IsObj.setAll O0.out rfl)
  have BF := Lib.hid (show Only H w0 (w0.setCells H 0 (itCells it0).toArray.toList) from Only.setCells (b := H) (itCells it0) 0 (Only.refl H w0))
  go_wp2_with (first | (go_at_call 48; (with_reducible refine (KW.out).mono ?_); rintro e w' ⟨rfl, rfl⟩) | (refine wpList_store_mid (by rfl) 31 _ _ (by rfl) H 0 (itCells it0).toArray (by rfl) (by rfl) (by exact RT.out) (by kernel_rfl) (it_one _) ?_; generalize w0.setCells H 0 (itCells it0).toArray.toList = wf at *))
  have RL := run_loadVar_mid (P := Try.prog) wf H 0 31 (itCells it0) _ (IsObj.range OF.out) Try.underlying31 rfl (by kernel_rfl)
  refine bodyPost_ret (v := .tuple #[.agg (itCells it0).toArray, .bool false]) ?_ rfl ?_
  · exact results_cell_tmp (by rfl) (by rfl) (by rfl) RL
  · exact ⟨rfl, B0.out.trans (BF.out.below (by have := HH.out; omega) B0.out.size)⟩
set_option maxRecDepth 100000 in
set_option maxHeartbeats 1000000 in
theorem opush_any {w : World} {p : Nat} (x : It) (h : OddAt w p) (hx : IdOk x.id) : Calls Try.prog 12 #[.pointer (some ⟨p, 0, none⟩), itV x] w fun e w' => e = .returned (.int .i64 6) ∧ Below w.heap.size w w' := by
  obtain ⟨B, hB⟩ : ∃ B, B = w.heap.size := ⟨_, rfl⟩
  have HB := Lib.hid hB
  have B0 := Lib.hid (show Below w.heap.size w (w.alloc (.cells #[.int .i64 x.id, .int .i64 x.lev, .int .i64 x.frm, .int .i64 x.dl, .int .i64 x.bud, .int .i64 x.since, .int .i64 x.seq] 31)) from (Below.refl _ w).alloc (Nat.le_refl _) _)
  have O0 := Lib.hid (show IsObj (w.alloc (.cells #[.int .i64 x.id, .int .i64 x.lev, .int .i64 x.frm, .int .i64 x.dl, .int .i64 x.bud, .int .i64 x.since, .int .i64 x.seq] 31)) B 31 (itCells x) by rw [hB]; exact IsObj.new w _ (itCells x))
  have H0 := Lib.hid (OddAt.same h B0.out)
  clear h
  clear hB
  go_enter Try.func12, Try.ntmps12
  go_upto_region 1 with (fail)
  rw [← HB.out]
  generalize w.alloc (.cells #[.int .i64 x.id, .int .i64 x.lev, .int .i64 x.frm, .int .i64 x.dl, .int .i64 x.bud, .int .i64 x.since, .int .i64 x.seq] 31) = w0 at *
  have q0 : w0.cell? ⟨B, 0, none⟩ = some (.int .i64 x.id) := O0.out.cell 0
  go_upto_region 3 with (fail)
  refine (oget_any x.id H0.out hx).mono ?_
  rintro e w1 ⟨rfl, b1⟩
  have B1 := Lib.hid (B0.out.trans (b1.mono B0.out.size))
  have TH := Lib.hid (show (w1.alloc (.cells #[.int .i64 0, .int .i64 0, .int .i64 0, .int .i64 0, .int .i64 0, .int .i64 0, .int .i64 0] 31)).there w1.heap.size 0 (itCells it0).toArray.size from IsObj.there (IsObj.new w1 31 [.int .i64 0, .int .i64 0, .int .i64 0, .int .i64 0, .int .i64 0, .int .i64 0, .int .i64 0]) 0 7 (by decide))
  have bz : Below w1.heap.size w1 ((w1.alloc (.cells #[.int .i64 0, .int .i64 0, .int .i64 0, .int .i64 0, .int .i64 0, .int .i64 0, .int .i64 0] 31)).setCells w1.heap.size 0 (itCells it0).toArray.toList) := ((Below.refl _ w1).alloc (Nat.le_refl _) _).trans ((Only.setCells (b := w1.heap.size) (itCells it0) 0 (Only.refl w1.heap.size (w1.alloc (.cells #[.int .i64 0, .int .i64 0, .int .i64 0, .int .i64 0, .int .i64 0, .int .i64 0, .int .i64 0] 31)))).below (Nat.le_refl _) (by simp))
  have B2 := Lib.hid (B1.out.trans (bz.mono B1.out.size))
  have H2 := Lib.hid ((OddAt.same (OddAt.same H0.out b1) bz))
  clear b1 bz q0
  go_upto_region 4 with (refine wpList_store_mid (by rfl) 31 _ _ (by rfl) w1.heap.size 0 (itCells it0).toArray (by rfl) (by rfl) (by exact TH.out) (by kernel_rfl) (it_one _) ?_; generalize (w1.alloc (.cells #[.int .i64 0, .int .i64 0, .int .i64 0, .int .i64 0, .int .i64 0, .int .i64 0, .int .i64 0] 31)).setCells w1.heap.size 0 (itCells it0).toArray.toList = w2 at *)
  have c1 : w2.cell? ⟨p, 1, none⟩ = some (.int .i64 0) := H2.out.cell 1
  have c2 : w2.cell? ⟨p, 2, none⟩ = some (.slice none 0 0) := H2.out.cell 2
  go_quiet (fail)
  have hbd : Below w2.heap.size w2 (w2.drewN nq) := below_drewN (Below.refl _ _) nq
  have B3 := Lib.hid (B2.out.trans (hbd.mono B2.out.size))
  clear hbd TH c1 c2
  generalize w2.drewN nq = w3 at *
  go_wp2_with fail
  go_ret
  exact ⟨rfl, B3.out⟩
end Go.Proofs.Ytmanmebgmhpilaa
