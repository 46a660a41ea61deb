/-
  Layer 12 (pile): what Push answers where it puts nothing.
-/
import Derived.Test.YtmanmebgmhpilaaPile9
namespace Go.Proofs.Ytmanmebgmhpilaa
open Go.RowKit Go.Maps
set_option linter.unusedVariables false
set_option linter.unusedSimpArgs false

set_option maxRecDepth 100000 in
set_option maxHeartbeats 1000000 in
theorem ppush_twice {w : World} {p M : Nat} {most : Int} {tv : Value} {T : List It} (k : Nat) (x : It) (h : PAt w p M most tv T) (hk : k < T.length) (hx : (nth T k).id = x.id) : Calls Try.prog 12 #[.pointer (some ⟨p, 0, none⟩), itV x] w fun e w' => e = .returned (.int .i64 8) ∧ Below w.heap.size w w' := by
  obtain ⟨B, hB⟩ : ∃ B, B = w.heap.size := ⟨_, rfl⟩
  have HB := Lib.hid hB
  have B0 := Lib.hid (show Below w.heap.size w (w.alloc (.cells #[.int .i64 x.id, .int .i64 x.lev, .int .i64 x.frm, .int .i64 x.dl, .int .i64 x.bud, .int .i64 x.since, .int .i64 x.seq] 31)) from (Below.refl _ w).alloc (Nat.le_refl _) _)
  have O0 := Lib.hid (show IsObj (w.alloc (.cells #[.int .i64 x.id, .int .i64 x.lev, .int .i64 x.frm, .int .i64 x.dl, .int .i64 x.bud, .int .i64 x.since, .int .i64 x.seq] 31)) B 31 (itCells x) by rw [hB]; exact IsObj.new w _ (itCells x))
  have KG := Lib.hid (hx ▸ pget_in k (h.same B0.out) hk)
  clear h
  clear hB
  go_enter Try.func12, Try.ntmps12
  go_upto_region 1 with (fail)
  rw [← HB.out]
  generalize w.alloc (.cells #[.int .i64 x.id, .int .i64 x.lev, .int .i64 x.frm, .int .i64 x.dl, .int .i64 x.bud, .int .i64 x.since, .int .i64 x.seq] 31) = w0 at *
  have q0 : w0.cell? ⟨B, 0, none⟩ = some (.int .i64 x.id) := O0.out.cell 0
  go_upto_region 3 with (fail)
  refine (KG.out).mono ?_
  rintro e w1 ⟨rfl, b1⟩
  have B1 := Lib.hid (B0.out.trans (b1.mono B0.out.size))
  have TH := Lib.hid (show (w1.alloc (.cells #[.int .i64 0, .int .i64 0, .int .i64 0, .int .i64 0, .int .i64 0, .int .i64 0, .int .i64 0] 31)).there w1.heap.size 0 (itCells (nth T k)).toArray.size from IsObj.there (IsObj.new w1 31 [.int .i64 0, .int .i64 0, .int .i64 0, .int .i64 0, .int .i64 0, .int .i64 0, .int .i64 0]) 0 7 (by decide))
  have bz : Below w1.heap.size w1 ((w1.alloc (.cells #[.int .i64 0, .int .i64 0, .int .i64 0, .int .i64 0, .int .i64 0, .int .i64 0, .int .i64 0] 31)).setCells w1.heap.size 0 (itCells (nth T k)).toArray.toList) := ((Below.refl _ w1).alloc (Nat.le_refl _) _).trans ((Only.setCells (b := w1.heap.size) (itCells (nth T k)) 0 (Only.refl w1.heap.size (w1.alloc (.cells #[.int .i64 0, .int .i64 0, .int .i64 0, .int .i64 0, .int .i64 0, .int .i64 0, .int .i64 0] 31)))).below (Nat.le_refl _) (by simp))
  have B2 := Lib.hid (B1.out.trans (bz.mono B1.out.size))
  clear b1 bz q0 KG
  go_wp2_with (refine wpList_store_mid (by rfl) 31 _ _ (by rfl) w1.heap.size 0 (itCells (nth T k)).toArray (by rfl) (by rfl) (by exact TH.out) (by kernel_rfl) (it_one _) ?_; generalize (w1.alloc (.cells #[.int .i64 0, .int .i64 0, .int .i64 0, .int .i64 0, .int .i64 0, .int .i64 0, .int .i64 0] 31)).setCells w1.heap.size 0 (itCells (nth T k)).toArray.toList = w2 at *)
  go_ret
  exact ⟨rfl, B2.out⟩
set_option maxRecDepth 100000 in
set_option maxHeartbeats 1000000 in
theorem ppush_nil (x : It) (w : World) : Calls Try.prog 12 #[.pointer none, itV x] w fun e w' => e = .returned (.int .i64 6) ∧ Below w.heap.size w w' := by
  obtain ⟨B, hB⟩ : ∃ B, B = w.heap.size := ⟨_, rfl⟩
  have HB := Lib.hid hB
  have B0 := Lib.hid (show Below w.heap.size w (w.alloc (.cells #[.int .i64 x.id, .int .i64 x.lev, .int .i64 x.frm, .int .i64 x.dl, .int .i64 x.bud, .int .i64 x.since, .int .i64 x.seq] 31)) from (Below.refl _ w).alloc (Nat.le_refl _) _)
  have O0 := Lib.hid (show IsObj (w.alloc (.cells #[.int .i64 x.id, .int .i64 x.lev, .int .i64 x.frm, .int .i64 x.dl, .int .i64 x.bud, .int .i64 x.since, .int .i64 x.seq] 31)) B 31 (itCells x) by rw [hB]; exact IsObj.new w _ (itCells x))
  clear hB
  go_enter Try.func12, Try.ntmps12
  go_upto_region 1 with (fail)
  rw [← HB.out]
  generalize w.alloc (.cells #[.int .i64 x.id, .int .i64 x.lev, .int .i64 x.frm, .int .i64 x.dl, .int .i64 x.bud, .int .i64 x.since, .int .i64 x.seq] 31) = w0 at *
  have q0 : w0.cell? ⟨B, 0, none⟩ = some (.int .i64 x.id) := O0.out.cell 0
  go_upto_region 3 with (fail)
  refine (pget_nil x.id w0).mono ?_
  rintro e w1 ⟨rfl, b1⟩
  have B1 := Lib.hid (B0.out.trans (b1.mono B0.out.size))
  have TH := Lib.hid (show (w1.alloc (.cells #[.int .i64 0, .int .i64 0, .int .i64 0, .int .i64 0, .int .i64 0, .int .i64 0, .int .i64 0] 31)).there w1.heap.size 0 (itCells it0).toArray.size from IsObj.there (IsObj.new w1 31 [.int .i64 0, .int .i64 0, .int .i64 0, .int .i64 0, .int .i64 0, .int .i64 0, .int .i64 0]) 0 7 (by decide))
  have bz : Below w1.heap.size w1 ((w1.alloc (.cells #[.int .i64 0, .int .i64 0, .int .i64 0, .int .i64 0, .int .i64 0, .int .i64 0, .int .i64 0] 31)).setCells w1.heap.size 0 (itCells it0).toArray.toList) := ((Below.refl _ w1).alloc (Nat.le_refl _) _).trans ((Only.setCells (b := w1.heap.size) (itCells it0) 0 (Only.refl w1.heap.size (w1.alloc (.cells #[.int .i64 0, .int .i64 0, .int .i64 0, .int .i64 0, .int .i64 0, .int .i64 0, .int .i64 0] 31)))).below (Nat.le_refl _) (by simp))
  have B2 := Lib.hid (B1.out.trans (bz.mono B1.out.size))
  clear b1 bz q0
  go_upto_region 4 with (refine wpList_store_mid (by rfl) 31 _ _ (by rfl) w1.heap.size 0 (itCells it0).toArray (by rfl) (by rfl) (by exact TH.out) (by kernel_rfl) (it_one _) ?_; generalize (w1.alloc (.cells #[.int .i64 0, .int .i64 0, .int .i64 0, .int .i64 0, .int .i64 0, .int .i64 0, .int .i64 0] 31)).setCells w1.heap.size 0 (itCells it0).toArray.toList = w2 at *)
  go_quiet (fail)
  have hbd : Below w2.heap.size w2 (w2.drewN nq) := below_drewN (Below.refl _ _) nq
  have B3 := Lib.hid (B2.out.trans (hbd.mono B2.out.size))
  clear hbd TH
  generalize w2.drewN nq = w3 at *
  go_wp2_with fail
  go_ret
  exact ⟨rfl, B3.out⟩
set_option maxRecDepth 100000 in
set_option maxHeartbeats 1000000 in
theorem ppush_full {w : World} {p M : Nat} {most : Int} {tv : Value} {T : List It} (x : It) (h : PAt w p M most tv T) (hx : IdOk x.id) (hn : x.id ∉ T.map It.id) (hm : most ≤ (T.length : Int)) : Calls Try.prog 12 #[.pointer (some ⟨p, 0, none⟩), itV x] w fun e w' => e = .returned (.int .i64 6) ∧ Below w.heap.size w w' := by
  obtain ⟨a, cap, htv⟩ : ∃ a c, tv = .slice a T.length c := by
    obtain ⟨D, hr, _⟩ := h.raw
    exact hr.sl
  have HTV := Lib.hid htv
  clear htv
  obtain ⟨B, hB⟩ : ∃ B, B = w.heap.size := ⟨_, rfl⟩
  have HB := Lib.hid hB
  have B0 := Lib.hid (show Below w.heap.size w (w.alloc (.cells #[.int .i64 x.id, .int .i64 x.lev, .int .i64 x.frm, .int .i64 x.dl, .int .i64 x.bud, .int .i64 x.since, .int .i64 x.seq] 31)) from (Below.refl _ w).alloc (Nat.le_refl _) _)
  have O0 := Lib.hid (show IsObj (w.alloc (.cells #[.int .i64 x.id, .int .i64 x.lev, .int .i64 x.frm, .int .i64 x.dl, .int .i64 x.bud, .int .i64 x.since, .int .i64 x.seq] 31)) B 31 (itCells x) by rw [hB]; exact IsObj.new w _ (itCells x))
  have H0 := Lib.hid (h.same B0.out)
  clear h
  clear hB
  go_enter Try.func12, Try.ntmps12
  go_upto_region 1 with (fail)
  rw [← HB.out]
  generalize w.alloc (.cells #[.int .i64 x.id, .int .i64 x.lev, .int .i64 x.frm, .int .i64 x.dl, .int .i64 x.bud, .int .i64 x.since, .int .i64 x.seq] 31) = w0 at *
  have q0 : w0.cell? ⟨B, 0, none⟩ = some (.int .i64 x.id) := O0.out.cell 0
  go_upto_region 3 with (fail)
  refine (pget_out x.id H0.out hx hn).mono ?_
  rintro e w1 ⟨rfl, b1⟩
  have B1 := Lib.hid (B0.out.trans (b1.mono B0.out.size))
  have TH := Lib.hid (show (w1.alloc (.cells #[.int .i64 0, .int .i64 0, .int .i64 0, .int .i64 0, .int .i64 0, .int .i64 0, .int .i64 0] 31)).there w1.heap.size 0 (itCells it0).toArray.size from IsObj.there (IsObj.new w1 31 [.int .i64 0, .int .i64 0, .int .i64 0, .int .i64 0, .int .i64 0, .int .i64 0, .int .i64 0]) 0 7 (by decide))
  have bz : Below w1.heap.size w1 ((w1.alloc (.cells #[.int .i64 0, .int .i64 0, .int .i64 0, .int .i64 0, .int .i64 0, .int .i64 0, .int .i64 0] 31)).setCells w1.heap.size 0 (itCells it0).toArray.toList) := ((Below.refl _ w1).alloc (Nat.le_refl _) _).trans ((Only.setCells (b := w1.heap.size) (itCells it0) 0 (Only.refl w1.heap.size (w1.alloc (.cells #[.int .i64 0, .int .i64 0, .int .i64 0, .int .i64 0, .int .i64 0, .int .i64 0, .int .i64 0] 31)))).below (Nat.le_refl _) (by simp))
  have B2 := Lib.hid (B1.out.trans (bz.mono B1.out.size))
  have H2 := Lib.hid ((H0.out.same b1).same bz)
  clear b1 bz q0
  go_upto_region 4 with (refine wpList_store_mid (by rfl) 31 _ _ (by rfl) w1.heap.size 0 (itCells it0).toArray (by rfl) (by rfl) (by exact TH.out) (by kernel_rfl) (it_one _) ?_; generalize (w1.alloc (.cells #[.int .i64 0, .int .i64 0, .int .i64 0, .int .i64 0, .int .i64 0, .int .i64 0, .int .i64 0] 31)).setCells w1.heap.size 0 (itCells it0).toArray.toList = w2 at *)
  have c1 : w2.cell? ⟨p, 1, none⟩ = some (.int .i64 most) := by
    obtain ⟨D, hr, _⟩ := H2.out.raw
    exact hr.o.cell 1
  have c2 : w2.cell? ⟨p, 2, none⟩ = some (.slice a T.length cap) := by
    obtain ⟨D, hr, _⟩ := H2.out.raw
    rw [← HTV.out]
    exact hr.o.cell 2
  have j1 : decide (most ≤ (T.length : Int)) = true := by simp; omega
  go_quiet (fail)
  have hbd : Below w2.heap.size w2 (w2.drewN nq) := below_drewN (Below.refl _ _) nq
  have B3 := Lib.hid (B2.out.trans (hbd.mono B2.out.size))
  clear hbd TH c1 c2
  generalize w2.drewN nq = w3 at *
  go_wp2_with fail
  go_ret
  exact ⟨rfl, B3.out⟩
end Go.Proofs.Ytmanmebgmhpilaa
