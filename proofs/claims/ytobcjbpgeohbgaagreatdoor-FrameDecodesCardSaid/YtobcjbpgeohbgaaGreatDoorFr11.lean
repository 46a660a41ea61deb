/-
  The statement FrameDecodes of layer 27 (frame). No condition.
-/
import Derived.Test.YtobcjbpgeohbgaaGreatDoorFr10
namespace Go.Proofs.YtobcjbpgeohbgaaGreatDoor
open Go.RowKit
set_option linter.unusedVariables false
set_option linter.unusedSimpArgs false

set_option maxRecDepth 100000 in
set_option maxHeartbeats 4000000 in
theorem fdecodes_walk (s : ByteArray) (w : World) (hN : NmAt w) (hW : WdAt w) : Calls Tryz.prog 3 #[.string s] w fun e w' => e = .returned (.bool true) ∧ Below w.heap.size w w' := by
  have HN := Lib.hid hN
  have HW := Lib.hid hW
  clear hN hW
  by_cases h300 : 300 < s.size
  · have hz : (300 : Int) < (s.size : Int) := by omega
    go_enter Tryz.func3, Tryz.ntmps3
    go_wp2_with (go_at_call 5; refine (awake27 _ HN.out HW.out).mono ?_; rintro e w2 ⟨rfl, b2⟩)
    go_ret
    exact ⟨rfl, b2⟩
  · have hz : ¬ (300 : Int) < (s.size : Int) := by omega
    have KD := fun W h1 h2 => dec_any s W (by omega) h1 h2
    have KR := fun W => rdec_any s W (by omega)
    generalize (decB s).f = y at *
    generalize (decB s).err = ye at *
    have hq : ∀ w, (binOp .eql 32 (fmV y) (fmV y)).run Tryz.prog w = .ok (.bool true) w := fun w => by rw [fm_eql, fmEq_self]
    clear h300
    go_enter Tryz.func3, Tryz.ntmps3
    go_wp2_with fail
    refine (KD _ HN.out HW.out).mono ?_
    rintro e w1 ⟨rfl, b1⟩
    have HN1 := Lib.hid (HN.out.same b1)
    have HW1 := Lib.hid (HW.out.same b1)
    have B1 := Lib.hid b1
    clear b1 HN HW KD
    have hNV := newvar w1 (fmCells y) [.int .i64 0, .int .i64 0, .int .i64 0, .int .i64 0, .int .i64 0, .int .i64 0, .int .i64 0, .int .i64 0, .int .i64 0, .int .i64 0, .int .i64 0, .int .i64 0, .int .i64 0, .int .i64 0, .int .i64 0, .int .i64 0, .int .i64 0, .int .i64 0, .int .i64 0, .int .i64 0, .int .i64 0, .int .i64 0, .int .i64 0] 32 rfl
    obtain ⟨Y, hY⟩ : ∃ Y, Y = w1.heap.size := ⟨_, rfl⟩
    have HY := Lib.hid hY
    have TH := Lib.hid hNV.1
    have BN := Lib.hid hNV.2.2
    have VY := Lib.hid (show IsObj ((w1.alloc (.cells #[.int .i64 0, .int .i64 0, .int .i64 0, .int .i64 0, .int .i64 0, .int .i64 0, .int .i64 0, .int .i64 0, .int .i64 0, .int .i64 0, .int .i64 0, .int .i64 0, .int .i64 0, .int .i64 0, .int .i64 0, .int .i64 0, .int .i64 0, .int .i64 0, .int .i64 0, .int .i64 0, .int .i64 0, .int .i64 0, .int .i64 0] 32)).setCells w1.heap.size 0 (fmCells y).toArray.toList) Y 32 (fmCells y) by rw [hY]; exact hNV.2.1)
    clear hNV hY
    go_upto_region 4 with (refine wpList_store_mid (by rfl) 32 _ _ (by rfl) w1.heap.size 0 (fmCells y).toArray (by rfl) (by rfl) (by exact TH.out) (by kernel_rfl) (by kernel_rfl) ?_; generalize (w1.alloc (.cells #[.int .i64 0, .int .i64 0, .int .i64 0, .int .i64 0, .int .i64 0, .int .i64 0, .int .i64 0, .int .i64 0, .int .i64 0, .int .i64 0, .int .i64 0, .int .i64 0, .int .i64 0, .int .i64 0, .int .i64 0, .int .i64 0, .int .i64 0, .int .i64 0, .int .i64 0, .int .i64 0, .int .i64 0, .int .i64 0, .int .i64 0] 32)).setCells w1.heap.size 0 (fmCells y).toArray.toList = w2 at *)
    rw [← HY.out]
    clear TH
    have HN2 := Lib.hid (HN1.out.same BN.out)
    have HW2 := Lib.hid (HW1.out.same BN.out)
    have B2 := Lib.hid (B1.out.trans (BN.out.mono B1.out.size))
    clear BN HN1 HW1 B1
    go_wp2_with fail
    refine (KR _).mono ?_
    rintro e w3 ⟨rfl, b3⟩
    have VY3 := Lib.hid (IsObj.below VY.out b3 VY.out.lt)
    have HN3 := Lib.hid (HN2.out.same b3)
    have HW3 := Lib.hid (HW2.out.same b3)
    have B3 := Lib.hid (B2.out.trans (b3.mono B2.out.size))
    clear b3 VY HN2 HW2 B2 KR
    have hNV := newvar w3 (fmCells y) [.int .i64 0, .int .i64 0, .int .i64 0, .int .i64 0, .int .i64 0, .int .i64 0, .int .i64 0, .int .i64 0, .int .i64 0, .int .i64 0, .int .i64 0, .int .i64 0, .int .i64 0, .int .i64 0, .int .i64 0, .int .i64 0, .int .i64 0, .int .i64 0, .int .i64 0, .int .i64 0, .int .i64 0, .int .i64 0, .int .i64 0] 32 rfl
    obtain ⟨Z, hZ⟩ : ∃ Z, Z = w3.heap.size := ⟨_, rfl⟩
    have HZ := Lib.hid hZ
    have TH := Lib.hid hNV.1
    have BN := Lib.hid hNV.2.2
    have VZ := Lib.hid (show IsObj ((w3.alloc (.cells #[.int .i64 0, .int .i64 0, .int .i64 0, .int .i64 0, .int .i64 0, .int .i64 0, .int .i64 0, .int .i64 0, .int .i64 0, .int .i64 0, .int .i64 0, .int .i64 0, .int .i64 0, .int .i64 0, .int .i64 0, .int .i64 0, .int .i64 0, .int .i64 0, .int .i64 0, .int .i64 0, .int .i64 0, .int .i64 0, .int .i64 0] 32)).setCells w3.heap.size 0 (fmCells y).toArray.toList) Z 32 (fmCells y) by rw [hZ]; exact hNV.2.1)
    clear hNV hZ
    go_upto_region 5 with (refine wpList_store_mid (by rfl) 32 _ _ (by rfl) w3.heap.size 0 (fmCells y).toArray (by rfl) (by rfl) (by exact TH.out) (by kernel_rfl) (by kernel_rfl) ?_; generalize (w3.alloc (.cells #[.int .i64 0, .int .i64 0, .int .i64 0, .int .i64 0, .int .i64 0, .int .i64 0, .int .i64 0, .int .i64 0, .int .i64 0, .int .i64 0, .int .i64 0, .int .i64 0, .int .i64 0, .int .i64 0, .int .i64 0, .int .i64 0, .int .i64 0, .int .i64 0, .int .i64 0, .int .i64 0, .int .i64 0, .int .i64 0, .int .i64 0] 32)).setCells w3.heap.size 0 (fmCells y).toArray.toList = w4 at *)
    rw [← HZ.out]
    clear TH
    have VY4 := Lib.hid (IsObj.below VY3.out BN.out VY3.out.lt)
    have HN4 := Lib.hid (HN3.out.same BN.out)
    have HW4 := Lib.hid (HW3.out.same BN.out)
    have B4 := Lib.hid (B3.out.trans (BN.out.mono B3.out.size))
    clear BN VY3 HN3 HW3 B3
    have RY := Lib.hid (IsObj.range VY4.out)
    have RZ := Lib.hid (IsObj.range VZ.out)
    go_wp2_with (first | (refine wpList_load_mid (by rfl) 32 _ (by rfl) Y 0 (by rfl) (fmCells y) _ (by exact RY.out) Tryz.underlying32 rfl (by kernel_rfl) ?_) | (refine wpList_load_mid (by rfl) 32 _ (by rfl) Z 0 (by rfl) (fmCells y) _ (by exact RZ.out) Tryz.underlying32 rfl (by kernel_rfl) ?_) | (go_at_call 5; refine (awake27 _ HN4.out HW4.out).mono ?_; rintro e w5 ⟨rfl, b5⟩))
    go_ret
    exact ⟨rfl, B4.out.trans (b5.mono B4.out.size)⟩
end Go.Proofs.YtobcjbpgeohbgaaGreatDoor
