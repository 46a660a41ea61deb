/-
  Layer 27 (frame): awake.
-/
import Derived.Test.YtobcjbpgeohbgaaGreatDoorFr6
import Derived.Test.YtobcjbpgeohbgaaGreatDoorFr7
namespace Go.Proofs.YtobcjbpgeohbgaaGreatDoor
open Go.RowKit
set_option linter.unusedVariables false
set_option linter.unusedSimpArgs false

theorem encE_x : encE fmx = 0 := by decide +kernel
theorem encS_x : (encS fmx).size = 23 := by decide +kernel
theorem line_lit : (lineX.toList == ([114, 101, 113, 117, 101, 115, 116, 32, 53, 32, 102, 114, 111, 109, 32, 99, 108, 105, 101, 110, 116, 32, 116, 111, 32, 50, 32, 108, 101, 118, 101, 108, 32, 51, 32, 117, 110, 116, 105, 108, 32, 52, 48, 32, 119, 97, 105, 116, 32, 55] : List UInt8)) = true := by decide +kernel
set_option maxRecDepth 100000 in
set_option maxHeartbeats 2000000 in
theorem awake27 (w : World) (hN : NmAt w) (hW : WdAt w) : Calls Tryz.prog 5 #[] w fun e w' => e = .returned (.bool true) ∧ Below w.heap.size w w' := by
  have KE := fun W h1 h2 => enc_any fmx W h1 h2
  have KD := fun W h1 h2 => dec_any (encS fmx) W (by rw [encS_x]; omega) h1 h2
  rw [dec_enc fmx encE_x] at KD
  rw [encE_x] at KE
  have hsz : ((encS fmx).size : Int) = 23 := by rw [encS_x]; rfl
  generalize encS fmx = sx at *
  have KQ := fun W => req_q fmx rfl W
  have KR := fun W => (show Calls Tryz.prog 13 #[fmV fmx] W fun e w' => e = .returned (.tuple #[.agg #[.int .i64 0, .int .i64 0, .int .i64 0, .int .i64 0, .int .i64 0, .int .i64 0, .int .i64 0], .bool false]) ∧ Below W.heap.size W w' from rep_q fmx rfl W)
  have KT := fun W => text_x fmx rfl rfl W
  have hl := line_lit
  generalize lineX = lx at *
  have HN := Lib.hid hN
  have HW := Lib.hid hW
  have hq : ∀ w, (binOp .eql 32 (fmV fmx) (fmV fmx)).run Tryz.prog w = .ok (.bool true) w := fun w => by rw [fm_eql, fmEq_self]
  clear hN hW
  go_enter Tryz.func5, Tryz.ntmps5
  go_upto_region 1 with (fail)
  have hNV := newvar w (fmCells fmx) [.int .i64 0, .int .i64 0, .int .i64 0, .int .i64 0, .int .i64 0, .int .i64 0, .int .i64 0, .int .i64 0, .int .i64 0, .int .i64 0, .int .i64 0, .int .i64 0, .int .i64 0, .int .i64 0, .int .i64 0, .int .i64 0, .int .i64 0, .int .i64 0, .int .i64 0, .int .i64 0, .int .i64 0, .int .i64 0, .int .i64 0] 32 rfl
  obtain ⟨A, hA⟩ : ∃ A, A = w.heap.size := ⟨_, rfl⟩
  have HA := Lib.hid hA
  have TH := Lib.hid hNV.1
  have BN := Lib.hid hNV.2.2
  have VA := Lib.hid (show IsObj ((w.alloc (.cells #[.int .i64 0, .int .i64 0, .int .i64 0, .int .i64 0, .int .i64 0, .int .i64 0, .int .i64 0, .int .i64 0, .int .i64 0, .int .i64 0, .int .i64 0, .int .i64 0, .int .i64 0, .int .i64 0, .int .i64 0, .int .i64 0, .int .i64 0, .int .i64 0, .int .i64 0, .int .i64 0, .int .i64 0, .int .i64 0, .int .i64 0] 32)).setCells w.heap.size 0 (fmCells fmx).toArray.toList) A 32 (fmCells fmx) by rw [hA]; exact hNV.2.1)
  clear hNV hA
  go_upto_region 2 with (refine wpList_store_mid (by rfl) 32 _ _ (by rfl) w.heap.size 0 (fmCells fmx).toArray (by rfl) (by rfl) (by exact TH.out) (by kernel_rfl) (by kernel_rfl) ?_; generalize (w.alloc (.cells #[.int .i64 0, .int .i64 0, .int .i64 0, .int .i64 0, .int .i64 0, .int .i64 0, .int .i64 0, .int .i64 0, .int .i64 0, .int .i64 0, .int .i64 0, .int .i64 0, .int .i64 0, .int .i64 0, .int .i64 0, .int .i64 0, .int .i64 0, .int .i64 0, .int .i64 0, .int .i64 0, .int .i64 0, .int .i64 0, .int .i64 0] 32)).setCells w.heap.size 0 (fmCells fmx).toArray.toList = w1 at *)
  rw [← HA.out]
  clear TH
  have HN1 := Lib.hid (HN.out.same BN.out)
  have HW1 := Lib.hid (HW.out.same BN.out)
  have B1 := BN
  clear BN HN HW
  have RG := Lib.hid (IsObj.range VA.out)
  go_upto_region 3 with (first | (refine wpList_load_mid (by rfl) 32 _ (by rfl) A 0 (by rfl) (fmCells fmx) _ (by exact RG.out) Tryz.underlying32 rfl (by kernel_rfl) ?_) | (go_at_call 8; refine (KE _ HN1.out HW1.out).mono ?_; rintro e w2 ⟨rfl, b2⟩))
  have VA2 := Lib.hid (IsObj.below VA.out b2 VA.out.lt)
  have HN2 := Lib.hid (HN1.out.same b2)
  have HW2 := Lib.hid (HW1.out.same b2)
  have B2 := Lib.hid (B1.out.trans (b2.mono B1.out.size))
  clear b2 VA HN1 HW1 B1 RG KE
  go_wp2_with fail
  refine (KD _ HN2.out HW2.out).mono ?_
  rintro e w3 ⟨rfl, b3⟩
  have VA3 := Lib.hid (IsObj.below VA2.out b3 VA2.out.lt)
  have B3 := Lib.hid (B2.out.trans (b3.mono B2.out.size))
  clear b3 VA2 HN2 HW2 B2 KD
  have hNV := newvar w3 (fmCells fmx) [.int .i64 0, .int .i64 0, .int .i64 0, .int .i64 0, .int .i64 0, .int .i64 0, .int .i64 0, .int .i64 0, .int .i64 0, .int .i64 0, .int .i64 0, .int .i64 0, .int .i64 0, .int .i64 0, .int .i64 0, .int .i64 0, .int .i64 0, .int .i64 0, .int .i64 0, .int .i64 0, .int .i64 0, .int .i64 0, .int .i64 0] 32 rfl
  obtain ⟨C, hC⟩ : ∃ C, C = w3.heap.size := ⟨_, rfl⟩
  have HC := Lib.hid hC
  have TH := Lib.hid hNV.1
  have BN := Lib.hid hNV.2.2
  have VC := Lib.hid (show IsObj ((w3.alloc (.cells #[.int .i64 0, .int .i64 0, .int .i64 0, .int .i64 0, .int .i64 0, .int .i64 0, .int .i64 0, .int .i64 0, .int .i64 0, .int .i64 0, .int .i64 0, .int .i64 0, .int .i64 0, .int .i64 0, .int .i64 0, .int .i64 0, .int .i64 0, .int .i64 0, .int .i64 0, .int .i64 0, .int .i64 0, .int .i64 0, .int .i64 0] 32)).setCells w3.heap.size 0 (fmCells fmx).toArray.toList) C 32 (fmCells fmx) by rw [hC]; exact hNV.2.1)
  clear hNV hC
  go_upto_region 4 with (refine wpList_store_mid (by rfl) 32 _ _ (by rfl) w3.heap.size 0 (fmCells fmx).toArray (by rfl) (by rfl) (by exact TH.out) (by kernel_rfl) (by kernel_rfl) ?_; generalize (w3.alloc (.cells #[.int .i64 0, .int .i64 0, .int .i64 0, .int .i64 0, .int .i64 0, .int .i64 0, .int .i64 0, .int .i64 0, .int .i64 0, .int .i64 0, .int .i64 0, .int .i64 0, .int .i64 0, .int .i64 0, .int .i64 0, .int .i64 0, .int .i64 0, .int .i64 0, .int .i64 0, .int .i64 0, .int .i64 0, .int .i64 0, .int .i64 0] 32)).setCells w3.heap.size 0 (fmCells fmx).toArray.toList = w4 at *)
  rw [← HC.out]
  clear TH
  have VA4 := Lib.hid (IsObj.below VA3.out BN.out VA3.out.lt)
  have B4 := Lib.hid (B3.out.trans (BN.out.mono B3.out.size))
  clear BN VA3 B3
  have RG := Lib.hid (IsObj.range VA4.out)
  go_upto_region 5 with (first | (refine wpList_load_mid (by rfl) 32 _ (by rfl) A 0 (by rfl) (fmCells fmx) _ (by exact RG.out) Tryz.underlying32 rfl (by kernel_rfl) ?_) | (go_at_call 12; refine (KQ _).mono ?_; rintro e w5 ⟨rfl, b5⟩))
  obtain ⟨D, hD⟩ : ∃ D, D = w5.heap.size := ⟨_, rfl⟩
  have HD := Lib.hid hD
  have VD := Lib.hid (show IsObj (w5.alloc (.cells #[.int .i64 5, .int .i64 (-1), .int .i64 2, .int .i64 3, .int .i64 40, .int .i64 7] 24)) D 24 [.int .i64 5, .int .i64 (-1), .int .i64 2, .int .i64 3, .int .i64 40, .int .i64 7] by rw [hD]; exact IsObj.new w5 _ [.int .i64 5, .int .i64 (-1), .int .i64 2, .int .i64 3, .int .i64 40, .int .i64 7])
  have Bd := Lib.hid (show Below w4.heap.size w4 (w5.alloc (.cells #[.int .i64 5, .int .i64 (-1), .int .i64 2, .int .i64 3, .int .i64 40, .int .i64 7] 24)) from b5.alloc b5.size _)
  rw [← HD.out]
  generalize w5.alloc (.cells #[.int .i64 5, .int .i64 (-1), .int .i64 2, .int .i64 3, .int .i64 40, .int .i64 7] 24) = w6 at *
  have VA6 := Lib.hid (IsObj.below VA4.out Bd.out VA4.out.lt)
  have VC6 := Lib.hid (IsObj.below VC.out Bd.out VC.out.lt)
  have B6 := Lib.hid (B4.out.trans (Bd.out.mono B4.out.size))
  clear b5 hD Bd VA4 VC B4 RG KQ
  have RG := Lib.hid (IsObj.range VA6.out)
  go_upto_region 6 with (first | (refine wpList_load_mid (by rfl) 32 _ (by rfl) A 0 (by rfl) (fmCells fmx) _ (by exact RG.out) Tryz.underlying32 rfl (by kernel_rfl) ?_) | (go_at_call 13; refine (KR _).mono ?_; rintro e w7 ⟨rfl, b7⟩))
  have Bd := Lib.hid (show Below w6.heap.size w6 (w7.alloc (.cells #[.int .i64 0, .int .i64 0, .int .i64 0, .int .i64 0, .int .i64 0, .int .i64 0, .int .i64 0] 26)) from b7.alloc b7.size _)
  generalize w7.alloc (.cells #[.int .i64 0, .int .i64 0, .int .i64 0, .int .i64 0, .int .i64 0, .int .i64 0, .int .i64 0] 26) = w8 at *
  have VA8 := Lib.hid (IsObj.below VA6.out Bd.out VA6.out.lt)
  have VC8 := Lib.hid (IsObj.below VC6.out Bd.out VC6.out.lt)
  have VD8 := Lib.hid (IsObj.below VD.out Bd.out VD.out.lt)
  have B8 := Lib.hid (B6.out.trans (Bd.out.mono B6.out.size))
  clear b7 Bd VA6 VC6 VD B6 RG KR
  have RG := Lib.hid (IsObj.range VA8.out)
  go_wp2_with (first | (refine wpList_load_mid (by rfl) 32 _ (by rfl) A 0 (by rfl) (fmCells fmx) _ (by exact RG.out) Tryz.underlying32 rfl (by kernel_rfl) ?_) | (go_at_call 15; refine (KT _).mono ?_; rintro e w9 ⟨rfl, b9⟩; have RA := Lib.hid (IsObj.range (IsObj.below VA8.out b9 VA8.out.lt)); have RC := Lib.hid (IsObj.range (IsObj.below VC8.out b9 VC8.out.lt)); have d0 := IsObj.cell (IsObj.below VD8.out b9 VD8.out.lt) 0) | (refine wpList_load_midg (by rfl) 32 _ (by rfl) A 0 (by rfl) (fmCells fmx) _ (by exact RA.out) Tryz.underlying32 rfl (by kernel_rfl) ?_) | (refine wpList_load_midg (by rfl) 32 _ (by rfl) C 0 (by rfl) (fmCells fmx) _ (by exact RC.out) Tryz.underlying32 rfl (by kernel_rfl) ?_))
  go_ret
  exact ⟨rfl, B8.out.trans (b9.mono B8.out.size)⟩
end Go.Proofs.YtobcjbpgeohbgaaGreatDoor
