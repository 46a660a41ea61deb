/-
  The statement QueueNobody of layer 13 (queue). No condition.
-/
import Derived.Test.YtmanmebgmhpilaaQue5
namespace Go.Proofs.Ytmanmebgmhpilaa
open Go.RowKit
set_option linter.unusedVariables false
set_option linter.unusedSimpArgs false

set_option maxRecDepth 100000 in
set_option maxHeartbeats 4000000 in
theorem qnobody_walk (x : It) (now : Int) (w : World) (hx : IdOk x.id) : Calls Try.prog 9 #[itV x, .int .i64 now] w fun e w' => e = .returned (.bool true) ∧ Below w.heap.size w w' := by
  obtain ⟨B, hB⟩ : ∃ B, B = w.heap.size := ⟨_, rfl⟩
  have HB := Lib.hid hB
  have B0 := Lib.hid (show Below w.heap.size w (w.alloc (.cells #[.int .i64 x.id, .int .i64 x.lev, .int .i64 x.frm, .int .i64 x.dl, .int .i64 x.bud, .int .i64 x.since, .int .i64 x.seq] 31)) from (Below.refl _ w).alloc (Nat.le_refl _) _)
  have VX0 := Lib.hid (show IsObj (w.alloc (.cells #[.int .i64 x.id, .int .i64 x.lev, .int .i64 x.frm, .int .i64 x.dl, .int .i64 x.bud, .int .i64 x.since, .int .i64 x.seq] 31)) B 31 (itCells x) by rw [hB]; exact IsObj.new w _ (itCells x))
  clear hB
  go_enter Try.func9, Try.ntmps9
  go_upto_region 1 with (fail)
  rw [← HB.out]
  generalize w.alloc (.cells #[.int .i64 x.id, .int .i64 x.lev, .int .i64 x.frm, .int .i64 x.dl, .int .i64 x.bud, .int .i64 x.since, .int .i64 x.seq] 31) = w0 at *
  obtain ⟨Q, hQ⟩ : ∃ Q, Q = w0.heap.size := ⟨_, rfl⟩
  have HQ := Lib.hid hQ
  have B1 := Lib.hid (show Below w0.heap.size w0 (w0.alloc (.cells #[.pointer none, .int .i64 0] 80)) from (Below.refl _ w0).alloc (Nat.le_refl _) _)
  have OD1 := Lib.hid (show QObj (w0.alloc (.cells #[.pointer none, .int .i64 0] 80)) Q (.pointer none) 0 by rw [hQ]; exact IsObj.new w0 _ [.pointer none, .int .i64 0])
  have VX1 := Lib.hid (IsObj.below VX0.out B1.out VX0.out.lt)
  have C1 := Lib.hid (B0.out.trans (B1.out.mono B0.out.size))
  clear hQ VX0 B0 B1
  go_upto_region 3 with (fail)
  rw [← HQ.out]
  generalize w0.alloc (.cells #[.pointer none, .int .i64 0] 80) = w1 at *
  go_wp2_with fail
  refine (nclear (items_nil w1)).mono ?_
  rintro e w2 ⟨rfl, rfl⟩
  go_wp2_with fail
  refine (nclear (items_any OD1.out)).mono ?_
  rintro e w2 ⟨rfl, rfl⟩
  have x0 : w1.cell? ⟨B, 0, none⟩ = some (.int .i64 x.id) := VX1.out.cell 0
  have x1 : w1.cell? ⟨B, 1, none⟩ = some (.int .i64 x.lev) := VX1.out.cell 1
  have x2 : w1.cell? ⟨B, 2, none⟩ = some (.int .i64 x.frm) := VX1.out.cell 2
  have x3 : w1.cell? ⟨B, 3, none⟩ = some (.int .i64 x.dl) := VX1.out.cell 3
  have x4 : w1.cell? ⟨B, 4, none⟩ = some (.int .i64 x.bud) := VX1.out.cell 4
  have x5 : w1.cell? ⟨B, 5, none⟩ = some (.int .i64 x.since) := VX1.out.cell 5
  have x6 : w1.cell? ⟨B, 6, none⟩ = some (.int .i64 x.seq) := VX1.out.cell 6
  go_wp2_with fail
  refine (nadd x (fun w' _ => items_nil w')).mono ?_
  rintro e w2 ⟨rfl, b2⟩
  have OD2 := Lib.hid (IsObj.below OD1.out b2 OD1.out.lt)
  have C2 := Lib.hid (C1.out.trans (b2.mono C1.out.size))
  have VX2 := Lib.hid (IsObj.below VX1.out b2 VX1.out.lt)
  clear OD1 C1 VX1 
  clear b2 x0 x1 x2 x3 x4 x5 x6
  have hNV := newvar w2 (itCells x) [.int .i64 0, .int .i64 0, .int .i64 0, .int .i64 0, .int .i64 0, .int .i64 0, .int .i64 0] 31 rfl
  obtain ⟨P7, hP7⟩ : ∃ P7, P7 = w2.heap.size := ⟨_, rfl⟩
  have HP7 := Lib.hid hP7
  have TH := Lib.hid hNV.1
  have BN := Lib.hid hNV.2.2
  have VP7 := Lib.hid (show IsObj ((w2.alloc (.cells #[.int .i64 0, .int .i64 0, .int .i64 0, .int .i64 0, .int .i64 0, .int .i64 0, .int .i64 0] 31)).setCells w2.heap.size 0 (itCells x).toArray.toList) P7 31 (itCells x) by rw [hP7]; exact hNV.2.1)
  clear hNV hP7
  go_upto_region 6 with (refine wpList_store_mid (by rfl) 31 _ _ (by rfl) w2.heap.size 0 (itCells x).toArray (by rfl) (by rfl) (by exact TH.out) (by kernel_rfl) (it_one _) ?_; generalize (w2.alloc (.cells #[.int .i64 0, .int .i64 0, .int .i64 0, .int .i64 0, .int .i64 0, .int .i64 0, .int .i64 0] 31)).setCells w2.heap.size 0 (itCells x).toArray.toList = w3 at *)
  rw [← HP7.out]
  clear TH
  have OD3 := Lib.hid (IsObj.below OD2.out BN.out OD2.out.lt)
  have C3 := Lib.hid (C2.out.trans (BN.out.mono C2.out.size))
  have VX3 := Lib.hid (IsObj.below VX2.out BN.out VX2.out.lt)
  clear OD2 C2 VX2 
  have VA3 := VP7
  clear BN VP7
  have x0 : w3.cell? ⟨B, 0, none⟩ = some (.int .i64 x.id) := VX3.out.cell 0
  have x1 : w3.cell? ⟨B, 1, none⟩ = some (.int .i64 x.lev) := VX3.out.cell 1
  have x2 : w3.cell? ⟨B, 2, none⟩ = some (.int .i64 x.frm) := VX3.out.cell 2
  have x3 : w3.cell? ⟨B, 3, none⟩ = some (.int .i64 x.dl) := VX3.out.cell 3
  have x4 : w3.cell? ⟨B, 4, none⟩ = some (.int .i64 x.bud) := VX3.out.cell 4
  have x5 : w3.cell? ⟨B, 5, none⟩ = some (.int .i64 x.since) := VX3.out.cell 5
  have x6 : w3.cell? ⟨B, 6, none⟩ = some (.int .i64 x.seq) := VX3.out.cell 6
  go_wp2_with fail
  refine (nadd x (fun w' hb => items_any (IsObj.below OD3.out hb OD3.out.lt))).mono ?_
  rintro e w4 ⟨rfl, b4⟩
  have OD4 := Lib.hid (IsObj.below OD3.out b4 OD3.out.lt)
  have C4 := Lib.hid (C3.out.trans (b4.mono C3.out.size))
  have VX4 := Lib.hid (IsObj.below VX3.out b4 VX3.out.lt)
  have VA4 := Lib.hid (IsObj.below VA3.out b4 VA3.out.lt)
  clear OD3 C3 VX3 VA3
  clear b4 x0 x1 x2 x3 x4 x5 x6
  have hNV := newvar w4 (itCells x) [.int .i64 0, .int .i64 0, .int .i64 0, .int .i64 0, .int .i64 0, .int .i64 0, .int .i64 0] 31 rfl
  obtain ⟨P10, hP10⟩ : ∃ P10, P10 = w4.heap.size := ⟨_, rfl⟩
  have HP10 := Lib.hid hP10
  have TH := Lib.hid hNV.1
  have BN := Lib.hid hNV.2.2
  have VP10 := Lib.hid (show IsObj ((w4.alloc (.cells #[.int .i64 0, .int .i64 0, .int .i64 0, .int .i64 0, .int .i64 0, .int .i64 0, .int .i64 0] 31)).setCells w4.heap.size 0 (itCells x).toArray.toList) P10 31 (itCells x) by rw [hP10]; exact hNV.2.1)
  clear hNV hP10
  go_upto_region 7 with (refine wpList_store_mid (by rfl) 31 _ _ (by rfl) w4.heap.size 0 (itCells x).toArray (by rfl) (by rfl) (by exact TH.out) (by kernel_rfl) (it_one _) ?_; generalize (w4.alloc (.cells #[.int .i64 0, .int .i64 0, .int .i64 0, .int .i64 0, .int .i64 0, .int .i64 0, .int .i64 0] 31)).setCells w4.heap.size 0 (itCells x).toArray.toList = w5 at *)
  rw [← HP10.out]
  clear TH
  have OD5 := Lib.hid (IsObj.below OD4.out BN.out OD4.out.lt)
  have C5 := Lib.hid (C4.out.trans (BN.out.mono C4.out.size))
  have VX5 := Lib.hid (IsObj.below VX4.out BN.out VX4.out.lt)
  have VA5 := Lib.hid (IsObj.below VA4.out BN.out VA4.out.lt)
  clear OD4 C4 VX4 VA4
  have VB5 := VP10
  clear BN VP10
  go_wp2_with fail
  refine (nnext (fun w' _ => items_nil w')).mono ?_
  rintro e w6 ⟨rfl, b6⟩
  have OD6 := Lib.hid (IsObj.below OD5.out b6 OD5.out.lt)
  have C6 := Lib.hid (C5.out.trans (b6.mono C5.out.size))
  have VX6 := Lib.hid (IsObj.below VX5.out b6 VX5.out.lt)
  have VA6 := Lib.hid (IsObj.below VA5.out b6 VA5.out.lt)
  have VB6 := Lib.hid (IsObj.below VB5.out b6 VB5.out.lt)
  clear OD5 C5 VX5 VA5 VB5
  clear b6 
  have hNV := newvar w6 (itCells it0) [.int .i64 0, .int .i64 0, .int .i64 0, .int .i64 0, .int .i64 0, .int .i64 0, .int .i64 0] 31 rfl
  obtain ⟨P13, hP13⟩ : ∃ P13, P13 = w6.heap.size := ⟨_, rfl⟩
  have HP13 := Lib.hid hP13
  have TH := Lib.hid hNV.1
  have BN := Lib.hid hNV.2.2
  have VP13 := Lib.hid (show IsObj ((w6.alloc (.cells #[.int .i64 0, .int .i64 0, .int .i64 0, .int .i64 0, .int .i64 0, .int .i64 0, .int .i64 0] 31)).setCells w6.heap.size 0 (itCells it0).toArray.toList) P13 31 (itCells it0) by rw [hP13]; exact hNV.2.1)
  clear hNV hP13
  go_upto_region 8 with (refine wpList_store_mid (by rfl) 31 _ _ (by rfl) w6.heap.size 0 (itCells it0).toArray (by rfl) (by rfl) (by exact TH.out) (by kernel_rfl) (it_one _) ?_; generalize (w6.alloc (.cells #[.int .i64 0, .int .i64 0, .int .i64 0, .int .i64 0, .int .i64 0, .int .i64 0, .int .i64 0] 31)).setCells w6.heap.size 0 (itCells it0).toArray.toList = w7 at *)
  rw [← HP13.out]
  clear TH
  have OD7 := Lib.hid (IsObj.below OD6.out BN.out OD6.out.lt)
  have C7 := Lib.hid (C6.out.trans (BN.out.mono C6.out.size))
  have VX7 := Lib.hid (IsObj.below VX6.out BN.out VX6.out.lt)
  have VA7 := Lib.hid (IsObj.below VA6.out BN.out VA6.out.lt)
  have VB7 := Lib.hid (IsObj.below VB6.out BN.out VB6.out.lt)
  clear OD6 C6 VX6 VA6 VB6
  clear BN VP13
  have x0 : w7.cell? ⟨B, 0, none⟩ = some (.int .i64 x.id) := VX7.out.cell 0
  go_wp2_with fail
  refine (ntake x.id (fun w' hb => items_any (IsObj.below OD7.out hb OD7.out.lt))).mono ?_
  rintro e w8 ⟨rfl, b8⟩
  have OD8 := Lib.hid (IsObj.below OD7.out b8 OD7.out.lt)
  have C8 := Lib.hid (C7.out.trans (b8.mono C7.out.size))
  have VX8 := Lib.hid (IsObj.below VX7.out b8 VX7.out.lt)
  have VA8 := Lib.hid (IsObj.below VA7.out b8 VA7.out.lt)
  have VB8 := Lib.hid (IsObj.below VB7.out b8 VB7.out.lt)
  clear OD7 C7 VX7 VA7 VB7
  clear b8 x0
  have hNV := newvar w8 (itCells it0) [.int .i64 0, .int .i64 0, .int .i64 0, .int .i64 0, .int .i64 0, .int .i64 0, .int .i64 0] 31 rfl
  obtain ⟨P15, hP15⟩ : ∃ P15, P15 = w8.heap.size := ⟨_, rfl⟩
  have HP15 := Lib.hid hP15
  have TH := Lib.hid hNV.1
  have BN := Lib.hid hNV.2.2
  have VP15 := Lib.hid (show IsObj ((w8.alloc (.cells #[.int .i64 0, .int .i64 0, .int .i64 0, .int .i64 0, .int .i64 0, .int .i64 0, .int .i64 0] 31)).setCells w8.heap.size 0 (itCells it0).toArray.toList) P15 31 (itCells it0) by rw [hP15]; exact hNV.2.1)
  clear hNV hP15
  go_upto_region 9 with (refine wpList_store_mid (by rfl) 31 _ _ (by rfl) w8.heap.size 0 (itCells it0).toArray (by rfl) (by rfl) (by exact TH.out) (by kernel_rfl) (it_one _) ?_; generalize (w8.alloc (.cells #[.int .i64 0, .int .i64 0, .int .i64 0, .int .i64 0, .int .i64 0, .int .i64 0, .int .i64 0] 31)).setCells w8.heap.size 0 (itCells it0).toArray.toList = w9 at *)
  rw [← HP15.out]
  clear TH
  have OD9 := Lib.hid (IsObj.below OD8.out BN.out OD8.out.lt)
  have C9 := Lib.hid (C8.out.trans (BN.out.mono C8.out.size))
  have VX9 := Lib.hid (IsObj.below VX8.out BN.out VX8.out.lt)
  have VA9 := Lib.hid (IsObj.below VA8.out BN.out VA8.out.lt)
  have VB9 := Lib.hid (IsObj.below VB8.out BN.out VB8.out.lt)
  clear OD8 C8 VX8 VA8 VB8
  clear BN VP15
  have x0 : w9.cell? ⟨B, 0, none⟩ = some (.int .i64 x.id) := VX9.out.cell 0
  have x1 : w9.cell? ⟨B, 1, none⟩ = some (.int .i64 x.lev) := VX9.out.cell 1
  have x2 : w9.cell? ⟨B, 2, none⟩ = some (.int .i64 x.frm) := VX9.out.cell 2
  have x3 : w9.cell? ⟨B, 3, none⟩ = some (.int .i64 x.dl) := VX9.out.cell 3
  have x4 : w9.cell? ⟨B, 4, none⟩ = some (.int .i64 x.bud) := VX9.out.cell 4
  have x5 : w9.cell? ⟨B, 5, none⟩ = some (.int .i64 x.since) := VX9.out.cell 5
  have x6 : w9.cell? ⟨B, 6, none⟩ = some (.int .i64 x.seq) := VX9.out.cell 6
  have y0 : w9.cell? ⟨P7, 0, none⟩ = some (.int .i64 x.id) := VA9.out.cell 0
  have y1 : w9.cell? ⟨P7, 1, none⟩ = some (.int .i64 x.lev) := VA9.out.cell 1
  have y2 : w9.cell? ⟨P7, 2, none⟩ = some (.int .i64 x.frm) := VA9.out.cell 2
  have y3 : w9.cell? ⟨P7, 3, none⟩ = some (.int .i64 x.dl) := VA9.out.cell 3
  have y4 : w9.cell? ⟨P7, 4, none⟩ = some (.int .i64 x.bud) := VA9.out.cell 4
  have y5 : w9.cell? ⟨P7, 5, none⟩ = some (.int .i64 x.since) := VA9.out.cell 5
  have y6 : w9.cell? ⟨P7, 6, none⟩ = some (.int .i64 x.seq) := VA9.out.cell 6
  have z0 : w9.cell? ⟨P10, 0, none⟩ = some (.int .i64 x.id) := VB9.out.cell 0
  have z1 : w9.cell? ⟨P10, 1, none⟩ = some (.int .i64 x.lev) := VB9.out.cell 1
  have z2 : w9.cell? ⟨P10, 2, none⟩ = some (.int .i64 x.frm) := VB9.out.cell 2
  have z3 : w9.cell? ⟨P10, 3, none⟩ = some (.int .i64 x.dl) := VB9.out.cell 3
  have z4 : w9.cell? ⟨P10, 4, none⟩ = some (.int .i64 x.bud) := VB9.out.cell 4
  have z5 : w9.cell? ⟨P10, 5, none⟩ = some (.int .i64 x.since) := VB9.out.cell 5
  have z6 : w9.cell? ⟨P10, 6, none⟩ = some (.int .i64 x.seq) := VB9.out.cell 6
  go_wp2_with fail
  refine (nhas x.id (items_nil w9)).mono ?_
  rintro e w10 ⟨rfl, b10⟩
  have OD10 := Lib.hid (IsObj.below OD9.out b10 OD9.out.lt)
  have C10 := Lib.hid (C9.out.trans (b10.mono C9.out.size))
  have VX10 := Lib.hid (IsObj.below VX9.out b10 VX9.out.lt)
  have VA10 := Lib.hid (IsObj.below VA9.out b10 VA9.out.lt)
  have VB10 := Lib.hid (IsObj.below VB9.out b10 VB9.out.lt)
  clear OD9 C9 VX9 VA9 VB9
  clear b10 x0 x1 x2 x3 x4 x5 x6 y0 z0 y1 z1 y2 z2 y3 z3 y4 z4 y5 z5 y6 z6
  have x0 : w10.cell? ⟨B, 0, none⟩ = some (.int .i64 x.id) := VX10.out.cell 0
  go_wp2_with fail
  refine (nhas x.id (items_any OD10.out)).mono ?_
  rintro e w11 ⟨rfl, b11⟩
  have OD11 := Lib.hid (IsObj.below OD10.out b11 OD10.out.lt)
  have C11 := Lib.hid (C10.out.trans (b11.mono C10.out.size))
  have VX11 := Lib.hid (IsObj.below VX10.out b11 VX10.out.lt)
  have VA11 := Lib.hid (IsObj.below VA10.out b11 VA10.out.lt)
  have VB11 := Lib.hid (IsObj.below VB10.out b11 VB10.out.lt)
  clear OD10 C10 VX10 VA10 VB10
  clear b11 x0
  go_wp2_with fail
  refine (qroom_nil w11).mono ?_
  rintro e w12 ⟨rfl, b12⟩
  have OD12 := Lib.hid (IsObj.below OD11.out b12 OD11.out.lt)
  have C12 := Lib.hid (C11.out.trans (b12.mono C11.out.size))
  have VX12 := Lib.hid (IsObj.below VX11.out b12 VX11.out.lt)
  have VA12 := Lib.hid (IsObj.below VA11.out b12 VA11.out.lt)
  have VB12 := Lib.hid (IsObj.below VB11.out b12 VB11.out.lt)
  clear OD11 C11 VX11 VA11 VB11
  clear b12 
  go_wp2_with fail
  refine (nroom OD12.out).mono ?_
  rintro e w13 ⟨rfl, b13⟩
  have OD13 := Lib.hid (IsObj.below OD12.out b13 OD12.out.lt)
  have C13 := Lib.hid (C12.out.trans (b13.mono C12.out.size))
  have VX13 := Lib.hid (IsObj.below VX12.out b13 VX12.out.lt)
  have VA13 := Lib.hid (IsObj.below VA12.out b13 VA12.out.lt)
  have VB13 := Lib.hid (IsObj.below VB12.out b13 VB12.out.lt)
  clear OD12 C12 VX12 VA12 VB12
  clear b13 
  go_wp2_with fail
  refine (nall (items_nil w13)).mono ?_
  rintro e w14 ⟨rfl, rfl⟩
  go_wp2_with fail
  refine (nall (items_any OD13.out)).mono ?_
  rintro e w14 ⟨rfl, rfl⟩
  go_wp2_with fail
  refine (nsweep now (fun w' _ => items_nil w')).mono ?_
  rintro e w14 ⟨rfl, b14⟩
  have OD14 := Lib.hid (IsObj.below OD13.out b14 OD13.out.lt)
  have C14 := Lib.hid (C13.out.trans (b14.mono C13.out.size))
  have VX14 := Lib.hid (IsObj.below VX13.out b14 VX13.out.lt)
  have VA14 := Lib.hid (IsObj.below VA13.out b14 VA13.out.lt)
  have VB14 := Lib.hid (IsObj.below VB13.out b14 VB13.out.lt)
  clear OD13 C13 VX13 VA13 VB13
  clear b14 
  go_wp2_with fail
  refine (nsweep now (fun w' hb => items_any (IsObj.below OD14.out hb OD14.out.lt))).mono ?_
  rintro e w15 ⟨rfl, b15⟩
  have OD15 := Lib.hid (IsObj.below OD14.out b15 OD14.out.lt)
  have C15 := Lib.hid (C14.out.trans (b15.mono C14.out.size))
  have VX15 := Lib.hid (IsObj.below VX14.out b15 VX14.out.lt)
  have VA15 := Lib.hid (IsObj.below VA14.out b15 VA14.out.lt)
  have VB15 := Lib.hid (IsObj.below VB14.out b15 VB14.out.lt)
  clear OD14 C14 VX14 VA14 VB14
  clear b15 
  go_wp2_with fail
  refine (awake13 w15).mono ?_
  rintro e w16 ⟨rfl, b16⟩
  go_wp2_with fail
  go_ret
  exact ⟨rfl, C15.out.trans (b16.mono C15.out.size)⟩
theorem qnobody_done : Walk 9 Try.f9 := by
  intro W args hs hc
  rw [Try.params9] at hs hc
  obtain ⟨l⟩ := args
  match l, hs with
  | [v0, v1], _ =>
    obtain ⟨l0, rfl, f0⟩ := came_struct Try.underlying31 opens_item (hc 0 31 v0 rfl rfl)
    obtain ⟨x, rfl, hx⟩ := it_ok l0 f0
    obtain ⟨now, rfl, _⟩ := came_int Try.underlying3 (hc 1 3 v1 rfl rfl)
    exact qnobody_walk x now W hx
end Go.Proofs.Ytmanmebgmhpilaa
