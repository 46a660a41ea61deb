/-
  Layer 12 (pile): the statements' own 'same': of whatever pile answers as the row says.
-/
import Derived.Test.YtmanmebgmhpilaaRefF
import Derived.Test.YtmanmebgmhpilaaPile12
namespace Go.Proofs.Ytmanmebgmhpilaa
open Go.RowKit
set_option linter.unusedVariables false
set_option linter.unusedSimpArgs false

set_option maxRecDepth 100000 in
set_option maxHeartbeats 4000000 in
theorem same_none (pv : Value) (a : Option Addr) (c : Nat) (id : Int) (w : World) (hA : RowOf itCells 7 w a []) (hk : fnd [] id = (-1))
    (hpeek : ∀ w', Below w.heap.size w w' → Calls Try.prog 44 #[pv] w' fun e w2 => e = .returned (.tuple #[.agg (itCells it0).toArray, .bool false]) ∧ Below w'.heap.size w' w2)
    (hget : ∀ w', Below w.heap.size w w' → Calls Try.prog 28 #[pv, .int .i64 id] w' fun e w2 => e = .returned (.tuple #[.agg (itCells it0).toArray, .bool false]) ∧ Below w'.heap.size w' w2)
    (hlen : ∀ w', Below w.heap.size w w' → Calls Try.prog 16 #[pv] w' fun e w2 => e = .returned (.int .i64 ([] : List It).length) ∧ w' = w2)
    (hall : ∀ w', Below w.heap.size w w' → Calls Try.prog 27 #[pv] w' fun e w2 => ∃ a2 c2, e = .returned (.slice a2 ([] : List It).length c2) ∧ RowOf itCells 7 w2 a2 [] ∧ Below w'.heap.size w' w2) :
    Calls Try.prog 26 #[pv, .slice a ([] : List It).length c, .int .i64 id] w fun e w' => e = .returned (.bool true) ∧ Below w.heap.size w w' := by
  have HRow := Lib.hid hA
  have HP := Lib.hid hpeek
  have HG := Lib.hid hget
  have HL := Lib.hid hlen
  have HAL := Lib.hid hall
  have HK := Lib.hid hk
  clear hA hpeek hget hlen hall hk
  go_enter Try.func26, Try.ntmps26
  go_wp2_with fail
  refine (HP.out _ (Below.refl _ _)).mono ?_
  rintro e w1 ⟨rfl, b1⟩
  have B1 := Lib.hid b1
  clear b1
  have hNV := newvar w1 (itCells it0) [.int .i64 0, .int .i64 0, .int .i64 0, .int .i64 0, .int .i64 0, .int .i64 0, .int .i64 0] 31 rfl
  obtain ⟨A, hA⟩ : ∃ A, A = w1.heap.size := ⟨_, rfl⟩
  have HA := Lib.hid hA
  have TH := Lib.hid hNV.1
  have BN := Lib.hid hNV.2.2
  have VA := Lib.hid (show IsObj ((w1.alloc (.cells #[.int .i64 0, .int .i64 0, .int .i64 0, .int .i64 0, .int .i64 0, .int .i64 0, .int .i64 0] 31)).setCells w1.heap.size 0 (itCells it0).toArray.toList) A 31 (itCells it0) by rw [hA]; exact hNV.2.1)
  clear hNV hA
  go_upto_region 2 with (refine wpList_store_mid (by rfl) 31 _ _ (by rfl) w1.heap.size 0 (itCells it0).toArray (by rfl) (by rfl) (by exact TH.out) (by kernel_rfl) (it_one _) ?_; generalize (w1.alloc (.cells #[.int .i64 0, .int .i64 0, .int .i64 0, .int .i64 0, .int .i64 0, .int .i64 0, .int .i64 0] 31)).setCells w1.heap.size 0 (itCells it0).toArray.toList = w2 at *)
  rw [← HA.out]
  clear TH
  have B2 := Lib.hid (B1.out.trans (BN.out.mono B1.out.size))
  clear BN B1
  go_wp2_with fail
  refine (HG.out _ B2.out).mono ?_
  rintro e w3 ⟨rfl, b3⟩
  have B3 := Lib.hid (B2.out.trans (b3.mono B2.out.size))
  have VA3 := Lib.hid (IsObj.below VA.out b3 VA.out.lt)
  clear b3 B2 VA
  have hNV := newvar w3 (itCells it0) [.int .i64 0, .int .i64 0, .int .i64 0, .int .i64 0, .int .i64 0, .int .i64 0, .int .i64 0] 31 rfl
  obtain ⟨G, hG⟩ : ∃ G, G = w3.heap.size := ⟨_, rfl⟩
  have HG := Lib.hid hG
  have TH := Lib.hid hNV.1
  have BN := Lib.hid hNV.2.2
  have VG := Lib.hid (show IsObj ((w3.alloc (.cells #[.int .i64 0, .int .i64 0, .int .i64 0, .int .i64 0, .int .i64 0, .int .i64 0, .int .i64 0] 31)).setCells w3.heap.size 0 (itCells it0).toArray.toList) G 31 (itCells it0) by rw [hG]; exact hNV.2.1)
  clear hNV hG
  go_upto_region 3 with (refine wpList_store_mid (by rfl) 31 _ _ (by rfl) w3.heap.size 0 (itCells it0).toArray (by rfl) (by rfl) (by exact TH.out) (by kernel_rfl) (it_one _) ?_; generalize (w3.alloc (.cells #[.int .i64 0, .int .i64 0, .int .i64 0, .int .i64 0, .int .i64 0, .int .i64 0, .int .i64 0] 31)).setCells w3.heap.size 0 (itCells it0).toArray.toList = w4 at *)
  rw [← HG.out]
  clear TH
  have B4 := Lib.hid (B3.out.trans (BN.out.mono B3.out.size))
  have VA4 := Lib.hid (IsObj.below VA3.out BN.out VA3.out.lt)
  clear BN B3 VA3
  have HA4 := Lib.hid (HRow.out.same itCells_len B4.out)
  go_wp2_with fail
  refine (rfind_any a c [] id w4 (by decide) HA4.out).mono ?_
  rw [HK.out]
  rintro e w5 ⟨rfl, rfl⟩
  go_upto_region 4 with (fail)
  have p0 : w4.cell? ⟨A, 0, none⟩ = some (.int .i64 0) := VA4.out.cell 0
  have p1 : w4.cell? ⟨A, 1, none⟩ = some (.int .i64 0) := VA4.out.cell 1
  have p2 : w4.cell? ⟨A, 2, none⟩ = some (.int .i64 0) := VA4.out.cell 2
  have p3 : w4.cell? ⟨A, 3, none⟩ = some (.int .i64 0) := VA4.out.cell 3
  have p4 : w4.cell? ⟨A, 4, none⟩ = some (.int .i64 0) := VA4.out.cell 4
  have p5 : w4.cell? ⟨A, 5, none⟩ = some (.int .i64 0) := VA4.out.cell 5
  have p6 : w4.cell? ⟨A, 6, none⟩ = some (.int .i64 0) := VA4.out.cell 6
  have q0 : w4.cell? ⟨G, 0, none⟩ = some (.int .i64 0) := VG.out.cell 0
  have q1 : w4.cell? ⟨G, 1, none⟩ = some (.int .i64 0) := VG.out.cell 1
  have q2 : w4.cell? ⟨G, 2, none⟩ = some (.int .i64 0) := VG.out.cell 2
  have q3 : w4.cell? ⟨G, 3, none⟩ = some (.int .i64 0) := VG.out.cell 3
  have q4 : w4.cell? ⟨G, 4, none⟩ = some (.int .i64 0) := VG.out.cell 4
  have q5 : w4.cell? ⟨G, 5, none⟩ = some (.int .i64 0) := VG.out.cell 5
  have q6 : w4.cell? ⟨G, 6, none⟩ = some (.int .i64 0) := VG.out.cell 6
  go_quiet (fail)
  have hbd : Below w4.heap.size w4 (w4.drewN nq) := below_drewN (Below.refl _ _) nq
  have B5 := Lib.hid (B4.out.trans (hbd.mono B4.out.size))
  clear hbd B4 HA4 p0 q0 p1 q1 p2 q2 p3 q3 p4 q4 p5 q5 p6 q6
  generalize w4.drewN nq = w5 at *
  go_wp2_with fail
  refine (HL.out _ B5.out).mono ?_
  rintro e w6 ⟨rfl, rfl⟩
  go_wp2_with fail
  refine (HAL.out _ B5.out).mono ?_
  rintro e w6 ⟨a2, c2, rfl, hr2, b6⟩
  have B6 := Lib.hid (B5.out.trans (b6.mono B5.out.size))
  have HA6 := Lib.hid (HRow.out.same itCells_len B6.out)
  have HR2 := Lib.hid hr2
  clear hr2 b6
  go_wp2_with fail
  refine (isame_eq a2 _ c2 c [] w6 (by decide) HR2.out HA6.out).mono ?_
  rintro e w7 ⟨rfl, b7⟩
  go_wp2_with fail
  go_ret
  exact ⟨rfl, B6.out.trans (b7.mono B6.out.size)⟩
set_option maxRecDepth 100000 in
set_option maxHeartbeats 4000000 in
theorem same_out (pv : Value) (X : List It) (y : It) (a : Option Addr) (c : Nat) (id : Int) (w : World) (hA : RowOf itCells 7 w a X) (h64 : X.length ≤ 64) (h0 : 0 < X.length) (hy : nth X 0 = y) (hk : fnd X id = (-1))
    (hpeek : ∀ w', Below w.heap.size w w' → Calls Try.prog 44 #[pv] w' fun e w2 => e = .returned (.tuple #[.agg (itCells y).toArray, .bool true]) ∧ Below w'.heap.size w' w2)
    (hget : ∀ w', Below w.heap.size w w' → Calls Try.prog 28 #[pv, .int .i64 id] w' fun e w2 => e = .returned (.tuple #[.agg (itCells it0).toArray, .bool false]) ∧ Below w'.heap.size w' w2)
    (hlen : ∀ w', Below w.heap.size w w' → Calls Try.prog 16 #[pv] w' fun e w2 => e = .returned (.int .i64 (X : List It).length) ∧ w' = w2)
    (hall : ∀ w', Below w.heap.size w w' → Calls Try.prog 27 #[pv] w' fun e w2 => ∃ a2 c2, e = .returned (.slice a2 (X : List It).length c2) ∧ RowOf itCells 7 w2 a2 X ∧ Below w'.heap.size w' w2) :
    Calls Try.prog 26 #[pv, .slice a (X : List It).length c, .int .i64 id] w fun e w' => e = .returned (.bool true) ∧ Below w.heap.size w w' := by
  have HRow := Lib.hid hA
  have HP := Lib.hid hpeek
  have HG := Lib.hid hget
  have HL := Lib.hid hlen
  have HAL := Lib.hid hall
  have HK := Lib.hid hk
  clear hA hpeek hget hlen hall hk
  go_enter Try.func26, Try.ntmps26
  go_wp2_with fail
  refine (HP.out _ (Below.refl _ _)).mono ?_
  rintro e w1 ⟨rfl, b1⟩
  have B1 := Lib.hid b1
  clear b1
  have hNV := newvar w1 (itCells y) [.int .i64 0, .int .i64 0, .int .i64 0, .int .i64 0, .int .i64 0, .int .i64 0, .int .i64 0] 31 rfl
  obtain ⟨A, hA⟩ : ∃ A, A = w1.heap.size := ⟨_, rfl⟩
  have HA := Lib.hid hA
  have TH := Lib.hid hNV.1
  have BN := Lib.hid hNV.2.2
  have VA := Lib.hid (show IsObj ((w1.alloc (.cells #[.int .i64 0, .int .i64 0, .int .i64 0, .int .i64 0, .int .i64 0, .int .i64 0, .int .i64 0] 31)).setCells w1.heap.size 0 (itCells y).toArray.toList) A 31 (itCells y) by rw [hA]; exact hNV.2.1)
  clear hNV hA
  go_upto_region 2 with (refine wpList_store_mid (by rfl) 31 _ _ (by rfl) w1.heap.size 0 (itCells y).toArray (by rfl) (by rfl) (by exact TH.out) (by kernel_rfl) (it_one _) ?_; generalize (w1.alloc (.cells #[.int .i64 0, .int .i64 0, .int .i64 0, .int .i64 0, .int .i64 0, .int .i64 0, .int .i64 0] 31)).setCells w1.heap.size 0 (itCells y).toArray.toList = w2 at *)
  rw [← HA.out]
  clear TH
  have B2 := Lib.hid (B1.out.trans (BN.out.mono B1.out.size))
  clear BN B1
  go_wp2_with fail
  refine (HG.out _ B2.out).mono ?_
  rintro e w3 ⟨rfl, b3⟩
  have B3 := Lib.hid (B2.out.trans (b3.mono B2.out.size))
  have VA3 := Lib.hid (IsObj.below VA.out b3 VA.out.lt)
  clear b3 B2 VA
  have hNV := newvar w3 (itCells it0) [.int .i64 0, .int .i64 0, .int .i64 0, .int .i64 0, .int .i64 0, .int .i64 0, .int .i64 0] 31 rfl
  obtain ⟨G, hG⟩ : ∃ G, G = w3.heap.size := ⟨_, rfl⟩
  have HG := Lib.hid hG
  have TH := Lib.hid hNV.1
  have BN := Lib.hid hNV.2.2
  have VG := Lib.hid (show IsObj ((w3.alloc (.cells #[.int .i64 0, .int .i64 0, .int .i64 0, .int .i64 0, .int .i64 0, .int .i64 0, .int .i64 0] 31)).setCells w3.heap.size 0 (itCells it0).toArray.toList) G 31 (itCells it0) by rw [hG]; exact hNV.2.1)
  clear hNV hG
  go_upto_region 3 with (refine wpList_store_mid (by rfl) 31 _ _ (by rfl) w3.heap.size 0 (itCells it0).toArray (by rfl) (by rfl) (by exact TH.out) (by kernel_rfl) (it_one _) ?_; generalize (w3.alloc (.cells #[.int .i64 0, .int .i64 0, .int .i64 0, .int .i64 0, .int .i64 0, .int .i64 0, .int .i64 0] 31)).setCells w3.heap.size 0 (itCells it0).toArray.toList = w4 at *)
  rw [← HG.out]
  clear TH
  have B4 := Lib.hid (B3.out.trans (BN.out.mono B3.out.size))
  have VA4 := Lib.hid (IsObj.below VA3.out BN.out VA3.out.lt)
  clear BN B3 VA3
  have HA4 := Lib.hid (HRow.out.same itCells_len B4.out)
  go_wp2_with fail
  refine (rfind_any a c X id w4 (by omega) HA4.out).mono ?_
  rw [HK.out]
  rintro e w5 ⟨rfl, rfl⟩
  go_upto_region 4 with (fail)
  have p0 : w4.cell? ⟨A, 0, none⟩ = some (.int .i64 y.id) := VA4.out.cell 0
  have p1 : w4.cell? ⟨A, 1, none⟩ = some (.int .i64 y.lev) := VA4.out.cell 1
  have p2 : w4.cell? ⟨A, 2, none⟩ = some (.int .i64 y.frm) := VA4.out.cell 2
  have p3 : w4.cell? ⟨A, 3, none⟩ = some (.int .i64 y.dl) := VA4.out.cell 3
  have p4 : w4.cell? ⟨A, 4, none⟩ = some (.int .i64 y.bud) := VA4.out.cell 4
  have p5 : w4.cell? ⟨A, 5, none⟩ = some (.int .i64 y.since) := VA4.out.cell 5
  have p6 : w4.cell? ⟨A, 6, none⟩ = some (.int .i64 y.seq) := VA4.out.cell 6
  have q0 : w4.cell? ⟨G, 0, none⟩ = some (.int .i64 0) := VG.out.cell 0
  have q1 : w4.cell? ⟨G, 1, none⟩ = some (.int .i64 0) := VG.out.cell 1
  have q2 : w4.cell? ⟨G, 2, none⟩ = some (.int .i64 0) := VG.out.cell 2
  have q3 : w4.cell? ⟨G, 3, none⟩ = some (.int .i64 0) := VG.out.cell 3
  have q4 : w4.cell? ⟨G, 4, none⟩ = some (.int .i64 0) := VG.out.cell 4
  have q5 : w4.cell? ⟨G, 5, none⟩ = some (.int .i64 0) := VG.out.cell 5
  have q6 : w4.cell? ⟨G, 6, none⟩ = some (.int .i64 0) := VG.out.cell 6
  obtain ⟨bx, off, rfl, hc4⟩ : ∃ b off, a = some ⟨b, off, none⟩ ∧ ∀ i, i < X.length → ∀ j, j < 7 → w4.cell? ⟨b, off + i * 7 + j, none⟩ = (itCells (nth X i))[j]? := by
    rcases HA4.out with h | h
    · rw [h] at h0; simp at h0
    · exact h
  obtain ⟨u0, u1, u2, u3, u4, u5, u6⟩ := item_cells hc4 0 (by omega)
  rw [Nat.zero_mul, Nat.add_zero, hy] at u0 u1 u2 u3 u4 u5 u6
  have g0 : (0 : Int) < (X.length : Int) := by omega
  have g1 : decide ((0 : Int) < (X.length : Int)) = true := decide_eq_true g0
  clear hc4
  go_quiet (fail)
  have hbd : Below w4.heap.size w4 (w4.drewN nq) := below_drewN (Below.refl _ _) nq
  have B5 := Lib.hid (B4.out.trans (hbd.mono B4.out.size))
  clear hbd B4 HA4 p0 q0 p1 q1 p2 q2 p3 q3 p4 q4 p5 q5 p6 q6 u0 u1 u2 u3 u4 u5 u6
  generalize w4.drewN nq = w5 at *
  go_wp2_with fail
  refine (HL.out _ B5.out).mono ?_
  rintro e w6 ⟨rfl, rfl⟩
  go_wp2_with fail
  refine (HAL.out _ B5.out).mono ?_
  rintro e w6 ⟨a2, c2, rfl, hr2, b6⟩
  have B6 := Lib.hid (B5.out.trans (b6.mono B5.out.size))
  have HA6 := Lib.hid (HRow.out.same itCells_len B6.out)
  have HR2 := Lib.hid hr2
  clear hr2 b6
  go_wp2_with fail
  refine (isame_eq a2 _ c2 c X w6 (by omega) HR2.out HA6.out).mono ?_
  rintro e w7 ⟨rfl, b7⟩
  go_wp2_with fail
  go_ret
  exact ⟨rfl, B6.out.trans (b7.mono B6.out.size)⟩
set_option maxRecDepth 100000 in
set_option maxHeartbeats 4000000 in
theorem same_in (pv : Value) (X : List It) (y z : It) (a : Option Addr) (c : Nat) (id : Int) (w : World) (hA : RowOf itCells 7 w a X) (h64 : X.length ≤ 64) (h0 : 0 < X.length) (hy : nth X 0 = y) (j : Nat) (hj : j < X.length) (hz : nth X j = z) (hk : fnd X id = (j : Int))
    (hpeek : ∀ w', Below w.heap.size w w' → Calls Try.prog 44 #[pv] w' fun e w2 => e = .returned (.tuple #[.agg (itCells y).toArray, .bool true]) ∧ Below w'.heap.size w' w2)
    (hget : ∀ w', Below w.heap.size w w' → Calls Try.prog 28 #[pv, .int .i64 id] w' fun e w2 => e = .returned (.tuple #[.agg (itCells z).toArray, .bool true]) ∧ Below w'.heap.size w' w2)
    (hlen : ∀ w', Below w.heap.size w w' → Calls Try.prog 16 #[pv] w' fun e w2 => e = .returned (.int .i64 (X : List It).length) ∧ w' = w2)
    (hall : ∀ w', Below w.heap.size w w' → Calls Try.prog 27 #[pv] w' fun e w2 => ∃ a2 c2, e = .returned (.slice a2 (X : List It).length c2) ∧ RowOf itCells 7 w2 a2 X ∧ Below w'.heap.size w' w2) :
    Calls Try.prog 26 #[pv, .slice a (X : List It).length c, .int .i64 id] w fun e w' => e = .returned (.bool true) ∧ Below w.heap.size w w' := by
  have HRow := Lib.hid hA
  have HP := Lib.hid hpeek
  have HG := Lib.hid hget
  have HL := Lib.hid hlen
  have HAL := Lib.hid hall
  have HK := Lib.hid hk
  clear hA hpeek hget hlen hall hk
  go_enter Try.func26, Try.ntmps26
  go_wp2_with fail
  refine (HP.out _ (Below.refl _ _)).mono ?_
  rintro e w1 ⟨rfl, b1⟩
  have B1 := Lib.hid b1
  clear b1
  have hNV := newvar w1 (itCells y) [.int .i64 0, .int .i64 0, .int .i64 0, .int .i64 0, .int .i64 0, .int .i64 0, .int .i64 0] 31 rfl
  obtain ⟨A, hA⟩ : ∃ A, A = w1.heap.size := ⟨_, rfl⟩
  have HA := Lib.hid hA
  have TH := Lib.hid hNV.1
  have BN := Lib.hid hNV.2.2
  have VA := Lib.hid (show IsObj ((w1.alloc (.cells #[.int .i64 0, .int .i64 0, .int .i64 0, .int .i64 0, .int .i64 0, .int .i64 0, .int .i64 0] 31)).setCells w1.heap.size 0 (itCells y).toArray.toList) A 31 (itCells y) by rw [hA]; exact hNV.2.1)
  clear hNV hA
  go_upto_region 2 with (refine wpList_store_mid (by rfl) 31 _ _ (by rfl) w1.heap.size 0 (itCells y).toArray (by rfl) (by rfl) (by exact TH.out) (by kernel_rfl) (it_one _) ?_; generalize (w1.alloc (.cells #[.int .i64 0, .int .i64 0, .int .i64 0, .int .i64 0, .int .i64 0, .int .i64 0, .int .i64 0] 31)).setCells w1.heap.size 0 (itCells y).toArray.toList = w2 at *)
  rw [← HA.out]
  clear TH
  have B2 := Lib.hid (B1.out.trans (BN.out.mono B1.out.size))
  clear BN B1
  go_wp2_with fail
  refine (HG.out _ B2.out).mono ?_
  rintro e w3 ⟨rfl, b3⟩
  have B3 := Lib.hid (B2.out.trans (b3.mono B2.out.size))
  have VA3 := Lib.hid (IsObj.below VA.out b3 VA.out.lt)
  clear b3 B2 VA
  have hNV := newvar w3 (itCells z) [.int .i64 0, .int .i64 0, .int .i64 0, .int .i64 0, .int .i64 0, .int .i64 0, .int .i64 0] 31 rfl
  obtain ⟨G, hG⟩ : ∃ G, G = w3.heap.size := ⟨_, rfl⟩
  have HG := Lib.hid hG
  have TH := Lib.hid hNV.1
  have BN := Lib.hid hNV.2.2
  have VG := Lib.hid (show IsObj ((w3.alloc (.cells #[.int .i64 0, .int .i64 0, .int .i64 0, .int .i64 0, .int .i64 0, .int .i64 0, .int .i64 0] 31)).setCells w3.heap.size 0 (itCells z).toArray.toList) G 31 (itCells z) by rw [hG]; exact hNV.2.1)
  clear hNV hG
  go_upto_region 3 with (refine wpList_store_mid (by rfl) 31 _ _ (by rfl) w3.heap.size 0 (itCells z).toArray (by rfl) (by rfl) (by exact TH.out) (by kernel_rfl) (it_one _) ?_; generalize (w3.alloc (.cells #[.int .i64 0, .int .i64 0, .int .i64 0, .int .i64 0, .int .i64 0, .int .i64 0, .int .i64 0] 31)).setCells w3.heap.size 0 (itCells z).toArray.toList = w4 at *)
  rw [← HG.out]
  clear TH
  have B4 := Lib.hid (B3.out.trans (BN.out.mono B3.out.size))
  have VA4 := Lib.hid (IsObj.below VA3.out BN.out VA3.out.lt)
  clear BN B3 VA3
  have HA4 := Lib.hid (HRow.out.same itCells_len B4.out)
  go_wp2_with fail
  refine (rfind_any a c X id w4 (by omega) HA4.out).mono ?_
  rw [HK.out]
  rintro e w5 ⟨rfl, rfl⟩
  go_upto_region 4 with (fail)
  have p0 : w4.cell? ⟨A, 0, none⟩ = some (.int .i64 y.id) := VA4.out.cell 0
  have p1 : w4.cell? ⟨A, 1, none⟩ = some (.int .i64 y.lev) := VA4.out.cell 1
  have p2 : w4.cell? ⟨A, 2, none⟩ = some (.int .i64 y.frm) := VA4.out.cell 2
  have p3 : w4.cell? ⟨A, 3, none⟩ = some (.int .i64 y.dl) := VA4.out.cell 3
  have p4 : w4.cell? ⟨A, 4, none⟩ = some (.int .i64 y.bud) := VA4.out.cell 4
  have p5 : w4.cell? ⟨A, 5, none⟩ = some (.int .i64 y.since) := VA4.out.cell 5
  have p6 : w4.cell? ⟨A, 6, none⟩ = some (.int .i64 y.seq) := VA4.out.cell 6
  have q0 : w4.cell? ⟨G, 0, none⟩ = some (.int .i64 z.id) := VG.out.cell 0
  have q1 : w4.cell? ⟨G, 1, none⟩ = some (.int .i64 z.lev) := VG.out.cell 1
  have q2 : w4.cell? ⟨G, 2, none⟩ = some (.int .i64 z.frm) := VG.out.cell 2
  have q3 : w4.cell? ⟨G, 3, none⟩ = some (.int .i64 z.dl) := VG.out.cell 3
  have q4 : w4.cell? ⟨G, 4, none⟩ = some (.int .i64 z.bud) := VG.out.cell 4
  have q5 : w4.cell? ⟨G, 5, none⟩ = some (.int .i64 z.since) := VG.out.cell 5
  have q6 : w4.cell? ⟨G, 6, none⟩ = some (.int .i64 z.seq) := VG.out.cell 6
  obtain ⟨bx, off, rfl, hc4⟩ : ∃ b off, a = some ⟨b, off, none⟩ ∧ ∀ i, i < X.length → ∀ j, j < 7 → w4.cell? ⟨b, off + i * 7 + j, none⟩ = (itCells (nth X i))[j]? := by
    rcases HA4.out with h | h
    · rw [h] at h0; simp at h0
    · exact h
  obtain ⟨u0, u1, u2, u3, u4, u5, u6⟩ := item_cells hc4 0 (by omega)
  rw [Nat.zero_mul, Nat.add_zero, hy] at u0 u1 u2 u3 u4 u5 u6
  have g0 : (0 : Int) < (X.length : Int) := by omega
  have g1 : decide ((0 : Int) < (X.length : Int)) = true := decide_eq_true g0
  obtain ⟨v0, v1, v2, v3, v4, v5, v6⟩ := item_cells hc4 j (by omega)
  rw [hz] at v0 v1 v2 v3 v4 v5 v6
  have g2 : (0 : Int) ≤ (j : Int) := by omega
  have g3 : (j : Int) < (X.length : Int) := by omega
  have g4 : decide ((0 : Int) ≤ (j : Int)) = true := decide_eq_true g2
  clear hc4
  go_quiet (fail)
  have hbd : Below w4.heap.size w4 (w4.drewN nq) := below_drewN (Below.refl _ _) nq
  have B5 := Lib.hid (B4.out.trans (hbd.mono B4.out.size))
  clear hbd B4 HA4 p0 q0 p1 q1 p2 q2 p3 q3 p4 q4 p5 q5 p6 q6 u0 u1 u2 u3 u4 u5 u6 v0 v1 v2 v3 v4 v5 v6
  generalize w4.drewN nq = w5 at *
  go_wp2_with fail
  refine (HL.out _ B5.out).mono ?_
  rintro e w6 ⟨rfl, rfl⟩
  go_wp2_with fail
  refine (HAL.out _ B5.out).mono ?_
  rintro e w6 ⟨a2, c2, rfl, hr2, b6⟩
  have B6 := Lib.hid (B5.out.trans (b6.mono B5.out.size))
  have HA6 := Lib.hid (HRow.out.same itCells_len B6.out)
  have HR2 := Lib.hid hr2
  clear hr2 b6
  go_wp2_with fail
  refine (isame_eq a2 _ c2 c X w6 (by omega) HR2.out HA6.out).mono ?_
  rintro e w7 ⟨rfl, b7⟩
  go_wp2_with fail
  go_ret
  exact ⟨rfl, B6.out.trans (b7.mono B6.out.size)⟩
end Go.Proofs.Ytmanmebgmhpilaa
