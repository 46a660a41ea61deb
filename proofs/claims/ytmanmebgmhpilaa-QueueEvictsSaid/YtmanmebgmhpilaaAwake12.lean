/-
  Layer 12 (pile): awake.
-/
import Derived.Test.YtmanmebgmhpilaaHeapC
import Derived.Test.YtmanmebgmhpilaaPile10
namespace Go.Proofs.Ytmanmebgmhpilaa
open Go.RowKit
set_option linter.unusedVariables false
set_option linter.unusedSimpArgs false

/-- A variable that is made and filled. -/
theorem newvar (W : World) (cs zs : List Value) (ty : TypeId) (hl : cs.length = zs.length) : (W.alloc (.cells zs.toArray ty)).there W.heap.size 0 cs.toArray.size ∧ IsObj ((W.alloc (.cells zs.toArray ty)).setCells W.heap.size 0 cs.toArray.toList) W.heap.size ty cs ∧ Below W.heap.size W ((W.alloc (.cells zs.toArray ty)).setCells W.heap.size 0 cs.toArray.toList) := by
  have o := IsObj.new W ty zs
  have hO := Only.setCells (b := W.heap.size) cs 0 (Only.refl W.heap.size (W.alloc (.cells zs.toArray ty)))
  have b1 : Below W.heap.size W (W.alloc (.cells zs.toArray ty)) := (Below.refl _ W).alloc (Nat.le_refl _) _
  exact ⟨IsObj.there o 0 cs.length (by omega), IsObj.setAll o hl, b1.trans (hO.below (Nat.le_refl _) (by simp))⟩
theorem PAt.young {w : World} {p M G : Nat} {most : Int} {tv : Value} {T : List It} (h : PAt w p M most tv T) (hG : G = w.heap.size) : G ≠ p ∧ G ≠ M ∧ some G ≠ tv.ownBlock := by
  obtain ⟨D, hr, _⟩ := h.raw
  have h1 := hr.o.lt
  have h2 := hr.m.lt
  exact ⟨by omega, by omega, fun e => by have := (hr.t.lt G e.symm).2; omega⟩
theorem Frp.toBelow {w w' : World} {p M H : Nat} {tv' : Value} (f : Frp p M (.slice none 0 0) tv' w w') (h1 : H ≤ M) (h2 : H ≤ p) (h3 : H ≤ w.heap.size) : Below H w w' :=
  ⟨f.os, f.tape, f.output, f.size, fun k hk => f.block k (by omega) (by omega) (by omega) (by simp [Value.ownBlock])⟩
set_option maxRecDepth 100000 in
set_option maxHeartbeats 2000000 in
theorem awake12 (w : World) : Calls Try.prog 10 #[] w fun e w' => e = .returned (.bool true) ∧ Below w.heap.size w w' := by
  obtain ⟨p, hp⟩ : ∃ p, p = w.heap.size + 1 := ⟨_, rfl⟩
  obtain ⟨M, hM⟩ : ∃ M, M = w.heap.size := ⟨_, rfl⟩
  have K0 := pnew_ok 3 w (by decide) (by decide)
  rw [← hp, ← hM] at K0
  have K := Lib.hid K0
  have HM := Lib.hid (And.intro hp hM)
  clear hp hM K0
  go_enter Try.func10, Try.ntmps10
  go_wp2_with fail
  refine K.out.mono ?_
  rintro e w1 ⟨rfl, h1, b1⟩
  have HP1 := Lib.hid h1
  have B1 := Lib.hid b1
  clear h1 b1 K
  go_wp2_with fail
  refine (ppush_ok ia HP1.out (by decide) (by decide) (by decide) (by decide)).mono ?_
  rintro e w2 ⟨rfl, tv2, h2, f2⟩
  rw [aw1] at h2
  have HP2 := Lib.hid h2
  have F2 := Lib.hid (f2)
  clear h2 f2
  go_wp2_with fail
  refine (ppush_ok ib HP2.out (by decide) (by decide) (by decide) (by decide)).mono ?_
  rintro e w3 ⟨rfl, tv3, h3, f3⟩
  rw [aw2] at h3
  have HP3 := Lib.hid h3
  have F3 := Lib.hid (F2.out.trans f3)
  clear h3 f3
  go_wp2_with fail
  refine (ppush_ok ic HP3.out (by decide) (by decide) (by decide) (by decide)).mono ?_
  rintro e w4 ⟨rfl, tv4, h4, f4⟩
  rw [aw3] at h4
  have HP4 := Lib.hid h4
  have F4 := Lib.hid (F3.out.trans f4)
  clear h4 f4
  go_wp2_with fail
  refine (ppop_any HP4.out (by decide)).mono ?_
  rintro e w5 ⟨rfl, tv5, h5, f5⟩
  rw [aw4] at h5
  have hNV := newvar w5 (itCells ib) [.int .i64 0, .int .i64 0, .int .i64 0, .int .i64 0, .int .i64 0, .int .i64 0, .int .i64 0] 31 rfl
  obtain ⟨X, hX⟩ : ∃ X, X = w5.heap.size := ⟨_, rfl⟩
  have HX := Lib.hid hX
  have TH := Lib.hid hNV.1
  have HP6 := Lib.hid (h5.same hNV.2.2)
  have fn := f5.trans (Frp.below hNV.2.2)
  have F6 := Lib.hid (F4.out.trans fn)
  have VX := Lib.hid (show IsObj ((w5.alloc (.cells #[.int .i64 0, .int .i64 0, .int .i64 0, .int .i64 0, .int .i64 0, .int .i64 0, .int .i64 0] 31)).setCells w5.heap.size 0 (itCells ib).toArray.toList) X 31 (itCells ib) by rw [hX]; exact hNV.2.1)
  have LX := Lib.hid (h5.young hX)
  have GX6 := Lib.hid (Frp.refl (p := p) (M := M) (tv := tv5) ((w5.alloc (.cells #[.int .i64 0, .int .i64 0, .int .i64 0, .int .i64 0, .int .i64 0, .int .i64 0, .int .i64 0] 31)).setCells w5.heap.size 0 (itCells ib).toArray.toList))
  clear hNV h5 f5 hX fn
  go_upto_region 6 with (refine wpList_store_mid (by rfl) 31 _ _ (by rfl) w5.heap.size 0 (itCells ib).toArray (by rfl) (by rfl) (by exact TH.out) (by kernel_rfl) (it_one _) ?_; generalize (w5.alloc (.cells #[.int .i64 0, .int .i64 0, .int .i64 0, .int .i64 0, .int .i64 0, .int .i64 0, .int .i64 0] 31)).setCells w5.heap.size 0 (itCells ib).toArray.toList = w6 at *)
  rw [← HX.out]
  clear TH
  go_wp2_with fail
  refine (ptake_in 0 HP6.out (by decide)).mono ?_
  rintro e w7 ⟨rfl, tv7, h7, f7⟩
  rw [aw5] at h7
  have hNV := newvar w7 (itCells ic) [.int .i64 0, .int .i64 0, .int .i64 0, .int .i64 0, .int .i64 0, .int .i64 0, .int .i64 0] 31 rfl
  obtain ⟨Y, hY⟩ : ∃ Y, Y = w7.heap.size := ⟨_, rfl⟩
  have HY := Lib.hid hY
  have TH := Lib.hid hNV.1
  have HP8 := Lib.hid (h7.same hNV.2.2)
  have fn := f7.trans (Frp.below hNV.2.2)
  have F8 := Lib.hid (F6.out.trans fn)
  have GX8 := Lib.hid (GX6.out.trans fn)
  have VY := Lib.hid (show IsObj ((w7.alloc (.cells #[.int .i64 0, .int .i64 0, .int .i64 0, .int .i64 0, .int .i64 0, .int .i64 0, .int .i64 0] 31)).setCells w7.heap.size 0 (itCells ic).toArray.toList) Y 31 (itCells ic) by rw [hY]; exact hNV.2.1)
  have LY := Lib.hid (h7.young hY)
  have GY8 := Lib.hid (Frp.refl (p := p) (M := M) (tv := tv7) ((w7.alloc (.cells #[.int .i64 0, .int .i64 0, .int .i64 0, .int .i64 0, .int .i64 0, .int .i64 0, .int .i64 0] 31)).setCells w7.heap.size 0 (itCells ic).toArray.toList))
  clear hNV h7 f7 hY fn
  go_upto_region 7 with (refine wpList_store_mid (by rfl) 31 _ _ (by rfl) w7.heap.size 0 (itCells ic).toArray (by rfl) (by rfl) (by exact TH.out) (by kernel_rfl) (it_one _) ?_; generalize (w7.alloc (.cells #[.int .i64 0, .int .i64 0, .int .i64 0, .int .i64 0, .int .i64 0, .int .i64 0, .int .i64 0] 31)).setCells w7.heap.size 0 (itCells ic).toArray.toList = w8 at *)
  rw [← HY.out]
  clear TH
  go_wp2_with fail
  refine (ppeek_any HP8.out (by decide)).mono ?_
  rintro e w9 ⟨rfl, b9⟩
  have h9 := HP8.out.same b9
  have f9 : Frp p M tv7 tv7 w8 w9 := Frp.below b9
  have hNV := newvar w9 (itCells ia) [.int .i64 0, .int .i64 0, .int .i64 0, .int .i64 0, .int .i64 0, .int .i64 0, .int .i64 0] 31 rfl
  obtain ⟨Z, hZ⟩ : ∃ Z, Z = w9.heap.size := ⟨_, rfl⟩
  have HZ := Lib.hid hZ
  have TH := Lib.hid hNV.1
  have HP10 := Lib.hid (h9.same hNV.2.2)
  have fn := f9.trans (Frp.below hNV.2.2)
  have F10 := Lib.hid (F8.out.trans fn)
  have GX10 := Lib.hid (GX8.out.trans fn)
  have GY10 := Lib.hid (GY8.out.trans fn)
  have VZ := Lib.hid (show IsObj ((w9.alloc (.cells #[.int .i64 0, .int .i64 0, .int .i64 0, .int .i64 0, .int .i64 0, .int .i64 0, .int .i64 0] 31)).setCells w9.heap.size 0 (itCells ia).toArray.toList) Z 31 (itCells ia) by rw [hZ]; exact hNV.2.1)
  have LZ := Lib.hid (h9.young hZ)
  have GZ10 := Lib.hid (Frp.refl (p := p) (M := M) (tv := tv7) ((w9.alloc (.cells #[.int .i64 0, .int .i64 0, .int .i64 0, .int .i64 0, .int .i64 0, .int .i64 0, .int .i64 0] 31)).setCells w9.heap.size 0 (itCells ia).toArray.toList))
  clear hNV h9 f9 hZ fn
  go_upto_region 8 with (refine wpList_store_mid (by rfl) 31 _ _ (by rfl) w9.heap.size 0 (itCells ia).toArray (by rfl) (by rfl) (by exact TH.out) (by kernel_rfl) (it_one _) ?_; generalize (w9.alloc (.cells #[.int .i64 0, .int .i64 0, .int .i64 0, .int .i64 0, .int .i64 0, .int .i64 0, .int .i64 0] 31)).setCells w9.heap.size 0 (itCells ia).toArray.toList = w10 at *)
  rw [← HZ.out]
  clear TH
  have VX10 := Lib.hid (GX10.out.isObj VX.out LX.out.1 LX.out.2.1 LX.out.2.2)
  have VY10 := Lib.hid (GY10.out.isObj VY.out LY.out.1 LY.out.2.1 LY.out.2.2)
  have x0 : w10.cell? ⟨X, 0, none⟩ = some (.int .i64 2) := VX10.out.cell 0
  have y0 : w10.cell? ⟨Y, 0, none⟩ = some (.int .i64 3) := VY10.out.cell 0
  have z0 : w10.cell? ⟨Z, 0, none⟩ = some (.int .i64 1) := VZ.out.cell 0
  have KL0 : Calls Try.prog 16 #[.pointer (some ⟨p, 0, none⟩)] w10 fun e w' => e = .returned (.int .i64 1) ∧ w10 = w' := plen_any HP10.out
  have KL := Lib.hid KL0
  have HE := Lib.hid (show Below w.heap.size w w10 from (B1.out.trans (F10.out.toBelow (H := M) (by omega) (by have := HM.out; omega) (by have h1 := HM.out; have h2 := B1.out.size; omega))).mono (by have := HM.out; omega))
  clear KL0
  go_wp2_with (go_at_call 16; (with_reducible refine (KL.out).mono ?_); rintro e w' ⟨rfl, rfl⟩)
  go_ret
  exact ⟨rfl, HE.out⟩
end Go.Proofs.Ytmanmebgmhpilaa
