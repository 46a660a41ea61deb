/-
  Layer 13 (queue): awake.
-/
import Derived.Test.YtmanmebgmhpilaaQue4
namespace Go.Proofs.Ytmanmebgmhpilaa
open Go.RowKit Go.Sort
set_option linter.unusedVariables false
set_option linter.unusedSimpArgs false

def ja : It := ⟨1, 5, 0, 0, 0, 0, 0⟩
def jb : It := ⟨2, 3, 0, 0, 0, 0, 0⟩
def jc : It := ⟨3, 4, 0, 0, 0, 0, 0⟩
theorem ssort_one (x : It) : ssort [x] = [x] := by
  obtain ⟨h1, h2⟩ := ssort_ok [x]
  exact (sorted_one swo_gI [x] (ssort [x]) (List.pairwise_cons.2 ⟨fun _ h => (by cases h), List.Pairwise.nil⟩) h2 h1).symm
set_option maxRecDepth 100000 in
set_option maxHeartbeats 4000000 in
theorem awake13 (w : World) : Calls Try.prog 29 #[] w fun e w' => e = .returned (.bool true) ∧ Below w.heap.size w w' := by
  go_enter Try.func29, Try.ntmps29
  go_wp2_with fail
  refine (qnew_ok 1 w (by decide) (by decide)).mono ?_
  rintro e w1 ⟨q, p, M, rfl, h1, b1, gM, gp, gq⟩
  have HQ1 := Lib.hid h1
  have B1 := Lib.hid b1
  have GE := Lib.hid (And.intro gM (And.intro gp gq))
  clear h1 b1 gM gp gq
  go_wp2_with fail
  refine (qadd_ok ja HQ1.out (by decide) (by simp) (by decide) (by decide)).mono ?_
  rintro e w2 ⟨rfl, tv2, h2, f2⟩
  rw [show upT ([] ++ [ja]) ([] : List It).length = [ja] from upT_stop (fun h => absurd h.1 (by decide))] at h2
  have F2 := Lib.hid f2
  have B2 := Lib.hid (f2.under HQ1.out.h B1.out ⟨GE.out.1, GE.out.2.1⟩)
  have HQ2 := Lib.hid h2
  clear h2 f2 HQ1 B1 F2
  have hNV := newvar w2 (itCells it0) [.int .i64 0, .int .i64 0, .int .i64 0, .int .i64 0, .int .i64 0, .int .i64 0, .int .i64 0] 31 rfl
  obtain ⟨P3, hP3⟩ : ∃ P3, P3 = w2.heap.size := ⟨_, rfl⟩
  have HP3 := Lib.hid hP3
  have TH := Lib.hid hNV.1
  have BN := Lib.hid hNV.2.2
  have VP3 := Lib.hid (show IsObj ((w2.alloc (.cells #[.int .i64 0, .int .i64 0, .int .i64 0, .int .i64 0, .int .i64 0, .int .i64 0, .int .i64 0] 31)).setCells w2.heap.size 0 (itCells it0).toArray.toList) P3 31 (itCells it0) by rw [hP3]; exact hNV.2.1)
  clear hNV hP3
  go_upto_region 3 with (refine wpList_store_mid (by rfl) 31 _ _ (by rfl) w2.heap.size 0 (itCells it0).toArray (by rfl) (by rfl) (by exact TH.out) (by kernel_rfl) (it_one _) ?_; generalize (w2.alloc (.cells #[.int .i64 0, .int .i64 0, .int .i64 0, .int .i64 0, .int .i64 0, .int .i64 0, .int .i64 0] 31)).setCells w2.heap.size 0 (itCells it0).toArray.toList = w3 at *)
  rw [← HP3.out]
  clear TH
  have HQ3 := Lib.hid (HQ2.out.same BN.out)
  have B3 := Lib.hid (B2.out.trans (BN.out.mono B2.out.size))
  clear BN HQ2 B2 VP3
  go_wp2_with fail
  refine (qadd_evict jb [ja] 0 0 HQ3.out (ssort_one ja) (by decide) (by decide) rfl (by decide +kernel) (by decide) (by decide) rfl).mono ?_
  rintro e w4 ⟨rfl, tv4, h4, f4⟩
  rw [show outT [ja] 0 = [] from by decide +kernel, show upT ([] ++ [jb]) ([] : List It).length = [jb] from upT_stop (fun h => absurd h.1 (by decide))] at h4
  have HQ4 := Lib.hid h4
  have B4 := Lib.hid (f4.under HQ3.out.h B3.out ⟨GE.out.1, GE.out.2.1⟩)
  clear h4 f4 HQ3 B3
  have hNV := newvar w4 (itCells ja) [.int .i64 0, .int .i64 0, .int .i64 0, .int .i64 0, .int .i64 0, .int .i64 0, .int .i64 0] 31 rfl
  obtain ⟨P6, hP6⟩ : ∃ P6, P6 = w4.heap.size := ⟨_, rfl⟩
  have HP6 := Lib.hid hP6
  have TH := Lib.hid hNV.1
  have BN := Lib.hid hNV.2.2
  have VP6 := Lib.hid (show IsObj ((w4.alloc (.cells #[.int .i64 0, .int .i64 0, .int .i64 0, .int .i64 0, .int .i64 0, .int .i64 0, .int .i64 0] 31)).setCells w4.heap.size 0 (itCells ja).toArray.toList) P6 31 (itCells ja) by rw [hP6]; exact hNV.2.1)
  clear hNV hP6
  go_upto_region 4 with (refine wpList_store_mid (by rfl) 31 _ _ (by rfl) w4.heap.size 0 (itCells ja).toArray (by rfl) (by rfl) (by exact TH.out) (by kernel_rfl) (it_one _) ?_; generalize (w4.alloc (.cells #[.int .i64 0, .int .i64 0, .int .i64 0, .int .i64 0, .int .i64 0, .int .i64 0, .int .i64 0] 31)).setCells w4.heap.size 0 (itCells ja).toArray.toList = w5 at *)
  rw [← HP6.out]
  clear TH
  have HQ5 := Lib.hid (HQ4.out.same BN.out)
  have B5 := Lib.hid (B4.out.trans (BN.out.mono B4.out.size))
  clear BN HQ4 B4
  have hAll : ∀ w', Below w5.heap.size w5 w' → Calls Try.prog 27 #[.pointer (some ⟨p, 0, none⟩)] w' fun e w2 => ∃ v, e = .returned v ∧ w2.ownsRow w'.heap.size 31 7 v [jb].length ([jb].flatMap itCells) ∧ Below w'.heap.size w' w2 := fun w' hb => by
    have h1 := pall_own (HQ5.out.h.same hb)
    rw [ssort_one] at h1
    exact h1
  go_wp2_with fail
  refine (qadd_keep _ _ jc [jb] w5 HQ5.out.items (fun w' hb => ppush_full jc (HQ5.out.h.same hb) (by decide) (by decide) (by decide)) hAll (by decide) (by decide +kernel)).mono ?_
  rintro e w6 ⟨rfl, b6⟩
  have HQ6 := Lib.hid (HQ5.out.same b6)
  have B6 := Lib.hid (B5.out.trans (b6.mono B5.out.size))
  have VP66 := Lib.hid (IsObj.below VP6.out b6 VP6.out.lt)
  clear b6 HQ5 B5 VP6 hAll
  have hNV := newvar w6 (itCells jc) [.int .i64 0, .int .i64 0, .int .i64 0, .int .i64 0, .int .i64 0, .int .i64 0, .int .i64 0] 31 rfl
  obtain ⟨P9, hP9⟩ : ∃ P9, P9 = w6.heap.size := ⟨_, rfl⟩
  have HP9 := Lib.hid hP9
  have TH := Lib.hid hNV.1
  have BN := Lib.hid hNV.2.2
  have VP9 := Lib.hid (show IsObj ((w6.alloc (.cells #[.int .i64 0, .int .i64 0, .int .i64 0, .int .i64 0, .int .i64 0, .int .i64 0, .int .i64 0] 31)).setCells w6.heap.size 0 (itCells jc).toArray.toList) P9 31 (itCells jc) by rw [hP9]; exact hNV.2.1)
  clear hNV hP9
  go_upto_region 5 with (refine wpList_store_mid (by rfl) 31 _ _ (by rfl) w6.heap.size 0 (itCells jc).toArray (by rfl) (by rfl) (by exact TH.out) (by kernel_rfl) (it_one _) ?_; generalize (w6.alloc (.cells #[.int .i64 0, .int .i64 0, .int .i64 0, .int .i64 0, .int .i64 0, .int .i64 0, .int .i64 0] 31)).setCells w6.heap.size 0 (itCells jc).toArray.toList = w7 at *)
  rw [← HP9.out]
  clear TH
  have HQ7 := Lib.hid (HQ6.out.same BN.out)
  have B7 := Lib.hid (B6.out.trans (BN.out.mono B6.out.size))
  have VP67 := Lib.hid (IsObj.below VP66.out BN.out VP66.out.lt)
  clear BN HQ6 B6 VP66
  have k0 : w7.cell? ⟨P6, 0, none⟩ = some (.int .i64 1) := VP67.out.cell 0
  have k1 : w7.cell? ⟨P9, 0, none⟩ = some (.int .i64 3) := VP9.out.cell 0
  have KH := qhas_in 0 HQ7.out (by simp)
  rw [show (nth [jb] 0).id = 2 from rfl] at KH
  go_wp2_with fail
  refine KH.mono ?_
  rintro e w8 ⟨rfl, b8⟩
  have HQ8 := Lib.hid (HQ7.out.same b8)
  have B8 := Lib.hid (B7.out.trans (b8.mono B7.out.size))
  clear b8 HQ7 B7 k0 k1
  have KR := qroom_at HQ8.out (by decide)
  rw [show (1 : Int) - (([jb] : List It).length : Nat) = 0 from rfl] at KR
  go_wp2_with fail
  refine KR.mono ?_
  rintro e w9 ⟨rfl, b9⟩
  go_wp2_with fail
  go_ret
  exact ⟨rfl, B8.out.trans (b9.mono B8.out.size)⟩
end Go.Proofs.Ytmanmebgmhpilaa
