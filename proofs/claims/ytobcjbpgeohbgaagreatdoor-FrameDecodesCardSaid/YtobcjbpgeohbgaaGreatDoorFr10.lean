/-
  Layer 27 (frame): the document's Decode.
-/
import Derived.Test.YtobcjbpgeohbgaaGreatDoorFr8
import Derived.Test.YtobcjbpgeohbgaaGreatDoorLaw24c
namespace Go.Proofs.YtobcjbpgeohbgaaGreatDoor
open Go.RowKit
set_option linter.unusedVariables false
set_option linter.unusedSimpArgs false

set_option maxRecDepth 100000 in
set_option maxHeartbeats 4000000 in
theorem rdec_any (s : ByteArray) (w : World) (hs : s.size ≤ 2147483648) : Calls Tryz.prog 7 #[.string s] w fun e w' => e = .returned (.tuple #[.agg (fmCells (decB s).f).toArray, .int .i64 (decB s).err]) ∧ Below w.heap.size w w' := by
  obtain ⟨T, hT⟩ : ∃ T, T = w.heap.size := ⟨_, rfl⟩
  have HT := Lib.hid hT
  have T0 := Lib.hid (show IsObj (w.alloc (.cells #[.int .i64 0, .int .i64 0, .int .i64 0, .int .i64 0, .int .i64 0, .int .i64 0, .int .i64 0, .int .i64 0, .int .i64 0, .int .i64 0, .int .i64 0, .int .i64 0, .int .i64 0, .int .i64 0, .int .i64 0, .int .i64 0, .int .i64 0, .int .i64 0, .int .i64 0, .int .i64 0, .int .i64 0, .int .i64 0, .int .i64 0] 32)) T 32 (fmCells fm0) by rw [hT]; exact IsObj.new w 32 (fmCells fm0))
  have B0 := Lib.hid (show Below w.heap.size w (w.alloc (.cells #[.int .i64 0, .int .i64 0, .int .i64 0, .int .i64 0, .int .i64 0, .int .i64 0, .int .i64 0, .int .i64 0, .int .i64 0, .int .i64 0, .int .i64 0, .int .i64 0, .int .i64 0, .int .i64 0, .int .i64 0, .int .i64 0, .int .i64 0, .int .i64 0, .int .i64 0, .int .i64 0, .int .i64 0, .int .i64 0, .int .i64 0] 32)) from (Below.refl _ _).alloc (Nat.le_refl _) _)
  have KH := fun w => rhget_any s w hs
  have hbs : (getH s).body.size ≤ 2147483648 := Nat.le_trans (getH_le s) hs
  have hkind : (getH s).err = 0 → 1 ≤ (getH s).kind ∧ (getH s).kind ≤ 3 := fun h => (put_getH s h).1
  have HD := Lib.hid (show decB s = (if (getH s).err ≠ 0 then ⟨fm0, (getH s).err⟩ else if (rdF (getH s).kind (getH s).body).err ≠ 0 then ⟨fm0, 2⟩ else ⟨(rdF (getH s).kind (getH s).body).f, 0⟩) from rfl)
  generalize (getH s).err = he at *
  generalize (getH s).kind = kd at *
  generalize (getH s).body = bd at *
  generalize decB s = D at *
  clear hT
  go_enter Tryz.func7, Tryz.ntmps7
  go_upto_region 1 with (fail)
  rw [← HT.out]
  generalize w.alloc (.cells #[.int .i64 0, .int .i64 0, .int .i64 0, .int .i64 0, .int .i64 0, .int .i64 0, .int .i64 0, .int .i64 0, .int .i64 0, .int .i64 0, .int .i64 0, .int .i64 0, .int .i64 0, .int .i64 0, .int .i64 0, .int .i64 0, .int .i64 0, .int .i64 0, .int .i64 0, .int .i64 0, .int .i64 0, .int .i64 0, .int .i64 0] 32) = w0 at *
  go_upto_region 2 with (go_at_call 23; refine (KH _).mono ?_; rintro e w1 ⟨rfl, b1⟩)
  have T1 := Lib.hid (IsObj.below T0.out b1 T0.out.lt)
  have B1 := Lib.hid (B0.out.trans (b1.mono B0.out.size))
  clear b1 T0 B0 KH
  by_cases hh : he = 0
  · subst hh
    have hk := hkind rfl
    have HD := Lib.hid (show D = (if (rdF kd bd).err ≠ 0 then ⟨fm0, 2⟩ else ⟨(rdF kd bd).f, 0⟩) by rw [HD.out, if_neg (by decide)])
    clear hkind
    go_upto_region 4 with (fail)
    have hNV := newvar w1 (fmCells ⟨kd, q0, a0, p0⟩) [.int .i64 0, .int .i64 0, .int .i64 0, .int .i64 0, .int .i64 0, .int .i64 0, .int .i64 0, .int .i64 0, .int .i64 0, .int .i64 0, .int .i64 0, .int .i64 0, .int .i64 0, .int .i64 0, .int .i64 0, .int .i64 0, .int .i64 0, .int .i64 0, .int .i64 0, .int .i64 0, .int .i64 0, .int .i64 0, .int .i64 0] 32 rfl
    obtain ⟨C, hC⟩ : ∃ C, C = w1.heap.size := ⟨_, rfl⟩
    have HC := Lib.hid hC
    have TH := Lib.hid hNV.1
    have BN := Lib.hid hNV.2.2
    have VC := Lib.hid (show IsObj ((w1.alloc (.cells #[.int .i64 0, .int .i64 0, .int .i64 0, .int .i64 0, .int .i64 0, .int .i64 0, .int .i64 0, .int .i64 0, .int .i64 0, .int .i64 0, .int .i64 0, .int .i64 0, .int .i64 0, .int .i64 0, .int .i64 0, .int .i64 0, .int .i64 0, .int .i64 0, .int .i64 0, .int .i64 0, .int .i64 0, .int .i64 0, .int .i64 0] 32)).setCells w1.heap.size 0 (fmCells ⟨kd, q0, a0, p0⟩).toArray.toList) C 32 (fmCells ⟨kd, q0, a0, p0⟩) by rw [hC]; exact hNV.2.1)
    clear hNV hC
    go_upto_region 5 with (refine wpList_store_mid (by rfl) 32 _ _ (by rfl) w1.heap.size 0 (fmCells ⟨kd, q0, a0, p0⟩).toArray (by rfl) (by rfl) (by exact TH.out) (by kernel_rfl) (by kernel_rfl) ?_; generalize (w1.alloc (.cells #[.int .i64 0, .int .i64 0, .int .i64 0, .int .i64 0, .int .i64 0, .int .i64 0, .int .i64 0, .int .i64 0, .int .i64 0, .int .i64 0, .int .i64 0, .int .i64 0, .int .i64 0, .int .i64 0, .int .i64 0, .int .i64 0, .int .i64 0, .int .i64 0, .int .i64 0, .int .i64 0, .int .i64 0, .int .i64 0, .int .i64 0] 32)).setCells w1.heap.size 0 (fmCells ⟨kd, q0, a0, p0⟩).toArray.toList = w2 at *)
    rw [← HC.out]
    clear TH
    have T2 := Lib.hid (IsObj.below T1.out BN.out T1.out.lt)
    have HTC := Lib.hid (show T < C by have := T1.out.lt; have := HC.out; omega)
    have B2 := Lib.hid (B1.out.trans (BN.out.mono B1.out.size))
    clear BN T1 B1 HC
    by_cases h1 : kd = 1
    · subst h1
      have KG : ∀ W, Calls Tryz.prog 24 #[.string bd] W fun e w' => e = .returned (.tuple #[.agg #[.int .i64 (rdF 1 bd).f.q.id, .int .i64 (rdF 1 bd).f.q.frm, .int .i64 (rdF 1 bd).f.q.tto, .int .i64 (rdF 1 bd).f.q.lev, .int .i64 (rdF 1 bd).f.q.dl, .int .i64 (rdF 1 bd).f.q.bud], .int .i64 (rdF 1 bd).err]) ∧ Below W.heap.size W w' := fun W => rget_any bd W hbs
      have HF := Lib.hid (show (rdF 1 bd).f = ⟨1, (rdF 1 bd).f.q, a0, p0⟩ from rfl)
      generalize (rdF 1 bd).err = n at *
      generalize (rdF 1 bd).f.q = r at *
      go_wp2_with fail
      refine (KG _).mono ?_
      rintro e w3 ⟨rfl, b3⟩
      have WA := Lib.hid (show Below w2.heap.size w2 (w3.alloc (.cells #[.int .i64 r.id, .int .i64 r.frm, .int .i64 r.tto, .int .i64 r.lev, .int .i64 r.dl, .int .i64 r.bud] 24)) from b3.alloc b3.size _)
      have T3 := Lib.hid (IsObj.below T2.out WA.out T2.out.lt)
      have C3 := Lib.hid (IsObj.below VC.out WA.out VC.out.lt)
      have B3 := Lib.hid (B2.out.trans (WA.out.mono B2.out.size))
      clear b3 KG T2 VC B2 WA
      have RC := Lib.hid (show (w3.alloc (.cells #[.int .i64 r.id, .int .i64 r.frm, .int .i64 r.tto, .int .i64 r.lev, .int .i64 r.dl, .int .i64 r.bud] 24)).there C 1 ([.int .i64 r.id, .int .i64 r.frm, .int .i64 r.tto, .int .i64 r.lev, .int .i64 r.dl, .int .i64 r.bud] : List Value).toArray.size from IsObj.there C3.out 1 6 (by decide))
      have C4 := Lib.hid (show IsObj ((w3.alloc (.cells #[.int .i64 r.id, .int .i64 r.frm, .int .i64 r.tto, .int .i64 r.lev, .int .i64 r.dl, .int .i64 r.bud] 24)).setCells C 1 ([.int .i64 r.id, .int .i64 r.frm, .int .i64 r.tto, .int .i64 r.lev, .int .i64 r.dl, .int .i64 r.bud] : List Value).toArray.toList) C 32 (fmCells ⟨1, r, a0, p0⟩) from IsObj.setCells [.int .i64 r.id, .int .i64 r.frm, .int .i64 r.tto, .int .i64 r.lev, .int .i64 r.dl, .int .i64 r.bud] 1 C3.out (show 1 + 6 ≤ 23 by decide))
      have Y4 := Lib.hid (show Only C (w3.alloc (.cells #[.int .i64 r.id, .int .i64 r.frm, .int .i64 r.tto, .int .i64 r.lev, .int .i64 r.dl, .int .i64 r.bud] 24)) ((w3.alloc (.cells #[.int .i64 r.id, .int .i64 r.frm, .int .i64 r.tto, .int .i64 r.lev, .int .i64 r.dl, .int .i64 r.bud] 24)).setCells C 1 ([.int .i64 r.id, .int .i64 r.frm, .int .i64 r.tto, .int .i64 r.lev, .int .i64 r.dl, .int .i64 r.bud] : List Value).toArray.toList) from Only.setCells (b := C) [.int .i64 r.id, .int .i64 r.frm, .int .i64 r.tto, .int .i64 r.lev, .int .i64 r.dl, .int .i64 r.bud] 1 (Only.refl C _))
      go_upto_region 17 with (refine wpList_store_mid (by rfl) 24 _ _ (by rfl) C 1 ([.int .i64 r.id, .int .i64 r.frm, .int .i64 r.tto, .int .i64 r.lev, .int .i64 r.dl, .int .i64 r.bud] : List Value).toArray (by rfl) (by rfl) (by exact RC.out) (by kernel_rfl) (by kernel_rfl) ?_; generalize (w3.alloc (.cells #[.int .i64 r.id, .int .i64 r.frm, .int .i64 r.tto, .int .i64 r.lev, .int .i64 r.dl, .int .i64 r.bud] 24)).setCells C 1 ([.int .i64 r.id, .int .i64 r.frm, .int .i64 r.tto, .int .i64 r.lev, .int .i64 r.dl, .int .i64 r.bud] : List Value).toArray.toList = w4 at *)
      have T4 := Lib.hid (IsObj.only T3.out Y4.out (by have := HTC.out; omega))
      have B4 := Lib.hid (B3.out.trans (Y4.out.below (by have := HTC.out; have := HT.out; omega) B3.out.size))
      clear T3 C3 B3 Y4 RC
      by_cases hn : n = 0
      · subst hn
        have HD2 := Lib.hid (show D = ⟨⟨1, r, a0, p0⟩, 0⟩ by rw [HD.out, if_neg (by decide), HF.out])
        clear HD HF
        have RT := Lib.hid (show w4.there T 0 (fmCells ⟨1, r, a0, p0⟩).toArray.size from IsObj.there T4.out 0 23 (Nat.le_refl _))
        have OF := Lib.hid (show IsObj (w4.setCells T 0 (fmCells ⟨1, r, a0, p0⟩).toArray.toList) T 32 (fmCells ⟨1, r, a0, p0⟩) from IsObj.setAll T4.out (by rfl))
        have YF := Lib.hid (show Only T w4 (w4.setCells T 0 (fmCells ⟨1, r, a0, p0⟩).toArray.toList) from Only.setCells (b := T) (fmCells ⟨1, r, a0, p0⟩) 0 (Only.refl T w4))
        have RG := Lib.hid (IsObj.range C4.out)
        go_wp2_with (first | (refine wpList_load_mid (by rfl) 32 _ (by rfl) C 0 (by rfl) (fmCells ⟨1, r, a0, p0⟩) _ (by exact RG.out) Tryz.underlying32 rfl (by kernel_rfl) ?_) | (refine wpList_store_mid (by rfl) 32 _ _ (by rfl) T 0 (fmCells ⟨1, r, a0, p0⟩).toArray (by rfl) (by rfl) (by exact RT.out) (by kernel_rfl) (by kernel_rfl) ?_; generalize w4.setCells T 0 (fmCells ⟨1, r, a0, p0⟩).toArray.toList = wf at *))
        have RL := run_loadVar_mid (P := Tryz.prog) wf T 0 32 (fmCells ⟨1, r, a0, p0⟩) _ (IsObj.range OF.out) Tryz.underlying32 rfl (by kernel_rfl)
        refine bodyPost_ret (v := .tuple #[.agg (fmCells ⟨1, r, a0, p0⟩).toArray, .int .i64 0]) ?_ rfl ?_
        · exact results_cell_tmp (by rfl) (by rfl) (by rfl) RL
        · rw [HD2.out]
          exact ⟨rfl, B4.out.trans (YF.out.below (by have := HT.out; omega) B4.out.size)⟩
      · have hnb : (n != 0) = true := by simpa using hn
        have HD2 := Lib.hid (show D = ⟨fm0, 2⟩ by rw [HD.out, if_pos hn])
        clear HD HF hn
        have RT := Lib.hid (show w4.there T 0 (fmCells fm0).toArray.size from IsObj.there T4.out 0 23 (Nat.le_refl _))
        have OF := Lib.hid (show IsObj (w4.setCells T 0 (fmCells fm0).toArray.toList) T 32 (fmCells fm0) from IsObj.setAll T4.out (by rfl))
        have YF := Lib.hid (show Only T w4 (w4.setCells T 0 (fmCells fm0).toArray.toList) from Only.setCells (b := T) (fmCells fm0) 0 (Only.refl T w4))
        go_wp2_with (refine wpList_store_mid (by rfl) 32 _ _ (by rfl) T 0 (fmCells fm0).toArray (by rfl) (by rfl) (by exact RT.out) (by kernel_rfl) (by kernel_rfl) ?_; generalize w4.setCells T 0 (fmCells fm0).toArray.toList = wf at *)
        have RL := run_loadVar_mid (P := Tryz.prog) wf T 0 32 (fmCells fm0) _ (IsObj.range OF.out) Tryz.underlying32 rfl (by kernel_rfl)
        refine bodyPost_ret (v := .tuple #[.agg (fmCells fm0).toArray, .int .i64 2]) ?_ rfl ?_
        · exact results_cell_tmp (by rfl) (by rfl) (by rfl) RL
        · rw [HD2.out]
          exact ⟨rfl, B4.out.trans (YF.out.below (by have := HT.out; omega) B4.out.size)⟩
    · have h1b : (kd == 1) = false := by simpa using h1
      by_cases h2 : kd = 2
      · subst h2
        have KG : ∀ W, Calls Tryz.prog 25 #[.string bd] W fun e w' => e = .returned (.tuple #[.agg #[.int .i64 (rdF 2 bd).f.a.id, .int .i64 (rdF 2 bd).f.a.frm, .int .i64 (rdF 2 bd).f.a.tto, .int .i64 (rdF 2 bd).f.a.cod, .int .i64 (rdF 2 bd).f.a.thr, .int .i64 (rdF 2 bd).f.a.epo, .int .i64 (rdF 2 bd).f.a.tie], .int .i64 (rdF 2 bd).err]) ∧ Below W.heap.size W w' := fun W => rrget_any bd W hbs
        have HF := Lib.hid (show (rdF 2 bd).f = ⟨2, q0, (rdF 2 bd).f.a, p0⟩ from rfl)
        generalize (rdF 2 bd).err = n at *
        generalize (rdF 2 bd).f.a = r at *
        go_wp2_with fail
        refine (KG _).mono ?_
        rintro e w3 ⟨rfl, b3⟩
        have WA := Lib.hid (show Below w2.heap.size w2 (w3.alloc (.cells #[.int .i64 r.id, .int .i64 r.frm, .int .i64 r.tto, .int .i64 r.cod, .int .i64 r.thr, .int .i64 r.epo, .int .i64 r.tie] 26)) from b3.alloc b3.size _)
        have T3 := Lib.hid (IsObj.below T2.out WA.out T2.out.lt)
        have C3 := Lib.hid (IsObj.below VC.out WA.out VC.out.lt)
        have B3 := Lib.hid (B2.out.trans (WA.out.mono B2.out.size))
        clear b3 KG T2 VC B2 WA
        have RC := Lib.hid (show (w3.alloc (.cells #[.int .i64 r.id, .int .i64 r.frm, .int .i64 r.tto, .int .i64 r.cod, .int .i64 r.thr, .int .i64 r.epo, .int .i64 r.tie] 26)).there C 7 ([.int .i64 r.id, .int .i64 r.frm, .int .i64 r.tto, .int .i64 r.cod, .int .i64 r.thr, .int .i64 r.epo, .int .i64 r.tie] : List Value).toArray.size from IsObj.there C3.out 7 7 (by decide))
        have C4 := Lib.hid (show IsObj ((w3.alloc (.cells #[.int .i64 r.id, .int .i64 r.frm, .int .i64 r.tto, .int .i64 r.cod, .int .i64 r.thr, .int .i64 r.epo, .int .i64 r.tie] 26)).setCells C 7 ([.int .i64 r.id, .int .i64 r.frm, .int .i64 r.tto, .int .i64 r.cod, .int .i64 r.thr, .int .i64 r.epo, .int .i64 r.tie] : List Value).toArray.toList) C 32 (fmCells ⟨2, q0, r, p0⟩) from IsObj.setCells [.int .i64 r.id, .int .i64 r.frm, .int .i64 r.tto, .int .i64 r.cod, .int .i64 r.thr, .int .i64 r.epo, .int .i64 r.tie] 7 C3.out (show 7 + 7 ≤ 23 by decide))
        have Y4 := Lib.hid (show Only C (w3.alloc (.cells #[.int .i64 r.id, .int .i64 r.frm, .int .i64 r.tto, .int .i64 r.cod, .int .i64 r.thr, .int .i64 r.epo, .int .i64 r.tie] 26)) ((w3.alloc (.cells #[.int .i64 r.id, .int .i64 r.frm, .int .i64 r.tto, .int .i64 r.cod, .int .i64 r.thr, .int .i64 r.epo, .int .i64 r.tie] 26)).setCells C 7 ([.int .i64 r.id, .int .i64 r.frm, .int .i64 r.tto, .int .i64 r.cod, .int .i64 r.thr, .int .i64 r.epo, .int .i64 r.tie] : List Value).toArray.toList) from Only.setCells (b := C) [.int .i64 r.id, .int .i64 r.frm, .int .i64 r.tto, .int .i64 r.cod, .int .i64 r.thr, .int .i64 r.epo, .int .i64 r.tie] 7 (Only.refl C _))
        go_upto_region 17 with (refine wpList_store_mid (by rfl) 26 _ _ (by rfl) C 7 ([.int .i64 r.id, .int .i64 r.frm, .int .i64 r.tto, .int .i64 r.cod, .int .i64 r.thr, .int .i64 r.epo, .int .i64 r.tie] : List Value).toArray (by rfl) (by rfl) (by exact RC.out) (by kernel_rfl) (by kernel_rfl) ?_; generalize (w3.alloc (.cells #[.int .i64 r.id, .int .i64 r.frm, .int .i64 r.tto, .int .i64 r.cod, .int .i64 r.thr, .int .i64 r.epo, .int .i64 r.tie] 26)).setCells C 7 ([.int .i64 r.id, .int .i64 r.frm, .int .i64 r.tto, .int .i64 r.cod, .int .i64 r.thr, .int .i64 r.epo, .int .i64 r.tie] : List Value).toArray.toList = w4 at *)
        have T4 := Lib.hid (IsObj.only T3.out Y4.out (by have := HTC.out; omega))
        have B4 := Lib.hid (B3.out.trans (Y4.out.below (by have := HTC.out; have := HT.out; omega) B3.out.size))
        clear T3 C3 B3 Y4 RC
        by_cases hn : n = 0
        · subst hn
          have HD2 := Lib.hid (show D = ⟨⟨2, q0, r, p0⟩, 0⟩ by rw [HD.out, if_neg (by decide), HF.out])
          clear HD HF
          have RT := Lib.hid (show w4.there T 0 (fmCells ⟨2, q0, r, p0⟩).toArray.size from IsObj.there T4.out 0 23 (Nat.le_refl _))
          have OF := Lib.hid (show IsObj (w4.setCells T 0 (fmCells ⟨2, q0, r, p0⟩).toArray.toList) T 32 (fmCells ⟨2, q0, r, p0⟩) from IsObj.setAll T4.out (by rfl))
          have YF := Lib.hid (show Only T w4 (w4.setCells T 0 (fmCells ⟨2, q0, r, p0⟩).toArray.toList) from Only.setCells (b := T) (fmCells ⟨2, q0, r, p0⟩) 0 (Only.refl T w4))
          have RG := Lib.hid (IsObj.range C4.out)
          go_wp2_with (first | (refine wpList_load_mid (by rfl) 32 _ (by rfl) C 0 (by rfl) (fmCells ⟨2, q0, r, p0⟩) _ (by exact RG.out) Tryz.underlying32 rfl (by kernel_rfl) ?_) | (refine wpList_store_mid (by rfl) 32 _ _ (by rfl) T 0 (fmCells ⟨2, q0, r, p0⟩).toArray (by rfl) (by rfl) (by exact RT.out) (by kernel_rfl) (by kernel_rfl) ?_; generalize w4.setCells T 0 (fmCells ⟨2, q0, r, p0⟩).toArray.toList = wf at *))
          have RL := run_loadVar_mid (P := Tryz.prog) wf T 0 32 (fmCells ⟨2, q0, r, p0⟩) _ (IsObj.range OF.out) Tryz.underlying32 rfl (by kernel_rfl)
          refine bodyPost_ret (v := .tuple #[.agg (fmCells ⟨2, q0, r, p0⟩).toArray, .int .i64 0]) ?_ rfl ?_
          · exact results_cell_tmp (by rfl) (by rfl) (by rfl) RL
          · rw [HD2.out]
            exact ⟨rfl, B4.out.trans (YF.out.below (by have := HT.out; omega) B4.out.size)⟩
        · have hnb : (n != 0) = true := by simpa using hn
          have HD2 := Lib.hid (show D = ⟨fm0, 2⟩ by rw [HD.out, if_pos hn])
          clear HD HF hn
          have RT := Lib.hid (show w4.there T 0 (fmCells fm0).toArray.size from IsObj.there T4.out 0 23 (Nat.le_refl _))
          have OF := Lib.hid (show IsObj (w4.setCells T 0 (fmCells fm0).toArray.toList) T 32 (fmCells fm0) from IsObj.setAll T4.out (by rfl))
          have YF := Lib.hid (show Only T w4 (w4.setCells T 0 (fmCells fm0).toArray.toList) from Only.setCells (b := T) (fmCells fm0) 0 (Only.refl T w4))
          go_wp2_with (refine wpList_store_mid (by rfl) 32 _ _ (by rfl) T 0 (fmCells fm0).toArray (by rfl) (by rfl) (by exact RT.out) (by kernel_rfl) (by kernel_rfl) ?_; generalize w4.setCells T 0 (fmCells fm0).toArray.toList = wf at *)
          have RL := run_loadVar_mid (P := Tryz.prog) wf T 0 32 (fmCells fm0) _ (IsObj.range OF.out) Tryz.underlying32 rfl (by kernel_rfl)
          refine bodyPost_ret (v := .tuple #[.agg (fmCells fm0).toArray, .int .i64 2]) ?_ rfl ?_
          · exact results_cell_tmp (by rfl) (by rfl) (by rfl) RL
          · rw [HD2.out]
            exact ⟨rfl, B4.out.trans (YF.out.below (by have := HT.out; omega) B4.out.size)⟩
      · have h2b : (kd == 2) = false := by simpa using h2
        obtain rfl : kd = 3 := by omega
        have KG : ∀ W, Calls Tryz.prog 26 #[.string bd] W fun e w' => e = .returned (.tuple #[.agg #[.int .i64 (rdF 3 bd).f.p.p0, .int .i64 (rdF 3 bd).f.p.p1, .int .i64 (rdF 3 bd).f.p.p2, .int .i64 (rdF 3 bd).f.p.p3, .int .i64 (rdF 3 bd).f.p.p4, .int .i64 (rdF 3 bd).f.p.p5, .int .i64 (rdF 3 bd).f.p.p6, .int .i64 (rdF 3 bd).f.p.p7, .int .i64 (rdF 3 bd).f.p.p8], .int .i64 (rdF 3 bd).err]) ∧ Below W.heap.size W w' := fun W => rpget_any bd W hbs
        have HF := Lib.hid (show (rdF 3 bd).f = ⟨3, q0, a0, (rdF 3 bd).f.p⟩ from rfl)
        generalize (rdF 3 bd).err = n at *
        generalize (rdF 3 bd).f.p = r at *
        go_wp2_with fail
        refine (KG _).mono ?_
        rintro e w3 ⟨rfl, b3⟩
        have WA := Lib.hid (show Below w2.heap.size w2 (w3.alloc (.cells #[.int .i64 r.p0, .int .i64 r.p1, .int .i64 r.p2, .int .i64 r.p3, .int .i64 r.p4, .int .i64 r.p5, .int .i64 r.p6, .int .i64 r.p7, .int .i64 r.p8] 30)) from b3.alloc b3.size _)
        have T3 := Lib.hid (IsObj.below T2.out WA.out T2.out.lt)
        have C3 := Lib.hid (IsObj.below VC.out WA.out VC.out.lt)
        have B3 := Lib.hid (B2.out.trans (WA.out.mono B2.out.size))
        clear b3 KG T2 VC B2 WA
        have RC := Lib.hid (show (w3.alloc (.cells #[.int .i64 r.p0, .int .i64 r.p1, .int .i64 r.p2, .int .i64 r.p3, .int .i64 r.p4, .int .i64 r.p5, .int .i64 r.p6, .int .i64 r.p7, .int .i64 r.p8] 30)).there C 14 ([.int .i64 r.p0, .int .i64 r.p1, .int .i64 r.p2, .int .i64 r.p3, .int .i64 r.p4, .int .i64 r.p5, .int .i64 r.p6, .int .i64 r.p7, .int .i64 r.p8] : List Value).toArray.size from IsObj.there C3.out 14 9 (by decide))
        have C4 := Lib.hid (show IsObj ((w3.alloc (.cells #[.int .i64 r.p0, .int .i64 r.p1, .int .i64 r.p2, .int .i64 r.p3, .int .i64 r.p4, .int .i64 r.p5, .int .i64 r.p6, .int .i64 r.p7, .int .i64 r.p8] 30)).setCells C 14 ([.int .i64 r.p0, .int .i64 r.p1, .int .i64 r.p2, .int .i64 r.p3, .int .i64 r.p4, .int .i64 r.p5, .int .i64 r.p6, .int .i64 r.p7, .int .i64 r.p8] : List Value).toArray.toList) C 32 (fmCells ⟨3, q0, a0, r⟩) from IsObj.setCells [.int .i64 r.p0, .int .i64 r.p1, .int .i64 r.p2, .int .i64 r.p3, .int .i64 r.p4, .int .i64 r.p5, .int .i64 r.p6, .int .i64 r.p7, .int .i64 r.p8] 14 C3.out (show 14 + 9 ≤ 23 by decide))
        have Y4 := Lib.hid (show Only C (w3.alloc (.cells #[.int .i64 r.p0, .int .i64 r.p1, .int .i64 r.p2, .int .i64 r.p3, .int .i64 r.p4, .int .i64 r.p5, .int .i64 r.p6, .int .i64 r.p7, .int .i64 r.p8] 30)) ((w3.alloc (.cells #[.int .i64 r.p0, .int .i64 r.p1, .int .i64 r.p2, .int .i64 r.p3, .int .i64 r.p4, .int .i64 r.p5, .int .i64 r.p6, .int .i64 r.p7, .int .i64 r.p8] 30)).setCells C 14 ([.int .i64 r.p0, .int .i64 r.p1, .int .i64 r.p2, .int .i64 r.p3, .int .i64 r.p4, .int .i64 r.p5, .int .i64 r.p6, .int .i64 r.p7, .int .i64 r.p8] : List Value).toArray.toList) from Only.setCells (b := C) [.int .i64 r.p0, .int .i64 r.p1, .int .i64 r.p2, .int .i64 r.p3, .int .i64 r.p4, .int .i64 r.p5, .int .i64 r.p6, .int .i64 r.p7, .int .i64 r.p8] 14 (Only.refl C _))
        go_upto_region 17 with (refine wpList_store_mid (by rfl) 30 _ _ (by rfl) C 14 ([.int .i64 r.p0, .int .i64 r.p1, .int .i64 r.p2, .int .i64 r.p3, .int .i64 r.p4, .int .i64 r.p5, .int .i64 r.p6, .int .i64 r.p7, .int .i64 r.p8] : List Value).toArray (by rfl) (by rfl) (by exact RC.out) (by kernel_rfl) (by kernel_rfl) ?_; generalize (w3.alloc (.cells #[.int .i64 r.p0, .int .i64 r.p1, .int .i64 r.p2, .int .i64 r.p3, .int .i64 r.p4, .int .i64 r.p5, .int .i64 r.p6, .int .i64 r.p7, .int .i64 r.p8] 30)).setCells C 14 ([.int .i64 r.p0, .int .i64 r.p1, .int .i64 r.p2, .int .i64 r.p3, .int .i64 r.p4, .int .i64 r.p5, .int .i64 r.p6, .int .i64 r.p7, .int .i64 r.p8] : List Value).toArray.toList = w4 at *)
        have T4 := Lib.hid (IsObj.only T3.out Y4.out (by have := HTC.out; omega))
        have B4 := Lib.hid (B3.out.trans (Y4.out.below (by have := HTC.out; have := HT.out; omega) B3.out.size))
        clear T3 C3 B3 Y4 RC
        by_cases hn : n = 0
        · subst hn
          have HD2 := Lib.hid (show D = ⟨⟨3, q0, a0, r⟩, 0⟩ by rw [HD.out, if_neg (by decide), HF.out])
          clear HD HF
          have RT := Lib.hid (show w4.there T 0 (fmCells ⟨3, q0, a0, r⟩).toArray.size from IsObj.there T4.out 0 23 (Nat.le_refl _))
          have OF := Lib.hid (show IsObj (w4.setCells T 0 (fmCells ⟨3, q0, a0, r⟩).toArray.toList) T 32 (fmCells ⟨3, q0, a0, r⟩) from IsObj.setAll T4.out (by rfl))
          have YF := Lib.hid (show Only T w4 (w4.setCells T 0 (fmCells ⟨3, q0, a0, r⟩).toArray.toList) from Only.setCells (b := T) (fmCells ⟨3, q0, a0, r⟩) 0 (Only.refl T w4))
          have RG := Lib.hid (IsObj.range C4.out)
          go_wp2_with (first | (refine wpList_load_mid (by rfl) 32 _ (by rfl) C 0 (by rfl) (fmCells ⟨3, q0, a0, r⟩) _ (by exact RG.out) Tryz.underlying32 rfl (by kernel_rfl) ?_) | (refine wpList_store_mid (by rfl) 32 _ _ (by rfl) T 0 (fmCells ⟨3, q0, a0, r⟩).toArray (by rfl) (by rfl) (by exact RT.out) (by kernel_rfl) (by kernel_rfl) ?_; generalize w4.setCells T 0 (fmCells ⟨3, q0, a0, r⟩).toArray.toList = wf at *))
          have RL := run_loadVar_mid (P := Tryz.prog) wf T 0 32 (fmCells ⟨3, q0, a0, r⟩) _ (IsObj.range OF.out) Tryz.underlying32 rfl (by kernel_rfl)
          refine bodyPost_ret (v := .tuple #[.agg (fmCells ⟨3, q0, a0, r⟩).toArray, .int .i64 0]) ?_ rfl ?_
          · exact results_cell_tmp (by rfl) (by rfl) (by rfl) RL
          · rw [HD2.out]
            exact ⟨rfl, B4.out.trans (YF.out.below (by have := HT.out; omega) B4.out.size)⟩
        · have hnb : (n != 0) = true := by simpa using hn
          have HD2 := Lib.hid (show D = ⟨fm0, 2⟩ by rw [HD.out, if_pos hn])
          clear HD HF hn
          have RT := Lib.hid (show w4.there T 0 (fmCells fm0).toArray.size from IsObj.there T4.out 0 23 (Nat.le_refl _))
          have OF := Lib.hid (show IsObj (w4.setCells T 0 (fmCells fm0).toArray.toList) T 32 (fmCells fm0) from IsObj.setAll T4.out (by rfl))
          have YF := Lib.hid (show Only T w4 (w4.setCells T 0 (fmCells fm0).toArray.toList) from Only.setCells (b := T) (fmCells fm0) 0 (Only.refl T w4))
          go_wp2_with (refine wpList_store_mid (by rfl) 32 _ _ (by rfl) T 0 (fmCells fm0).toArray (by rfl) (by rfl) (by exact RT.out) (by kernel_rfl) (by kernel_rfl) ?_; generalize w4.setCells T 0 (fmCells fm0).toArray.toList = wf at *)
          have RL := run_loadVar_mid (P := Tryz.prog) wf T 0 32 (fmCells fm0) _ (IsObj.range OF.out) Tryz.underlying32 rfl (by kernel_rfl)
          refine bodyPost_ret (v := .tuple #[.agg (fmCells fm0).toArray, .int .i64 2]) ?_ rfl ?_
          · exact results_cell_tmp (by rfl) (by rfl) (by rfl) RL
          · rw [HD2.out]
            exact ⟨rfl, B4.out.trans (YF.out.below (by have := HT.out; omega) B4.out.size)⟩
  · have hhb : (he != 0) = true := by simpa using hh
    have HD2 := Lib.hid (show D = ⟨fm0, he⟩ by rw [HD.out, if_pos hh])
    clear HD hh hkind
    have RT := Lib.hid (show w1.there T 0 (fmCells fm0).toArray.size from IsObj.there T1.out 0 23 (Nat.le_refl _))
    have OF := Lib.hid (show IsObj (w1.setCells T 0 (fmCells fm0).toArray.toList) T 32 (fmCells fm0) from IsObj.setAll T1.out (by rfl))
    have YF := Lib.hid (show Only T w1 (w1.setCells T 0 (fmCells fm0).toArray.toList) from Only.setCells (b := T) (fmCells fm0) 0 (Only.refl T w1))
    go_wp2_with (refine wpList_store_mid (by rfl) 32 _ _ (by rfl) T 0 (fmCells fm0).toArray (by rfl) (by rfl) (by exact RT.out) (by kernel_rfl) (by kernel_rfl) ?_; generalize w1.setCells T 0 (fmCells fm0).toArray.toList = wf at *)
    have RL := run_loadVar_mid (P := Tryz.prog) wf T 0 32 (fmCells fm0) _ (IsObj.range OF.out) Tryz.underlying32 rfl (by kernel_rfl)
    refine bodyPost_ret (v := .tuple #[.agg (fmCells fm0).toArray, .int .i64 he]) ?_ rfl ?_
    · exact results_cell_tmp (by rfl) (by rfl) (by rfl) RL
    · rw [HD2.out]
      exact ⟨rfl, B1.out.trans (YF.out.below (by have := HT.out; omega) B1.out.size)⟩
end Go.Proofs.YtobcjbpgeohbgaaGreatDoor
