/-
  Layer 13 (queue): Take, Next, Has.
-/
import Derived.Test.YtmanmebgmhpilaaQue1
namespace Go.Proofs.Ytmanmebgmhpilaa
open Go.RowKit
set_option linter.unusedVariables false
set_option linter.unusedSimpArgs false

set_option maxRecDepth 100000 in
set_option maxHeartbeats 1000000 in
theorem qtake_gen (qv pv : Value) (id : Int) (w : World) (y : It) (b : Bool) (R : World → World → Prop) (hI : ∀ w', Below w.heap.size w w' → Items qv pv w')
    (hT : ∀ w0, Below w.heap.size w w0 → Calls Try.prog 15 #[pv, .int .i64 id] w0 fun e w2 => e = .returned (.tuple #[.agg (itCells y).toArray, .bool b]) ∧ R w0 w2)
    (hk : ∀ w0 w2, Below w.heap.size w w0 → w.heap.size < w0.heap.size → R w0 w2 → w2.heap[w.heap.size]? = w0.heap[w.heap.size]?) :
    Calls Try.prog 39 #[qv, .int .i64 id] w fun e w' => e = .returned (.tuple #[.agg (itCells y).toArray, .bool b]) ∧ ∃ w0 w2, Below w.heap.size w w0 ∧ w.heap.size < w0.heap.size ∧ R w0 w2 ∧ Only w.heap.size w2 w' := by
  obtain ⟨H, hH⟩ : ∃ H, H = w.heap.size := ⟨_, rfl⟩
  have HH := Lib.hid hH
  have B0 := Lib.hid (show Below w.heap.size w (w.alloc (.cells #[.int .i64 0, .int .i64 0, .int .i64 0, .int .i64 0, .int .i64 0, .int .i64 0, .int .i64 0] 31)) from (Below.refl _ w).alloc (Nat.le_refl _) _)
  have O0 := Lib.hid (show IsObj (w.alloc (.cells #[.int .i64 0, .int .i64 0, .int .i64 0, .int .i64 0, .int .i64 0, .int .i64 0, .int .i64 0] 31)) H 31 [.int .i64 0, .int .i64 0, .int .i64 0, .int .i64 0, .int .i64 0, .int .i64 0, .int .i64 0] by rw [hH]; exact IsObj.new w _ [.int .i64 0, .int .i64 0, .int .i64 0, .int .i64 0, .int .i64 0, .int .i64 0, .int .i64 0])
  have HI := Lib.hid (hI _ B0.out)
  unfold Items at HI
  have HT := Lib.hid (hT _ B0.out)
  have HK := Lib.hid (fun w2 hr => hk _ w2 B0.out (by simp) hr)
  have HS := Lib.hid (show w.heap.size < (w.alloc (.cells #[.int .i64 0, .int .i64 0, .int .i64 0, .int .i64 0, .int .i64 0, .int .i64 0, .int .i64 0] 31)).heap.size by simp)
  clear hI hT hk
  clear hH
  go_enter Try.func39, Try.ntmps39
  go_upto_region 1 with (fail)
  rw [← HH.out]
  generalize w.alloc (.cells #[.int .i64 0, .int .i64 0, .int .i64 0, .int .i64 0, .int .i64 0, .int .i64 0, .int .i64 0] 31) = w0 at *
  go_wp2_with (go_at_call 56; refine HI.out.mono ?_; rintro e w' ⟨rfl, rfl⟩)
  refine HT.out.mono ?_
  rintro e w2 ⟨rfl, hR⟩
  have O2 := Lib.hid (show IsObj w2 H 31 [.int .i64 0, .int .i64 0, .int .i64 0, .int .i64 0, .int .i64 0, .int .i64 0, .int .i64 0] from by have h1 := HK.out w2 hR; rw [← HH.out] at h1; exact h1.trans O0.out)
  have HR := Lib.hid hR
  clear hR
  have RT := Lib.hid (show w2.there H 0 (itCells y).toArray.size from IsObj.there O2.out 0 7 (by simp))
  have OF := Lib.hid (show IsObj (w2.setCells H 0 (itCells y).toArray.toList) H 31 (itCells y) from IsObj.setAll O2.out rfl)
  have BF := Lib.hid (show Only H w2 (w2.setCells H 0 (itCells y).toArray.toList) from Only.setCells (b := H) (itCells y) 0 (Only.refl H w2))
  go_wp2_with (refine wpList_store_mid (by rfl) 31 _ _ (by rfl) H 0 (itCells y).toArray (by rfl) (by rfl) (by exact RT.out) (by kernel_rfl) (it_one _) ?_; generalize w2.setCells H 0 (itCells y).toArray.toList = wf at *)
  have RL := run_loadVar_mid (P := Try.prog) wf H 0 31 (itCells y) _ (IsObj.range OF.out) Try.underlying31 rfl (by kernel_rfl)
  refine bodyPost_ret (v := .tuple #[.agg (itCells y).toArray, .bool b]) ?_ rfl ?_
  · exact results_cell_tmp (by rfl) (by rfl) (by rfl) RL
  · exact ⟨rfl, w0, w2, B0.out, HS.out, HR.out, by rw [← HH.out]; exact BF.out⟩
set_option maxRecDepth 100000 in
set_option maxHeartbeats 1000000 in
theorem qnext_gen (qv pv : Value) (w : World) (y : It) (b : Bool) (R : World → World → Prop) (hI : ∀ w', Below w.heap.size w w' → Items qv pv w')
    (hT : ∀ w0, Below w.heap.size w w0 → Calls Try.prog 13 #[pv] w0 fun e w2 => e = .returned (.tuple #[.agg (itCells y).toArray, .bool b]) ∧ R w0 w2)
    (hk : ∀ w0 w2, Below w.heap.size w w0 → w.heap.size < w0.heap.size → R w0 w2 → w2.heap[w.heap.size]? = w0.heap[w.heap.size]?) :
    Calls Try.prog 33 #[qv] w fun e w' => e = .returned (.tuple #[.agg (itCells y).toArray, .bool b]) ∧ ∃ w0 w2, Below w.heap.size w w0 ∧ w.heap.size < w0.heap.size ∧ R w0 w2 ∧ Only w.heap.size w2 w' := by
  obtain ⟨H, hH⟩ : ∃ H, H = w.heap.size := ⟨_, rfl⟩
  have HH := Lib.hid hH
  have B0 := Lib.hid (show Below w.heap.size w (w.alloc (.cells #[.int .i64 0, .int .i64 0, .int .i64 0, .int .i64 0, .int .i64 0, .int .i64 0, .int .i64 0] 31)) from (Below.refl _ w).alloc (Nat.le_refl _) _)
  have O0 := Lib.hid (show IsObj (w.alloc (.cells #[.int .i64 0, .int .i64 0, .int .i64 0, .int .i64 0, .int .i64 0, .int .i64 0, .int .i64 0] 31)) H 31 [.int .i64 0, .int .i64 0, .int .i64 0, .int .i64 0, .int .i64 0, .int .i64 0, .int .i64 0] by rw [hH]; exact IsObj.new w _ [.int .i64 0, .int .i64 0, .int .i64 0, .int .i64 0, .int .i64 0, .int .i64 0, .int .i64 0])
  have HI := Lib.hid (hI _ B0.out)
  unfold Items at HI
  have HT := Lib.hid (hT _ B0.out)
  have HK := Lib.hid (fun w2 hr => hk _ w2 B0.out (by simp) hr)
  have HS := Lib.hid (show w.heap.size < (w.alloc (.cells #[.int .i64 0, .int .i64 0, .int .i64 0, .int .i64 0, .int .i64 0, .int .i64 0, .int .i64 0] 31)).heap.size by simp)
  clear hI hT hk
  clear hH
  go_enter Try.func33, Try.ntmps33
  go_upto_region 1 with (fail)
  rw [← HH.out]
  generalize w.alloc (.cells #[.int .i64 0, .int .i64 0, .int .i64 0, .int .i64 0, .int .i64 0, .int .i64 0, .int .i64 0] 31) = w0 at *
  go_wp2_with (go_at_call 56; refine HI.out.mono ?_; rintro e w' ⟨rfl, rfl⟩)
  refine HT.out.mono ?_
  rintro e w2 ⟨rfl, hR⟩
  have O2 := Lib.hid (show IsObj w2 H 31 [.int .i64 0, .int .i64 0, .int .i64 0, .int .i64 0, .int .i64 0, .int .i64 0, .int .i64 0] from by have h1 := HK.out w2 hR; rw [← HH.out] at h1; exact h1.trans O0.out)
  have HR := Lib.hid hR
  clear hR
  have RT := Lib.hid (show w2.there H 0 (itCells y).toArray.size from IsObj.there O2.out 0 7 (by simp))
  have OF := Lib.hid (show IsObj (w2.setCells H 0 (itCells y).toArray.toList) H 31 (itCells y) from IsObj.setAll O2.out rfl)
  have BF := Lib.hid (show Only H w2 (w2.setCells H 0 (itCells y).toArray.toList) from Only.setCells (b := H) (itCells y) 0 (Only.refl H w2))
  go_wp2_with (refine wpList_store_mid (by rfl) 31 _ _ (by rfl) H 0 (itCells y).toArray (by rfl) (by rfl) (by exact RT.out) (by kernel_rfl) (it_one _) ?_; generalize w2.setCells H 0 (itCells y).toArray.toList = wf at *)
  have RL := run_loadVar_mid (P := Try.prog) wf H 0 31 (itCells y) _ (IsObj.range OF.out) Try.underlying31 rfl (by kernel_rfl)
  refine bodyPost_ret (v := .tuple #[.agg (itCells y).toArray, .bool b]) ?_ rfl ?_
  · exact results_cell_tmp (by rfl) (by rfl) (by rfl) RL
  · exact ⟨rfl, w0, w2, B0.out, HS.out, HR.out, by rw [← HH.out]; exact BF.out⟩
set_option maxRecDepth 100000 in
set_option maxHeartbeats 1000000 in
theorem qhas_gen (qv pv : Value) (id : Int) (w : World) (y : It) (b : Bool) (hI : Items qv pv w) (hT : Calls Try.prog 28 #[pv, .int .i64 id] w fun e w2 => e = .returned (.tuple #[.agg (itCells y).toArray, .bool b]) ∧ Below w.heap.size w w2) :
    Calls Try.prog 42 #[qv, .int .i64 id] w fun e w' => e = .returned (.bool b) ∧ Below w.heap.size w w' := by
  have HI := Lib.hid hI
  unfold Items at HI
  have HT := Lib.hid hT
  clear hI hT
  go_enter Try.func42, Try.ntmps42
  go_wp2_with (go_at_call 56; refine HI.out.mono ?_; rintro e w' ⟨rfl, rfl⟩)
  refine HT.out.mono ?_
  rintro e w1 ⟨rfl, b1⟩
  have hNV := newvar w1 (itCells y) [.int .i64 0, .int .i64 0, .int .i64 0, .int .i64 0, .int .i64 0, .int .i64 0, .int .i64 0] 31 rfl
  have TH := Lib.hid hNV.1
  have B1 := Lib.hid (b1.trans (hNV.2.2.mono b1.size))
  clear hNV b1
  go_wp2_with (refine wpList_store_mid (by rfl) 31 _ _ (by rfl) w1.heap.size 0 (itCells y).toArray (by rfl) (by rfl) (by exact TH.out) (by kernel_rfl) (it_one _) ?_; generalize (w1.alloc (.cells #[.int .i64 0, .int .i64 0, .int .i64 0, .int .i64 0, .int .i64 0, .int .i64 0, .int .i64 0] 31)).setCells w1.heap.size 0 (itCells y).toArray.toList = w2 at *)
  go_ret
  exact ⟨rfl, B1.out⟩
/-- A queue in memory: its struct, its pile. -/
structure QAt (w : World) (q p M : Nat) (most : Int) (tv : Value) (T : List It) : Prop where
  o : QObj w q (.pointer (some ⟨p, 0, none⟩)) most
  h : PAt w p M most tv T
  ap : q ≠ p ∧ q ≠ M ∧ some q ≠ tv.ownBlock
theorem QAt.same {w w' : World} {q p M : Nat} {most : Int} {tv : Value} {T : List It} (h : QAt w q p M most tv T) (hb : Below w.heap.size w w') : QAt w' q p M most tv T := ⟨IsObj.below h.o hb h.o.lt, h.h.same hb, h.ap⟩
theorem QAt.frp {w w' : World} {q p M : Nat} {most : Int} {tv tv' : Value} {T T' : List It} (h : QAt w q p M most tv T) (f : Frp p M tv tv' w w') (h' : PAt w' p M most tv' T') : QAt w' q p M most tv' T' :=
  ⟨f.isObj h.o h.ap.1 h.ap.2.1 h.ap.2.2, h', SeAt.far f h.o.lt h.ap⟩
section
variable {w : World} {q p M : Nat} {most : Int} {tv : Value} {T : List It}
theorem QAt.items (h : QAt w q p M most tv T) : ∀ w', Below w.heap.size w w' → Items (.pointer (some ⟨q, 0, none⟩)) (.pointer (some ⟨p, 0, none⟩)) w' := fun w' hb => items_any (h.same hb).o
/-- The pile moves on in the middle of a queue's call, whose result lies in the block made first. -/
theorem frp_mid {w w0 w2 w' : World} {p M : Nat} {most : Int} {tv tv' : Value} {T T' : List It} (h : PAt w p M most tv T) (b0 : Below w.heap.size w w0) (hs : w.heap.size < w0.heap.size) (hp : PAt w2 p M most tv' T') (f : Frp p M tv tv' w0 w2) (ho : Only w.heap.size w2 w') : PAt w' p M most tv' T' ∧ Frp p M tv tv' w w' := by
  have f2 := (Frp.below (p := p) (M := M) (tv := tv) b0).trans f
  have hy := h.young rfl
  refine ⟨hp.other ho hy.1 hy.2.1 (fun e => ?_), f2.late ho (Nat.le_refl _)⟩
  rcases f.own with h2 | h2
  · exact hy.2.2 (by rw [e, h2])
  · have h3 := h2 w.heap.size e.symm
    omega
end
end Go.Proofs.Ytmanmebgmhpilaa
