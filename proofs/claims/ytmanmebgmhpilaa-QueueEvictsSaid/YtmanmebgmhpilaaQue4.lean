/-
  Layer 13 (queue): Add.
-/
import Derived.Test.YtmanmebgmhpilaaQue3
namespace Go.Proofs.Ytmanmebgmhpilaa
open Go.RowKit
set_option linter.unusedVariables false
set_option linter.unusedSimpArgs false

theorem results_ctt {fn : Func} {tmps : Array Value} {a i k : Nat} {t : TypeId} {ad : Addr} {w : World} {v x y : Value} (h : fn.results = #[.cell a t, .tmp i, .tmp k]) (ha : tmps.getD a undef = .pointer (some ad)) (hi : tmps.getD i undef = y) (hx : tmps.getD k undef = x) (hl : (loadVar t ad).run Try.prog w = .ok v w) : (results fn tmps).run Try.prog w = .ok (.tuple #[v, y, x]) w := by
  rw [Array.getD_eq_getD_getElem?] at hi ha hx
  simp [results, h, hi, ha, asAddr, hl, hx]
set_option maxRecDepth 100000 in
set_option maxHeartbeats 2000000 in
theorem qadd_twice {w : World} {q p M : Nat} {most : Int} {tv : Value} {T : List It} (x : It) (k : Nat) (h : QAt w q p M most tv T) (hk : k < T.length) (hx : (nth T k).id = x.id) : Calls Try.prog 34 #[.pointer (some ⟨q, 0, none⟩), itV x] w fun e w' => e = .returned (.tuple #[.agg (itCells it0).toArray, .bool false, .int .i64 8]) ∧ Below w.heap.size w w' := by
  obtain ⟨B, hB⟩ : ∃ B, B = w.heap.size := ⟨_, rfl⟩
  obtain ⟨H, hH⟩ : ∃ H, H = w.heap.size + 1 := ⟨_, rfl⟩
  have HBH := Lib.hid (And.intro hB hH)
  have B0 := Lib.hid (show Below w.heap.size w ((w.alloc (.cells #[.int .i64 x.id, .int .i64 x.lev, .int .i64 x.frm, .int .i64 x.dl, .int .i64 x.bud, .int .i64 x.since, .int .i64 x.seq] 31)).alloc (.cells #[.int .i64 0, .int .i64 0, .int .i64 0, .int .i64 0, .int .i64 0, .int .i64 0, .int .i64 0] 31)) from ((Below.refl _ w).alloc (Nat.le_refl _) _).alloc (by simp) _)
  have VX0 := Lib.hid (show IsObj ((w.alloc (.cells #[.int .i64 x.id, .int .i64 x.lev, .int .i64 x.frm, .int .i64 x.dl, .int .i64 x.bud, .int .i64 x.since, .int .i64 x.seq] 31)).alloc (.cells #[.int .i64 0, .int .i64 0, .int .i64 0, .int .i64 0, .int .i64 0, .int .i64 0, .int .i64 0] 31)) B 31 (itCells x) by rw [hB]; exact (IsObj.new w _ (itCells x)).alloc _)
  have O0 := Lib.hid (show IsObj ((w.alloc (.cells #[.int .i64 x.id, .int .i64 x.lev, .int .i64 x.frm, .int .i64 x.dl, .int .i64 x.bud, .int .i64 x.since, .int .i64 x.seq] 31)).alloc (.cells #[.int .i64 0, .int .i64 0, .int .i64 0, .int .i64 0, .int .i64 0, .int .i64 0, .int .i64 0] 31)) H 31 [.int .i64 0, .int .i64 0, .int .i64 0, .int .i64 0, .int .i64 0, .int .i64 0, .int .i64 0] by
    rw [hH]
    have h := IsObj.new (w.alloc (.cells #[.int .i64 x.id, .int .i64 x.lev, .int .i64 x.frm, .int .i64 x.dl, .int .i64 x.bud, .int .i64 x.since, .int .i64 x.seq] 31)) 31 [.int .i64 0, .int .i64 0, .int .i64 0, .int .i64 0, .int .i64 0, .int .i64 0, .int .i64 0]
    rw [World.size_alloc] at h
    exact h)
  clear hB hH
  have HI := Lib.hid (h.items _ B0.out)
  unfold Items at HI
  have KP := Lib.hid (ppush_twice k x (h.h.same B0.out) hk hx)
  clear h hx
  go_enter Try.func34, Try.ntmps34
  go_upto_region 1 with (fail)
  rw [← HBH.out.2, ← HBH.out.1]
  generalize ((w.alloc (.cells #[.int .i64 x.id, .int .i64 x.lev, .int .i64 x.frm, .int .i64 x.dl, .int .i64 x.bud, .int .i64 x.since, .int .i64 x.seq] 31)).alloc (.cells #[.int .i64 0, .int .i64 0, .int .i64 0, .int .i64 0, .int .i64 0, .int .i64 0, .int .i64 0] 31)) = w0 at *
  have x0 : w0.cell? ⟨B, 0, none⟩ = some (.int .i64 x.id) := VX0.out.cell 0
  have x1 : w0.cell? ⟨B, 1, none⟩ = some (.int .i64 x.lev) := VX0.out.cell 1
  have x2 : w0.cell? ⟨B, 2, none⟩ = some (.int .i64 x.frm) := VX0.out.cell 2
  have x3 : w0.cell? ⟨B, 3, none⟩ = some (.int .i64 x.dl) := VX0.out.cell 3
  have x4 : w0.cell? ⟨B, 4, none⟩ = some (.int .i64 x.bud) := VX0.out.cell 4
  have x5 : w0.cell? ⟨B, 5, none⟩ = some (.int .i64 x.since) := VX0.out.cell 5
  have x6 : w0.cell? ⟨B, 6, none⟩ = some (.int .i64 x.seq) := VX0.out.cell 6
  go_wp2_with (go_at_call 56; refine HI.out.mono ?_; rintro e w' ⟨rfl, rfl⟩)
  refine KP.out.mono ?_
  rintro e w1 ⟨rfl, b1⟩
  have VX1 := Lib.hid (IsObj.below VX0.out b1 VX0.out.lt)
  have O1 := Lib.hid (IsObj.below O0.out b1 O0.out.lt)
  have B1 := Lib.hid (B0.out.trans (b1.mono B0.out.size))
  clear VX0 O0 B0
  clear x0 x1 x2 x3 x4 x5 x6
  clear b1
  have RT := Lib.hid (show w1.there H 0 (itCells it0).toArray.size from IsObj.there O1.out 0 7 (by simp))
  have OF := Lib.hid (show IsObj (w1.setCells H 0 (itCells it0).toArray.toList) H 31 (itCells it0) from IsObj.setAll O1.out rfl)
  have BF := Lib.hid (show Only H w1 (w1.setCells H 0 (itCells it0).toArray.toList) from Only.setCells (b := H) (itCells it0) 0 (Only.refl H w1))
  go_wp2_with (refine wpList_store_mid (by rfl) 31 _ _ (by rfl) H 0 (itCells it0).toArray (by rfl) (by rfl) (by exact RT.out) (by kernel_rfl) (it_one _) ?_; generalize w1.setCells H 0 (itCells it0).toArray.toList = wf at *)
  have RL := run_loadVar_mid (P := Try.prog) wf H 0 31 (itCells it0) _ (IsObj.range OF.out) Try.underlying31 rfl (by kernel_rfl)
  refine bodyPost_ret (v := .tuple #[.agg (itCells it0).toArray, .bool false, .int .i64 8]) ?_ rfl ?_
  · exact results_ctt (by rfl) (by rfl) (by rfl) (by rfl) RL
  · exact ⟨rfl, B1.out.trans (BF.out.below (by have := HBH.out.2; omega) B1.out.size)⟩
set_option maxRecDepth 100000 in
set_option maxHeartbeats 2000000 in
theorem qadd_ok {w : World} {q p M : Nat} {most : Int} {tv : Value} {T : List It} (x : It) (h : QAt w q p M most tv T) (hx : IdOk x.id) (hn : x.id ∉ T.map It.id) (hm : (T.length : Int) < most) (hm64 : most ≤ 64) : Calls Try.prog 34 #[.pointer (some ⟨q, 0, none⟩), itV x] w fun e w' => e = .returned (.tuple #[.agg (itCells it0).toArray, .bool false, .int .i64 0]) ∧ ∃ tv', QAt w' q p M most tv' (upT (T ++ [x]) T.length) ∧ Frp p M tv tv' w w' := by
  obtain ⟨B, hB⟩ : ∃ B, B = w.heap.size := ⟨_, rfl⟩
  obtain ⟨H, hH⟩ : ∃ H, H = w.heap.size + 1 := ⟨_, rfl⟩
  have HBH := Lib.hid (And.intro hB hH)
  have B0 := Lib.hid (show Below w.heap.size w ((w.alloc (.cells #[.int .i64 x.id, .int .i64 x.lev, .int .i64 x.frm, .int .i64 x.dl, .int .i64 x.bud, .int .i64 x.since, .int .i64 x.seq] 31)).alloc (.cells #[.int .i64 0, .int .i64 0, .int .i64 0, .int .i64 0, .int .i64 0, .int .i64 0, .int .i64 0] 31)) from ((Below.refl _ w).alloc (Nat.le_refl _) _).alloc (by simp) _)
  have VX0 := Lib.hid (show IsObj ((w.alloc (.cells #[.int .i64 x.id, .int .i64 x.lev, .int .i64 x.frm, .int .i64 x.dl, .int .i64 x.bud, .int .i64 x.since, .int .i64 x.seq] 31)).alloc (.cells #[.int .i64 0, .int .i64 0, .int .i64 0, .int .i64 0, .int .i64 0, .int .i64 0, .int .i64 0] 31)) B 31 (itCells x) by rw [hB]; exact (IsObj.new w _ (itCells x)).alloc _)
  have O0 := Lib.hid (show IsObj ((w.alloc (.cells #[.int .i64 x.id, .int .i64 x.lev, .int .i64 x.frm, .int .i64 x.dl, .int .i64 x.bud, .int .i64 x.since, .int .i64 x.seq] 31)).alloc (.cells #[.int .i64 0, .int .i64 0, .int .i64 0, .int .i64 0, .int .i64 0, .int .i64 0, .int .i64 0] 31)) H 31 [.int .i64 0, .int .i64 0, .int .i64 0, .int .i64 0, .int .i64 0, .int .i64 0, .int .i64 0] by
    rw [hH]
    have h := IsObj.new (w.alloc (.cells #[.int .i64 x.id, .int .i64 x.lev, .int .i64 x.frm, .int .i64 x.dl, .int .i64 x.bud, .int .i64 x.since, .int .i64 x.seq] 31)) 31 [.int .i64 0, .int .i64 0, .int .i64 0, .int .i64 0, .int .i64 0, .int .i64 0, .int .i64 0]
    rw [World.size_alloc] at h
    exact h)
  clear hB hH
  have HQ := Lib.hid h
  have HI := Lib.hid (h.items _ B0.out)
  unfold Items at HI
  have KP := Lib.hid (ppush_ok x (h.h.same B0.out) hx hn hm hm64)
  have hyH : H ≠ p ∧ H ≠ M ∧ some H ≠ tv.ownBlock := by
    obtain ⟨D, hr, _⟩ := h.h.raw
    have h1 := hr.o.lt
    have h2 := hr.m.lt
    have h3 := HBH.out.2
    exact ⟨by omega, by omega, fun e => by have := (hr.t.lt H e.symm).2; omega⟩
  have HY := Lib.hid hyH
  have HS := Lib.hid (show w.heap.size < (((w.alloc (.cells #[.int .i64 x.id, .int .i64 x.lev, .int .i64 x.frm, .int .i64 x.dl, .int .i64 x.bud, .int .i64 x.since, .int .i64 x.seq] 31)).alloc (.cells #[.int .i64 0, .int .i64 0, .int .i64 0, .int .i64 0, .int .i64 0, .int .i64 0, .int .i64 0] 31))).heap.size by simp; omega)
  clear h hyH
  go_enter Try.func34, Try.ntmps34
  go_upto_region 1 with (fail)
  rw [← HBH.out.2, ← HBH.out.1]
  generalize ((w.alloc (.cells #[.int .i64 x.id, .int .i64 x.lev, .int .i64 x.frm, .int .i64 x.dl, .int .i64 x.bud, .int .i64 x.since, .int .i64 x.seq] 31)).alloc (.cells #[.int .i64 0, .int .i64 0, .int .i64 0, .int .i64 0, .int .i64 0, .int .i64 0, .int .i64 0] 31)) = w0 at *
  have x0 : w0.cell? ⟨B, 0, none⟩ = some (.int .i64 x.id) := VX0.out.cell 0
  have x1 : w0.cell? ⟨B, 1, none⟩ = some (.int .i64 x.lev) := VX0.out.cell 1
  have x2 : w0.cell? ⟨B, 2, none⟩ = some (.int .i64 x.frm) := VX0.out.cell 2
  have x3 : w0.cell? ⟨B, 3, none⟩ = some (.int .i64 x.dl) := VX0.out.cell 3
  have x4 : w0.cell? ⟨B, 4, none⟩ = some (.int .i64 x.bud) := VX0.out.cell 4
  have x5 : w0.cell? ⟨B, 5, none⟩ = some (.int .i64 x.since) := VX0.out.cell 5
  have x6 : w0.cell? ⟨B, 6, none⟩ = some (.int .i64 x.seq) := VX0.out.cell 6
  go_wp2_with (go_at_call 56; refine HI.out.mono ?_; rintro e w' ⟨rfl, rfl⟩)
  refine KP.out.mono ?_
  rintro e w1 ⟨rfl, tv', hp1, f1⟩
  have HP1 := Lib.hid hp1
  have F1 := Lib.hid f1
  have O1 := Lib.hid (f1.isObj O0.out HY.out.1 HY.out.2.1 HY.out.2.2)
  clear x0 x1 x2 x3 x4 x5 x6
  clear hp1 f1 VX0
  have RT := Lib.hid (show w1.there H 0 (itCells it0).toArray.size from IsObj.there O1.out 0 7 (by simp))
  have OF := Lib.hid (show IsObj (w1.setCells H 0 (itCells it0).toArray.toList) H 31 (itCells it0) from IsObj.setAll O1.out rfl)
  have BF := Lib.hid (show Only H w1 (w1.setCells H 0 (itCells it0).toArray.toList) from Only.setCells (b := H) (itCells it0) 0 (Only.refl H w1))
  go_wp2_with (refine wpList_store_mid (by rfl) 31 _ _ (by rfl) H 0 (itCells it0).toArray (by rfl) (by rfl) (by exact RT.out) (by kernel_rfl) (it_one _) ?_; generalize w1.setCells H 0 (itCells it0).toArray.toList = wf at *)
  have RL := run_loadVar_mid (P := Try.prog) wf H 0 31 (itCells it0) _ (IsObj.range OF.out) Try.underlying31 rfl (by kernel_rfl)
  refine bodyPost_ret (v := .tuple #[.agg (itCells it0).toArray, .bool false, .int .i64 0]) ?_ rfl ?_
  · exact results_ctt (by rfl) (by rfl) (by rfl) (by rfl) RL
  · have f2 := ((Frp.below (p := p) (M := M) (tv := tv) B0.out).trans F1.out).late BF.out (by have := HBH.out.2; omega)
    have hHt : some H ≠ tv'.ownBlock := by
      intro e
      rcases F1.out.own with h2 | h2
      · exact HY.out.2.2 (by rw [e, h2])
      · have h3 := h2 H e.symm
        have h4 := O0.out.lt
        omega
    exact ⟨rfl, tv', HQ.out.frp f2 (HP1.out.other BF.out HY.out.1 HY.out.2.1 hHt), f2⟩
set_option maxRecDepth 100000 in
set_option maxHeartbeats 4000000 in
/-- Where there is no room, and the new one is the one that must go: a queue with a pile, or with none. -/
theorem qadd_keep (qv pv : Value) (x : It) (X : List It) (w : World) (hI : ∀ w', Below w.heap.size w w' → Items qv pv w') (hP : ∀ w', Below w.heap.size w w' → Calls Try.prog 12 #[pv, itV x] w' fun e w2 => e = .returned (.int .i64 6) ∧ Below w'.heap.size w' w2)
    (hall : ∀ w', Below w.heap.size w w' → Calls Try.prog 27 #[pv] w' fun e w2 => ∃ v, e = .returned v ∧ w2.ownsRow w'.heap.size 31 7 v X.length (X.flatMap itCells) ∧ Below w'.heap.size w' w2) (hlen : X.length ≤ 64) (hk : vict (X ++ [x]) (X.length + 1) = X.length) :
    Calls Try.prog 34 #[qv, itV x] w fun e w' => e = .returned (.tuple #[.agg (itCells x).toArray, .bool true, .int .i64 0]) ∧ Below w.heap.size w w' := by
  obtain ⟨i0, hi, hz0, hz1, hz2⟩ := info_parts item_parts
  obtain ⟨B, hB⟩ : ∃ B, B = w.heap.size := ⟨_, rfl⟩
  obtain ⟨H, hH⟩ : ∃ H, H = w.heap.size + 1 := ⟨_, rfl⟩
  have HBH := Lib.hid (And.intro hB hH)
  have B0 := Lib.hid (show Below w.heap.size w ((w.alloc (.cells #[.int .i64 x.id, .int .i64 x.lev, .int .i64 x.frm, .int .i64 x.dl, .int .i64 x.bud, .int .i64 x.since, .int .i64 x.seq] 31)).alloc (.cells #[.int .i64 0, .int .i64 0, .int .i64 0, .int .i64 0, .int .i64 0, .int .i64 0, .int .i64 0] 31)) from ((Below.refl _ w).alloc (Nat.le_refl _) _).alloc (by simp) _)
  have VX0 := Lib.hid (show IsObj ((w.alloc (.cells #[.int .i64 x.id, .int .i64 x.lev, .int .i64 x.frm, .int .i64 x.dl, .int .i64 x.bud, .int .i64 x.since, .int .i64 x.seq] 31)).alloc (.cells #[.int .i64 0, .int .i64 0, .int .i64 0, .int .i64 0, .int .i64 0, .int .i64 0, .int .i64 0] 31)) B 31 (itCells x) by rw [hB]; exact (IsObj.new w _ (itCells x)).alloc _)
  have O0 := Lib.hid (show IsObj ((w.alloc (.cells #[.int .i64 x.id, .int .i64 x.lev, .int .i64 x.frm, .int .i64 x.dl, .int .i64 x.bud, .int .i64 x.since, .int .i64 x.seq] 31)).alloc (.cells #[.int .i64 0, .int .i64 0, .int .i64 0, .int .i64 0, .int .i64 0, .int .i64 0, .int .i64 0] 31)) H 31 [.int .i64 0, .int .i64 0, .int .i64 0, .int .i64 0, .int .i64 0, .int .i64 0, .int .i64 0] by
    rw [hH]
    have h := IsObj.new (w.alloc (.cells #[.int .i64 x.id, .int .i64 x.lev, .int .i64 x.frm, .int .i64 x.dl, .int .i64 x.bud, .int .i64 x.since, .int .i64 x.seq] 31)) 31 [.int .i64 0, .int .i64 0, .int .i64 0, .int .i64 0, .int .i64 0, .int .i64 0, .int .i64 0]
    rw [World.size_alloc] at h
    exact h)
  clear hB hH
  have HI := Lib.hid (hI _ B0.out)
  unfold Items at HI
  have KP := Lib.hid (hP _ B0.out)
  have HAL0 := Lib.hid hall
  clear hI hP hall
  go_enter Try.func34, Try.ntmps34
  go_upto_region 1 with (fail)
  rw [← HBH.out.2, ← HBH.out.1]
  generalize ((w.alloc (.cells #[.int .i64 x.id, .int .i64 x.lev, .int .i64 x.frm, .int .i64 x.dl, .int .i64 x.bud, .int .i64 x.since, .int .i64 x.seq] 31)).alloc (.cells #[.int .i64 0, .int .i64 0, .int .i64 0, .int .i64 0, .int .i64 0, .int .i64 0, .int .i64 0] 31)) = w0 at *
  have x0 : w0.cell? ⟨B, 0, none⟩ = some (.int .i64 x.id) := VX0.out.cell 0
  have x1 : w0.cell? ⟨B, 1, none⟩ = some (.int .i64 x.lev) := VX0.out.cell 1
  have x2 : w0.cell? ⟨B, 2, none⟩ = some (.int .i64 x.frm) := VX0.out.cell 2
  have x3 : w0.cell? ⟨B, 3, none⟩ = some (.int .i64 x.dl) := VX0.out.cell 3
  have x4 : w0.cell? ⟨B, 4, none⟩ = some (.int .i64 x.bud) := VX0.out.cell 4
  have x5 : w0.cell? ⟨B, 5, none⟩ = some (.int .i64 x.since) := VX0.out.cell 5
  have x6 : w0.cell? ⟨B, 6, none⟩ = some (.int .i64 x.seq) := VX0.out.cell 6
  go_wp2_with (go_at_call 56; refine HI.out.mono ?_; rintro e w' ⟨rfl, rfl⟩)
  refine KP.out.mono ?_
  rintro e w1 ⟨rfl, b1⟩
  have HAL := Lib.hid (fun w' (hb : Below w1.heap.size w1 w') => HAL0.out w' (B0.out.trans ((b1.trans (hb.mono b1.size)).mono B0.out.size)))
  have VX1 := Lib.hid (IsObj.below VX0.out b1 VX0.out.lt)
  have O1 := Lib.hid (IsObj.below O0.out b1 O0.out.lt)
  have B1 := Lib.hid (B0.out.trans (b1.mono B0.out.size))
  clear VX0 O0 B0
  clear x0 x1 x2 x3 x4 x5 x6
  clear b1 HAL0 KP HI
  have hBl : B < w1.heap.size := VX1.out.lt
  have K1 : PushS B x w1 := ⟨VX1.out.cell 0, VX1.out.cell 1, VX1.out.cell 2, VX1.out.cell 3, VX1.out.cell 4, VX1.out.cell 5, VX1.out.cell 6⟩
  go_upto_region 7 with (fail)
  go_cut [8] (fun s8 wx => Aside (wx.ownsRow w1.heap.size 31 7 s8 (X.length + 1) ((X ++ [x]).flatMap itCells) ∧ Below w1.heap.size w1 wx))
  case first =>
    refine wp_region_held_drew (S := PushS B x) (by kernel_rfl) ?_ (fun hHeld => ?_)
    · exact K1
    refine wpAnyH_take (i := 0) (oi := ?oi7) (v := ?v7) ?hi7 (by kernel_rfl) (by kernel_rfl) (by kernel_rfl) ?hQ7 ?hy7 (by assumption) ?_
    case hi7 => (simp only [List.getElem?_toArray, List.getElem?_cons_succ, List.getElem?_cons_zero]; rfl)
    case hQ7 => exact fun _ _ _ h => h
    case hy7 => (refine Or.inl ⟨by rfl, ?_⟩; intro w hSw; (obtain ⟨hSw0, hSw1, hSw2, hSw3, hSw4, hSw5, hSw6⟩ := hSw); go_simp; try with_reducible rfl)
    try simp only [Act.put, List.setIfInBounds_toArray, List.set_cons_zero, List.set_cons_succ]
    refine wpAnyH_take (i := 2) (oi := ?oi8) (v := ?v8) ?hi8 (by kernel_rfl) (by kernel_rfl) (by kernel_rfl) ?hQ8 ?hy8 (by assumption) ?_
    case hi8 => (simp only [List.getElem?_toArray, List.getElem?_cons_succ, List.getElem?_cons_zero]; rfl)
    case hQ8 => exact fun _ _ _ h => h
    case hy8 => (refine Or.inl ⟨by rfl, ?_⟩; intro w hSw; (obtain ⟨hSw0, hSw1, hSw2, hSw3, hSw4, hSw5, hSw6⟩ := hSw); go_simp; try with_reducible rfl)
    try simp only [Act.put, List.setIfInBounds_toArray, List.set_cons_zero, List.set_cons_succ]
    refine wpAnyH_ready (rs := [1, 3]) (by kernel_rfl) (by simp) ?_
    refine AllReadyH.cons (o := ?oi901) ?ho901 (fun K hK => ?_) (AllReadyH.cons (o := ?oi903) ?ho903 (fun K hK => ?_) AllReadyH.nil)
    case ho901 => (simp only [List.getElem?_toArray, List.getElem?_cons_succ, List.getElem?_cons_zero]; rfl)
    case ho903 => (simp only [List.getElem?_toArray, List.getElem?_cons_succ, List.getElem?_cons_zero]; rfl)
    · go_simp
      go_at_call 27
      refine (HAL.out w1.drew (Below.refl _ _).drew).mono ?_
      rintro e w2 ⟨v, rfl, hown2, hb2⟩
      have hb2' : Below w1.heap.size w1 w2 := (show Below w1.heap.size w1 w1.drew from (Below.refl _ _).drew).trans hb2
      have K2 : PushS B x w2 := PushS.move (W := w1) (hb2'.block B hBl) K1
      refine hK.out _ _ ?_ (fun hHeld => ?_)
      · (try dsimp only); exact K2
      clear hK K
      try simp only [Act.put, List.setIfInBounds_toArray, List.set_cons_zero, List.set_cons_succ]
      have K3 : PushS B x (w2.alloc (.cells #[.int .i64 x.id, .int .i64 x.lev, .int .i64 x.frm, .int .i64 x.dl, .int .i64 x.bud, .int .i64 x.since, .int .i64 x.seq] 31)) := PushS.move (W := w2) (Below.heap_alloc w2 _ B (by have := hb2'.size; omega)) K2
      refine wpAnyH_ready (rs := [3]) (by kernel_rfl) (by simp) ?_
      refine AllReadyH.cons (o := ?oi100) ?ho100 (fun K hK => ?_) AllReadyH.nil
      case ho100 => (simp only [List.getElem?_toArray, List.getElem?_cons_succ, List.getElem?_cons_zero]; rfl)
      go_simp
      refine hK.out _ _ ?_ (fun hHeld => ?_)
      · (try dsimp only); exact K3
      clear hK K
      try simp only [Act.put, List.setIfInBounds_toArray, List.set_cons_zero, List.set_cons_succ]
      obtain ⟨S, hS⟩ : ∃ S, S = w2.heap.size := ⟨_, rfl⟩
      have hb1S : w1.heap.size ≤ (w2.alloc (.cells #[.int .i64 x.id, .int .i64 x.lev, .int .i64 x.frm, .int .i64 x.dl, .int .i64 x.bud, .int .i64 x.since, .int .i64 x.seq] 31)).heap.size := by have := hb2'.size; simp; omega
      have hnews : ∀ j u, (itCells x)[j]? = some u → (w2.alloc (.cells #[.int .i64 x.id, .int .i64 x.lev, .int .i64 x.frm, .int .i64 x.dl, .int .i64 x.bud, .int .i64 x.since, .int .i64 x.seq] 31)).cell? ((⟨S, 0, none⟩ : Addr).add j) = some u := fun j u hu => by rw [addr_add, Nat.zero_add, hS]; exact ((IsObj.new w2 31 (itCells x)).cell j).trans hu
      have hownA : (w2.alloc (.cells #[.int .i64 x.id, .int .i64 x.lev, .int .i64 x.frm, .int .i64 x.dl, .int .i64 x.bud, .int .i64 x.since, .int .i64 x.seq] 31)).ownsRow w1.heap.size 31 7 v X.length (X.flatMap itCells) := World.ownsRow.alloc hown2 _
      rw [← hS]
      obtain ⟨v', w4, hra, hown4, hg4, hnil, hob⟩ := run_append_own_at (P := Try.prog) (w2.alloc (.cells #[.int .i64 x.id, .int .i64 x.lev, .int .i64 x.frm, .int .i64 x.dl, .int .i64 x.bud, .int .i64 x.since, .int .i64 x.seq] 31)) w1.heap.size 22 22 31 i0 (.agg #[.int .i64 0, .int .i64 0, .int .i64 0, .int .i64 0, .int .i64 0, .int .i64 0, .int .i64 0]) 7 56 Try.underlying22 hi hz0 hz1 hz2 rfl (by decide) v X.length (X.flatMap itCells) hownA ⟨S, 0, none⟩ 1 1 (itCells x) (by rw [itCells_len]) hnews (it_cells1 x) (by unfold maxLen; omega) (by omega) hb1S
      have hb4 : Below w1.heap.size (w2.alloc (.cells #[.int .i64 x.id, .int .i64 x.lev, .int .i64 x.frm, .int .i64 x.dl, .int .i64 x.bud, .int .i64 x.since, .int .i64 x.seq] 31)) w4 := Below.grown (Below.refl _ _) hg4 hb1S (fun g hg => (hownA.lt g hg).1)
      have hbf : Below w1.heap.size w1 w4 := (show Below w1.heap.size w1 (w2.alloc (.cells #[.int .i64 x.id, .int .i64 x.lev, .int .i64 x.frm, .int .i64 x.dl, .int .i64 x.bud, .int .i64 x.since, .int .i64 x.seq] 31)) from hb2'.alloc (by exact hb2'.size) _).trans hb4
      have K4 : PushS B x w4 := PushS.move (W := w1) (hbf.block B hBl) K1
      have HF := Lib.hid (And.intro hown4 hbf)
      clear hown4 hg4 hnil hob hb4 hbf
      refine wpAnyH_ready (rs := [4]) (by kernel_rfl) (by simp) ?_
      refine AllReadyH.cons (o := ?oi200) ?ho200 (fun K hK => ?_) AllReadyH.nil
      case ho200 => (simp only [List.getElem?_toArray, List.getElem?_cons_succ, List.getElem?_cons_zero]; rfl)
      refine step_run_append (by rfl) (by rfl) (by rfl) (by rfl) hra ?_
      refine hK.out _ _ ?_ (fun hHeld => ?_)
      · (try dsimp only); exact K4
      clear hK K
      try simp only [Act.put, List.setIfInBounds_toArray, List.set_cons_zero, List.set_cons_succ]
      refine wpAnyH_take (i := 5) (oi := ?oi3) (v := ?v3) ?hi3 (by kernel_rfl) (by kernel_rfl) (by kernel_rfl) ?hQ3 ?hy3 (by assumption) ?_
      case hi3 => (simp only [List.getElem?_toArray, List.getElem?_cons_succ, List.getElem?_cons_zero]; rfl)
      case hQ3 => exact fun _ _ _ h => h
      case hy3 => (refine Or.inl ⟨by rfl, ?_⟩; intro w hSw; (obtain ⟨hSw0, hSw1, hSw2, hSw3, hSw4, hSw5, hSw6⟩ := hSw); go_simp; try with_reducible rfl)
      try simp only [Act.put, List.setIfInBounds_toArray, List.set_cons_zero, List.set_cons_succ]
      refine wpAnyH_done (by kernel_rfl) ?_ _
      go_wp2_with fail
      go_meet
      case rel => exact (show w4.ownsRow w1.heap.size 31 7 v' (X.length + 1) ((X ++ [x]).flatMap itCells) ∧ Below w1.heap.size w1 w4 from ⟨by rw [List.flatMap_append, List.flatMap_cons, List.flatMap_nil, List.append_nil]; exact HF.out.1, HF.out.2⟩)
    · go_simp
      refine hK.out _ _ ?_ (fun hHeld => ?_)
      · (try dsimp only); exact PushS.move (W := w1.drew) (Below.heap_alloc w1.drew _ B hBl) K1
      clear hK K
      try simp only [Act.put, List.setIfInBounds_toArray, List.set_cons_zero, List.set_cons_succ]
      have hbB : Below w1.heap.size w1 (w1.drew.alloc (.cells #[.int .i64 x.id, .int .i64 x.lev, .int .i64 x.frm, .int .i64 x.dl, .int .i64 x.bud, .int .i64 x.since, .int .i64 x.seq] 31)) := (show Below w1.heap.size w1 w1.drew from (Below.refl _ _).drew).alloc (Nat.le_refl _) _
      refine wpAnyH_ready (rs := [1]) (by kernel_rfl) (by simp) ?_
      refine AllReadyH.cons (o := ?oi400) ?ho400 (fun K hK => ?_) AllReadyH.nil
      case ho400 => (simp only [List.getElem?_toArray, List.getElem?_cons_succ, List.getElem?_cons_zero]; rfl)
      go_simp
      go_at_call 27
      refine (HAL.out _ hbB).mono ?_
      rintro e w2 ⟨v, rfl, hown2, hb2⟩
      have hb2' : Below w1.heap.size w1 w2 := hbB.trans (hb2.mono hbB.size)
      have K2 : PushS B x w2 := PushS.move (W := w1) (hb2'.block B hBl) K1
      refine hK.out _ _ ?_ (fun hHeld => ?_)
      · (try dsimp only); exact K2
      clear hK K
      try simp only [Act.put, List.setIfInBounds_toArray, List.set_cons_zero, List.set_cons_succ]
      obtain ⟨S, hS⟩ : ∃ S, S = w1.heap.size := ⟨_, rfl⟩
      have hb1S : w1.heap.size ≤ w2.heap.size := hb2'.size
      have hnews : ∀ j u, (itCells x)[j]? = some u → w2.cell? ((⟨S, 0, none⟩ : Addr).add j) = some u := fun j u hu => by
        rw [addr_add, Nat.zero_add, hS]
        have o := IsObj.below (IsObj.new w1.drew 31 (itCells x)) hb2 (by show w1.heap.size < (w1.drew.alloc _).heap.size; rw [World.size_alloc]; exact Nat.lt_succ_self _)
        exact (o.cell j).trans hu
      have hownA : w2.ownsRow w1.heap.size 31 7 v X.length (X.flatMap itCells) := own_mono hown2 hbB.size
      rw [← hS]
      obtain ⟨v', w4, hra, hown4, hg4, hnil, hob⟩ := run_append_own_at (P := Try.prog) w2 w1.heap.size 22 22 31 i0 (.agg #[.int .i64 0, .int .i64 0, .int .i64 0, .int .i64 0, .int .i64 0, .int .i64 0, .int .i64 0]) 7 56 Try.underlying22 hi hz0 hz1 hz2 rfl (by decide) v X.length (X.flatMap itCells) hownA ⟨S, 0, none⟩ 1 1 (itCells x) (by rw [itCells_len]) hnews (it_cells1 x) (by unfold maxLen; omega) (by omega) hb1S
      have hb4 : Below w1.heap.size w2 w4 := Below.grown (Below.refl _ _) hg4 hb1S (fun g hg => (hownA.lt g hg).1)
      have hbf : Below w1.heap.size w1 w4 := hb2'.trans hb4
      have K4 : PushS B x w4 := PushS.move (W := w1) (hbf.block B hBl) K1
      have HF := Lib.hid (And.intro hown4 hbf)
      clear hown4 hg4 hnil hob hb4 hbf
      refine wpAnyH_ready (rs := [4]) (by kernel_rfl) (by simp) ?_
      refine AllReadyH.cons (o := ?oi500) ?ho500 (fun K hK => ?_) AllReadyH.nil
      case ho500 => (simp only [List.getElem?_toArray, List.getElem?_cons_succ, List.getElem?_cons_zero]; rfl)
      refine step_run_append (by rfl) (by rfl) (by rfl) (by rfl) hra ?_
      refine hK.out _ _ ?_ (fun hHeld => ?_)
      · (try dsimp only); exact K4
      clear hK K
      try simp only [Act.put, List.setIfInBounds_toArray, List.set_cons_zero, List.set_cons_succ]
      refine wpAnyH_take (i := 5) (oi := ?oi6) (v := ?v6) ?hi6 (by kernel_rfl) (by kernel_rfl) (by kernel_rfl) ?hQ6 ?hy6 (by assumption) ?_
      case hi6 => (simp only [List.getElem?_toArray, List.getElem?_cons_succ, List.getElem?_cons_zero]; rfl)
      case hQ6 => exact fun _ _ _ h => h
      case hy6 => (refine Or.inl ⟨by rfl, ?_⟩; intro w hSw; (obtain ⟨hSw0, hSw1, hSw2, hSw3, hSw4, hSw5, hSw6⟩ := hSw); go_simp; try with_reducible rfl)
      try simp only [Act.put, List.setIfInBounds_toArray, List.set_cons_zero, List.set_cons_succ]
      refine wpAnyH_done (by kernel_rfl) ?_ _
      go_wp2_with fail
      go_meet
      case rel => exact (show w4.ownsRow w1.heap.size 31 7 v' (X.length + 1) ((X ++ [x]).flatMap itCells) ∧ Below w1.heap.size w1 w4 from ⟨by rw [List.flatMap_append, List.flatMap_cons, List.flatMap_nil, List.append_nil]; exact HF.out.1, HF.out.2⟩)
  case rest =>
  have H3 := hcut
  clear hcut K1
  generalize wc = w2 at *
  obtain ⟨g8, cap8, hg8, hga, hgb⟩ := H3.out.1.form (by omega)
  rename_i u8'
  obtain ⟨hown8, hb12⟩ := H3.out
  rw [hg8] at hown8
  have HO8 := Lib.hid hown8
  have VX2 := Lib.hid (IsObj.below VX1.out hb12 VX1.out.lt)
  have O2 := Lib.hid (IsObj.below O1.out hb12 O1.out.lt)
  have B2 := Lib.hid (B1.out.trans (hb12.mono B1.out.size))
  clear VX1 O1 B1
  rw [hg8]
  clear H3 hown8 hb12
  have hrow8 : RowOf itCells 7 w2 (some ⟨g8, 0, none⟩) (X ++ [x]) := .inr ⟨g8, 0, rfl, own_rowOf0 HO8.out rfl⟩
  have KV := victim_any (some ⟨g8, 0, none⟩) cap8 (X ++ [x]) w2 (by rw [List.length_append]; simp; omega) hrow8
  rw [List.length_append, List.length_singleton, hk, show decide (0 < X.length + 1) = true from decide_eq_true (by omega)] at KV
  go_wp2_with fail
  refine KV.mono ?_
  rintro e w3 ⟨rfl, b3⟩
  have HO9 := Lib.hid (own_below HO8.out b3)
  have VX3 := Lib.hid (IsObj.below VX2.out b3 VX2.out.lt)
  have O3 := Lib.hid (IsObj.below O2.out b3 O2.out.lt)
  have B3 := Lib.hid (B2.out.trans (b3.mono B2.out.size))
  clear VX2 O2 B2
  clear KV hrow8 HO8
  have hke : ((X.length : Int) == (X.length : Int)) = true := by simp
  have hwl : IntKind.i64.wrap ((X.length : Int) + 1 - 1) = (X.length : Int) := by rw [IntKind.wrap_i64]; omega
  have x0 : w3.cell? ⟨B, 0, none⟩ = some (.int .i64 x.id) := VX3.out.cell 0
  have x1 : w3.cell? ⟨B, 1, none⟩ = some (.int .i64 x.lev) := VX3.out.cell 1
  have x2 : w3.cell? ⟨B, 2, none⟩ = some (.int .i64 x.frm) := VX3.out.cell 2
  have x3 : w3.cell? ⟨B, 3, none⟩ = some (.int .i64 x.dl) := VX3.out.cell 3
  have x4 : w3.cell? ⟨B, 4, none⟩ = some (.int .i64 x.bud) := VX3.out.cell 4
  have x5 : w3.cell? ⟨B, 5, none⟩ = some (.int .i64 x.since) := VX3.out.cell 5
  have x6 : w3.cell? ⟨B, 6, none⟩ = some (.int .i64 x.seq) := VX3.out.cell 6
  have RT := Lib.hid (show w3.there H 0 (itCells x).toArray.size from IsObj.there O3.out 0 7 (by simp))
  have OF := Lib.hid (show IsObj (w3.setCells H 0 (itCells x).toArray.toList) H 31 (itCells x) from IsObj.setAll O3.out rfl)
  have BF := Lib.hid (show Only H w3 (w3.setCells H 0 (itCells x).toArray.toList) from Only.setCells (b := H) (itCells x) 0 (Only.refl H w3))
  go_wp2_with (refine wpList_store_mid (by rfl) 31 _ _ (by rfl) H 0 (itCells x).toArray (by rfl) (by rfl) (by exact RT.out) (by kernel_rfl) (it_one _) ?_; generalize w3.setCells H 0 (itCells x).toArray.toList = wf at *)
  have RL := run_loadVar_mid (P := Try.prog) wf H 0 31 (itCells x) _ (IsObj.range OF.out) Try.underlying31 rfl (by kernel_rfl)
  refine bodyPost_ret (v := .tuple #[.agg (itCells x).toArray, .bool true, .int .i64 0]) ?_ rfl ?_
  · exact results_ctt (by rfl) (by rfl) (by rfl) (by rfl) RL
  · exact ⟨rfl, B3.out.trans (BF.out.below (by have := HBH.out.2; omega) B3.out.size)⟩
theorem pall_own {w : World} {p M : Nat} {most : Int} {tv : Value} {T : List It} (h : PAt w p M most tv T) : Calls Try.prog 27 #[.pointer (some ⟨p, 0, none⟩)] w fun e w' => ∃ v, e = .returned v ∧ w'.ownsRow w.heap.size 31 7 v (ssort T).length ((ssort T).flatMap itCells) ∧ Below w.heap.size w w' := by
  rw [ssort_len]
  by_cases hT : T = []
  · subst hT
    refine (pall_empty h).mono ?_
    rintro e w' ⟨rfl, rfl⟩
    exact ⟨_, rfl, by rw [ssort_nil]; exact World.ownsRow_nil _ _ _ _, Below.refl _ _⟩
  · refine (pall_any h (List.length_pos_iff.2 hT)).mono ?_
    rintro e w' ⟨g, cap, rfl, ho, hb⟩
    exact ⟨_, rfl, ho, hb⟩
set_option maxRecDepth 100000 in
set_option maxHeartbeats 4000000 in
/-- Where there is no room, and another one must go. -/
theorem qadd_evict {w : World} {q p M : Nat} {most : Int} {tv : Value} {T : List It} (x : It) (X : List It) (k j : Nat) (h : QAt w q p M most tv T) (hX : ssort T = X) (hx : IdOk x.id) (hn : x.id ∉ T.map It.id) (hm : most = (T.length : Int)) (hk : vict (X ++ [x]) (X.length + 1) = k) (hkX : k < X.length) (hj : j < T.length) (he : nth T j = nth X k) :
    Calls Try.prog 34 #[.pointer (some ⟨q, 0, none⟩), itV x] w fun e w' => e = .returned (.tuple #[.agg (itCells (nth X k)).toArray, .bool true, .int .i64 0]) ∧ ∃ tv', QAt w' q p M most tv' (upT (outT T j ++ [x]) (outT T j).length) ∧ Frp p M tv tv' w w' := by
  obtain ⟨i0, hi, hz0, hz1, hz2⟩ := info_parts item_parts
  obtain ⟨B, hB⟩ : ∃ B, B = w.heap.size := ⟨_, rfl⟩
  obtain ⟨H, hH⟩ : ∃ H, H = w.heap.size + 1 := ⟨_, rfl⟩
  have HBH := Lib.hid (And.intro hB hH)
  have B0 := Lib.hid (show Below w.heap.size w ((w.alloc (.cells #[.int .i64 x.id, .int .i64 x.lev, .int .i64 x.frm, .int .i64 x.dl, .int .i64 x.bud, .int .i64 x.since, .int .i64 x.seq] 31)).alloc (.cells #[.int .i64 0, .int .i64 0, .int .i64 0, .int .i64 0, .int .i64 0, .int .i64 0, .int .i64 0] 31)) from ((Below.refl _ w).alloc (Nat.le_refl _) _).alloc (by simp) _)
  have VX0 := Lib.hid (show IsObj ((w.alloc (.cells #[.int .i64 x.id, .int .i64 x.lev, .int .i64 x.frm, .int .i64 x.dl, .int .i64 x.bud, .int .i64 x.since, .int .i64 x.seq] 31)).alloc (.cells #[.int .i64 0, .int .i64 0, .int .i64 0, .int .i64 0, .int .i64 0, .int .i64 0, .int .i64 0] 31)) B 31 (itCells x) by rw [hB]; exact (IsObj.new w _ (itCells x)).alloc _)
  have O0 := Lib.hid (show IsObj ((w.alloc (.cells #[.int .i64 x.id, .int .i64 x.lev, .int .i64 x.frm, .int .i64 x.dl, .int .i64 x.bud, .int .i64 x.since, .int .i64 x.seq] 31)).alloc (.cells #[.int .i64 0, .int .i64 0, .int .i64 0, .int .i64 0, .int .i64 0, .int .i64 0, .int .i64 0] 31)) H 31 [.int .i64 0, .int .i64 0, .int .i64 0, .int .i64 0, .int .i64 0, .int .i64 0, .int .i64 0] by
    rw [hH]
    have h := IsObj.new (w.alloc (.cells #[.int .i64 x.id, .int .i64 x.lev, .int .i64 x.frm, .int .i64 x.dl, .int .i64 x.bud, .int .i64 x.since, .int .i64 x.seq] 31)) 31 [.int .i64 0, .int .i64 0, .int .i64 0, .int .i64 0, .int .i64 0, .int .i64 0, .int .i64 0]
    rw [World.size_alloc] at h
    exact h)
  clear hB hH
  have HQ := Lib.hid h
  have HI := Lib.hid (h.items _ B0.out)
  unfold Items at HI
  have KP := Lib.hid (ppush_full x (h.h.same B0.out) hx hn (by omega))
  have hlen : X.length ≤ 64 := by rw [← hX, ssort_len]; exact h.h.len64
  have HAL0 := Lib.hid (show ∀ w', Below w.heap.size w w' → Calls Try.prog 27 #[.pointer (some ⟨p, 0, none⟩)] w' fun e w2 => ∃ v, e = .returned v ∧ w2.ownsRow w'.heap.size 31 7 v X.length (X.flatMap itCells) ∧ Below w'.heap.size w' w2 from fun w' hb => by
    have h1 := pall_own (h.h.same hb)
    rw [hX] at h1
    exact h1)
  have HE := Lib.hid (And.intro hX (And.intro hm he))
  have hapG : ∀ G, w.heap.size ≤ G → G ≠ p ∧ G ≠ M ∧ some G ≠ tv.ownBlock := fun G hG => by
    obtain ⟨D, hr, _⟩ := h.h.raw
    have h1 := hr.o.lt
    have h2 := hr.m.lt
    exact ⟨by omega, by omega, fun e => by have := (hr.t.lt G e.symm).2; omega⟩
  have HG := Lib.hid hapG
  clear h hX hm he hapG
  go_enter Try.func34, Try.ntmps34
  go_upto_region 1 with (fail)
  rw [← HBH.out.2, ← HBH.out.1]
  generalize ((w.alloc (.cells #[.int .i64 x.id, .int .i64 x.lev, .int .i64 x.frm, .int .i64 x.dl, .int .i64 x.bud, .int .i64 x.since, .int .i64 x.seq] 31)).alloc (.cells #[.int .i64 0, .int .i64 0, .int .i64 0, .int .i64 0, .int .i64 0, .int .i64 0, .int .i64 0] 31)) = w0 at *
  have x0 : w0.cell? ⟨B, 0, none⟩ = some (.int .i64 x.id) := VX0.out.cell 0
  have x1 : w0.cell? ⟨B, 1, none⟩ = some (.int .i64 x.lev) := VX0.out.cell 1
  have x2 : w0.cell? ⟨B, 2, none⟩ = some (.int .i64 x.frm) := VX0.out.cell 2
  have x3 : w0.cell? ⟨B, 3, none⟩ = some (.int .i64 x.dl) := VX0.out.cell 3
  have x4 : w0.cell? ⟨B, 4, none⟩ = some (.int .i64 x.bud) := VX0.out.cell 4
  have x5 : w0.cell? ⟨B, 5, none⟩ = some (.int .i64 x.since) := VX0.out.cell 5
  have x6 : w0.cell? ⟨B, 6, none⟩ = some (.int .i64 x.seq) := VX0.out.cell 6
  go_wp2_with (go_at_call 56; refine HI.out.mono ?_; rintro e w' ⟨rfl, rfl⟩)
  refine KP.out.mono ?_
  rintro e w1 ⟨rfl, b1⟩
  have HAL := Lib.hid (fun w' (hb : Below w1.heap.size w1 w') => HAL0.out w' (B0.out.trans ((b1.trans (hb.mono b1.size)).mono B0.out.size)))
  have VX1 := Lib.hid (IsObj.below VX0.out b1 VX0.out.lt)
  have O1 := Lib.hid (IsObj.below O0.out b1 O0.out.lt)
  have B1 := Lib.hid (B0.out.trans (b1.mono B0.out.size))
  clear VX0 O0 B0
  clear x0 x1 x2 x3 x4 x5 x6
  clear b1 HAL0 KP HI
  have hBl : B < w1.heap.size := VX1.out.lt
  have K1 : PushS B x w1 := ⟨VX1.out.cell 0, VX1.out.cell 1, VX1.out.cell 2, VX1.out.cell 3, VX1.out.cell 4, VX1.out.cell 5, VX1.out.cell 6⟩
  go_upto_region 7 with (fail)
  go_cut [8] (fun s8 wx => Aside (wx.ownsRow w1.heap.size 31 7 s8 (X.length + 1) ((X ++ [x]).flatMap itCells) ∧ Below w1.heap.size w1 wx))
  case first =>
    refine wp_region_held_drew (S := PushS B x) (by kernel_rfl) ?_ (fun hHeld => ?_)
    · exact K1
    refine wpAnyH_take (i := 0) (oi := ?oi16) (v := ?v16) ?hi16 (by kernel_rfl) (by kernel_rfl) (by kernel_rfl) ?hQ16 ?hy16 (by assumption) ?_
    case hi16 => (simp only [List.getElem?_toArray, List.getElem?_cons_succ, List.getElem?_cons_zero]; rfl)
    case hQ16 => exact fun _ _ _ h => h
    case hy16 => (refine Or.inl ⟨by rfl, ?_⟩; intro w hSw; (obtain ⟨hSw0, hSw1, hSw2, hSw3, hSw4, hSw5, hSw6⟩ := hSw); go_simp; try with_reducible rfl)
    try simp only [Act.put, List.setIfInBounds_toArray, List.set_cons_zero, List.set_cons_succ]
    refine wpAnyH_take (i := 2) (oi := ?oi17) (v := ?v17) ?hi17 (by kernel_rfl) (by kernel_rfl) (by kernel_rfl) ?hQ17 ?hy17 (by assumption) ?_
    case hi17 => (simp only [List.getElem?_toArray, List.getElem?_cons_succ, List.getElem?_cons_zero]; rfl)
    case hQ17 => exact fun _ _ _ h => h
    case hy17 => (refine Or.inl ⟨by rfl, ?_⟩; intro w hSw; (obtain ⟨hSw0, hSw1, hSw2, hSw3, hSw4, hSw5, hSw6⟩ := hSw); go_simp; try with_reducible rfl)
    try simp only [Act.put, List.setIfInBounds_toArray, List.set_cons_zero, List.set_cons_succ]
    refine wpAnyH_ready (rs := [1, 3]) (by kernel_rfl) (by simp) ?_
    refine AllReadyH.cons (o := ?oi1801) ?ho1801 (fun K hK => ?_) (AllReadyH.cons (o := ?oi1803) ?ho1803 (fun K hK => ?_) AllReadyH.nil)
    case ho1801 => (simp only [List.getElem?_toArray, List.getElem?_cons_succ, List.getElem?_cons_zero]; rfl)
    case ho1803 => (simp only [List.getElem?_toArray, List.getElem?_cons_succ, List.getElem?_cons_zero]; rfl)
    · go_simp
      go_at_call 27
      refine (HAL.out w1.drew (Below.refl _ _).drew).mono ?_
      rintro e w2 ⟨v, rfl, hown2, hb2⟩
      have hb2' : Below w1.heap.size w1 w2 := (show Below w1.heap.size w1 w1.drew from (Below.refl _ _).drew).trans hb2
      have K2 : PushS B x w2 := PushS.move (W := w1) (hb2'.block B hBl) K1
      refine hK.out _ _ ?_ (fun hHeld => ?_)
      · (try dsimp only); exact K2
      clear hK K
      try simp only [Act.put, List.setIfInBounds_toArray, List.set_cons_zero, List.set_cons_succ]
      have K3 : PushS B x (w2.alloc (.cells #[.int .i64 x.id, .int .i64 x.lev, .int .i64 x.frm, .int .i64 x.dl, .int .i64 x.bud, .int .i64 x.since, .int .i64 x.seq] 31)) := PushS.move (W := w2) (Below.heap_alloc w2 _ B (by have := hb2'.size; omega)) K2
      refine wpAnyH_ready (rs := [3]) (by kernel_rfl) (by simp) ?_
      refine AllReadyH.cons (o := ?oi1000) ?ho1000 (fun K hK => ?_) AllReadyH.nil
      case ho1000 => (simp only [List.getElem?_toArray, List.getElem?_cons_succ, List.getElem?_cons_zero]; rfl)
      go_simp
      refine hK.out _ _ ?_ (fun hHeld => ?_)
      · (try dsimp only); exact K3
      clear hK K
      try simp only [Act.put, List.setIfInBounds_toArray, List.set_cons_zero, List.set_cons_succ]
      obtain ⟨S, hS⟩ : ∃ S, S = w2.heap.size := ⟨_, rfl⟩
      have hb1S : w1.heap.size ≤ (w2.alloc (.cells #[.int .i64 x.id, .int .i64 x.lev, .int .i64 x.frm, .int .i64 x.dl, .int .i64 x.bud, .int .i64 x.since, .int .i64 x.seq] 31)).heap.size := by have := hb2'.size; simp; omega
      have hnews : ∀ j u, (itCells x)[j]? = some u → (w2.alloc (.cells #[.int .i64 x.id, .int .i64 x.lev, .int .i64 x.frm, .int .i64 x.dl, .int .i64 x.bud, .int .i64 x.since, .int .i64 x.seq] 31)).cell? ((⟨S, 0, none⟩ : Addr).add j) = some u := fun j u hu => by rw [addr_add, Nat.zero_add, hS]; exact ((IsObj.new w2 31 (itCells x)).cell j).trans hu
      have hownA : (w2.alloc (.cells #[.int .i64 x.id, .int .i64 x.lev, .int .i64 x.frm, .int .i64 x.dl, .int .i64 x.bud, .int .i64 x.since, .int .i64 x.seq] 31)).ownsRow w1.heap.size 31 7 v X.length (X.flatMap itCells) := World.ownsRow.alloc hown2 _
      rw [← hS]
      obtain ⟨v', w4, hra, hown4, hg4, hnil, hob⟩ := run_append_own_at (P := Try.prog) (w2.alloc (.cells #[.int .i64 x.id, .int .i64 x.lev, .int .i64 x.frm, .int .i64 x.dl, .int .i64 x.bud, .int .i64 x.since, .int .i64 x.seq] 31)) w1.heap.size 22 22 31 i0 (.agg #[.int .i64 0, .int .i64 0, .int .i64 0, .int .i64 0, .int .i64 0, .int .i64 0, .int .i64 0]) 7 56 Try.underlying22 hi hz0 hz1 hz2 rfl (by decide) v X.length (X.flatMap itCells) hownA ⟨S, 0, none⟩ 1 1 (itCells x) (by rw [itCells_len]) hnews (it_cells1 x) (by unfold maxLen; omega) (by omega) hb1S
      have hb4 : Below w1.heap.size (w2.alloc (.cells #[.int .i64 x.id, .int .i64 x.lev, .int .i64 x.frm, .int .i64 x.dl, .int .i64 x.bud, .int .i64 x.since, .int .i64 x.seq] 31)) w4 := Below.grown (Below.refl _ _) hg4 hb1S (fun g hg => (hownA.lt g hg).1)
      have hbf : Below w1.heap.size w1 w4 := (show Below w1.heap.size w1 (w2.alloc (.cells #[.int .i64 x.id, .int .i64 x.lev, .int .i64 x.frm, .int .i64 x.dl, .int .i64 x.bud, .int .i64 x.since, .int .i64 x.seq] 31)) from hb2'.alloc (by exact hb2'.size) _).trans hb4
      have K4 : PushS B x w4 := PushS.move (W := w1) (hbf.block B hBl) K1
      have HF := Lib.hid (And.intro hown4 hbf)
      clear hown4 hg4 hnil hob hb4 hbf
      refine wpAnyH_ready (rs := [4]) (by kernel_rfl) (by simp) ?_
      refine AllReadyH.cons (o := ?oi1100) ?ho1100 (fun K hK => ?_) AllReadyH.nil
      case ho1100 => (simp only [List.getElem?_toArray, List.getElem?_cons_succ, List.getElem?_cons_zero]; rfl)
      refine step_run_append (by rfl) (by rfl) (by rfl) (by rfl) hra ?_
      refine hK.out _ _ ?_ (fun hHeld => ?_)
      · (try dsimp only); exact K4
      clear hK K
      try simp only [Act.put, List.setIfInBounds_toArray, List.set_cons_zero, List.set_cons_succ]
      refine wpAnyH_take (i := 5) (oi := ?oi12) (v := ?v12) ?hi12 (by kernel_rfl) (by kernel_rfl) (by kernel_rfl) ?hQ12 ?hy12 (by assumption) ?_
      case hi12 => (simp only [List.getElem?_toArray, List.getElem?_cons_succ, List.getElem?_cons_zero]; rfl)
      case hQ12 => exact fun _ _ _ h => h
      case hy12 => (refine Or.inl ⟨by rfl, ?_⟩; intro w hSw; (obtain ⟨hSw0, hSw1, hSw2, hSw3, hSw4, hSw5, hSw6⟩ := hSw); go_simp; try with_reducible rfl)
      try simp only [Act.put, List.setIfInBounds_toArray, List.set_cons_zero, List.set_cons_succ]
      refine wpAnyH_done (by kernel_rfl) ?_ _
      go_wp2_with fail
      go_meet
      case rel => exact (show w4.ownsRow w1.heap.size 31 7 v' (X.length + 1) ((X ++ [x]).flatMap itCells) ∧ Below w1.heap.size w1 w4 from ⟨by rw [List.flatMap_append, List.flatMap_cons, List.flatMap_nil, List.append_nil]; exact HF.out.1, HF.out.2⟩)
    · go_simp
      refine hK.out _ _ ?_ (fun hHeld => ?_)
      · (try dsimp only); exact PushS.move (W := w1.drew) (Below.heap_alloc w1.drew _ B hBl) K1
      clear hK K
      try simp only [Act.put, List.setIfInBounds_toArray, List.set_cons_zero, List.set_cons_succ]
      have hbB : Below w1.heap.size w1 (w1.drew.alloc (.cells #[.int .i64 x.id, .int .i64 x.lev, .int .i64 x.frm, .int .i64 x.dl, .int .i64 x.bud, .int .i64 x.since, .int .i64 x.seq] 31)) := (show Below w1.heap.size w1 w1.drew from (Below.refl _ _).drew).alloc (Nat.le_refl _) _
      refine wpAnyH_ready (rs := [1]) (by kernel_rfl) (by simp) ?_
      refine AllReadyH.cons (o := ?oi1300) ?ho1300 (fun K hK => ?_) AllReadyH.nil
      case ho1300 => (simp only [List.getElem?_toArray, List.getElem?_cons_succ, List.getElem?_cons_zero]; rfl)
      go_simp
      go_at_call 27
      refine (HAL.out _ hbB).mono ?_
      rintro e w2 ⟨v, rfl, hown2, hb2⟩
      have hb2' : Below w1.heap.size w1 w2 := hbB.trans (hb2.mono hbB.size)
      have K2 : PushS B x w2 := PushS.move (W := w1) (hb2'.block B hBl) K1
      refine hK.out _ _ ?_ (fun hHeld => ?_)
      · (try dsimp only); exact K2
      clear hK K
      try simp only [Act.put, List.setIfInBounds_toArray, List.set_cons_zero, List.set_cons_succ]
      obtain ⟨S, hS⟩ : ∃ S, S = w1.heap.size := ⟨_, rfl⟩
      have hb1S : w1.heap.size ≤ w2.heap.size := hb2'.size
      have hnews : ∀ j u, (itCells x)[j]? = some u → w2.cell? ((⟨S, 0, none⟩ : Addr).add j) = some u := fun j u hu => by
        rw [addr_add, Nat.zero_add, hS]
        have o := IsObj.below (IsObj.new w1.drew 31 (itCells x)) hb2 (by show w1.heap.size < (w1.drew.alloc _).heap.size; rw [World.size_alloc]; exact Nat.lt_succ_self _)
        exact (o.cell j).trans hu
      have hownA : w2.ownsRow w1.heap.size 31 7 v X.length (X.flatMap itCells) := own_mono hown2 hbB.size
      rw [← hS]
      obtain ⟨v', w4, hra, hown4, hg4, hnil, hob⟩ := run_append_own_at (P := Try.prog) w2 w1.heap.size 22 22 31 i0 (.agg #[.int .i64 0, .int .i64 0, .int .i64 0, .int .i64 0, .int .i64 0, .int .i64 0, .int .i64 0]) 7 56 Try.underlying22 hi hz0 hz1 hz2 rfl (by decide) v X.length (X.flatMap itCells) hownA ⟨S, 0, none⟩ 1 1 (itCells x) (by rw [itCells_len]) hnews (it_cells1 x) (by unfold maxLen; omega) (by omega) hb1S
      have hb4 : Below w1.heap.size w2 w4 := Below.grown (Below.refl _ _) hg4 hb1S (fun g hg => (hownA.lt g hg).1)
      have hbf : Below w1.heap.size w1 w4 := hb2'.trans hb4
      have K4 : PushS B x w4 := PushS.move (W := w1) (hbf.block B hBl) K1
      have HF := Lib.hid (And.intro hown4 hbf)
      clear hown4 hg4 hnil hob hb4 hbf
      refine wpAnyH_ready (rs := [4]) (by kernel_rfl) (by simp) ?_
      refine AllReadyH.cons (o := ?oi1400) ?ho1400 (fun K hK => ?_) AllReadyH.nil
      case ho1400 => (simp only [List.getElem?_toArray, List.getElem?_cons_succ, List.getElem?_cons_zero]; rfl)
      refine step_run_append (by rfl) (by rfl) (by rfl) (by rfl) hra ?_
      refine hK.out _ _ ?_ (fun hHeld => ?_)
      · (try dsimp only); exact K4
      clear hK K
      try simp only [Act.put, List.setIfInBounds_toArray, List.set_cons_zero, List.set_cons_succ]
      refine wpAnyH_take (i := 5) (oi := ?oi15) (v := ?v15) ?hi15 (by kernel_rfl) (by kernel_rfl) (by kernel_rfl) ?hQ15 ?hy15 (by assumption) ?_
      case hi15 => (simp only [List.getElem?_toArray, List.getElem?_cons_succ, List.getElem?_cons_zero]; rfl)
      case hQ15 => exact fun _ _ _ h => h
      case hy15 => (refine Or.inl ⟨by rfl, ?_⟩; intro w hSw; (obtain ⟨hSw0, hSw1, hSw2, hSw3, hSw4, hSw5, hSw6⟩ := hSw); go_simp; try with_reducible rfl)
      try simp only [Act.put, List.setIfInBounds_toArray, List.set_cons_zero, List.set_cons_succ]
      refine wpAnyH_done (by kernel_rfl) ?_ _
      go_wp2_with fail
      go_meet
      case rel => exact (show w4.ownsRow w1.heap.size 31 7 v' (X.length + 1) ((X ++ [x]).flatMap itCells) ∧ Below w1.heap.size w1 w4 from ⟨by rw [List.flatMap_append, List.flatMap_cons, List.flatMap_nil, List.append_nil]; exact HF.out.1, HF.out.2⟩)
  case rest =>
  have H3 := hcut
  clear hcut K1
  generalize wc = w2 at *
  obtain ⟨g8, cap8, hg8, hga, hgb⟩ := H3.out.1.form (by omega)
  rename_i u8'
  obtain ⟨hown8, hb12⟩ := H3.out
  rw [hg8] at hown8
  have hga2 : w.heap.size ≤ g8 := Nat.le_trans B1.out.size hga
  have HN := Lib.hid hn
  have HO8 := Lib.hid hown8
  have VX2 := Lib.hid (IsObj.below VX1.out hb12 VX1.out.lt)
  have O2 := Lib.hid (IsObj.below O1.out hb12 O1.out.lt)
  have B2 := Lib.hid (B1.out.trans (hb12.mono B1.out.size))
  clear VX1 O1 B1
  rw [hg8]
  clear H3 hown8 hb12
  have hrow8 : RowOf itCells 7 w2 (some ⟨g8, 0, none⟩) (X ++ [x]) := .inr ⟨g8, 0, rfl, own_rowOf0 HO8.out rfl⟩
  have KV := victim_any (some ⟨g8, 0, none⟩) cap8 (X ++ [x]) w2 (by rw [List.length_append]; simp; omega) hrow8
  rw [List.length_append, List.length_singleton, hk, show decide (0 < X.length + 1) = true from decide_eq_true (by omega)] at KV
  go_wp2_with fail
  refine KV.mono ?_
  rintro e w3 ⟨rfl, b3⟩
  have HO9 := Lib.hid (own_below HO8.out b3)
  have VX3 := Lib.hid (IsObj.below VX2.out b3 VX2.out.lt)
  have O3 := Lib.hid (IsObj.below O2.out b3 O2.out.lt)
  have B3 := Lib.hid (B2.out.trans (b3.mono B2.out.size))
  clear VX2 O2 B2
  clear KV hrow8 HO8
  have hke : ((k : Int) == (X.length : Int)) = false := by simp; omega
  have hkn : ¬ (k : Int) = (X.length : Int) := by omega
  have hwl : IntKind.i64.wrap ((X.length : Int) + 1 - 1) = (X.length : Int) := by rw [IntKind.wrap_i64]; omega
  have hk0 : (0 : Int) ≤ (k : Int) := by omega
  have hk1 : (k : Int) < (X.length : Int) + 1 := by omega
  obtain ⟨y, hy⟩ : ∃ y, nth X k = y := ⟨_, rfl⟩
  have HY8 := Lib.hid hy
  have hgX := HO9.out.lt g8 rfl
  have hgw : w.heap.size ≤ g8 := hga2
  have h3 := HQ.out.h.same B3.out
  have KT := ptake_in j h3 hj
  rw [HE.out.2.2, hy] at KT
  have r0 : w3.cell? ⟨g8, k * 7, none⟩ = some (.int .i64 y.id) := by
    have h1 := (own_rowOf0 HO9.out rfl) k (by rw [List.length_append]; simp; omega) 0 (by decide)
    rw [nth_app_old hkX, hy, Nat.zero_add] at h1
    exact h1
  clear hy hk hn
  go_wp2_with fail
  refine KT.mono ?_
  rintro e w4 ⟨rfl, tv4, h4, f4⟩
  have aB := HG.out B (by rw [HBH.out.1]; exact Nat.le_refl _)
  have aH := HG.out H (by rw [HBH.out.2]; omega)
  have aG := HG.out g8 hgw
  have VX4 := Lib.hid (f4.isObj VX3.out aB.1 aB.2.1 aB.2.2)
  have O4 := Lib.hid (f4.isObj O3.out aH.1 aH.2.1 aH.2.2)
  have aB4 := Lib.hid (SeAt.far f4 VX3.out.lt aB)
  have aH4 := Lib.hid (SeAt.far f4 O3.out.lt aH)
  have aG4 := Lib.hid (SeAt.far f4 hgX.2 aG)
  have HO10 := Lib.hid (own_at HO9.out (w' := w4) (fun g hg he => by cases he; exact f4.block g8 hgX.2 aG.1 aG.2.1 aG.2.2))
  have hnO : x.id ∉ (outT T j).map It.id := fun hm2 => HN.out ((perm_ids (out_perm hj)).mem_iff.1 (by rw [List.map_append]; exact List.mem_append_left _ hm2))
  have hmO : ((outT T j).length : Int) < most := by have := out_len hj; have := HE.out.2.1; omega
  have h64O : most ≤ 64 := by have := HE.out.2.1; have := HQ.out.h.len64; omega
  have KP2 := ppush_ok x h4 hx hnO hmO h64O
  have F4 := Lib.hid ((Frp.below (p := p) (M := M) (tv := tv) B3.out).trans f4)
  clear VX3 O3 HO9 r0 KT f4 h3 aB aH aG hnO hmO h64O
  have x0 : w4.cell? ⟨B, 0, none⟩ = some (.int .i64 x.id) := VX4.out.cell 0
  have x1 : w4.cell? ⟨B, 1, none⟩ = some (.int .i64 x.lev) := VX4.out.cell 1
  have x2 : w4.cell? ⟨B, 2, none⟩ = some (.int .i64 x.frm) := VX4.out.cell 2
  have x3 : w4.cell? ⟨B, 3, none⟩ = some (.int .i64 x.dl) := VX4.out.cell 3
  have x4 : w4.cell? ⟨B, 4, none⟩ = some (.int .i64 x.bud) := VX4.out.cell 4
  have x5 : w4.cell? ⟨B, 5, none⟩ = some (.int .i64 x.since) := VX4.out.cell 5
  have x6 : w4.cell? ⟨B, 6, none⟩ = some (.int .i64 x.seq) := VX4.out.cell 6
  go_wp2_with fail
  refine KP2.mono ?_
  rintro e w5 ⟨rfl, tv5, h5, f5⟩
  have O5 := Lib.hid (f5.isObj O4.out aH4.out.1 aH4.out.2.1 aH4.out.2.2)
  have aH5 := Lib.hid (SeAt.far f5 O4.out.lt aH4.out)
  have HO11 := Lib.hid (own_at HO10.out (w' := w5) (fun g hg he => by cases he; exact f5.block g8 (HO10.out.lt g8 rfl).2 aG4.out.1 aG4.out.2.1 aG4.out.2.2))
  have F5 := Lib.hid (F4.out.trans f5)
  have H5 := Lib.hid h5
  clear O4 HO10 f5 h5 KP2 F4 h4 x0 x1 x2 x3 x4 x5 x6
  have r0 : w5.cell? ⟨g8, k * 7, none⟩ = some (.int .i64 y.id) := by
    have h1 := (own_rowOf0 HO11.out rfl) k (by rw [List.length_append]; simp; omega) 0 (by decide)
    rw [nth_app_old hkX, HY8.out, Nat.zero_add] at h1
    exact h1
  have r1 : w5.cell? ⟨g8, k * 7 + 1, none⟩ = some (.int .i64 y.lev) := by
    have h1 := (own_rowOf0 HO11.out rfl) k (by rw [List.length_append]; simp; omega) 1 (by decide)
    rw [nth_app_old hkX, HY8.out, Nat.zero_add] at h1
    exact h1
  have r2 : w5.cell? ⟨g8, k * 7 + 2, none⟩ = some (.int .i64 y.frm) := by
    have h1 := (own_rowOf0 HO11.out rfl) k (by rw [List.length_append]; simp; omega) 2 (by decide)
    rw [nth_app_old hkX, HY8.out, Nat.zero_add] at h1
    exact h1
  have r3 : w5.cell? ⟨g8, k * 7 + 3, none⟩ = some (.int .i64 y.dl) := by
    have h1 := (own_rowOf0 HO11.out rfl) k (by rw [List.length_append]; simp; omega) 3 (by decide)
    rw [nth_app_old hkX, HY8.out, Nat.zero_add] at h1
    exact h1
  have r4 : w5.cell? ⟨g8, k * 7 + 4, none⟩ = some (.int .i64 y.bud) := by
    have h1 := (own_rowOf0 HO11.out rfl) k (by rw [List.length_append]; simp; omega) 4 (by decide)
    rw [nth_app_old hkX, HY8.out, Nat.zero_add] at h1
    exact h1
  have r5 : w5.cell? ⟨g8, k * 7 + 5, none⟩ = some (.int .i64 y.since) := by
    have h1 := (own_rowOf0 HO11.out rfl) k (by rw [List.length_append]; simp; omega) 5 (by decide)
    rw [nth_app_old hkX, HY8.out, Nat.zero_add] at h1
    exact h1
  have r6 : w5.cell? ⟨g8, k * 7 + 6, none⟩ = some (.int .i64 y.seq) := by
    have h1 := (own_rowOf0 HO11.out rfl) k (by rw [List.length_append]; simp; omega) 6 (by decide)
    rw [nth_app_old hkX, HY8.out, Nat.zero_add] at h1
    exact h1
  have RT := Lib.hid (show w5.there H 0 (itCells y).toArray.size from IsObj.there O5.out 0 7 (by simp))
  have OF := Lib.hid (show IsObj (w5.setCells H 0 (itCells y).toArray.toList) H 31 (itCells y) from IsObj.setAll O5.out rfl)
  have BF := Lib.hid (show Only H w5 (w5.setCells H 0 (itCells y).toArray.toList) from Only.setCells (b := H) (itCells y) 0 (Only.refl H w5))
  go_wp2_with (refine wpList_store_mid (by rfl) 31 _ _ (by rfl) H 0 (itCells y).toArray (by rfl) (by rfl) (by exact RT.out) (by kernel_rfl) (it_one _) ?_; generalize w5.setCells H 0 (itCells y).toArray.toList = wf at *)
  have RL := run_loadVar_mid (P := Try.prog) wf H 0 31 (itCells y) _ (IsObj.range OF.out) Try.underlying31 rfl (by kernel_rfl)
  refine bodyPost_ret (v := .tuple #[.agg (itCells y).toArray, .bool true, .int .i64 0]) ?_ rfl ?_
  · exact results_ctt (by rfl) (by rfl) (by rfl) (by rfl) RL
  · have f6 := F5.out.late BF.out (by have := HBH.out.2; omega)
    exact ⟨by rw [HY8.out], tv5, HQ.out.frp f6 (H5.out.other BF.out aH5.out.1 aH5.out.2.1 aH5.out.2.2), f6⟩
end Go.Proofs.Ytmanmebgmhpilaa
