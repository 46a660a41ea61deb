/-
  lockkeeperref11.Ends; lockkeeperref13.Sweep, Add.
-/
import Derived.Test.YtmanmebgmhpilaaQue7
namespace Go.Proofs.Ytmanmebgmhpilaa
open Go.RowKit
set_option linter.unusedVariables false
set_option linter.unusedSimpArgs false

set_option maxRecDepth 100000 in
theorem rends_any (x : It) (now : Int) (w : World) : Calls Try.prog 36 #[itV x, .int .i64 now] w fun e w' => e = .returned (.int .i64 (endV x now)) ∧ Below w.heap.size w w' := by
  unfold endV
  by_cases h : x.dl ≤ now
  · rw [if_pos h]
    go_enter Try.func36, Try.ntmps36
    go_wp2
    go_ret
    exact ⟨rfl, (Below.refl _ _).alloc (Nat.le_refl _) _⟩
  · rw [if_neg h]
    have hn : now < x.dl := by omega
    clear h
    go_enter Try.func36, Try.ntmps36
    go_wp2_with fail
    go_quiet ((first | (go_at_call 59; first | (with_reducible exact quiet_left (rleft_any _ _ _)) | (with_reducible exact quiet_add_left (rleft_any _ _ _)))))
    go_wp2_with fail
    all_goals
      go_ret
      exact ⟨ret_int (by first | rfl | (simp; done) | (simp; omega)), below_drewN ((Below.refl _ _).alloc (Nat.le_refl _) _) _⟩

/-- Two rows of a call's own, in blocks of their own. -/
structure TwoRows (w wr : World) (v1 v2 : Value) (X1 X2 : List It) : Prop where
  r1 : wr.ownsRow w.heap.size 31 7 v1 X1.length (X1.flatMap itCells)
  r2 : wr.ownsRow w.heap.size 31 7 v2 X2.length (X2.flatMap itCells)
  ap : ∀ g, v1.ownBlock = some g → v2.ownBlock ≠ some g
  B : Below w.heap.size w wr
theorem TwoRows.swap {w wr : World} {v1 v2 : Value} {X1 X2 : List It} (h : TwoRows w wr v1 v2 X1 X2) : TwoRows w wr v2 v1 X2 X1 := ⟨h.r2, h.r1, fun g e1 e2 => h.ap g e2 e1, h.B⟩
theorem TwoRows.same {w wr w' : World} {v1 v2 : Value} {X1 X2 : List It} (h : TwoRows w wr v1 v2 X1 X2) (hb : Below wr.heap.size wr w') : TwoRows w w' v1 v2 X1 X2 := ⟨own_below h.r1 hb, own_below h.r2 hb, h.ap, h.B.trans (hb.mono h.B.size)⟩
theorem TwoRows.push {w w3 w4 : World} {v1 v2 v' : Value} {X1 X2 : List It} (x : It) (h : TwoRows w w3 v1 v2 X1 X2) (hg : w3.grownBy w4 v1.ownBlock) (hr : w4.ownsRow w.heap.size 31 7 v' (X1.length + 1) (X1.flatMap itCells ++ itCells x)) (hob : v'.ownBlock = v1.ownBlock ∨ v'.ownBlock = some w3.heap.size) : TwoRows w w4 v' v2 (X1 ++ [x]) X2 := by
  refine ⟨?_, own_at h.r2 (fun g h1 h2 => hg.block g (h.r2.lt g h2).2 (fun e => h.ap g e.symm h2)), fun g e1 e2 => ?_, Below.grown h.B hg h.B.size (fun g e => (h.r1.lt g e).1)⟩
  · rw [List.length_append, List.flatMap_append, List.flatMap_cons, List.flatMap_nil, List.append_nil]
    exact hr
  · rcases hob with h1 | h1
    · exact h.ap g (by rw [← h1]; exact e1) e2
    · rw [h1] at e1
      cases e1
      have := (h.r2.lt _ e2).2
      omega
set_option maxRecDepth 100000 in
set_option maxHeartbeats 2000000 in
theorem rsweep_any (a : Option Addr) (c : Nat) (X : List It) (now : Int) (w : World) (hm : X.length ≤ 64) (hA : RowOf itCells 7 w a X) :
    Calls Try.prog 40 #[.slice a X.length c, .int .i64 now] w fun e w' => ∃ v1 v2, e = .returned (.tuple #[v1, v2]) ∧ w'.ownsRow w.heap.size 31 7 v1 (stays now X).length ((stays now X).flatMap itCells) ∧ w'.ownsRow w.heap.size 31 7 v2 (goes now X).length ((goes now X).flatMap itCells) ∧ Below w.heap.size w w' := by
  obtain ⟨i0, hi, hz0, hz1, hz2⟩ := info_parts item_parts
  have HA := Lib.hid hA
  clear hA
  go_enter Try.func40, Try.ntmps40
  go_wp2
  go_loopg [6, 7, 8] X.length (fun kx s6 s7 s8 wr => ∃ i : Nat, i ≤ X.length ∧ X.length - i ≤ kx ∧ s8 = .int .i64 i ∧ Aside (TwoRows w wr s6 s7 (stays now (X.take i)) (goes now (X.take i))))
  case atStart => exact ⟨0, Nat.zero_le _, Nat.le_refl _, rfl, (⟨World.ownsRow_nil _ _ _ _, World.ownsRow_nil _ _ _ _, fun g e => by simp [Value.ownBlock] at e, Below.refl _ _⟩ : TwoRows w w _ _ _ _)⟩
  case round =>
    obtain ⟨i, hil, hkx, rfl, HT⟩ := hrel
    by_cases hlt : i < X.length
    · have hltz : (i : Int) < (X.length : Int) := by omega
      have hiz : (0 : Int) ≤ (i : Int) := by omega
      generalize wr = w1 at *
      obtain ⟨b, off, rfl, hc⟩ : ∃ b off, a = some ⟨b, off, none⟩ ∧ ∀ i, i < X.length → ∀ j, j < 7 → w1.cell? ⟨b, off + i * 7 + j, none⟩ = (itCells (nth X i))[j]? := by
        rcases HA.out.same itCells_len HT.out.B with rfl | ⟨b, off, rfl, hc⟩
        · simp at hlt
        · exact ⟨b, off, rfl, hc⟩
      obtain ⟨x0, x1, x2, x3, x4, x5, x6⟩ := item_cells hc i hlt
      clear hc
      obtain ⟨x, hx⟩ : ∃ x, x = nth X i := ⟨_, rfl⟩
      rw [← hx] at x0 x1 x2 x3 x4 x5 x6
      have HX := Lib.hid hx
      clear hx
      obtain ⟨ev, hev⟩ : ∃ ev, ev = endV x now := ⟨_, rfl⟩
      have KE := rends_any x now w1
      rw [← hev] at KE
      have ho2 : over now x = (ev != 0) := by unfold over; rw [hev]
      have HOV := Lib.hid ho2
      clear hev ho2
      have l1 := stays_snoc now X i hlt
      have l2 := goes_snoc now X i hlt
      rw [← HX.out, HOV.out] at l1 l2
      have hle1 : (stays now (X.take i)).length ≤ 64 := Nat.le_trans (List.length_filter_le _ _) (by rw [List.length_take]; omega)
      have hle2 : (goes now (X.take i)).length ≤ 64 := Nat.le_trans (goes_le _ _) (by rw [List.length_take]; omega)
      have LL := Lib.hid (And.intro l1 l2)
      clear l1 l2
      go_wp2_with fail
      refine KE.mono ?_
      rintro e w2 ⟨rfl, b2⟩
      have HT2 := Lib.hid (HT.out.same b2)
      have z0 := cell_keep b2 x0
      have z1 := cell_keep b2 x1
      have z2 := cell_keep b2 x2
      have z3 := cell_keep b2 x3
      have z4 := cell_keep b2 x4
      have z5 := cell_keep b2 x5
      have z6 := cell_keep b2 x6
      clear b2 HT x0 x1 x2 x3 x4 x5 x6 KE
      by_cases hz : ev = 0
      · subst hz
        have b3 : Below w2.heap.size w2 (w2.alloc (.cells #[.int .i64 x.id, .int .i64 x.lev, .int .i64 x.frm, .int .i64 x.dl, .int .i64 x.bud, .int .i64 x.since, .int .i64 x.seq] 31)) := (Below.refl _ w2).alloc (Nat.le_refl _) _
        have H3 := Lib.hid (HT2.out.same b3)
        have hnews : ∀ j u, (itCells x)[j]? = some u → (w2.alloc (.cells #[.int .i64 x.id, .int .i64 x.lev, .int .i64 x.frm, .int .i64 x.dl, .int .i64 x.bud, .int .i64 x.since, .int .i64 x.seq] 31)).cell? ((⟨w2.heap.size, 0, none⟩ : Addr).add j) = some u := fun j u hu => by rw [addr_add, Nat.zero_add]; exact ((IsObj.new w2 31 (itCells x)).cell j).trans hu
        obtain ⟨v', w4, hra, hown4, hg4, hnil, hob⟩ := run_append_own_at (P := Try.prog) (w2.alloc (.cells #[.int .i64 x.id, .int .i64 x.lev, .int .i64 x.frm, .int .i64 x.dl, .int .i64 x.bud, .int .i64 x.since, .int .i64 x.seq] 31)) w.heap.size 22 22 31 i0 (.agg #[.int .i64 0, .int .i64 0, .int .i64 0, .int .i64 0, .int .i64 0, .int .i64 0, .int .i64 0]) 7 56 Try.underlying22 hi hz0 hz1 hz2 rfl (by decide) _ _ _ H3.out.r1 ⟨w2.heap.size, 0, none⟩ 1 1 (itCells x) (by rw [itCells_len]) hnews (it_cells1 x) (by unfold maxLen; omega) (by omega) (by have := H3.out.B.size; exact this)
        have H4 := Lib.hid (H3.out.push x hg4 hown4 hob)
        clear b3 hnews hown4 hg4 hnil hob H3
        go_wp2_with (at_builtin; refine wpList_run_append (by rfl) _ _ 22 (by rfl) (by rfl) (by rfl) hra ?_)
        have HF : Aside (TwoRows w w4 v' u7 (stays now (X.take (i + 1))) (goes now (X.take (i + 1)))) := by
          show TwoRows _ _ _ _ _ _
          rw [LL.out.1, LL.out.2]
          have h4 := H4.out
          simpa using h4
        go_roundg (X.length - (i + 1))
        case measure => omega
        case rel => exact ⟨i + 1, by omega, Nat.le_refl _, by first | rfl | go_num | (congr 1; omega), HF⟩
      · have hzb : (ev == 0) = false := by simpa using hz
        have b3 : Below w2.heap.size w2 (w2.alloc (.cells #[.int .i64 x.id, .int .i64 x.lev, .int .i64 x.frm, .int .i64 x.dl, .int .i64 x.bud, .int .i64 x.since, .int .i64 x.seq] 31)) := (Below.refl _ w2).alloc (Nat.le_refl _) _
        have H3 := Lib.hid (HT2.out.same b3)
        have hnews : ∀ j u, (itCells x)[j]? = some u → (w2.alloc (.cells #[.int .i64 x.id, .int .i64 x.lev, .int .i64 x.frm, .int .i64 x.dl, .int .i64 x.bud, .int .i64 x.since, .int .i64 x.seq] 31)).cell? ((⟨w2.heap.size, 0, none⟩ : Addr).add j) = some u := fun j u hu => by rw [addr_add, Nat.zero_add]; exact ((IsObj.new w2 31 (itCells x)).cell j).trans hu
        obtain ⟨v', w4, hra, hown4, hg4, hnil, hob⟩ := run_append_own_at (P := Try.prog) (w2.alloc (.cells #[.int .i64 x.id, .int .i64 x.lev, .int .i64 x.frm, .int .i64 x.dl, .int .i64 x.bud, .int .i64 x.since, .int .i64 x.seq] 31)) w.heap.size 22 22 31 i0 (.agg #[.int .i64 0, .int .i64 0, .int .i64 0, .int .i64 0, .int .i64 0, .int .i64 0, .int .i64 0]) 7 56 Try.underlying22 hi hz0 hz1 hz2 rfl (by decide) _ _ _ H3.out.r2 ⟨w2.heap.size, 0, none⟩ 1 1 (itCells x) (by rw [itCells_len]) hnews (it_cells1 x) (by unfold maxLen; omega) (by omega) (by have := H3.out.B.size; exact this)
        have H4 := Lib.hid ((H3.out.swap.push x hg4 hown4 hob).swap)
        clear b3 hnews hown4 hg4 hnil hob H3
        go_wp2_with (at_builtin; refine wpList_run_append (by rfl) _ _ 22 (by rfl) (by rfl) (by rfl) hra ?_)
        have HF : Aside (TwoRows w w4 u6 v' (stays now (X.take (i + 1))) (goes now (X.take (i + 1)))) := by
          show TwoRows _ _ _ _ _ _
          rw [LL.out.1, LL.out.2]
          have h4 := H4.out
          simpa [hz] using h4
        go_roundg (X.length - (i + 1))
        case measure => omega
        case rel => exact ⟨i + 1, by omega, Nat.le_refl _, by first | rfl | go_num | (congr 1; omega), HF⟩
    · obtain rfl : i = X.length := by omega
      have h1 := HT.out
      rw [List.take_length] at h1
      have HT2 := Lib.hid h1
      clear h1 HT
      go_wp2
      go_returns
      exact ⟨_, _, rfl, HT2.out.r1, HT2.out.r2, HT2.out.B⟩
theorem results_tctt {fn : Func} {tmps : Array Value} {i a k m : Nat} {t : TypeId} {ad : Addr} {w : World} {v x y z : Value} (h : fn.results = #[.tmp i, .cell a t, .tmp k, .tmp m]) (hi : tmps.getD i undef = y) (ha : tmps.getD a undef = .pointer (some ad)) (hx : tmps.getD k undef = x) (hz : tmps.getD m undef = z) (hl : (loadVar t ad).run Try.prog w = .ok v w) : (results fn tmps).run Try.prog w = .ok (.tuple #[y, v, x, z]) w := by
  rw [Array.getD_eq_getD_getElem?] at hi ha hx hz
  simp [results, h, hi, ha, asAddr, hl, hx, hz]
set_option maxRecDepth 100000 in
set_option maxHeartbeats 2000000 in
theorem radd_twice (a : Option Addr) (c : Nat) (X : List It) (most : Int) (x : It) (w : World) (hm : X.length ≤ 64) (hA : RowOf itCells 7 w a X) (hin : x.id ∈ X.map It.id) : Calls Try.prog 38 #[.slice a X.length c, .int .i64 most, itV x] w fun e w' => e = .returned (.tuple #[.slice a X.length c, .agg (itCells it0).toArray, .bool false, .int .i64 8]) ∧ Below w.heap.size w w' := by
  obtain ⟨k, hk⟩ : ∃ k : Nat, fnd X x.id = (k : Int) := by
    rcases fnd_law X x.id with ⟨_, h⟩ | ⟨j, _, h, _⟩
    · exact absurd hin h
    · exact ⟨j, h⟩
  have h0 : (0 : Int) ≤ (k : Int) := by omega
  obtain ⟨B, hB⟩ : ∃ B, B = w.heap.size := ⟨_, rfl⟩
  obtain ⟨H, hH⟩ : ∃ H, H = w.heap.size + 1 := ⟨_, rfl⟩
  have HBH := Lib.hid (And.intro hB hH)
  have B0 := Lib.hid (show Below w.heap.size w ((w.alloc (.cells #[.int .i64 x.id, .int .i64 x.lev, .int .i64 x.frm, .int .i64 x.dl, .int .i64 x.bud, .int .i64 x.since, .int .i64 x.seq] 31)).alloc (.cells #[.int .i64 0, .int .i64 0, .int .i64 0, .int .i64 0, .int .i64 0, .int .i64 0, .int .i64 0] 31)) from ((Below.refl _ w).alloc (Nat.le_refl _) _).alloc (by simp) _)
  have VX0 := Lib.hid (show IsObj ((w.alloc (.cells #[.int .i64 x.id, .int .i64 x.lev, .int .i64 x.frm, .int .i64 x.dl, .int .i64 x.bud, .int .i64 x.since, .int .i64 x.seq] 31)).alloc (.cells #[.int .i64 0, .int .i64 0, .int .i64 0, .int .i64 0, .int .i64 0, .int .i64 0, .int .i64 0] 31)) B 31 (itCells x) by rw [hB]; exact (IsObj.new w _ (itCells x)).alloc _)
  have O0 := Lib.hid (show IsObj ((w.alloc (.cells #[.int .i64 x.id, .int .i64 x.lev, .int .i64 x.frm, .int .i64 x.dl, .int .i64 x.bud, .int .i64 x.since, .int .i64 x.seq] 31)).alloc (.cells #[.int .i64 0, .int .i64 0, .int .i64 0, .int .i64 0, .int .i64 0, .int .i64 0, .int .i64 0] 31)) H 31 [.int .i64 0, .int .i64 0, .int .i64 0, .int .i64 0, .int .i64 0, .int .i64 0, .int .i64 0] by
    rw [hH]
    have h := IsObj.new (w.alloc (.cells #[.int .i64 x.id, .int .i64 x.lev, .int .i64 x.frm, .int .i64 x.dl, .int .i64 x.bud, .int .i64 x.since, .int .i64 x.seq] 31)) 31 [.int .i64 0, .int .i64 0, .int .i64 0, .int .i64 0, .int .i64 0, .int .i64 0, .int .i64 0]
    rw [World.size_alloc] at h
    exact h)
  clear hB hH
  go_enter Try.func38, Try.ntmps38
  go_upto_region 1 with (fail)
  rw [← HBH.out.2, ← HBH.out.1]
  generalize ((w.alloc (.cells #[.int .i64 x.id, .int .i64 x.lev, .int .i64 x.frm, .int .i64 x.dl, .int .i64 x.bud, .int .i64 x.since, .int .i64 x.seq] 31)).alloc (.cells #[.int .i64 0, .int .i64 0, .int .i64 0, .int .i64 0, .int .i64 0, .int .i64 0, .int .i64 0] 31)) = w0 at *
  have x0 : w0.cell? ⟨B, 0, none⟩ = some (.int .i64 x.id) := VX0.out.cell 0
  have KF := rfind_any a c X x.id w0 (by omega) (hA.same itCells_len B0.out)
  rw [hk] at KF
  have HA0 := Lib.hid (hA.same itCells_len B0.out)
  clear hA hk
  have RT := Lib.hid (show w0.there H 0 (itCells it0).toArray.size from IsObj.there O0.out 0 7 (by simp))
  have OF := Lib.hid (show IsObj (w0.setCells H 0 (itCells it0).toArray.toList) H 31 (itCells it0) from IsObj.setAll O0.out rfl)
  have BF := Lib.hid (show Only H w0 (w0.setCells H 0 (itCells it0).toArray.toList) from Only.setCells (b := H) (itCells it0) 0 (Only.refl H w0))
  go_wp2_with (first | (go_at_call 43; refine KF.mono ?_; rintro e w' ⟨rfl, rfl⟩) | (refine wpList_store_mid (by rfl) 31 _ _ (by rfl) H 0 (itCells it0).toArray (by rfl) (by rfl) (by exact RT.out) (by kernel_rfl) (it_one _) ?_; generalize w0.setCells H 0 (itCells it0).toArray.toList = wf at *))
  have RL := run_loadVar_mid (P := Try.prog) wf H 0 31 (itCells it0) _ (IsObj.range OF.out) Try.underlying31 rfl (by kernel_rfl)
  refine bodyPost_ret (v := .tuple #[.slice a X.length c, .agg (itCells it0).toArray, .bool false, .int .i64 8]) ?_ rfl ?_
  · exact results_tctt (by rfl) (by rfl) (by rfl) (by rfl) (by rfl) RL
  · exact ⟨rfl, B0.out.trans (BF.out.below (by have := HBH.out.2; omega) B0.out.size)⟩
set_option maxRecDepth 100000 in
set_option maxHeartbeats 2000000 in
theorem radd_ok (a : Option Addr) (c : Nat) (X : List It) (most : Int) (x : It) (w : World) (hm : X.length ≤ 64) (hA : RowOf itCells 7 w a X) (hout : x.id ∉ X.map It.id) (hmost : (X.length : Int) + 1 ≤ most) : Calls Try.prog 38 #[.slice a X.length c, .int .i64 most, itV x] w fun e w' => ∃ v, e = .returned (.tuple #[v, .agg (itCells it0).toArray, .bool false, .int .i64 0]) ∧ w'.ownsRow w.heap.size 31 7 v (X.length + 1) ((ssort (X ++ [x])).flatMap itCells) ∧ Below w.heap.size w w' := by
  obtain ⟨i0, hi, hz0, hz1, hz2⟩ := info_parts item_parts
  have hk : fnd X x.id = -1 := by
    rcases fnd_law X x.id with ⟨h, _⟩ | ⟨j, h1, _, h2, _⟩
    · exact h
    · exact absurd (by rw [← h2]; exact nth_mem h1) hout
  obtain ⟨B, hB⟩ : ∃ B, B = w.heap.size := ⟨_, rfl⟩
  obtain ⟨H, hH⟩ : ∃ H, H = w.heap.size + 1 := ⟨_, rfl⟩
  have HBH := Lib.hid (And.intro hB hH)
  have B0 := Lib.hid (show Below w.heap.size w ((w.alloc (.cells #[.int .i64 x.id, .int .i64 x.lev, .int .i64 x.frm, .int .i64 x.dl, .int .i64 x.bud, .int .i64 x.since, .int .i64 x.seq] 31)).alloc (.cells #[.int .i64 0, .int .i64 0, .int .i64 0, .int .i64 0, .int .i64 0, .int .i64 0, .int .i64 0] 31)) from ((Below.refl _ w).alloc (Nat.le_refl _) _).alloc (by simp) _)
  have VX0 := Lib.hid (show IsObj ((w.alloc (.cells #[.int .i64 x.id, .int .i64 x.lev, .int .i64 x.frm, .int .i64 x.dl, .int .i64 x.bud, .int .i64 x.since, .int .i64 x.seq] 31)).alloc (.cells #[.int .i64 0, .int .i64 0, .int .i64 0, .int .i64 0, .int .i64 0, .int .i64 0, .int .i64 0] 31)) B 31 (itCells x) by rw [hB]; exact (IsObj.new w _ (itCells x)).alloc _)
  have O0 := Lib.hid (show IsObj ((w.alloc (.cells #[.int .i64 x.id, .int .i64 x.lev, .int .i64 x.frm, .int .i64 x.dl, .int .i64 x.bud, .int .i64 x.since, .int .i64 x.seq] 31)).alloc (.cells #[.int .i64 0, .int .i64 0, .int .i64 0, .int .i64 0, .int .i64 0, .int .i64 0, .int .i64 0] 31)) H 31 [.int .i64 0, .int .i64 0, .int .i64 0, .int .i64 0, .int .i64 0, .int .i64 0, .int .i64 0] by
    rw [hH]
    have h := IsObj.new (w.alloc (.cells #[.int .i64 x.id, .int .i64 x.lev, .int .i64 x.frm, .int .i64 x.dl, .int .i64 x.bud, .int .i64 x.since, .int .i64 x.seq] 31)) 31 [.int .i64 0, .int .i64 0, .int .i64 0, .int .i64 0, .int .i64 0, .int .i64 0, .int .i64 0]
    rw [World.size_alloc] at h
    exact h)
  clear hB hH
  go_enter Try.func38, Try.ntmps38
  go_upto_region 1 with (fail)
  rw [← HBH.out.2, ← HBH.out.1]
  generalize ((w.alloc (.cells #[.int .i64 x.id, .int .i64 x.lev, .int .i64 x.frm, .int .i64 x.dl, .int .i64 x.bud, .int .i64 x.since, .int .i64 x.seq] 31)).alloc (.cells #[.int .i64 0, .int .i64 0, .int .i64 0, .int .i64 0, .int .i64 0, .int .i64 0, .int .i64 0] 31)) = w0 at *
  have x0 : w0.cell? ⟨B, 0, none⟩ = some (.int .i64 x.id) := VX0.out.cell 0
  have KF := rfind_any a c X x.id w0 (by omega) (hA.same itCells_len B0.out)
  rw [hk] at KF
  have HA0 := Lib.hid (hA.same itCells_len B0.out)
  clear hA hk
  go_upto_region 4 with (go_at_call 43; refine KF.mono ?_; rintro e w' ⟨rfl, rfl⟩)
  clear KF x0
  go_cut [10] (fun s10 wx => Aside (wx.ownsRow w0.heap.size 31 7 s10 X.length (X.flatMap itCells) ∧ Below w0.heap.size w0 wx))
  case first =>
    by_cases h0 : X = []
    · subst h0
      cases a
      all_goals
       go_wp2
       go_meet
       case rel => exact ⟨World.ownsRow_nil _ _ _ _, Below.refl _ _⟩
    · obtain ⟨b, off, rfl, hc⟩ : ∃ b off, a = some ⟨b, off, none⟩ ∧ ∀ i, i < X.length → ∀ j, j < 7 → w0.cell? ⟨b, off + i * 7 + j, none⟩ = (itCells (nth X i))[j]? := by
        rcases HA0.out with h | h
        · exact absurd h h0
        · exact h
      have hn0 : 0 < X.length := List.length_pos_iff.2 h0
      have HN := Lib.hid (row_news hc)
      clear hc
      go_wp2_with (refine wpList_append_lies _ (by rfl) _ _ _ (by rfl) w0.heap.size 31 i0 (.agg #[.int .i64 0, .int .i64 0, .int .i64 0, .int .i64 0, .int .i64 0, .int .i64 0, .int .i64 0]) 7 56 Try.underlying22 hi hz0 hz1 hz2 rfl (by decide) (.slice none 0 0) 0 [] (by rfl) (World.ownsRow_nil _ _ _ _) ⟨b, off, none⟩ X.length c _ (by rfl) (itF_len X) HN.out (row_one X) hn0 (by unfold maxLen; omega) (by omega) (Nat.le_refl _) w0.heap.size rfl ?_; intro g cap w2 hown hgrow hat hglt)
      rw [Nat.zero_add, List.nil_append] at hown
      have hb2 : Below w0.heap.size w0 w2 := Below.grown (Below.refl _ _) hgrow (Nat.le_refl _) (fun k hk => by simp [Value.ownBlock] at hk)
      have H3 : Aside (_ ∧ _) := And.intro hown hb2
      clear hown hgrow hat hglt hb2
      try simp only [Nat.zero_add]
      go_wp2
      go_meet
      case rel => exact H3
  case rest =>
  have H3 := hcut
  clear hcut
  generalize wc = w2 at *
  have hBl := VX0.out.lt
  have hHl := O0.out.lt
  have VX2 := Lib.hid (IsObj.below VX0.out H3.out.2 hBl)
  have x0 : w2.cell? ⟨B, 0, none⟩ = some (.int .i64 x.id) := VX2.out.cell 0
  have x1 : w2.cell? ⟨B, 1, none⟩ = some (.int .i64 x.lev) := VX2.out.cell 1
  have x2 : w2.cell? ⟨B, 2, none⟩ = some (.int .i64 x.frm) := VX2.out.cell 2
  have x3 : w2.cell? ⟨B, 3, none⟩ = some (.int .i64 x.dl) := VX2.out.cell 3
  have x4 : w2.cell? ⟨B, 4, none⟩ = some (.int .i64 x.bud) := VX2.out.cell 4
  have x5 : w2.cell? ⟨B, 5, none⟩ = some (.int .i64 x.since) := VX2.out.cell 5
  have x6 : w2.cell? ⟨B, 6, none⟩ = some (.int .i64 x.seq) := VX2.out.cell 6
  have HS := Lib.hid H3.out.2.size
  go_upto_region 6 with (at_builtin; refine wpList_append_one (by rfl) _ _ 22 (by rfl) w0.heap.size 31 i0 (.agg #[.int .i64 0, .int .i64 0, .int .i64 0, .int .i64 0, .int .i64 0, .int .i64 0, .int .i64 0]) 7 56 Try.underlying22 hi hz0 hz1 hz2 rfl (by decide) _ X.length _ #[.int .i64 x.id, .int .i64 x.lev, .int .i64 x.frm, .int .i64 x.dl, .int .i64 x.bud, .int .i64 x.since, .int .i64 x.seq] (by rfl) (by exact H3.out.1) (by rfl) (by rfl) (by rfl) (by omega) (by decide) (by exact HS.out) ?_; intro v4 w4 hown4 hb4; obtain ⟨g4, cap4, rfl, hg4a, hg4b⟩ := hown4.form (by omega))
  have hown5 : w4.ownsRow w0.heap.size 31 7 (.slice (some ⟨g4, 0, none⟩) (X.length + 1) cap4) (X.length + 1) ((X ++ [x]).flatMap itCells) := by
    rw [List.flatMap_append, List.flatMap_cons, List.flatMap_nil, List.append_nil]; exact hown4
  have hb04 : Below w0.heap.size w0 w4 := H3.out.2.trans hb4
  have HO4 := Lib.hid hown5
  have HB4 := Lib.hid hb04
  have O4 := Lib.hid (show IsObj w4 H 31 [.int .i64 0, .int .i64 0, .int .i64 0, .int .i64 0, .int .i64 0, .int .i64 0, .int .i64 0] from (hb04.block H hHl).trans O0.out)
  clear hown4 hown5 hb4 hb04 x0 x1 x2 x3 x4 x5 x6 VX2 H3 HS
  have hl : (X ++ [x]).length = X.length + 1 := by simp
  obtain ⟨a3, c3, hv3, hr3⟩ := own_row HO4.out
  have KS := rsort_any a3 c3 (X ++ [x]) w4 (by omega) hr3
  rw [rsort_eq, hl] at KS
  rw [hl] at hv3
  cases hv3
  go_wp2_with fail
  refine KS.mono ?_
  rintro e w5 ⟨v, rfl, hown5, _, b5⟩
  have HO5 := Lib.hid hown5
  have HB5 := Lib.hid (HB4.out.trans (b5.mono HB4.out.size))
  have O5 := Lib.hid (IsObj.below O4.out b5 O4.out.lt)
  clear hown5 b5 KS hr3
  have RT := Lib.hid (show w5.there H 0 (itCells it0).toArray.size from IsObj.there O5.out 0 7 (by simp))
  have OF := Lib.hid (show IsObj (w5.setCells H 0 (itCells it0).toArray.toList) H 31 (itCells it0) from IsObj.setAll O5.out rfl)
  have BF := Lib.hid (show Only H w5 (w5.setCells H 0 (itCells it0).toArray.toList) from Only.setCells (b := H) (itCells it0) 0 (Only.refl H w5))
  go_wp2_with (refine wpList_store_mid (by rfl) 31 _ _ (by rfl) H 0 (itCells it0).toArray (by rfl) (by rfl) (by exact RT.out) (by kernel_rfl) (it_one _) ?_; generalize w5.setCells H 0 (itCells it0).toArray.toList = wf at *)
  have RL := run_loadVar_mid (P := Try.prog) wf H 0 31 (itCells it0) _ (IsObj.range OF.out) Try.underlying31 rfl (by kernel_rfl)
  refine bodyPost_ret (v := .tuple #[v, .agg (itCells it0).toArray, .bool false, .int .i64 0]) ?_ rfl ?_
  · exact results_tctt (by rfl) (by rfl) (by rfl) (by rfl) (by rfl) RL
  · have hbw : Below w.heap.size w wf := (B0.out.trans (HB5.out.mono B0.out.size)).trans (BF.out.below (by have := HBH.out.2; omega) (by have h1 := B0.out.size; have h2 := HB5.out.size; omega))
    have h5 := own_at HO5.out (w' := wf) (fun g hg he => BF.out.block g (HO5.out.lt g he).2 (fun e => by cases e; have := HB4.out.size; omega))
    exact ⟨v, rfl, own_mono h5 (by have h1 := B0.out.size; have h2 := HB4.out.size; omega), hbw⟩
set_option maxRecDepth 100000 in
set_option maxHeartbeats 4000000 in
theorem radd_evict (a : Option Addr) (c : Nat) (X : List It) (most : Int) (x : It) (w : World) (hm : X.length ≤ 64) (hA : RowOf itCells 7 w a X) (k : Nat) (hout : x.id ∉ X.map It.id) (hmost : most < (X.length : Int) + 1) (hv : vict (X ++ [x]) (X.length + 1) = k) (hkn : k < X.length + 1) : Calls Try.prog 38 #[.slice a X.length c, .int .i64 most, itV x] w fun e w' => ∃ v, e = .returned (.tuple #[v, .agg (itCells (nth (X ++ [x]) k)).toArray, .bool true, .int .i64 0]) ∧ w'.ownsRow w.heap.size 31 7 v X.length ((ssort ((X ++ [x]).take k ++ (X ++ [x]).drop (k + 1))).flatMap itCells) ∧ Below w.heap.size w w' := by
  obtain ⟨i0, hi, hz0, hz1, hz2⟩ := info_parts item_parts
  have hk : fnd X x.id = -1 := by
    rcases fnd_law X x.id with ⟨h, _⟩ | ⟨j, h1, _, h2, _⟩
    · exact h
    · exact absurd (by rw [← h2]; exact nth_mem h1) hout
  obtain ⟨B, hB⟩ : ∃ B, B = w.heap.size := ⟨_, rfl⟩
  obtain ⟨H, hH⟩ : ∃ H, H = w.heap.size + 1 := ⟨_, rfl⟩
  have HBH := Lib.hid (And.intro hB hH)
  have B0 := Lib.hid (show Below w.heap.size w ((w.alloc (.cells #[.int .i64 x.id, .int .i64 x.lev, .int .i64 x.frm, .int .i64 x.dl, .int .i64 x.bud, .int .i64 x.since, .int .i64 x.seq] 31)).alloc (.cells #[.int .i64 0, .int .i64 0, .int .i64 0, .int .i64 0, .int .i64 0, .int .i64 0, .int .i64 0] 31)) from ((Below.refl _ w).alloc (Nat.le_refl _) _).alloc (by simp) _)
  have VX0 := Lib.hid (show IsObj ((w.alloc (.cells #[.int .i64 x.id, .int .i64 x.lev, .int .i64 x.frm, .int .i64 x.dl, .int .i64 x.bud, .int .i64 x.since, .int .i64 x.seq] 31)).alloc (.cells #[.int .i64 0, .int .i64 0, .int .i64 0, .int .i64 0, .int .i64 0, .int .i64 0, .int .i64 0] 31)) B 31 (itCells x) by rw [hB]; exact (IsObj.new w _ (itCells x)).alloc _)
  have O0 := Lib.hid (show IsObj ((w.alloc (.cells #[.int .i64 x.id, .int .i64 x.lev, .int .i64 x.frm, .int .i64 x.dl, .int .i64 x.bud, .int .i64 x.since, .int .i64 x.seq] 31)).alloc (.cells #[.int .i64 0, .int .i64 0, .int .i64 0, .int .i64 0, .int .i64 0, .int .i64 0, .int .i64 0] 31)) H 31 [.int .i64 0, .int .i64 0, .int .i64 0, .int .i64 0, .int .i64 0, .int .i64 0, .int .i64 0] by
    rw [hH]
    have h := IsObj.new (w.alloc (.cells #[.int .i64 x.id, .int .i64 x.lev, .int .i64 x.frm, .int .i64 x.dl, .int .i64 x.bud, .int .i64 x.since, .int .i64 x.seq] 31)) 31 [.int .i64 0, .int .i64 0, .int .i64 0, .int .i64 0, .int .i64 0, .int .i64 0, .int .i64 0]
    rw [World.size_alloc] at h
    exact h)
  clear hB hH
  go_enter Try.func38, Try.ntmps38
  go_upto_region 1 with (fail)
  rw [← HBH.out.2, ← HBH.out.1]
  generalize ((w.alloc (.cells #[.int .i64 x.id, .int .i64 x.lev, .int .i64 x.frm, .int .i64 x.dl, .int .i64 x.bud, .int .i64 x.since, .int .i64 x.seq] 31)).alloc (.cells #[.int .i64 0, .int .i64 0, .int .i64 0, .int .i64 0, .int .i64 0, .int .i64 0, .int .i64 0] 31)) = w0 at *
  have x0 : w0.cell? ⟨B, 0, none⟩ = some (.int .i64 x.id) := VX0.out.cell 0
  have KF := rfind_any a c X x.id w0 (by omega) (hA.same itCells_len B0.out)
  rw [hk] at KF
  have HA0 := Lib.hid (hA.same itCells_len B0.out)
  clear hA hk
  go_upto_region 4 with (go_at_call 43; refine KF.mono ?_; rintro e w' ⟨rfl, rfl⟩)
  clear KF x0
  go_cut [10] (fun s10 wx => Aside (wx.ownsRow w0.heap.size 31 7 s10 X.length (X.flatMap itCells) ∧ Below w0.heap.size w0 wx))
  case first =>
    by_cases h0 : X = []
    · subst h0
      cases a
      all_goals
       go_wp2
       go_meet
       case rel => exact ⟨World.ownsRow_nil _ _ _ _, Below.refl _ _⟩
    · obtain ⟨b, off, rfl, hc⟩ : ∃ b off, a = some ⟨b, off, none⟩ ∧ ∀ i, i < X.length → ∀ j, j < 7 → w0.cell? ⟨b, off + i * 7 + j, none⟩ = (itCells (nth X i))[j]? := by
        rcases HA0.out with h | h
        · exact absurd h h0
        · exact h
      have hn0 : 0 < X.length := List.length_pos_iff.2 h0
      have HN := Lib.hid (row_news hc)
      clear hc
      go_wp2_with (refine wpList_append_lies _ (by rfl) _ _ _ (by rfl) w0.heap.size 31 i0 (.agg #[.int .i64 0, .int .i64 0, .int .i64 0, .int .i64 0, .int .i64 0, .int .i64 0, .int .i64 0]) 7 56 Try.underlying22 hi hz0 hz1 hz2 rfl (by decide) (.slice none 0 0) 0 [] (by rfl) (World.ownsRow_nil _ _ _ _) ⟨b, off, none⟩ X.length c _ (by rfl) (itF_len X) HN.out (row_one X) hn0 (by unfold maxLen; omega) (by omega) (Nat.le_refl _) w0.heap.size rfl ?_; intro g cap w2 hown hgrow hat hglt)
      rw [Nat.zero_add, List.nil_append] at hown
      have hb2 : Below w0.heap.size w0 w2 := Below.grown (Below.refl _ _) hgrow (Nat.le_refl _) (fun k hk => by simp [Value.ownBlock] at hk)
      have H3 : Aside (_ ∧ _) := And.intro hown hb2
      clear hown hgrow hat hglt hb2
      try simp only [Nat.zero_add]
      go_wp2
      go_meet
      case rel => exact H3
  case rest =>
  have H3 := hcut
  clear hcut
  generalize wc = w2 at *
  have hBl := VX0.out.lt
  have hHl := O0.out.lt
  have VX2 := Lib.hid (IsObj.below VX0.out H3.out.2 hBl)
  have x0 : w2.cell? ⟨B, 0, none⟩ = some (.int .i64 x.id) := VX2.out.cell 0
  have x1 : w2.cell? ⟨B, 1, none⟩ = some (.int .i64 x.lev) := VX2.out.cell 1
  have x2 : w2.cell? ⟨B, 2, none⟩ = some (.int .i64 x.frm) := VX2.out.cell 2
  have x3 : w2.cell? ⟨B, 3, none⟩ = some (.int .i64 x.dl) := VX2.out.cell 3
  have x4 : w2.cell? ⟨B, 4, none⟩ = some (.int .i64 x.bud) := VX2.out.cell 4
  have x5 : w2.cell? ⟨B, 5, none⟩ = some (.int .i64 x.since) := VX2.out.cell 5
  have x6 : w2.cell? ⟨B, 6, none⟩ = some (.int .i64 x.seq) := VX2.out.cell 6
  have HS := Lib.hid H3.out.2.size
  go_upto_region 6 with (at_builtin; refine wpList_append_one (by rfl) _ _ 22 (by rfl) w0.heap.size 31 i0 (.agg #[.int .i64 0, .int .i64 0, .int .i64 0, .int .i64 0, .int .i64 0, .int .i64 0, .int .i64 0]) 7 56 Try.underlying22 hi hz0 hz1 hz2 rfl (by decide) _ X.length _ #[.int .i64 x.id, .int .i64 x.lev, .int .i64 x.frm, .int .i64 x.dl, .int .i64 x.bud, .int .i64 x.since, .int .i64 x.seq] (by rfl) (by exact H3.out.1) (by rfl) (by rfl) (by rfl) (by omega) (by decide) (by exact HS.out) ?_; intro v4 w4 hown4 hb4; obtain ⟨g4, cap4, rfl, hg4a, hg4b⟩ := hown4.form (by omega))
  have hown5 : w4.ownsRow w0.heap.size 31 7 (.slice (some ⟨g4, 0, none⟩) (X.length + 1) cap4) (X.length + 1) ((X ++ [x]).flatMap itCells) := by
    rw [List.flatMap_append, List.flatMap_cons, List.flatMap_nil, List.append_nil]; exact hown4
  have hb04 : Below w0.heap.size w0 w4 := H3.out.2.trans hb4
  have HO4 := Lib.hid hown5
  have HB4 := Lib.hid hb04
  have O4 := Lib.hid (show IsObj w4 H 31 [.int .i64 0, .int .i64 0, .int .i64 0, .int .i64 0, .int .i64 0, .int .i64 0, .int .i64 0] from (hb04.block H hHl).trans O0.out)
  clear hown4 hown5 hb4 hb04 x0 x1 x2 x3 x4 x5 x6 VX2 H3 HS
  have hl : (X ++ [x]).length = X.length + 1 := by simp
  obtain ⟨hc4a, hc4b⟩ := own_cap HO4.out
  have hrow4 : RowOf itCells 7 w4 (some ⟨g4, 0, none⟩) (X ++ [x]) := .inr ⟨g4, 0, rfl, own_rowOf0 HO4.out rfl⟩
  have KV := rvict_any (some ⟨g4, 0, none⟩) cap4 (X ++ [x]) w4 (by omega) hrow4
  rw [hl, hv, show decide (0 < X.length + 1) = true from decide_eq_true (by omega)] at KV
  have hnl : ¬ ((X.length : Int) + 1 ≤ most) := by omega
  clear hrow4 hv
  go_wp2_with fail
  refine KV.mono ?_
  rintro e w5 ⟨rfl, b5⟩
  have HO5 := Lib.hid (own_below HO4.out b5)
  have HB5 := Lib.hid (HB4.out.trans (b5.mono HB4.out.size))
  have O5 := Lib.hid (IsObj.below O4.out b5 O4.out.lt)
  clear KV b5 HO4 O4 HB4
  have hk0 : (0 : Int) ≤ (k : Int) := by omega
  have hk1 : (k : Int) < (X.length : Int) + 1 := by omega
  obtain ⟨y, hy⟩ : ∃ y, nth (X ++ [x]) k = y := ⟨_, rfl⟩
  have HY := Lib.hid hy
  have r0 : w5.cell? ⟨g4, k * 7, none⟩ = some (.int .i64 y.id) := by
    have h1 := (own_rowOf0 HO5.out rfl) k (by rw [hl]; exact hkn) 0 (by decide)
    rw [HY.out, Nat.zero_add] at h1
    exact h1
  have r1 : w5.cell? ⟨g4, k * 7 + 1, none⟩ = some (.int .i64 y.lev) := by
    have h1 := (own_rowOf0 HO5.out rfl) k (by rw [hl]; exact hkn) 1 (by decide)
    rw [HY.out, Nat.zero_add] at h1
    exact h1
  have r2 : w5.cell? ⟨g4, k * 7 + 2, none⟩ = some (.int .i64 y.frm) := by
    have h1 := (own_rowOf0 HO5.out rfl) k (by rw [hl]; exact hkn) 2 (by decide)
    rw [HY.out, Nat.zero_add] at h1
    exact h1
  have r3 : w5.cell? ⟨g4, k * 7 + 3, none⟩ = some (.int .i64 y.dl) := by
    have h1 := (own_rowOf0 HO5.out rfl) k (by rw [hl]; exact hkn) 3 (by decide)
    rw [HY.out, Nat.zero_add] at h1
    exact h1
  have r4 : w5.cell? ⟨g4, k * 7 + 4, none⟩ = some (.int .i64 y.bud) := by
    have h1 := (own_rowOf0 HO5.out rfl) k (by rw [hl]; exact hkn) 4 (by decide)
    rw [HY.out, Nat.zero_add] at h1
    exact h1
  have r5 : w5.cell? ⟨g4, k * 7 + 5, none⟩ = some (.int .i64 y.since) := by
    have h1 := (own_rowOf0 HO5.out rfl) k (by rw [hl]; exact hkn) 5 (by decide)
    rw [HY.out, Nat.zero_add] at h1
    exact h1
  have r6 : w5.cell? ⟨g4, k * 7 + 6, none⟩ = some (.int .i64 y.seq) := by
    have h1 := (own_rowOf0 HO5.out rfl) k (by rw [hl]; exact hkn) 6 (by decide)
    rw [HY.out, Nat.zero_add] at h1
    exact h1
  obtain ⟨G, hG⟩ : ∃ G, G = w5.heap.size := ⟨_, rfl⟩
  have HGG := Lib.hid hG
  have b6 : Below w5.heap.size w5 (w5.alloc (.cells #[.int .i64 y.id, .int .i64 y.lev, .int .i64 y.frm, .int .i64 y.dl, .int .i64 y.bud, .int .i64 y.since, .int .i64 y.seq] 31)) := (Below.refl _ w5).alloc (Nat.le_refl _) _
  have VG6 := Lib.hid (show IsObj (w5.alloc (.cells #[.int .i64 y.id, .int .i64 y.lev, .int .i64 y.frm, .int .i64 y.dl, .int .i64 y.bud, .int .i64 y.since, .int .i64 y.seq] 31)) G 31 (itCells y) by rw [hG]; exact IsObj.new w5 _ (itCells y))
  have HO6 := Lib.hid (own_below HO5.out b6)
  have HB6 := Lib.hid (HB5.out.trans (b6.mono HB5.out.size))
  have O6 := Lib.hid (IsObj.below O5.out b6 O5.out.lt)
  have HGH := Lib.hid (show H < G by rw [hG]; exact O5.out.lt)
  have HgG := Lib.hid (show g4 < G by rw [hG]; exact (HO5.out.lt g4 rfl).2)
  clear hG hy b6
  go_upto_region 11 with (fail)
  rw [← HGG.out]
  generalize w5.alloc (.cells #[.int .i64 y.id, .int .i64 y.lev, .int .i64 y.frm, .int .i64 y.dl, .int .i64 y.bud, .int .i64 y.since, .int .i64 y.seq] 31) = w6 at *
  clear HO5 HB5 O5 r0 r1 r2 r3 r4 r5 r6
  have htl : (((X ++ [x]).take k).flatMap itCells).length = k * 7 := by rw [itF_len, List.length_take]; omega
  have hdl : (((X ++ [x]).drop (k + 1)).flatMap itCells).length = (X.length - k) * 7 := by rw [itF_len, List.length_drop]; omega
  have hkc : (k : Int) ≤ (cap4 : Int) := by omega
  have hrc6 := own_rowOf0 HO6.out rfl
  have hN : ∀ q u, (((X ++ [x]).take k).flatMap itCells)[q]? = some u → w6.cell? ((⟨g4, 0, none⟩ : Addr).add q) = some u := fun q u hu => by
    have hq := (List.getElem?_eq_some_iff.1 hu).1
    rw [← itF_take, List.getElem?_take_of_lt (by omega)] at hu
    exact row_news hrc6 q u hu
  have HN := Lib.hid hN
  have HRC := Lib.hid hrc6
  clear hN hrc6
  have hk1l : (k : Int) ≤ (X.length : Int) + 1 := by omega
  go_cut [14] (fun s14 wx => Aside (wx.ownsRow w6.heap.size 31 7 s14 k (((X ++ [x]).take k).flatMap itCells) ∧ Below w6.heap.size w6 wx))
  case first =>
    by_cases h0 : k = 0
    · subst h0
      go_wp2
      go_meet
      case rel => exact ⟨by simpa using World.ownsRow_nil w6 w6.heap.size 31 7, Below.refl _ _⟩
    · go_wp2_with (refine wpList_append_lies _ (by rfl) _ _ _ (by rfl) w6.heap.size 31 i0 (.agg #[.int .i64 0, .int .i64 0, .int .i64 0, .int .i64 0, .int .i64 0, .int .i64 0, .int .i64 0]) 7 56 Try.underlying22 hi hz0 hz1 hz2 rfl (by decide) (.slice none 0 0) 0 [] (by rfl) (World.ownsRow_nil _ _ _ _) ⟨g4, 0, none⟩ k cap4 _ (by rfl) htl HN.out (row_one _) (by omega) (by unfold maxLen; omega) (by omega) (Nat.le_refl _) w6.heap.size rfl ?_; intro g cap w7 hown hgrow hat hglt)
      rw [Nat.zero_add, List.nil_append] at hown
      have hb2 : Below w6.heap.size w6 w7 := Below.grown (Below.refl _ _) hgrow (Nat.le_refl _) (fun k hk => by simp [Value.ownBlock] at hk)
      have H3 : Aside (_ ∧ _) := And.intro hown hb2
      clear hown hgrow hat hglt hb2
      try simp only [Nat.zero_add]
      go_wp2
      go_meet
      case rel => exact H3
  case rest =>
  have H7 := hcut
  clear hcut HN
  generalize wc = w7 at *
  have hg4w : g4 < w6.heap.size := (HO6.out.lt g4 rfl).2
  have hNW : ∀ q u, (((X ++ [x]).drop (k + 1)).flatMap itCells)[q]? = some u → w7.cell? ((⟨g4, (k + 1) * 7, none⟩ : Addr).add q) = some u := fun q u hu => by
    rw [← itF_drop, List.getElem?_drop] at hu
    have h1 := row_news HRC.out ((k + 1) * 7 + q) u hu
    rw [addr_add] at h1 ⊢
    rw [Nat.zero_add] at h1
    exact (H7.out.2.cell hg4w).trans h1
  have hbase : w6.heap.size ≤ w7.heap.size := H7.out.2.size
  have hrk : IntKind.i64.wrap ((k : Int) + 1) = (k : Int) + 1 := by rw [IntKind.wrap_i64]; omega
  have hk01 : (0 : Int) ≤ (k : Int) + 1 := by omega
  have hk11 : (k : Int) + 1 ≤ (X.length : Int) + 1 := by omega
  have fin : ∀ (v9 : Value) (w8 : World), w8.ownsRow w6.heap.size 31 7 v9 X.length (((X ++ [x]).take k ++ (X ++ [x]).drop (k + 1)).flatMap itCells) → Below w6.heap.size w7 w8 →
      ∃ a9 c9, v9 = .slice a9 X.length c9 ∧ Hid (IsObj w8 G 31 (itCells y)) ∧ Hid (IsObj w8 H 31 [.int .i64 0, .int .i64 0, .int .i64 0, .int .i64 0, .int .i64 0, .int .i64 0, .int .i64 0]) ∧ Hid (Below w.heap.size w w8) ∧ Calls Try.prog 22 #[.slice a9 X.length c9] w8.drew fun e w' => ∃ v, e = .returned v ∧ w'.ownsRow w8.drew.heap.size 31 7 v X.length ((ssort ((X ++ [x]).take k ++ (X ++ [x]).drop (k + 1))).flatMap itCells) ∧ True ∧ Below w8.drew.heap.size w8.drew w' := fun v9 w8 h1 h2 => by
    obtain ⟨a9, c9, hv9, hr9⟩ := own_row h1
    have hl9 : ((X ++ [x]).take k ++ (X ++ [x]).drop (k + 1)).length = X.length := by rw [List.length_append, List.length_take, List.length_drop, hl]; omega
    have hb68 : Below w6.heap.size w6 w8 := H7.out.2.trans h2
    have hs := rsort_any a9 c9 _ w8.drew (by rw [hl9]; omega) (hr9.same itCells_len (show Below w8.heap.size w8 w8.drew from (Below.refl _ _).drew))
    rw [rsort_eq, hl9] at hs
    rw [hl9] at hv9
    refine ⟨a9, c9, hv9, (hb68.block G VG6.out.lt).trans VG6.out, (hb68.block H O6.out.lt).trans O6.out, (B0.out.trans (HB6.out.mono B0.out.size)).trans (hb68.mono (by have h3 := B0.out.size; have h4 := HB6.out.size; omega)), hs.mono ?_⟩
    rintro e w' ⟨v, he, ho, _, hb⟩
    exact ⟨v, he, ho, trivial, hb⟩
  have FIN := Lib.hid fin
  clear fin
  by_cases hcc : k + 1 = cap4
  · have hdz : (X ++ [x]).drop (k + 1) = [] := List.drop_eq_nil_of_le (by omega)
    have hlen : X.length = k := by omega
    have hjj : (k : Int) < (k : Int) + 1 := by omega
    subst hcc
    obtain ⟨v', w8, hra, hown8, hg8, hnil, hob⟩ := run_append_own_at (P := Try.prog) w7 w6.heap.size 22 22 31 i0 (.agg #[.int .i64 0, .int .i64 0, .int .i64 0, .int .i64 0, .int .i64 0, .int .i64 0, .int .i64 0]) 7 56 Try.underlying22 hi hz0 hz1 hz2 rfl (by decide) u14 k (((X ++ [x]).take k).flatMap itCells) H7.out.1 ⟨g4, 0, none⟩ 0 0 [] (by simp) (fun q u hu => by simp at hu) (fun u hu => by simp at hu) (by unfold maxLen; omega) (by omega) hbase
    have hb8 : Below w6.heap.size w7 w8 := Below.grown (Below.refl _ _) hg8 hbase (fun q hq => (H7.out.1.lt q hq).1)
    have hown9 : w8.ownsRow w6.heap.size 31 7 v' X.length (((X ++ [x]).take k ++ (X ++ [x]).drop (k + 1)).flatMap itCells) := by
      rw [List.flatMap_append]
      have e : k + 0 = X.length := by omega
      rw [e] at hown8
      rw [hdz, List.flatMap_nil]; exact hown8
    obtain ⟨a9, c9, rfl, VG8, O8, B8, KS⟩ := FIN.out v' w8 hown9 hb8
    clear hown8 hown9 hg8 hnil hob hb8 hNW FIN H7
    rw [hlen] at KS
    go_upto_region 13 with (at_builtin; refine wpList_run_append (by rfl) _ _ 22 (by rfl) (by rfl) (by rfl) hra ?_)
    clear hra
    have K0 : w8.drew.rangeAt G 0 (itCells y) := IsObj.range VG8.out
    refine wp_region_held_drew (S := fun W => W.rangeAt G 0 (itCells y)) (by kernel_rfl) ?_ (fun hHeld => ?_)
    · exact K0
    refine wpAnyH_take (i := 0) (oi := ?oi1) (v := ?v1) ?hi1 (by kernel_rfl) (by kernel_rfl) (by kernel_rfl) ?hQ1 ?hy1 (by assumption) ?_
    case hi1 => (simp only [List.getElem?_toArray, List.getElem?_cons_succ, List.getElem?_cons_zero]; rfl)
    case hQ1 => exact fun _ _ _ h => h
    case hy1 => (refine Or.inl ⟨by rfl, ?_⟩; intro w hSw; (try dsimp only at hSw); go_simp; try with_reducible rfl)
    try simp only [Act.put, List.setIfInBounds_toArray, List.set_cons_zero, List.set_cons_succ]
    refine wpAnyH_take (i := 2) (oi := ?oi2) (v := .agg (itCells y).toArray) ?hi2 (by kernel_rfl) (by kernel_rfl) (by kernel_rfl) ?hQ2 ?hy2 (by assumption) ?_
    case hi2 => (simp only [List.getElem?_toArray, List.getElem?_cons_succ, List.getElem?_cons_zero]; rfl)
    case hQ2 => exact fun _ _ _ h => h
    case hy2 => exact yieldsIf_load_mid (by rfl) 31 _ (by rfl) G 0 (by rfl) (itCells y) _ (fun w hw => hw) Try.underlying31 rfl (by kernel_rfl)
    try simp only [Act.put, List.setIfInBounds_toArray, List.set_cons_zero, List.set_cons_succ]
    refine wpAnyH_ready (rs := [1]) (by kernel_rfl) (by simp) ?_
    refine AllReadyH.cons (o := ?oi300) ?ho300 (fun K hK => ?_) AllReadyH.nil
    case ho300 => (simp only [List.getElem?_toArray, List.getElem?_cons_succ, List.getElem?_cons_zero]; rfl)
    go_simp
    go_at_call 22
    refine KS.mono ?_
    rintro e w10 ⟨v10, rfl, hown10, _, b10⟩
    have hb10 : Below w8.heap.size w8 w10 := (show Below w8.heap.size w8 w8.drew from (Below.refl _ _).drew).trans b10
    have K10 := range_below K0 b10 (by exact VG8.out.lt)
    have O10 := IsObj.below O8.out hb10 O8.out.lt
    have t10 : w10.there H 0 (itCells y).toArray.size := IsObj.there O10 0 7 (by simp)
    have q10 := IsObj.setAll (xs := itCells y) O10 rfl
    have y10 := Only.setCells (b := H) (itCells y) 0 (Only.refl H w10)
    have K11 := range_only K10 y10 (by have := HGH.out; omega)
    have HF := Lib.hid (And.intro q10 (And.intro y10 (And.intro hown10 hb10)))
    clear q10 y10 hown10
    refine hK.out _ _ ?_ (fun hHeld => ?_)
    · (try dsimp only); exact K10
    clear hK K
    try simp only [Act.put, List.setIfInBounds_toArray, List.set_cons_zero, List.set_cons_succ]
    refine wpAnyH_take (i := 3) (oi := ?oi4) (v := ?v4) ?hi4 (by kernel_rfl) (by kernel_rfl) (by kernel_rfl) ?hQ4 ?hy4 (by assumption) ?_
    case hi4 => (simp only [List.getElem?_toArray, List.getElem?_cons_succ, List.getElem?_cons_zero]; rfl)
    case hQ4 => exact fun _ _ _ h => h
    case hy4 => (refine Or.inl ⟨by rfl, ?_⟩; intro w hSw; (try dsimp only at hSw); go_simp; try with_reducible rfl)
    try simp only [Act.put, List.setIfInBounds_toArray, List.set_cons_zero, List.set_cons_succ]
    refine wpAnyH_ready (rs := [4]) (by kernel_rfl) (by simp) ?_
    refine AllReadyH.cons (o := ?oi500) ?ho500 (fun K hK => ?_) AllReadyH.nil
    case ho500 => (simp only [List.getElem?_toArray, List.getElem?_cons_succ, List.getElem?_cons_zero]; rfl)
    refine wp_store_mid 31 _ _ (by rfl) H 0 (itCells y).toArray (by rfl) (by rfl) t10 (by kernel_rfl) (it_one _) ?_
    generalize w10.setCells H 0 (itCells y).toArray.toList = wf at *
    refine hK.out _ _ ?_ (fun hHeld => ?_)
    · (try dsimp only); exact K11
    clear hK K
    try simp only [Act.put, List.setIfInBounds_toArray, List.set_cons_zero, List.set_cons_succ]
    refine wpAnyH_take (i := 5) (oi := ?oi6) (v := ?v6) ?hi6 (by kernel_rfl) (by kernel_rfl) (by kernel_rfl) ?hQ6 ?hy6 (by assumption) ?_
    case hi6 => (simp only [List.getElem?_toArray, List.getElem?_cons_succ, List.getElem?_cons_zero]; rfl)
    case hQ6 => exact fun _ _ _ h => h
    case hy6 => (refine Or.inl ⟨by rfl, ?_⟩; intro w hSw; (try dsimp only at hSw); go_simp; try with_reducible rfl)
    try simp only [Act.put, List.setIfInBounds_toArray, List.set_cons_zero, List.set_cons_succ]
    refine wpAnyH_take (i := 6) (oi := ?oi7) (v := ?v7) ?hi7 (by kernel_rfl) (by kernel_rfl) (by kernel_rfl) ?hQ7 ?hy7 (by assumption) ?_
    case hi7 => (simp only [List.getElem?_toArray, List.getElem?_cons_succ, List.getElem?_cons_zero]; rfl)
    case hQ7 => exact fun _ _ _ h => h
    case hy7 => (refine Or.inl ⟨by rfl, ?_⟩; intro w hSw; (try dsimp only at hSw); go_simp; try with_reducible rfl)
    try simp only [Act.put, List.setIfInBounds_toArray, List.set_cons_zero, List.set_cons_succ]
    refine wpAnyH_done (by kernel_rfl) ?_ _
    clear K0 K10 K11 t10 O10 KS
    go_wp2_with fail
    have OF := Lib.hid HF.out.1
    have BF := Lib.hid HF.out.2.1
    have RL := run_loadVar_mid (P := Try.prog) wf H 0 31 (itCells y) _ (IsObj.range OF.out) Try.underlying31 rfl (by kernel_rfl)
    refine bodyPost_ret (v := .tuple #[v10, .agg (itCells y).toArray, .bool true, .int .i64 0]) ?_ rfl ?_
    · exact results_tctt (by rfl) (by rfl) (by rfl) (by rfl) (by rfl) RL
    · have hb8f := HF.out.2.2.2
      have hbw : Below w.heap.size w wf := (B8.out.trans (hb8f.mono B8.out.size)).trans (BF.out.below (by have := HBH.out.2; omega) (by have h1 := B8.out.size; have h2 := hb8f.size; omega))
      have h5 := own_at HF.out.2.2.1 (w' := wf) (fun g hg he => BF.out.block g (HF.out.2.2.1.lt g he).2 (fun e => by cases e; have h1 := O8.out.lt; have h2 : w8.drew.heap.size = w8.heap.size := rfl; omega))
      exact ⟨v10, by rw [HY.out], by rw [hlen]; exact own_mono h5 (by have h1 := B8.out.size; exact h1), hbw⟩
  · have hccz : ¬ ((k : Int) + 1 = (cap4 : Int)) := by omega
    have hccn : ¬ (cap4 = k + 1) := by omega
    obtain ⟨v', w8, hra, hown8, hg8, hnil, hob⟩ := run_append_own_at (P := Try.prog) w7 w6.heap.size 22 22 31 i0 (.agg #[.int .i64 0, .int .i64 0, .int .i64 0, .int .i64 0, .int .i64 0, .int .i64 0, .int .i64 0]) 7 56 Try.underlying22 hi hz0 hz1 hz2 rfl (by decide) u14 k (((X ++ [x]).take k).flatMap itCells) H7.out.1 ⟨g4, (k + 1) * 7, none⟩ (X.length - k) (cap4 - (k + 1)) (((X ++ [x]).drop (k + 1)).flatMap itCells) hdl hNW (row_one _) (by unfold maxLen; omega) (by omega) hbase
    have hb8 : Below w6.heap.size w7 w8 := Below.grown (Below.refl _ _) hg8 hbase (fun q hq => (H7.out.1.lt q hq).1)
    have hown9 : w8.ownsRow w6.heap.size 31 7 v' X.length (((X ++ [x]).take k ++ (X ++ [x]).drop (k + 1)).flatMap itCells) := by
      rw [List.flatMap_append]
      have e : k + (X.length - k) = X.length := by omega
      rw [e] at hown8
      exact hown8
    obtain ⟨a9, c9, rfl, VG8, O8, B8, KS⟩ := FIN.out v' w8 hown9 hb8
    clear hown8 hown9 hg8 hnil hob hb8 hNW FIN H7

    go_upto_region 13 with (at_builtin; refine wpList_run_append (by rfl) _ _ 22 (by rfl) (by rfl) (by rfl) hra ?_)
    clear hra
    have K0 : w8.drew.rangeAt G 0 (itCells y) := IsObj.range VG8.out
    refine wp_region_held_drew (S := fun W => W.rangeAt G 0 (itCells y)) (by kernel_rfl) ?_ (fun hHeld => ?_)
    · exact K0
    refine wpAnyH_take (i := 0) (oi := ?oi8) (v := ?v8) ?hi8 (by kernel_rfl) (by kernel_rfl) (by kernel_rfl) ?hQ8 ?hy8 (by assumption) ?_
    case hi8 => (simp only [List.getElem?_toArray, List.getElem?_cons_succ, List.getElem?_cons_zero]; rfl)
    case hQ8 => exact fun _ _ _ h => h
    case hy8 => (refine Or.inl ⟨by rfl, ?_⟩; intro w hSw; (try dsimp only at hSw); go_simp; try with_reducible rfl)
    try simp only [Act.put, List.setIfInBounds_toArray, List.set_cons_zero, List.set_cons_succ]
    refine wpAnyH_take (i := 2) (oi := ?oi9) (v := .agg (itCells y).toArray) ?hi9 (by kernel_rfl) (by kernel_rfl) (by kernel_rfl) ?hQ9 ?hy9 (by assumption) ?_
    case hi9 => (simp only [List.getElem?_toArray, List.getElem?_cons_succ, List.getElem?_cons_zero]; rfl)
    case hQ9 => exact fun _ _ _ h => h
    case hy9 => exact yieldsIf_load_mid (by rfl) 31 _ (by rfl) G 0 (by rfl) (itCells y) _ (fun w hw => hw) Try.underlying31 rfl (by kernel_rfl)
    try simp only [Act.put, List.setIfInBounds_toArray, List.set_cons_zero, List.set_cons_succ]
    refine wpAnyH_ready (rs := [1]) (by kernel_rfl) (by simp) ?_
    refine AllReadyH.cons (o := ?oi1000) ?ho1000 (fun K hK => ?_) AllReadyH.nil
    case ho1000 => (simp only [List.getElem?_toArray, List.getElem?_cons_succ, List.getElem?_cons_zero]; rfl)
    go_simp
    go_at_call 22
    refine KS.mono ?_
    rintro e w10 ⟨v10, rfl, hown10, _, b10⟩
    have hb10 : Below w8.heap.size w8 w10 := (show Below w8.heap.size w8 w8.drew from (Below.refl _ _).drew).trans b10
    have K10 := range_below K0 b10 (by exact VG8.out.lt)
    have O10 := IsObj.below O8.out hb10 O8.out.lt
    have t10 : w10.there H 0 (itCells y).toArray.size := IsObj.there O10 0 7 (by simp)
    have q10 := IsObj.setAll (xs := itCells y) O10 rfl
    have y10 := Only.setCells (b := H) (itCells y) 0 (Only.refl H w10)
    have K11 := range_only K10 y10 (by have := HGH.out; omega)
    have HF := Lib.hid (And.intro q10 (And.intro y10 (And.intro hown10 hb10)))
    clear q10 y10 hown10
    refine hK.out _ _ ?_ (fun hHeld => ?_)
    · (try dsimp only); exact K10
    clear hK K
    try simp only [Act.put, List.setIfInBounds_toArray, List.set_cons_zero, List.set_cons_succ]
    refine wpAnyH_take (i := 3) (oi := ?oi11) (v := ?v11) ?hi11 (by kernel_rfl) (by kernel_rfl) (by kernel_rfl) ?hQ11 ?hy11 (by assumption) ?_
    case hi11 => (simp only [List.getElem?_toArray, List.getElem?_cons_succ, List.getElem?_cons_zero]; rfl)
    case hQ11 => exact fun _ _ _ h => h
    case hy11 => (refine Or.inl ⟨by rfl, ?_⟩; intro w hSw; (try dsimp only at hSw); go_simp; try with_reducible rfl)
    try simp only [Act.put, List.setIfInBounds_toArray, List.set_cons_zero, List.set_cons_succ]
    refine wpAnyH_ready (rs := [4]) (by kernel_rfl) (by simp) ?_
    refine AllReadyH.cons (o := ?oi1200) ?ho1200 (fun K hK => ?_) AllReadyH.nil
    case ho1200 => (simp only [List.getElem?_toArray, List.getElem?_cons_succ, List.getElem?_cons_zero]; rfl)
    refine wp_store_mid 31 _ _ (by rfl) H 0 (itCells y).toArray (by rfl) (by rfl) t10 (by kernel_rfl) (it_one _) ?_
    generalize w10.setCells H 0 (itCells y).toArray.toList = wf at *
    refine hK.out _ _ ?_ (fun hHeld => ?_)
    · (try dsimp only); exact K11
    clear hK K
    try simp only [Act.put, List.setIfInBounds_toArray, List.set_cons_zero, List.set_cons_succ]
    refine wpAnyH_take (i := 5) (oi := ?oi13) (v := ?v13) ?hi13 (by kernel_rfl) (by kernel_rfl) (by kernel_rfl) ?hQ13 ?hy13 (by assumption) ?_
    case hi13 => (simp only [List.getElem?_toArray, List.getElem?_cons_succ, List.getElem?_cons_zero]; rfl)
    case hQ13 => exact fun _ _ _ h => h
    case hy13 => (refine Or.inl ⟨by rfl, ?_⟩; intro w hSw; (try dsimp only at hSw); go_simp; try with_reducible rfl)
    try simp only [Act.put, List.setIfInBounds_toArray, List.set_cons_zero, List.set_cons_succ]
    refine wpAnyH_take (i := 6) (oi := ?oi14) (v := ?v14) ?hi14 (by kernel_rfl) (by kernel_rfl) (by kernel_rfl) ?hQ14 ?hy14 (by assumption) ?_
    case hi14 => (simp only [List.getElem?_toArray, List.getElem?_cons_succ, List.getElem?_cons_zero]; rfl)
    case hQ14 => exact fun _ _ _ h => h
    case hy14 => (refine Or.inl ⟨by rfl, ?_⟩; intro w hSw; (try dsimp only at hSw); go_simp; try with_reducible rfl)
    try simp only [Act.put, List.setIfInBounds_toArray, List.set_cons_zero, List.set_cons_succ]
    refine wpAnyH_done (by kernel_rfl) ?_ _
    clear K0 K10 K11 t10 O10 KS
    go_wp2_with fail
    have OF := Lib.hid HF.out.1
    have BF := Lib.hid HF.out.2.1
    have RL := run_loadVar_mid (P := Try.prog) wf H 0 31 (itCells y) _ (IsObj.range OF.out) Try.underlying31 rfl (by kernel_rfl)
    refine bodyPost_ret (v := .tuple #[v10, .agg (itCells y).toArray, .bool true, .int .i64 0]) ?_ rfl ?_
    · exact results_tctt (by rfl) (by rfl) (by rfl) (by rfl) (by rfl) RL
    · have hb8f := HF.out.2.2.2
      have hbw : Below w.heap.size w wf := (B8.out.trans (hb8f.mono B8.out.size)).trans (BF.out.below (by have := HBH.out.2; omega) (by have h1 := B8.out.size; have h2 := hb8f.size; omega))
      have h5 := own_at HF.out.2.2.1 (w' := wf) (fun g hg he => BF.out.block g (HF.out.2.2.1.lt g he).2 (fun e => by cases e; have h1 := O8.out.lt; have h2 : w8.drew.heap.size = w8.heap.size := rfl; omega))
      exact ⟨v10, by rw [HY.out], own_mono h5 (by have h1 := B8.out.size; exact h1), hbw⟩
end Go.Proofs.Ytmanmebgmhpilaa
