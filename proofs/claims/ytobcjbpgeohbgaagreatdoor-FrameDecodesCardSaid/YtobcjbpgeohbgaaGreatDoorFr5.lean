/-
  Layer 27 (frame): the deferred closure; Decode.
-/
import Derived.Test.YtobcjbpgeohbgaaGreatDoorFr4
namespace Go.Proofs.YtobcjbpgeohbgaaGreatDoor
open Go.RowKit
set_option linter.unusedVariables false
set_option linter.unusedSimpArgs false

theorem fcatch_p (T E : Nat) (x : Fm) (er : Int) (u : TypeId) (pv : Value) (older : List PanicEntry) (w : World) (hT : IsObj w T 32 (fmCells x)) (hE : IsObj w E 33 [.int .i64 er]) (hTE : T ≠ E) :
    CallsD Tryz.prog 19 #[.pointer (some ⟨T, 0, none⟩), .pointer (some ⟨E, 0, none⟩)] (.panicking ({ v := .iface u pv, recovered := false } :: older)) w fun e u' w' =>
      e = .returned (.tuple #[]) ∧ u' = .panicking ({ v := .iface u pv, recovered := true } :: older) ∧ w' = (w.setCells T 0 (fmCells fm0).toArray.toList).setCell ⟨E, 0, none⟩ (.int .i64 2) := by
  refine callsD_of_wpS Tryz.func19 rfl fun c₀ cs hu => ?_
  have RT := Lib.hid (show w.there T 0 (fmCells fm0).toArray.size from IsObj.there hT 0 23 (Nat.le_refl _))
  have OE := Lib.hid (show IsObj (w.setCells T 0 (fmCells fm0).toArray.toList) E 33 [.int .i64 er] from IsObj.only hE (Only.setCells (b := T) (fmCells fm0) 0 (Only.refl T w)) (Ne.symm hTE))
  apply wpS_seq
  apply wpS_region
  simp [wpOpsS, go_sem, recoverD, hu, Tryz.ntmps19, Exit.thenS]
  apply wpS_seq
  apply wpS_region
  simp [wpOpsS, go_sem, Exit.thenS]
  refine wpS_cond (t := true) (by simp [Act.eval, Array.replicate]) ?_
  simp only [if_true]
  refine wpS_of_wp ?_
  have fE := IsObj.free OE.out 0
  have e0 : (w.setCells T 0 (fmCells fm0).toArray.toList).cell? ⟨E, 0, none⟩ = some (.int .i64 er) := IsObj.cell OE.out 0
  generalize hw : w.setCells T 0 (fmCells fm0) = w2 at *
  have hl : (fmCells fm0).toArray.toList = fmCells fm0 := rfl
  rw [show (#[Value.pointer (some ⟨T, 0, none⟩), Value.pointer (some ⟨E, 0, none⟩)] ++ ((((Array.replicate 5 undef).setIfInBounds 1 (Value.iface u pv)).setIfInBounds 0 (Value.iface u pv)).setIfInBounds 2 (Value.iface u pv)).setIfInBounds 3 (Value.bool true)) = #[Value.pointer (some ⟨T, 0, none⟩), Value.pointer (some ⟨E, 0, none⟩), Value.iface u pv, Value.iface u pv, Value.iface u pv, Value.bool true, undef] from rfl]
  go_wp2_with (refine wpList_store_mid (by rfl) 32 _ _ (by rfl) T 0 (fmCells fm0).toArray (by rfl) (by rfl) (by exact RT.out) (by kernel_rfl) (by kernel_rfl) ?_; rw [hl, hw])
  simp [bodyPostS, results, Tryz.results19]
theorem fcatch_i (T E : Nat) (w : World) :
    CallsD Tryz.prog 19 #[.pointer (some ⟨T, 0, none⟩), .pointer (some ⟨E, 0, none⟩)] .returning w fun e u' w' => e = .returned (.tuple #[]) ∧ u' = .returning ∧ w' = w := by
  refine callsD_of_wpS Tryz.func19 rfl fun c₀ cs hu => ?_
  apply wpS_seq
  apply wpS_region
  simp [wpOpsS, go_sem, recoverD, hu, Tryz.ntmps19, Exit.thenS]
  apply wpS_seq
  apply wpS_region
  simp [wpOpsS, go_sem, Exit.thenS]
  refine wpS_cond (t := false) (by simp [Act.eval, Array.replicate]) ?_
  simp only [Bool.false_eq_true, if_false]
  refine wpS_of_wp (wp_skip ?_)
  cases c₀
  simp_all [bodyPostS, results, Tryz.results19]
/-- What bytes are read as, and what is wrong with them. -/
def decB (s : ByteArray) : Rd := if (getH s).err ≠ 0 then ⟨fm0, (getH s).err⟩ else if (rdF (getH s).kind (getH s).body).err ≠ 0 then ⟨fm0, 2⟩ else ⟨(rdF (getH s).kind (getH s).body).f, 0⟩
theorem firstB_le (s : ByteArray) : (firstB s).body.size ≤ s.size := by
  unfold firstB
  split
  · exact Nat.zero_le _
  · split
    · exact Nat.zero_le _
    · split
      · exact Nat.zero_le _
      · exact extract_leN _ _ _
theorem getH_le (s : ByteArray) : (getH s).body.size ≤ s.size := by
  unfold getH
  split
  · exact Nat.zero_le _
  · split
    · exact Nat.zero_le _
    · exact firstB_le s
set_option maxRecDepth 100000 in
set_option maxHeartbeats 2000000 in
theorem dec_any (s : ByteArray) (w : World) (hs : s.size ≤ 2147483648) (hN : NmAt w) (hW : WdAt w) : Calls Tryz.prog 6 #[.string s] w fun e w' => e = .returned (.tuple #[.agg (fmCells (decB s).f).toArray, .int .i64 (decB s).err]) ∧ Below w.heap.size w w' := by
  have hmf : ∀ (fn : Fn) (first cap : Array Value) (w : World), (Instr.makeFunc fn first cap).run Tryz.prog w = .ok (.func fn first cap) w := fun _ _ _ _ => rfl
  obtain ⟨W1, hW1⟩ : ∃ W1, W1 = ((w.alloc (.cells #[.int .i64 0, .int .i64 0, .int .i64 0, .int .i64 0, .int .i64 0, .int .i64 0, .int .i64 0, .int .i64 0, .int .i64 0, .int .i64 0, .int .i64 0, .int .i64 0, .int .i64 0, .int .i64 0, .int .i64 0, .int .i64 0, .int .i64 0, .int .i64 0, .int .i64 0, .int .i64 0, .int .i64 0, .int .i64 0, .int .i64 0] 32)).alloc (.cells #[.int .i64 0] 33)) := ⟨_, rfl⟩
  obtain ⟨T, hT⟩ : ∃ T, T = w.heap.size := ⟨_, rfl⟩
  obtain ⟨E, hE⟩ : ∃ E, E = w.heap.size + 1 := ⟨_, rfl⟩
  have O1 := Lib.hid (show IsObj W1 T 32 (fmCells fm0) by rw [hW1, hT]; exact (IsObj.new w 32 (fmCells fm0)).alloc _)
  have E1 := Lib.hid (show IsObj W1 E 33 [.int .i64 0] by
    have := IsObj.new (w.alloc (.cells #[.int .i64 0, .int .i64 0, .int .i64 0, .int .i64 0, .int .i64 0, .int .i64 0, .int .i64 0, .int .i64 0, .int .i64 0, .int .i64 0, .int .i64 0, .int .i64 0, .int .i64 0, .int .i64 0, .int .i64 0, .int .i64 0, .int .i64 0, .int .i64 0, .int .i64 0, .int .i64 0, .int .i64 0, .int .i64 0, .int .i64 0] 32)) 33 [.int .i64 0]
    rw [World.size_alloc, ← hE] at this
    rw [hW1]
    exact this)
  have B1 := Lib.hid (show Below w.heap.size w W1 by rw [hW1]; exact ((Below.refl _ _).alloc (Nat.le_refl _) _).alloc (by simp) _)
  have HN1 := Lib.hid (hN.same B1.out)
  have HW1 := Lib.hid (hW.same B1.out)
  have HTE := Lib.hid (And.intro hT hE)
  have HW0 := Lib.hid hW1
  have h1 := hN.lt
  have KH := fun w => hget_any s w hs
  have hbs : (getH s).body.size ≤ 2147483648 := Nat.le_trans (getH_le s) hs
  have HD := Lib.hid (show decB s = (if (getH s).err ≠ 0 then ⟨fm0, (getH s).err⟩ else if (rdF (getH s).kind (getH s).body).err ≠ 0 then ⟨fm0, 2⟩ else ⟨(rdF (getH s).kind (getH s).body).f, 0⟩) from rfl)
  generalize (getH s).err = he at *
  generalize (getH s).kind = kd at *
  generalize (getH s).body = bd at *
  generalize decB s = D at *
  clear hW1 hT hE hN hW
  go_enter_defers Tryz.func6, Tryz.ntmps6
  go_wp2_with fail
  rw [← HTE.out.2, ← HTE.out.1, ← HW0.out]
  refine (KH W1).mono ?_
  rintro e w1 ⟨rfl, b1⟩
  have O2 := Lib.hid (IsObj.below O1.out b1 O1.out.lt)
  have E2 := Lib.hid (IsObj.below E1.out b1 E1.out.lt)
  have HN2 := Lib.hid (HN1.out.same b1)
  have HW2 := Lib.hid (HW1.out.same b1)
  have B2 := Lib.hid (B1.out.trans (b1.mono B1.out.size))
  have e0 : w1.cell? ⟨E, 0, none⟩ = some (.int .i64 0) := E2.out.cell 0
  have fE : w1.frozen? ⟨E, 0, none⟩ = false := E2.out.free 0
  clear b1 O1 E1 HN1 HW1 B1 KH HW0
  go_upto_region 3 with (fail)
  have O3 := Lib.hid (show IsObj (w1.setCell ⟨E, 0, none⟩ (.int .i64 he)) T 32 (fmCells fm0) from IsObj.setOther O2.out ⟨E, 0, none⟩ _ (by have := HTE.out; simp; omega))
  have E3 := Lib.hid (show IsObj (w1.setCell ⟨E, 0, none⟩ (.int .i64 he)) E 33 [.int .i64 he] from IsObj.set E2.out 0 (.int .i64 he))
  have Y3 := Lib.hid (show Only E w1 (w1.setCell ⟨E, 0, none⟩ (.int .i64 he)) from (Only.refl E w1).setCell (p := ⟨E, 0, none⟩) (.inl rfl) _)
  have HN3 := Lib.hid (HN2.out.only Y3.out (by have := HTE.out; omega))
  have HW3 := Lib.hid (HW2.out.only Y3.out (by have := HTE.out; omega))
  have B3 := Lib.hid (B2.out.trans (Y3.out.below (by have := HTE.out; omega) B2.out.size))
  generalize w1.setCell ⟨E, 0, none⟩ (.int .i64 he) = w3 at *
  clear e0 fE O2 E2 Y3 HN2 HW2 B2
  have e3 : w3.cell? ⟨E, 0, none⟩ = some (.int .i64 he) := E3.out.cell 0
  by_cases hh : he = 0
  · subst hh
    go_upto_region 5 with (fail)
    by_cases hr : (rdF kd bd).err = 0
    · have HD2 := Lib.hid (show D = ⟨(rdF kd bd).f, 0⟩ by rw [HD.out, if_neg (by decide), if_neg (by rw [hr]; decide)])
      have KR := read_ok kd bd w3 hbs HN3.out HW3.out hr
      clear hr HD e3
      go_wp2_with fail
      refine KR.mono ?_
      rintro e w4 ⟨⟨v, rfl, KW⟩, b4⟩
      go_wp2_with fail
      refine (KW w4).mono ?_
      rintro e w5 ⟨rfl, b5⟩
      generalize (rdF kd bd).f = F at *
      have O5 := Lib.hid (IsObj.below O3.out (b4.trans (b5.mono b4.size)) O3.out.lt)
      have E5 := Lib.hid (IsObj.below E3.out (b4.trans (b5.mono b4.size)) E3.out.lt)
      have B5 := Lib.hid (B3.out.trans ((b4.trans (b5.mono b4.size)).mono B3.out.size))
      have RT := Lib.hid (show w5.there T 0 (fmCells F).toArray.size from IsObj.there O5.out 0 23 (Nat.le_refl _))
      have O6 := Lib.hid (show IsObj (w5.setCells T 0 (fmCells F).toArray.toList) T 32 (fmCells F) from IsObj.setAll O5.out (by rfl))
      have Y6 := Lib.hid (show Only T w5 (w5.setCells T 0 (fmCells F).toArray.toList) from Only.setCells (b := T) (fmCells F) 0 (Only.refl T w5))
      have E6 := Lib.hid (show IsObj (w5.setCells T 0 (fmCells F).toArray.toList) E 33 [.int .i64 0] from IsObj.only E5.out Y6.out (by have := HTE.out; omega))
      have e6 : (w5.setCells T 0 (fmCells F).toArray.toList).cell? ⟨E, 0, none⟩ = some (.int .i64 0) := E6.out.cell 0
      have fE : (w5.setCells T 0 (fmCells F).toArray.toList).frozen? ⟨E, 0, none⟩ = false := E6.out.free 0
      have B6 := Lib.hid (B5.out.trans (Y6.out.below (by have := HTE.out; omega) B5.out.size))
      clear b4 b5 KR KW O3 E3 HN3 HW3 B3 O5 E5 Y6 B5
      go_wp2_with (refine wpList_store_mid (by rfl) 32 _ _ (by rfl) T 0 (fmCells F).toArray (by rfl) (by rfl) (by exact RT.out) (by kernel_rfl) (by kernel_rfl) ?_; generalize w5.setCells T 0 (fmCells F).toArray.toList = w6 at *)
      refine leaves_cons (f := 19) (args := #[.pointer (some ⟨T, 0, none⟩), .pointer (some ⟨E, 0, none⟩)]) (by simp) (by simp [go_sem]) ?_
      refine (fcatch_i T E _).mono ?_
      rintro e u' wF ⟨rfl, rfl, hwF⟩
      have OF := Lib.hid (show IsObj wF T 32 (fmCells F) by rw [hwF]; exact IsObj.setOther O6.out ⟨E, 0, none⟩ _ (by have := HTE.out; simp; omega))
      have EF := Lib.hid (show IsObj wF E 33 [.int .i64 0] by rw [hwF]; exact IsObj.set E6.out 0 (.int .i64 0))
      have BF := Lib.hid (show Below w.heap.size w wF by rw [hwF]; exact B6.out.setCell (p := ⟨E, 0, none⟩) (by have := HTE.out; simp; omega) _)
      clear hwF
      have RF := run_loadVar_mid (P := Tryz.prog) wF T 0 32 (fmCells F) _ (IsObj.range OF.out) Tryz.underlying32 rfl (by kernel_rfl)
      have RE : (loadVar 33 ⟨E, 0, none⟩).run Tryz.prog wF = .ok (.int .i64 0) wF := by
        have k := IsObj.cell EF.out 0
        have k : wF.cell? ⟨E, 0, none⟩ = some (.int .i64 0) := k
        go_simp
      refine ⟨_, results_cell_cell (by rfl) (by rfl) (by rfl) RF RE, ?_⟩
      rw [HD2.out]
      exact ⟨rfl, BF.out⟩
    · have HD2 := Lib.hid (show D = ⟨fm0, 2⟩ by rw [HD.out, if_neg (by decide), if_pos hr])
      have KR := read_no kd bd w3 hbs HN3.out HW3.out hr
      clear hr HD e3
      go_wp2_with fail
      refine KR.mono ?_
      rintro e w4 ⟨⟨n, rfl⟩, b4⟩
      have O5 := Lib.hid (IsObj.below O3.out b4 O3.out.lt)
      have E5 := Lib.hid (IsObj.below E3.out b4 E3.out.lt)
      have B5 := Lib.hid (B3.out.trans (b4.mono B3.out.size))
      clear b4 KR O3 E3 HN3 HW3 B3
      refine leaves_cons (f := 19) (args := #[.pointer (some ⟨T, 0, none⟩), .pointer (some ⟨E, 0, none⟩)]) (by simp) (by simp [go_sem]) ?_
      refine (fcatch_p T E _ _ 33 _ [] _ O5.out E5.out (by have := HTE.out; omega)).mono ?_
      rintro e u' wF ⟨rfl, rfl, hwF⟩
      have hY : Only T w4 (w4.setCells T 0 (fmCells fm0).toArray.toList) := Only.setCells (b := T) (fmCells fm0) 0 (Only.refl T w4)
      have hT2 : IsObj (w4.setCells T 0 (fmCells fm0).toArray.toList) T 32 (fmCells fm0) := IsObj.setAll O5.out (by rfl)
      have OF := Lib.hid (show IsObj wF T 32 (fmCells fm0) by rw [hwF]; exact IsObj.setOther hT2 ⟨E, 0, none⟩ _ (by have := HTE.out; simp; omega))
      have EF := Lib.hid (show IsObj wF E 33 [.int .i64 2] by rw [hwF]; exact IsObj.set (IsObj.only E5.out hY (by have := HTE.out; omega)) 0 (.int .i64 2))
      have BF := Lib.hid (show Below w.heap.size w wF by rw [hwF]; exact (B5.out.trans (hY.below (by have := HTE.out; omega) B5.out.size)).setCell (p := ⟨E, 0, none⟩) (by have := HTE.out; simp; omega) _)
      clear hwF hY hT2
      have RF := run_loadVar_mid (P := Tryz.prog) wF T 0 32 (fmCells fm0) _ (IsObj.range OF.out) Tryz.underlying32 rfl (by kernel_rfl)
      have RE : (loadVar 33 ⟨E, 0, none⟩).run Tryz.prog wF = .ok (.int .i64 2) wF := by
        have k := IsObj.cell EF.out 0
        have k : wF.cell? ⟨E, 0, none⟩ = some (.int .i64 2) := k
        go_simp
      refine ⟨_, results_cell_cell (by rfl) (by rfl) (by rfl) RF RE, ?_⟩
      rw [HD2.out]
      exact ⟨rfl, BF.out⟩
  · have hhb : (he != 0) = true := by simpa using hh
    have HD2 := Lib.hid (show D = ⟨fm0, he⟩ by rw [HD.out, if_pos hh])
    clear hh HD
    go_upto_region 4 with (fail)
    refine wp_region_held_drew (S := fun W => W.cell? ⟨E, 0, none⟩ = some (.int .i64 he)) (by kernel_rfl) ?_ (fun hHeld => ?_)
    · (try dsimp only); exact e3
    have RT := Lib.hid (show w3.drew.there T 0 (fmCells fm0).toArray.size from IsObj.there O3.out.drew 0 23 (Nat.le_refl _))
    have O4 := Lib.hid (show IsObj (w3.drew.setCells T 0 (fmCells fm0).toArray.toList) T 32 (fmCells fm0) from IsObj.setAll O3.out.drew (by rfl))
    have Y4 := Lib.hid (show Only T w3.drew (w3.drew.setCells T 0 (fmCells fm0).toArray.toList) from Only.setCells (b := T) (fmCells fm0) 0 (Only.refl T w3.drew))
    have E4 := Lib.hid (show IsObj (w3.drew.setCells T 0 (fmCells fm0).toArray.toList) E 33 [.int .i64 he] from IsObj.only E3.out.drew Y4.out (by have := HTE.out; omega))
    have B4 := Lib.hid (show Below w.heap.size w (w3.drew.setCells T 0 (fmCells fm0).toArray.toList) from (B3.out.trans ((Below.refl _ w3).drew.mono B3.out.size)).trans (Y4.out.below (by have := HTE.out; omega) B3.out.size))
    refine wpAnyH_ready (rs := [0, 1]) (by kernel_rfl) (by simp) ?_
    refine AllReadyH.cons (o := ?oi100) ?ho100 (fun K hK => ?_) (AllReadyH.cons (o := ?oi101) ?ho101 (fun K hK => ?_) AllReadyH.nil)
    case ho100 => (simp only [List.getElem?_toArray, List.getElem?_cons_succ, List.getElem?_cons_zero]; rfl)
    case ho101 => (simp only [List.getElem?_toArray, List.getElem?_cons_succ, List.getElem?_cons_zero]; rfl)
    · go_simp
      refine hK.out _ _ ?_ (fun hHeld => ?_)
      · (try dsimp only); exact e3
      clear hK K
      try simp only [Act.put, List.setIfInBounds_toArray, List.set_cons_zero, List.set_cons_succ]
      refine wpAnyH_ready (rs := [1, 2]) (by kernel_rfl) (by simp) ?_
      refine AllReadyH.cons (o := ?oi201) ?ho201 (fun K hK => ?_) (AllReadyH.cons (o := ?oi202) ?ho202 (fun K hK => ?_) AllReadyH.nil)
      case ho201 => (simp only [List.getElem?_toArray, List.getElem?_cons_succ, List.getElem?_cons_zero]; rfl)
      case ho202 => (simp only [List.getElem?_toArray, List.getElem?_cons_succ, List.getElem?_cons_zero]; rfl)
      · go_simp
        refine hK.out _ _ ?_ (fun hHeld => ?_)
        · (try dsimp only); exact e3
        clear hK K
        try simp only [Act.put, List.setIfInBounds_toArray, List.set_cons_zero, List.set_cons_succ]
        refine wpAnyH_ready (rs := [2]) (by kernel_rfl) (by simp) ?_
        refine AllReadyH.cons (o := ?oi302) ?ho302 (fun K hK => ?_) AllReadyH.nil
        case ho302 => (simp only [List.getElem?_toArray, List.getElem?_cons_succ, List.getElem?_cons_zero]; rfl)
        refine wp_store_mid 32 _ _ (by rfl) T 0 (fmCells fm0).toArray (by rfl) (by rfl) (by exact RT.out) (by kernel_rfl) (by kernel_rfl) ?_
        generalize w3.drew.setCells T 0 (fmCells fm0).toArray.toList = w4 at *
        have e4 : w4.cell? ⟨E, 0, none⟩ = some (.int .i64 he) := E4.out.cell 0
        have f4 : w4.frozen? ⟨E, 0, none⟩ = false := E4.out.free 0
        have O5 := Lib.hid (show IsObj (w4.setCell ⟨E, 0, none⟩ (.int .i64 he)) T 32 (fmCells fm0) from IsObj.setOther O4.out ⟨E, 0, none⟩ _ (by have := HTE.out; simp; omega))
        have E5 := Lib.hid (show IsObj (w4.setCell ⟨E, 0, none⟩ (.int .i64 he)) E 33 [.int .i64 he] from IsObj.set E4.out 0 (.int .i64 he))
        have B5 := Lib.hid (show Below w.heap.size w (w4.setCell ⟨E, 0, none⟩ (.int .i64 he)) from B4.out.setCell (p := ⟨E, 0, none⟩) (by have := HTE.out; simp; omega) _)
        refine hK.out _ _ ?_ (fun hHeld => ?_)
        · (try dsimp only); exact e4
        clear hK K
        try simp only [Act.put, List.setIfInBounds_toArray, List.set_cons_zero, List.set_cons_succ]
        refine wpAnyH_ready (rs := [3]) (by kernel_rfl) (by simp) ?_
        refine AllReadyH.cons (o := ?oi403) ?ho403 (fun K hK => ?_) AllReadyH.nil
        case ho403 => (simp only [List.getElem?_toArray, List.getElem?_cons_succ, List.getElem?_cons_zero]; rfl)
        go_simp
        refine hK.out _ _ ?_ (fun hHeld => ?_)
        · (try dsimp only); exact E5.out.cell 0
        clear hK K
        try simp only [Act.put, List.setIfInBounds_toArray, List.set_cons_zero, List.set_cons_succ]
        refine wpAnyH_done (by kernel_rfl) ?_ _
        go_wp2
        refine leaves_cons (f := 19) (args := #[.pointer (some ⟨T, 0, none⟩), .pointer (some ⟨E, 0, none⟩)]) (by simp) (by simp [go_sem]) ?_
        refine (fcatch_i T E _).mono ?_
        rintro e u' wF ⟨rfl, rfl, hwF⟩
        have OF := Lib.hid (show IsObj wF T 32 (fmCells fm0) by rw [hwF]; exact O5.out)
        have EF := Lib.hid (show IsObj wF E 33 [.int .i64 he] by rw [hwF]; exact E5.out)
        have BF := Lib.hid (show Below w.heap.size w wF by rw [hwF]; exact B5.out)
        clear hwF
        have RF := run_loadVar_mid (P := Tryz.prog) wF T 0 32 (fmCells fm0) _ (IsObj.range OF.out) Tryz.underlying32 rfl (by kernel_rfl)
        have RE : (loadVar 33 ⟨E, 0, none⟩).run Tryz.prog wF = .ok (.int .i64 he) wF := by
          have k := IsObj.cell EF.out 0
          have k : wF.cell? ⟨E, 0, none⟩ = some (.int .i64 he) := k
          go_simp
        refine ⟨_, results_cell_cell (by rfl) (by rfl) (by rfl) RF RE, ?_⟩
        rw [HD2.out]
        exact ⟨rfl, BF.out⟩
      · refine wp_store_mid 32 _ _ (by rfl) T 0 (fmCells fm0).toArray (by rfl) (by rfl) (by exact RT.out) (by kernel_rfl) (by kernel_rfl) ?_
        generalize w3.drew.setCells T 0 (fmCells fm0).toArray.toList = w4 at *
        have e4 : w4.cell? ⟨E, 0, none⟩ = some (.int .i64 he) := E4.out.cell 0
        have f4 : w4.frozen? ⟨E, 0, none⟩ = false := E4.out.free 0
        have O5 := Lib.hid (show IsObj (w4.setCell ⟨E, 0, none⟩ (.int .i64 he)) T 32 (fmCells fm0) from IsObj.setOther O4.out ⟨E, 0, none⟩ _ (by have := HTE.out; simp; omega))
        have E5 := Lib.hid (show IsObj (w4.setCell ⟨E, 0, none⟩ (.int .i64 he)) E 33 [.int .i64 he] from IsObj.set E4.out 0 (.int .i64 he))
        have B5 := Lib.hid (show Below w.heap.size w (w4.setCell ⟨E, 0, none⟩ (.int .i64 he)) from B4.out.setCell (p := ⟨E, 0, none⟩) (by have := HTE.out; simp; omega) _)
        refine hK.out _ _ ?_ (fun hHeld => ?_)
        · (try dsimp only); exact e4
        clear hK K
        try simp only [Act.put, List.setIfInBounds_toArray, List.set_cons_zero, List.set_cons_succ]
        refine wpAnyH_ready (rs := [1]) (by kernel_rfl) (by simp) ?_
        refine AllReadyH.cons (o := ?oi501) ?ho501 (fun K hK => ?_) AllReadyH.nil
        case ho501 => (simp only [List.getElem?_toArray, List.getElem?_cons_succ, List.getElem?_cons_zero]; rfl)
        go_simp
        refine hK.out _ _ ?_ (fun hHeld => ?_)
        · (try dsimp only); exact e4
        clear hK K
        try simp only [Act.put, List.setIfInBounds_toArray, List.set_cons_zero, List.set_cons_succ]
        refine wpAnyH_ready (rs := [3]) (by kernel_rfl) (by simp) ?_
        refine AllReadyH.cons (o := ?oi603) ?ho603 (fun K hK => ?_) AllReadyH.nil
        case ho603 => (simp only [List.getElem?_toArray, List.getElem?_cons_succ, List.getElem?_cons_zero]; rfl)
        go_simp
        refine hK.out _ _ ?_ (fun hHeld => ?_)
        · (try dsimp only); exact E5.out.cell 0
        clear hK K
        try simp only [Act.put, List.setIfInBounds_toArray, List.set_cons_zero, List.set_cons_succ]
        refine wpAnyH_done (by kernel_rfl) ?_ _
        go_wp2
        refine leaves_cons (f := 19) (args := #[.pointer (some ⟨T, 0, none⟩), .pointer (some ⟨E, 0, none⟩)]) (by simp) (by simp [go_sem]) ?_
        refine (fcatch_i T E _).mono ?_
        rintro e u' wF ⟨rfl, rfl, hwF⟩
        have OF := Lib.hid (show IsObj wF T 32 (fmCells fm0) by rw [hwF]; exact O5.out)
        have EF := Lib.hid (show IsObj wF E 33 [.int .i64 he] by rw [hwF]; exact E5.out)
        have BF := Lib.hid (show Below w.heap.size w wF by rw [hwF]; exact B5.out)
        clear hwF
        have RF := run_loadVar_mid (P := Tryz.prog) wF T 0 32 (fmCells fm0) _ (IsObj.range OF.out) Tryz.underlying32 rfl (by kernel_rfl)
        have RE : (loadVar 33 ⟨E, 0, none⟩).run Tryz.prog wF = .ok (.int .i64 he) wF := by
          have k := IsObj.cell EF.out 0
          have k : wF.cell? ⟨E, 0, none⟩ = some (.int .i64 he) := k
          go_simp
        refine ⟨_, results_cell_cell (by rfl) (by rfl) (by rfl) RF RE, ?_⟩
        rw [HD2.out]
        exact ⟨rfl, BF.out⟩
    · go_simp
      refine hK.out _ _ ?_ (fun hHeld => ?_)
      · (try dsimp only); exact e3
      clear hK K
      try simp only [Act.put, List.setIfInBounds_toArray, List.set_cons_zero, List.set_cons_succ]
      refine wpAnyH_ready (rs := [0]) (by kernel_rfl) (by simp) ?_
      refine AllReadyH.cons (o := ?oi700) ?ho700 (fun K hK => ?_) AllReadyH.nil
      case ho700 => (simp only [List.getElem?_toArray, List.getElem?_cons_succ, List.getElem?_cons_zero]; rfl)
      go_simp
      refine hK.out _ _ ?_ (fun hHeld => ?_)
      · (try dsimp only); exact e3
      clear hK K
      try simp only [Act.put, List.setIfInBounds_toArray, List.set_cons_zero, List.set_cons_succ]
      refine wpAnyH_ready (rs := [2]) (by kernel_rfl) (by simp) ?_
      refine AllReadyH.cons (o := ?oi802) ?ho802 (fun K hK => ?_) AllReadyH.nil
      case ho802 => (simp only [List.getElem?_toArray, List.getElem?_cons_succ, List.getElem?_cons_zero]; rfl)
      refine wp_store_mid 32 _ _ (by rfl) T 0 (fmCells fm0).toArray (by rfl) (by rfl) (by exact RT.out) (by kernel_rfl) (by kernel_rfl) ?_
      generalize w3.drew.setCells T 0 (fmCells fm0).toArray.toList = w4 at *
      have e4 : w4.cell? ⟨E, 0, none⟩ = some (.int .i64 he) := E4.out.cell 0
      have f4 : w4.frozen? ⟨E, 0, none⟩ = false := E4.out.free 0
      have O5 := Lib.hid (show IsObj (w4.setCell ⟨E, 0, none⟩ (.int .i64 he)) T 32 (fmCells fm0) from IsObj.setOther O4.out ⟨E, 0, none⟩ _ (by have := HTE.out; simp; omega))
      have E5 := Lib.hid (show IsObj (w4.setCell ⟨E, 0, none⟩ (.int .i64 he)) E 33 [.int .i64 he] from IsObj.set E4.out 0 (.int .i64 he))
      have B5 := Lib.hid (show Below w.heap.size w (w4.setCell ⟨E, 0, none⟩ (.int .i64 he)) from B4.out.setCell (p := ⟨E, 0, none⟩) (by have := HTE.out; simp; omega) _)
      refine hK.out _ _ ?_ (fun hHeld => ?_)
      · (try dsimp only); exact e4
      clear hK K
      try simp only [Act.put, List.setIfInBounds_toArray, List.set_cons_zero, List.set_cons_succ]
      refine wpAnyH_ready (rs := [3]) (by kernel_rfl) (by simp) ?_
      refine AllReadyH.cons (o := ?oi903) ?ho903 (fun K hK => ?_) AllReadyH.nil
      case ho903 => (simp only [List.getElem?_toArray, List.getElem?_cons_succ, List.getElem?_cons_zero]; rfl)
      go_simp
      refine hK.out _ _ ?_ (fun hHeld => ?_)
      · (try dsimp only); exact E5.out.cell 0
      clear hK K
      try simp only [Act.put, List.setIfInBounds_toArray, List.set_cons_zero, List.set_cons_succ]
      refine wpAnyH_done (by kernel_rfl) ?_ _
      go_wp2
      refine leaves_cons (f := 19) (args := #[.pointer (some ⟨T, 0, none⟩), .pointer (some ⟨E, 0, none⟩)]) (by simp) (by simp [go_sem]) ?_
      refine (fcatch_i T E _).mono ?_
      rintro e u' wF ⟨rfl, rfl, hwF⟩
      have OF := Lib.hid (show IsObj wF T 32 (fmCells fm0) by rw [hwF]; exact O5.out)
      have EF := Lib.hid (show IsObj wF E 33 [.int .i64 he] by rw [hwF]; exact E5.out)
      have BF := Lib.hid (show Below w.heap.size w wF by rw [hwF]; exact B5.out)
      clear hwF
      have RF := run_loadVar_mid (P := Tryz.prog) wF T 0 32 (fmCells fm0) _ (IsObj.range OF.out) Tryz.underlying32 rfl (by kernel_rfl)
      have RE : (loadVar 33 ⟨E, 0, none⟩).run Tryz.prog wF = .ok (.int .i64 he) wF := by
        have k := IsObj.cell EF.out 0
        have k : wF.cell? ⟨E, 0, none⟩ = some (.int .i64 he) := k
        go_simp
      refine ⟨_, results_cell_cell (by rfl) (by rfl) (by rfl) RF RE, ?_⟩
      rw [HD2.out]
      exact ⟨rfl, BF.out⟩
end Go.Proofs.YtobcjbpgeohbgaaGreatDoor
