/-
  The statement PileNobody of layer 12 (pile). No condition.
-/
import Derived.Test.YtmanmebgmhpilaaSame12
import Derived.Test.YtmanmebgmhpilaaLaw12h
namespace Go.Proofs.Ytmanmebgmhpilaa
open Go.RowKit Go.Sort
set_option linter.unusedVariables false
set_option linter.unusedSimpArgs false

theorem ssort_one (x : It) : ssort [x] = [x] := by
  obtain ⟨h1, h2⟩ := ssort_ok [x]
  exact (sorted_one swo_gI [x] (ssort [x]) (List.pairwise_cons.2 ⟨fun _ h => (by cases h), List.Pairwise.nil⟩) h2 h1).symm

set_option maxRecDepth 100000 in
set_option maxHeartbeats 4000000 in
theorem nobody_walk (x : It) (w : World) (hx : IdOk x.id) : Calls Try.prog 6 #[itV x] w fun e w' => e = .returned (.bool true) ∧ Below w.heap.size w w' := by
  obtain ⟨B, hB⟩ : ∃ B, B = w.heap.size := ⟨_, rfl⟩
  have HB := Lib.hid hB
  have B0 := Lib.hid (show Below w.heap.size w (w.alloc (.cells #[.int .i64 x.id, .int .i64 x.lev, .int .i64 x.frm, .int .i64 x.dl, .int .i64 x.bud, .int .i64 x.since, .int .i64 x.seq] 31)) from (Below.refl _ w).alloc (Nat.le_refl _) _)
  have VX0 := Lib.hid (show IsObj (w.alloc (.cells #[.int .i64 x.id, .int .i64 x.lev, .int .i64 x.frm, .int .i64 x.dl, .int .i64 x.bud, .int .i64 x.since, .int .i64 x.seq] 31)) B 31 (itCells x) by rw [hB]; exact IsObj.new w _ (itCells x))
  clear hB
  go_enter Try.func6, Try.ntmps6
  go_upto_region 1 with (fail)
  rw [← HB.out]
  generalize w.alloc (.cells #[.int .i64 x.id, .int .i64 x.lev, .int .i64 x.frm, .int .i64 x.dl, .int .i64 x.bud, .int .i64 x.since, .int .i64 x.seq] 31) = w0 at *
  obtain ⟨Q, hQ⟩ : ∃ Q, Q = w0.heap.size := ⟨_, rfl⟩
  have HQ := Lib.hid hQ
  have B1 := Lib.hid (show Below w0.heap.size w0 (w0.alloc (.cells #[.map none, .int .i64 0, .slice none 0 0] 58)) from (Below.refl _ w0).alloc (Nat.le_refl _) _)
  have OD1 := Lib.hid (show OddAt (w0.alloc (.cells #[.map none, .int .i64 0, .slice none 0 0] 58)) Q by rw [hQ]; exact IsObj.new w0 _ [.map none, .int .i64 0, .slice none 0 0])
  have VX1 := Lib.hid (IsObj.below VX0.out B1.out VX0.out.lt)
  have C1 := Lib.hid (B0.out.trans (B1.out.mono B0.out.size))
  have hBQ : B ≠ Q := by rw [hQ]; have := VX0.out.lt; omega
  have HBQ := Lib.hid hBQ
  have HQW := Lib.hid (show w.heap.size ≤ Q by rw [hQ]; exact B0.out.size)
  clear hQ hBQ VX0 B0 B1
  go_upto_region 3 with (fail)
  rw [← HQ.out]
  generalize w0.alloc (.cells #[.map none, .int .i64 0, .slice none 0 0] 58) = w1 at *
  go_wp2_with fail
  refine (pclear_nil w1).mono ?_
  rintro e w2 ⟨rfl, rfl⟩
  go_wp2_with fail
  refine (oclear_any OD1.out).mono ?_
  rintro e w2 ⟨rfl, hod2, ho2⟩
  have OD2 := Lib.hid hod2
  have C2 := Lib.hid (C1.out.trans (ho2.below (by have h1 := HQ.out; have h2 := HB.out; have h3 := C1.out.size; exact HQW.out) C1.out.size))
  have VX2 := Lib.hid (show IsObj w2 B 31 (itCells x) from (ho2.block B VX1.out.lt (fun e => HBQ.out (by cases e; rfl))).trans VX1.out)
  clear hod2 ho2 OD1 VX1 C1
  go_wp2_with fail
  refine (ppop_nil w2).mono ?_
  rintro e w3 ⟨rfl, b3⟩
  have OD3 := Lib.hid (OddAt.same OD2.out b3)
  have C3 := Lib.hid (C2.out.trans (b3.mono C2.out.size))
  have VX3 := Lib.hid (IsObj.below VX2.out b3 VX2.out.lt)
  clear b3 OD2 C2 VX2
  have hNV := newvar w3 (itCells it0) [.int .i64 0, .int .i64 0, .int .i64 0, .int .i64 0, .int .i64 0, .int .i64 0, .int .i64 0] 31 rfl
  obtain ⟨P5, hP5⟩ : ∃ P5, P5 = w3.heap.size := ⟨_, rfl⟩
  have HP5 := Lib.hid hP5
  have TH := Lib.hid hNV.1
  have BN := Lib.hid hNV.2.2
  have VP5 := Lib.hid (show IsObj ((w3.alloc (.cells #[.int .i64 0, .int .i64 0, .int .i64 0, .int .i64 0, .int .i64 0, .int .i64 0, .int .i64 0] 31)).setCells w3.heap.size 0 (itCells it0).toArray.toList) P5 31 (itCells it0) by rw [hP5]; exact hNV.2.1)
  clear hNV hP5
  go_upto_region 6 with (refine wpList_store_mid (by rfl) 31 _ _ (by rfl) w3.heap.size 0 (itCells it0).toArray (by rfl) (by rfl) (by exact TH.out) (by kernel_rfl) (it_one _) ?_; generalize (w3.alloc (.cells #[.int .i64 0, .int .i64 0, .int .i64 0, .int .i64 0, .int .i64 0, .int .i64 0, .int .i64 0] 31)).setCells w3.heap.size 0 (itCells it0).toArray.toList = w4 at *)
  rw [← HP5.out]
  clear TH
  have OD4 := Lib.hid (OddAt.same OD3.out BN.out)
  have C4 := Lib.hid (C3.out.trans (BN.out.mono C3.out.size))
  have VX4 := Lib.hid (IsObj.below VX3.out BN.out VX3.out.lt)
  clear BN OD3 C3 VX3
  have x0 : w4.cell? ⟨B, 0, none⟩ = some (.int .i64 x.id) := VX4.out.cell 0
  go_wp2_with fail
  refine (otake_any x.id OD4.out hx).mono ?_
  rintro e w5 ⟨rfl, b5⟩
  have OD5 := Lib.hid (OddAt.same OD4.out b5)
  have C5 := Lib.hid (C4.out.trans (b5.mono C4.out.size))
  have VX5 := Lib.hid (IsObj.below VX4.out b5 VX4.out.lt)
  clear b5 OD4 C4 VX4 x0 VP5
  have hNV := newvar w5 (itCells it0) [.int .i64 0, .int .i64 0, .int .i64 0, .int .i64 0, .int .i64 0, .int .i64 0, .int .i64 0] 31 rfl
  obtain ⟨P7, hP7⟩ : ∃ P7, P7 = w5.heap.size := ⟨_, rfl⟩
  have HP7 := Lib.hid hP7
  have TH := Lib.hid hNV.1
  have BN := Lib.hid hNV.2.2
  have VP7 := Lib.hid (show IsObj ((w5.alloc (.cells #[.int .i64 0, .int .i64 0, .int .i64 0, .int .i64 0, .int .i64 0, .int .i64 0, .int .i64 0] 31)).setCells w5.heap.size 0 (itCells it0).toArray.toList) P7 31 (itCells it0) by rw [hP7]; exact hNV.2.1)
  clear hNV hP7
  go_upto_region 7 with (refine wpList_store_mid (by rfl) 31 _ _ (by rfl) w5.heap.size 0 (itCells it0).toArray (by rfl) (by rfl) (by exact TH.out) (by kernel_rfl) (it_one _) ?_; generalize (w5.alloc (.cells #[.int .i64 0, .int .i64 0, .int .i64 0, .int .i64 0, .int .i64 0, .int .i64 0, .int .i64 0] 31)).setCells w5.heap.size 0 (itCells it0).toArray.toList = w6 at *)
  rw [← HP7.out]
  clear TH
  have OD6 := Lib.hid (OddAt.same OD5.out BN.out)
  have C6 := Lib.hid (C5.out.trans (BN.out.mono C5.out.size))
  have VX6 := Lib.hid (IsObj.below VX5.out BN.out VX5.out.lt)
  clear BN OD5 C5 VX5
  clear VP7
  obtain ⟨p, hp⟩ : ∃ p, p = w6.heap.size + 1 := ⟨_, rfl⟩
  obtain ⟨M, hM⟩ : ∃ M, M = w6.heap.size := ⟨_, rfl⟩
  have KN := pnew_ok 2 w6 (by decide) (by decide)
  rw [← hp, ← hM] at KN
  have HPM := Lib.hid (And.intro hp hM)
  clear hp hM
  go_wp2_with fail
  refine KN.mono ?_
  rintro e w7 ⟨rfl, h7, b7⟩
  have b7 : Below w6.heap.size w6 w7 := by have h1 := b7; rw [HPM.out.2] at h1; exact h1
  have OD7 := Lib.hid (OddAt.same OD6.out b7)
  have C7 := Lib.hid (C6.out.trans (b7.mono C6.out.size))
  have VX7 := Lib.hid (IsObj.below VX6.out b7 VX6.out.lt)
  have hap7 : (B ≠ p ∧ B ≠ M) ∧ Q ≠ p ∧ Q ≠ M := by
    have h1 := HPM.out
    have h2 := VX6.out.lt
    have h3 := OD6.out.lt
    refine ⟨⟨?_, ?_⟩, ?_, ?_⟩ <;> omega
  have hge : w.heap.size ≤ M ∧ w.heap.size ≤ p := by
    have h1 := HPM.out
    have h2 := C6.out.size
    omega
  have HP7 := Lib.hid h7
  have AP := Lib.hid hap7
  have GE := Lib.hid hge
  clear b7 h7 hap7 hge OD6 C6 VX6 KN
  have x0 : w7.cell? ⟨B, 0, none⟩ = some (.int .i64 x.id) := VX7.out.cell 0
  have x1 : w7.cell? ⟨B, 1, none⟩ = some (.int .i64 x.lev) := VX7.out.cell 1
  have x2 : w7.cell? ⟨B, 2, none⟩ = some (.int .i64 x.frm) := VX7.out.cell 2
  have x3 : w7.cell? ⟨B, 3, none⟩ = some (.int .i64 x.dl) := VX7.out.cell 3
  have x4 : w7.cell? ⟨B, 4, none⟩ = some (.int .i64 x.bud) := VX7.out.cell 4
  have x5 : w7.cell? ⟨B, 5, none⟩ = some (.int .i64 x.since) := VX7.out.cell 5
  have x6 : w7.cell? ⟨B, 6, none⟩ = some (.int .i64 x.seq) := VX7.out.cell 6
  go_upto_region 8 with (fail)
  go_wp2_with fail
  refine (ppush_ok x HP7.out hx (by simp) (by decide) (by decide)).mono ?_
  rintro e w8 ⟨rfl, tv8, h8, f8⟩
  rw [show upT ([] ++ [x]) ([] : List It).length = [x] from upT_stop (fun h => absurd h.1 (by decide))] at h8
  have OD8 := Lib.hid (show OddAt w8 Q from f8.isObj OD7.out AP.out.2.1 AP.out.2.2 (by simp [Value.ownBlock]))
  have VX8 := Lib.hid (f8.isObj VX7.out AP.out.1.1 AP.out.1.2 (by simp [Value.ownBlock]))
  have C8 := Lib.hid (C7.out.trans (f8.toBelow GE.out.1 GE.out.2 C7.out.size))
  have HP8 := Lib.hid h8
  clear h8 f8 HP7 OD7 VX7 C7 x0 x1 x2 x3 x4 x5 x6
  go_wp2_with fail
  refine (pall_any HP8.out (by simp)).mono ?_
  rintro e w9 ⟨g, cap, rfl, hown, b9⟩
  have OD9 := Lib.hid (OddAt.same OD8.out b9)
  have C9 := Lib.hid (C8.out.trans (b9.mono C8.out.size))
  have VX9 := Lib.hid (IsObj.below VX8.out b9 VX8.out.lt)
  have HP9 := Lib.hid (HP8.out.same b9)
  have hgw := hown.lt g rfl
  have hs1 : ssort [x] = [x] := ssort_one x
  rw [hs1] at hown
  have hc0 : w9.cell? ⟨g, 0, none⟩ = some (.int .i64 x.id) := (own_rowOf0 (T := [x]) hown rfl) 0 (by simp) 0 (by decide)
  have hf0 := World.ownsRow.frozenAt hown 0
  have hyo : g ≠ p ∧ g ≠ M ∧ some g ≠ tv8.ownBlock ∧ g ≠ B ∧ g ≠ Q ∧ w.heap.size ≤ g := by
    obtain ⟨D, hr, _⟩ := HP8.out.raw
    have h1 := hr.o.lt
    have h2 := hr.m.lt
    have h3 := VX8.out.lt
    have h4 := OD8.out.lt
    have h5 := C8.out.size
    exact ⟨by omega, by omega, fun e => by have := (hr.t.lt g e.symm).2; omega, by omega, by omega, by omega⟩
  have ho10 : Only g w9 (w9.setCell ⟨g, 0, none⟩ (.int .i64 (wrap64 (x.id + 1)))) := (Only.refl g w9).setCell (.inl rfl) _
  have HP10 := Lib.hid (HP9.out.other ho10 hyo.1 hyo.2.1 hyo.2.2.1)
  have OD10 := Lib.hid (show OddAt (w9.setCell ⟨g, 0, none⟩ (.int .i64 (wrap64 (x.id + 1)))) Q from (ho10.block Q OD9.out.lt (fun e => hyo.2.2.2.2.1 (by cases e; rfl))).trans OD9.out)
  have VX10 := Lib.hid (show IsObj (w9.setCell ⟨g, 0, none⟩ (.int .i64 (wrap64 (x.id + 1)))) B 31 (itCells x) from (ho10.block B VX9.out.lt (fun e => hyo.2.2.2.1 (by cases e; rfl))).trans VX9.out)
  have C10 := Lib.hid (C9.out.trans (ho10.below hyo.2.2.2.2.2 C9.out.size))
  have x0 : w9.cell? ⟨B, 0, none⟩ = some (.int .i64 x.id) := VX9.out.cell 0
  clear b9 hown HP8 OD8 VX8 C8 HP9 OD9 C9 hgw hyo ho10 VX9
  go_upto_region 13 with (fail)
  generalize w9.setCell ⟨g, 0, none⟩ (.int .i64 (wrap64 (x.id + 1))) = w10 at *
  clear x0 hc0 hf0
  have x0 : w10.cell? ⟨B, 0, none⟩ = some (.int .i64 x.id) := VX10.out.cell 0
  have KG : Calls Try.prog 28 #[.pointer (some ⟨p, 0, none⟩), .int .i64 x.id] w10 fun e w' => e = .returned (.tuple #[.agg (itCells x).toArray, .bool true]) ∧ Below w10.heap.size w10 w' := pget_in 0 HP10.out (by simp)
  go_wp2_with fail
  refine KG.mono ?_
  rintro e w11 ⟨rfl, b11⟩
  have OD11 := Lib.hid (OddAt.same OD10.out b11)
  have C11 := Lib.hid (C10.out.trans (b11.mono C10.out.size))
  have VX11 := Lib.hid (IsObj.below VX10.out b11 VX10.out.lt)
  clear b11 OD10 C10 VX10 x0 KG HP10
  have hNV := newvar w11 (itCells x) [.int .i64 0, .int .i64 0, .int .i64 0, .int .i64 0, .int .i64 0, .int .i64 0, .int .i64 0] 31 rfl
  obtain ⟨P12, hP12⟩ : ∃ P12, P12 = w11.heap.size := ⟨_, rfl⟩
  have HP12 := Lib.hid hP12
  have TH := Lib.hid hNV.1
  have BN := Lib.hid hNV.2.2
  have VP12 := Lib.hid (show IsObj ((w11.alloc (.cells #[.int .i64 0, .int .i64 0, .int .i64 0, .int .i64 0, .int .i64 0, .int .i64 0, .int .i64 0] 31)).setCells w11.heap.size 0 (itCells x).toArray.toList) P12 31 (itCells x) by rw [hP12]; exact hNV.2.1)
  clear hNV hP12
  go_upto_region 14 with (refine wpList_store_mid (by rfl) 31 _ _ (by rfl) w11.heap.size 0 (itCells x).toArray (by rfl) (by rfl) (by exact TH.out) (by kernel_rfl) (it_one _) ?_; generalize (w11.alloc (.cells #[.int .i64 0, .int .i64 0, .int .i64 0, .int .i64 0, .int .i64 0, .int .i64 0, .int .i64 0] 31)).setCells w11.heap.size 0 (itCells x).toArray.toList = w12 at *)
  rw [← HP12.out]
  clear TH
  have VP12' := VP12
  have OD12 := Lib.hid (OddAt.same OD11.out BN.out)
  have C12 := Lib.hid (C11.out.trans (BN.out.mono C11.out.size))
  have VX12 := Lib.hid (IsObj.below VX11.out BN.out VX11.out.lt)
  clear BN OD11 C11 VX11
  have x0 : w12.cell? ⟨B, 0, none⟩ = some (.int .i64 x.id) := VX12.out.cell 0
  have x1 : w12.cell? ⟨B, 1, none⟩ = some (.int .i64 x.lev) := VX12.out.cell 1
  have x2 : w12.cell? ⟨B, 2, none⟩ = some (.int .i64 x.frm) := VX12.out.cell 2
  have x3 : w12.cell? ⟨B, 3, none⟩ = some (.int .i64 x.dl) := VX12.out.cell 3
  have x4 : w12.cell? ⟨B, 4, none⟩ = some (.int .i64 x.bud) := VX12.out.cell 4
  have x5 : w12.cell? ⟨B, 5, none⟩ = some (.int .i64 x.since) := VX12.out.cell 5
  have x6 : w12.cell? ⟨B, 6, none⟩ = some (.int .i64 x.seq) := VX12.out.cell 6
  go_wp2_with fail
  refine (ppush_nil x w12).mono ?_
  rintro e w13 ⟨rfl, b13⟩
  have OD13 := Lib.hid (OddAt.same OD12.out b13)
  have C13 := Lib.hid (C12.out.trans (b13.mono C12.out.size))
  have VX13 := Lib.hid (IsObj.below VX12.out b13 VX12.out.lt)
  have VP13 := Lib.hid (IsObj.below VP12.out b13 VP12.out.lt)
  clear b13 OD12 C12 VX12 VP12 VP12' x0 x1 x2 x3 x4 x5 x6
  have x0 : w13.cell? ⟨B, 0, none⟩ = some (.int .i64 x.id) := VX13.out.cell 0
  have x1 : w13.cell? ⟨B, 1, none⟩ = some (.int .i64 x.lev) := VX13.out.cell 1
  have x2 : w13.cell? ⟨B, 2, none⟩ = some (.int .i64 x.frm) := VX13.out.cell 2
  have x3 : w13.cell? ⟨B, 3, none⟩ = some (.int .i64 x.dl) := VX13.out.cell 3
  have x4 : w13.cell? ⟨B, 4, none⟩ = some (.int .i64 x.bud) := VX13.out.cell 4
  have x5 : w13.cell? ⟨B, 5, none⟩ = some (.int .i64 x.since) := VX13.out.cell 5
  have x6 : w13.cell? ⟨B, 6, none⟩ = some (.int .i64 x.seq) := VX13.out.cell 6
  go_wp2_with fail
  refine (opush_any x OD13.out hx).mono ?_
  rintro e w14 ⟨rfl, b14⟩
  have OD14 := Lib.hid (OddAt.same OD13.out b14)
  have C14 := Lib.hid (C13.out.trans (b14.mono C13.out.size))
  have VX14 := Lib.hid (IsObj.below VX13.out b14 VX13.out.lt)
  have VP14 := Lib.hid (IsObj.below VP13.out b14 VP13.out.lt)
  clear b14 OD13 C13 VX13 VP13 x0 x1 x2 x3 x4 x5 x6
  have x0 : w14.cell? ⟨B, 0, none⟩ = some (.int .i64 x.id) := VX14.out.cell 0
  have x1 : w14.cell? ⟨B, 1, none⟩ = some (.int .i64 x.lev) := VX14.out.cell 1
  have x2 : w14.cell? ⟨B, 2, none⟩ = some (.int .i64 x.frm) := VX14.out.cell 2
  have x3 : w14.cell? ⟨B, 3, none⟩ = some (.int .i64 x.dl) := VX14.out.cell 3
  have x4 : w14.cell? ⟨B, 4, none⟩ = some (.int .i64 x.bud) := VX14.out.cell 4
  have x5 : w14.cell? ⟨B, 5, none⟩ = some (.int .i64 x.since) := VX14.out.cell 5
  have x6 : w14.cell? ⟨B, 6, none⟩ = some (.int .i64 x.seq) := VX14.out.cell 6
  go_wp2_with fail
  refine (same_none (.pointer none) none 0 x.id w14 (.inl rfl) rfl (fun w' hb => ppeek_nil w') (fun w' hb => pget_nil x.id w') (fun w' hb => plen_nil w') (fun w' hb => (pall_nil w').mono fun e w2 ⟨he, hw⟩ => ⟨none, 0, he, .inl rfl, by rw [hw]; exact Below.refl _ _⟩)).mono ?_
  rintro e w15 ⟨rfl, b15⟩
  have OD15 := Lib.hid (OddAt.same OD14.out b15)
  have C15 := Lib.hid (C14.out.trans (b15.mono C14.out.size))
  have VX15 := Lib.hid (IsObj.below VX14.out b15 VX14.out.lt)
  have VP15 := Lib.hid (IsObj.below VP14.out b15 VP14.out.lt)
  clear b15 OD14 C14 VX14 VP14 x0 x1 x2 x3 x4 x5 x6
  have x0 : w15.cell? ⟨B, 0, none⟩ = some (.int .i64 x.id) := VX15.out.cell 0
  have x1 : w15.cell? ⟨B, 1, none⟩ = some (.int .i64 x.lev) := VX15.out.cell 1
  have x2 : w15.cell? ⟨B, 2, none⟩ = some (.int .i64 x.frm) := VX15.out.cell 2
  have x3 : w15.cell? ⟨B, 3, none⟩ = some (.int .i64 x.dl) := VX15.out.cell 3
  have x4 : w15.cell? ⟨B, 4, none⟩ = some (.int .i64 x.bud) := VX15.out.cell 4
  have x5 : w15.cell? ⟨B, 5, none⟩ = some (.int .i64 x.since) := VX15.out.cell 5
  have x6 : w15.cell? ⟨B, 6, none⟩ = some (.int .i64 x.seq) := VX15.out.cell 6
  go_wp2_with fail
  refine (same_none (.pointer (some ⟨Q, 0, none⟩)) none 0 x.id w15 (.inl rfl) rfl (fun w' hb => opeek_any (OddAt.same OD15.out hb)) (fun w' hb => oget_any x.id (OddAt.same OD15.out hb) hx) (fun w' hb => olen_any (OddAt.same OD15.out hb)) (fun w' hb => (oall_any (OddAt.same OD15.out hb)).mono fun e w2 ⟨he, hw⟩ => ⟨none, 0, he, .inl rfl, by rw [hw]; exact Below.refl _ _⟩)).mono ?_
  rintro e w16 ⟨rfl, b16⟩
  have OD16 := Lib.hid (OddAt.same OD15.out b16)
  have C16 := Lib.hid (C15.out.trans (b16.mono C15.out.size))
  have VX16 := Lib.hid (IsObj.below VX15.out b16 VX15.out.lt)
  have VP16 := Lib.hid (IsObj.below VP15.out b16 VP15.out.lt)
  clear b16 OD15 C15 VX15 VP15 x0 x1 x2 x3 x4 x5 x6
  have x0 : w16.cell? ⟨B, 0, none⟩ = some (.int .i64 x.id) := VX16.out.cell 0
  have x1 : w16.cell? ⟨B, 1, none⟩ = some (.int .i64 x.lev) := VX16.out.cell 1
  have x2 : w16.cell? ⟨B, 2, none⟩ = some (.int .i64 x.frm) := VX16.out.cell 2
  have x3 : w16.cell? ⟨B, 3, none⟩ = some (.int .i64 x.dl) := VX16.out.cell 3
  have x4 : w16.cell? ⟨B, 4, none⟩ = some (.int .i64 x.bud) := VX16.out.cell 4
  have x5 : w16.cell? ⟨B, 5, none⟩ = some (.int .i64 x.since) := VX16.out.cell 5
  have x6 : w16.cell? ⟨B, 6, none⟩ = some (.int .i64 x.seq) := VX16.out.cell 6
  have y0 : w16.cell? ⟨P12, 0, none⟩ = some (.int .i64 x.id) := VP16.out.cell 0
  have y1 : w16.cell? ⟨P12, 1, none⟩ = some (.int .i64 x.lev) := VP16.out.cell 1
  have y2 : w16.cell? ⟨P12, 2, none⟩ = some (.int .i64 x.frm) := VP16.out.cell 2
  have y3 : w16.cell? ⟨P12, 3, none⟩ = some (.int .i64 x.dl) := VP16.out.cell 3
  have y4 : w16.cell? ⟨P12, 4, none⟩ = some (.int .i64 x.bud) := VP16.out.cell 4
  have y5 : w16.cell? ⟨P12, 5, none⟩ = some (.int .i64 x.since) := VP16.out.cell 5
  have y6 : w16.cell? ⟨P12, 6, none⟩ = some (.int .i64 x.seq) := VP16.out.cell 6
  go_wp2_with fail
  refine (awake12 w16).mono ?_
  rintro e w17 ⟨rfl, b17⟩
  go_wp2_with fail
  go_ret
  exact ⟨rfl, C16.out.trans (b17.mono C16.out.size)⟩
theorem nobody_done : Walk 6 Try.f6 := by
  intro W args hs hc
  rw [Try.params6] at hs hc
  obtain ⟨l⟩ := args
  match l, hs with
  | [v0], _ =>
    obtain ⟨l0, rfl, f0⟩ := came_struct Try.underlying31 opens_item (hc 0 31 v0 rfl rfl)
    obtain ⟨x, rfl, hx⟩ := it_ok l0 f0
    exact nobody_walk x W hx
end Go.Proofs.Ytmanmebgmhpilaa
