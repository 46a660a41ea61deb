/-
  What must come, whatever the arguments are, of the statements of layer 33.
-/
import Derived.Test.YtgkmmoiniidhlaaFan6
namespace Go.Proofs.Ytgkmmoiniidhlaa
open Go.RowKit
set_option linter.unusedVariables false
set_option linter.unusedSimpArgs false

theorem row_obj {α : Type} [Inhabited α] {cells : α → List Value} {k : Nat} {w : World} {b : Nat} {ty : TypeId} (hk : ∀ x, (cells x).length = k) (l : List α) (h : IsObj w b ty (l.flatMap cells)) : RowOf cells k w (some ⟨b, 0, none⟩) l := by
  refine .inr ⟨b, 0, rfl, fun i hi j hj => ?_⟩
  rw [Nat.zero_add, h.cell, flatK_at cells k hk l i hi j hj]
def awT : List Td := [⟨2, 3, 1, 5⟩]
def awX : Nw := ⟨1, 3, 6, 46⟩
def awP : List Cl := [⟨2, 0, 4, 9⟩]
def awQ : List Cl := [⟨1, 0, 4, 9⟩, ⟨3, 2, 4, 9⟩]
theorem awP_code : planCode (fun c => stepOf c awX 10 (tolds awT)) awP = 8 := by decide
theorem awP_steps : planSteps (fun c => stepOf c awX 10 (tolds awT)) awP = [] := by rw [planSteps, awP_code]; rfl
theorem awQ_code : planCode (fun c => stepOf c awX 10 (tolds awT)) awQ = 0 := by decide
def awS : List Stp := [⟨1, 0, 26, 9, true⟩, ⟨3, 11, 0, 0, false⟩]
theorem awQ_steps : planSteps (fun c => stepOf c awX 10 (tolds awT)) awQ = awS := by rw [planSteps, awQ_code]; rfl

set_option maxRecDepth 100000 in
set_option maxHeartbeats 2000000 in
theorem awake33 (w : World) : Calls Try.prog 12 #[] w fun e w' => e = .returned (.bool true) ∧ Below w.heap.size w w' := by
  go_enter Try.func12, Try.ntmps12
  go_wp2_with fail
  refine (of_any 10 _ 1 awT ⟨0, 0, 0, 0⟩ _ (by decide) (by decide) (by decide) (row_obj tdCells_len awT (IsObj.new _ _ _))).mono ?_
  rintro e w1 ⟨b, v, rfl, hT, hK, hb⟩
  obtain ⟨ka, kc, rfl, _⟩ := hK
  have HB := Lib.hid (Below.trans ((Below.refl w.heap.size w).alloc (Nat.le_refl _) _) (hb.mono (by simp)))
  have HT := Lib.hid hT
  clear hT hb
  go_wp2_with fail
  obtain ⟨W2, hW2⟩ : ∃ W2, W2 = ((w1.alloc (.cells #[.int .i64 0, .int .i64 0, .int .i64 0, .int .i64 0, .int .i64 10, .slice ka (knL (tolds awT)).length kc] 30)).alloc (.cells #[.int .i64 1, .int .i64 3, .int .i64 6, .int .i64 46] 24)).alloc (.cells #[.int .i64 2, .int .i64 0, .int .i64 4, .int .i64 9] 48) := ⟨_, rfl⟩
  have hb12 : Below w1.heap.size w1 W2 := by rw [hW2]; exact (((Below.refl _ _).alloc (Nat.le_refl _) _).alloc (by simp) _).alloc (by simp; omega) _
  have hX : IsObj W2 (w1.heap.size + 1) 24 [.int .i64 1, .int .i64 3, .int .i64 6, .int .i64 46] := by rw [hW2]; exact (IsObj.newAt _ _ _ (by simp)).alloc _
  have hR : IsObj W2 (w1.heap.size + 1 + 1) 48 [.int .i64 2, .int .i64 0, .int .i64 4, .int .i64 9] := by rw [hW2]; exact IsObj.newAt _ _ _ (by simp)
  have hT2 := HT.out.same hb12
  have HB2 := Lib.hid (HB.out.trans (hb12.mono HB.out.size))
  rw [← hW2]
  clear hW2 HB hb12 HT
  have hC := plan_any (some ⟨w1.heap.size + 1 + 1, 0, none⟩) 1 awP awX b 10 (tolds awT) W2 (by decide) (row_obj clCells_len awP hR) hT2
  rw [awP_code, awP_steps] at hC
  have HX := Lib.hid hX
  have HT := Lib.hid hT2
  clear hR hX hT2
  refine hC.mono ?_
  rintro e w3 ⟨v3, rfl, ⟨a3, c3, rfl, -, -, -⟩, hb3⟩
  clear hC
  have HT3 := Lib.hid (HT.out.same hb3)
  have hX3 := HX.out.below hb3 HX.out.lt
  have HB3 := Lib.hid (HB2.out.trans (hb3.mono HB2.out.size))
  have x0 := hX3.cell 0
  have x1 := hX3.cell 1
  have x2 := hX3.cell 2
  have x3 := hX3.cell 3
  simp only [List.getElem?_cons_succ, List.getElem?_cons_zero] at x0 x1 x2 x3
  have hlx := hX3.lt
  clear HX HT HB2 hb3 hX3
  generalize w1.heap.size + 1 = X at *
  go_wp2_with fail
  obtain ⟨W4, hW4⟩ : ∃ W4, W4 = (w3.alloc (.cells #[.int .i64 8, .slice a3 0 c3] 35)).alloc (.cells #[.int .i64 1, .int .i64 0, .int .i64 4, .int .i64 9, .int .i64 3, .int .i64 2, .int .i64 4, .int .i64 9] 48) := ⟨_, rfl⟩
  have hb34 : Below w3.heap.size w3 W4 := by rw [hW4]; exact ((Below.refl _ _).alloc (Nat.le_refl _) _).alloc (by simp) _
  have hP : IsObj W4 w3.heap.size 35 [.int .i64 8, .slice a3 0 c3] := by rw [hW4]; exact (IsObj.newAt _ _ _ rfl).alloc _
  have hR : IsObj W4 (w3.heap.size + 1) 48 [.int .i64 1, .int .i64 0, .int .i64 4, .int .i64 9, .int .i64 3, .int .i64 2, .int .i64 4, .int .i64 9] := by rw [hW4]; exact IsObj.newAt _ _ _ (by simp)
  have hT4 := HT3.out.same hb34
  have HB4 := Lib.hid (HB3.out.trans (hb34.mono HB3.out.size))
  rw [← hW4]
  clear hW4 hb34 HB3 HT3 x0 x1 x2 x3
  have hC := plan_any (some ⟨w3.heap.size + 1, 0, none⟩) 2 awQ awX b 10 (tolds awT) W4 (by decide) (row_obj clCells_len awQ hR) hT4
  rw [awQ_code, awQ_steps] at hC
  have HP := Lib.hid hP
  clear hR hP hT4
  refine hC.mono ?_
  rintro e w5 ⟨v5, rfl, ⟨a5, c5, rfl, l5, m5, hS5⟩, hb5⟩
  clear hC
  have HP5 := Lib.hid (HP.out.below hb5 HP.out.lt)
  have HB5 := Lib.hid (HB4.out.trans (hb5.mono HB4.out.size))
  have hp0 := HP5.out.cell 0
  have hp1 := HP5.out.cell 1
  simp only [List.getElem?_cons_succ, List.getElem?_cons_zero] at hp0 hp1
  have hlp := HP5.out.lt
  have HS5 := Lib.hid hS5
  clear HP HB4 hb5 hS5
  generalize w3.heap.size = Y at *
  go_wp2_with fail
  obtain ⟨W6, hW6⟩ : ∃ W6, W6 = w5.alloc (.cells #[.int .i64 0, .slice a5 awS.length c5] 35) := ⟨_, rfl⟩
  have hb56 : Below w5.heap.size w5 W6 := by rw [hW6]; exact (Below.refl _ _).alloc (Nat.le_refl _) _
  have hQ : IsObj W6 w5.heap.size 35 [.int .i64 0, .slice a5 awS.length c5] := by rw [hW6]; exact IsObj.newAt _ _ _ rfl
  have HB6 := Lib.hid (HB5.out.trans (hb56.mono HB5.out.size))
  have HS6 := Lib.hid (HS5.out.same stpCells_len hb56)
  rw [← hW6]
  clear hW6 hb56 HB5 HS5 hp0 hp1 hlp HP5
  have HQ := Lib.hid hQ
  clear hQ
  refine (rsame33_eq 8 a3 none c3 0 [] W6 (by decide) (.inl rfl) (.inl rfl)).mono ?_
  rintro e w7 ⟨rfl, hb7⟩
  have HQ7 := Lib.hid (HQ.out.below hb7 HQ.out.lt)
  have HB7 := Lib.hid (HB6.out.trans (hb7.mono HB6.out.size))
  have HS7 := Lib.hid (HS6.out.same stpCells_len hb7)
  have hp0 := HQ7.out.cell 0
  have hp1 := HQ7.out.cell 1
  simp only [List.getElem?_cons_succ, List.getElem?_cons_zero] at hp0 hp1
  clear HQ HB6 HS6 hb7
  generalize w5.heap.size = Z at *
  go_wp2_with fail
  obtain ⟨W8, hW8⟩ : ∃ W8, W8 = w7.alloc (.cells #[.int .i64 1, .int .i64 0, .int .i64 26, .int .i64 9, .bool true, .int .i64 3, .int .i64 11, .int .i64 0, .int .i64 0, .bool false] 42) := ⟨_, rfl⟩
  have hb78 : Below w7.heap.size w7 W8 := by rw [hW8]; exact (Below.refl _ _).alloc (Nat.le_refl _) _
  have hL : IsObj W8 w7.heap.size 42 [.int .i64 1, .int .i64 0, .int .i64 26, .int .i64 9, .bool true, .int .i64 3, .int .i64 11, .int .i64 0, .int .i64 0, .bool false] := by rw [hW8]; exact IsObj.newAt _ _ _ rfl
  have HB8 := Lib.hid (HB7.out.trans (hb78.mono HB7.out.size))
  have hS8 := HS7.out.same stpCells_len hb78
  rw [← hW8]
  clear hW8
  refine (rsame33_eq 0 a5 (some ⟨w7.heap.size, 0, none⟩) c5 2 awS W8 (by decide) hS8 (row_obj stpCells_len awS hL)).mono ?_
  rintro e w9 ⟨rfl, hb9⟩
  have HB9 := Lib.hid (HB8.out.trans (hb9.mono HB8.out.size))
  clear hS8 hL hb78 hb9 HB8 HB7 HS7 HQ7
  go_wp2_with fail
  go_ret
  exact ⟨rfl, HB9.out⟩
end Go.Proofs.Ytgkmmoiniidhlaa
