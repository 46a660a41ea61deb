/-
  The statement's `same`: is all told alike by the controller and the document's?
-/
import Derived.Test.YtagfbnfbiadpfaaGreatRefC
namespace Go.Proofs.YtagfbnfbiadpfaaGreat
open Go.RowKit Go.Shelf
set_option linter.unusedVariables false
set_option linter.unusedSimpArgs false

theorem rcalmz (z : CSt) (sv wv : Value) (w : World) : Calls Tryz.prog 33 #[zV z sv wv] w fun e w' => e = .returned (.int .i64 (calmN z)) ∧ Below w.heap.size w w' :=
  rcalm20_any z.lv z.k.k0 z.k.k1 z.k.k2 z.k.k3 z.k.k4 z.k.k5 z.k.k6 sv wv z.way z.held z.tr z.ti z.dh z.th z.ep w
section
variable {C T D S L : Nat} {w : World} {z : CSt}
theorem passes_in {n : Int} (hn : 0 ≤ n) (h : CtlAt w C T D S L z) : Calls Tryz.prog 19 #[.pointer (some ⟨C, 0, none⟩), .int .i64 n] w fun e w' => e = .returned (.bool (decide (n < z.th))) ∧ w = w' := by
  have K := c_passes n h
  rw [decide_eq_true hn, Bool.true_and] at K
  exact K
theorem passes_out {n : Int} (hn : n < 0) (h : CtlAt w C T D S L z) : Calls Tryz.prog 19 #[.pointer (some ⟨C, 0, none⟩), .int .i64 n] w fun e w' => e = .returned (.bool false) ∧ w = w' := by
  have K := c_passes n h
  rw [decide_eq_false (by omega), Bool.false_and] at K
  exact K
def SSm (B : Nat) (w0 : World) (z : CSt) (sv wv : Value) (W : World) : Prop := W.rangeAt B 0 (zC z sv wv) ∧ W.cell? ⟨B, 15, none⟩ = some (.int .i64 z.th) ∧ W.cell? ⟨B, 13, none⟩ = some (.int .i64 z.ti) ∧ W.cell? ⟨B, 16, none⟩ = some (.int .i64 z.ep) ∧ W.cell? ⟨B, 10, none⟩ = some (.int .i64 z.way) ∧ W.cell? ⟨B, 1, none⟩ = some (.int .i64 z.k.k0) ∧ W.cell? ⟨B, 2, none⟩ = some (.int .i64 z.k.k1) ∧ W.cell? ⟨B, 3, none⟩ = some (.int .i64 z.k.k2) ∧ W.cell? ⟨B, 4, none⟩ = some (.int .i64 z.k.k3) ∧ W.cell? ⟨B, 5, none⟩ = some (.int .i64 z.k.k4) ∧ W.cell? ⟨B, 6, none⟩ = some (.int .i64 z.k.k5) ∧ W.cell? ⟨B, 7, none⟩ = some (.int .i64 z.k.k6) ∧ Below w0.heap.size w0 W
theorem SSm.keep {B : Nat} {w0 : World} {z : CSt} {sv wv : Value} {W W' : World} (hb : Below W.heap.size W W') (h : SSm B w0 z sv wv W) : SSm B w0 z sv wv W' := ⟨fun j v hv => cell_keep hb (h.1 j v hv), cell_keep hb h.2.1, cell_keep hb h.2.2.1, cell_keep hb h.2.2.2.1, cell_keep hb h.2.2.2.2.1, cell_keep hb h.2.2.2.2.2.1, cell_keep hb h.2.2.2.2.2.2.1, cell_keep hb h.2.2.2.2.2.2.2.1, cell_keep hb h.2.2.2.2.2.2.2.2.1, cell_keep hb h.2.2.2.2.2.2.2.2.2.1, cell_keep hb h.2.2.2.2.2.2.2.2.2.2.1, cell_keep hb h.2.2.2.2.2.2.2.2.2.2.2.1, h.2.2.2.2.2.2.2.2.2.2.2.2.trans (hb.mono h.2.2.2.2.2.2.2.2.2.2.2.2.size)⟩
theorem SSm.b {B : Nat} {w0 : World} {z : CSt} {sv wv : Value} {W : World} (h : SSm B w0 z sv wv W) : Below w0.heap.size w0 W := h.2.2.2.2.2.2.2.2.2.2.2.2
set_option maxRecDepth 100000 in
set_option maxHeartbeats 8000000 in
theorem same20_in (n : Int) (sv wv : Value) (hn : 0 ≤ n) (h : CtlAt w C T D S L z) : Calls Tryz.prog 7 #[.pointer (some ⟨C, 0, none⟩), zV z sv wv, .int .i64 n] w fun e w' => e = .returned (.bool true) ∧ Below w.heap.size w w' := by
  obtain ⟨B, hB⟩ : ∃ B, B = w.heap.size := ⟨_, rfl⟩
  have hn0 : decide (0 ≤ n) = true := by simpa using hn
  have hn1 : (0 ≤ n) = True := by simpa using hn
  have B0 := Lib.hid (show Below w.heap.size w (w.alloc (.cells (zC z sv wv).toArray 38)) from (Below.refl _ w).alloc (Nat.le_refl _) _)
  have O0 := Lib.hid (show IsObj (w.alloc (.cells (zC z sv wv).toArray 38)) B 38 (zC z sv wv) by rw [hB]; exact IsObj.new w _ (zC z sv wv))
  have H0 := Lib.hid (h.same B0.out)
  have HB := Lib.hid hB
  clear hB h
  go_enter Tryz.func7, Tryz.ntmps7
  simp only [List.append_eq, List.cons_append, List.nil_append]
  go_upto_region 1 with (fail)
  rw [← HB.out]
  generalize (w.alloc (.cells (zC z sv wv).toArray 38)) = w0 at *
  have hSS := fun W (h : SSm B w0 z sv wv W) => h.b
  have K0 : SSm B w0 z sv wv w0.drew := ⟨IsObj.range O0.out.drew, O0.out.drew.cell 15, O0.out.drew.cell 13, O0.out.drew.cell 16, O0.out.drew.cell 10, O0.out.drew.cell 1, O0.out.drew.cell 2, O0.out.drew.cell 3, O0.out.drew.cell 4, O0.out.drew.cell 5, O0.out.drew.cell 6, O0.out.drew.cell 7, (Below.refl _ _).drew⟩
  clear O0
  refine wp_region_held_drew (S := SSm B w0 z sv wv) (by kernel_rfl) ?_ (fun hHeld => ?_)
  · exact K0
  refine wpAnyH_take (i := 0) (oi := ?oi1) (v := ?v1) ?hi1 (by kernel_rfl) (by kernel_rfl) (by kernel_rfl) ?hQ1 ?hy1 (by assumption) ?_
  case hi1 => (simp only [List.getElem?_toArray, List.getElem?_cons_succ, List.getElem?_cons_zero]; rfl)
  case hQ1 => exact fun _ _ _ h => h
  case hy1 => (refine Or.inl ⟨by rfl, ?_⟩; intro w hSw; (obtain ⟨hSw0, hSw1, hSw2, hSw3, hSw4, hSw5, hSw6, hSw7, hSw8, hSw9, hSw10, hSw11, hSw12⟩ := hSw); go_simp; try with_reducible rfl)
  try simp only [Act.put, List.setIfInBounds_toArray, List.set_cons_zero, List.set_cons_succ]
  refine wpAnyH_take (i := 2) (oi := ?oi2) (v := ?v2) ?hi2 (by kernel_rfl) (by kernel_rfl) (by kernel_rfl) ?hQ2 ?hy2 (by assumption) ?_
  case hi2 => (simp only [List.getElem?_toArray, List.getElem?_cons_succ, List.getElem?_cons_zero]; rfl)
  case hQ2 => exact fun _ _ _ h => h
  case hy2 => (refine Or.inl ⟨by rfl, ?_⟩; intro w hSw; (obtain ⟨hSw0, hSw1, hSw2, hSw3, hSw4, hSw5, hSw6, hSw7, hSw8, hSw9, hSw10, hSw11, hSw12⟩ := hSw); go_simp; try with_reducible rfl)
  try simp only [Act.put, List.setIfInBounds_toArray, List.set_cons_zero, List.set_cons_succ]
  refine wpAnyH_take (i := 3) (oi := ?oi3) (v := ?v3) ?hi3 (by kernel_rfl) (by kernel_rfl) (by kernel_rfl) ?hQ3 ?hy3 (by assumption) ?_
  case hi3 => (simp only [List.getElem?_toArray, List.getElem?_cons_succ, List.getElem?_cons_zero]; rfl)
  case hQ3 => exact fun _ _ _ h => h
  case hy3 => (refine Or.inl ⟨by rfl, ?_⟩; intro w hSw; (obtain ⟨hSw0, hSw1, hSw2, hSw3, hSw4, hSw5, hSw6, hSw7, hSw8, hSw9, hSw10, hSw11, hSw12⟩ := hSw); go_simp; try with_reducible rfl)
  try simp only [Act.put, List.setIfInBounds_toArray, List.set_cons_zero, List.set_cons_succ]
  refine wpAnyH_ready (rs := [1]) (by kernel_rfl) (by simp) ?_
  refine AllReadyH.cons (o := ?oi401) ?ho401 (fun K hK => ?_) AllReadyH.nil
  case ho401 => (simp only [List.getElem?_toArray, List.getElem?_cons_succ, List.getElem?_cons_zero]; rfl)
  go_simp
  go_at_call 27; (with_reducible refine (c_threshold (H0.out.same (hSS _ (by assumption)))).mono ?_); rintro e w' ⟨rfl, rfl⟩
  refine hK.out _ _ ?_ (fun hHeld => ?_)
  · (try dsimp only); assumption
  clear hK K
  try simp only [Act.put, List.setIfInBounds_toArray, List.set_cons_zero, List.set_cons_succ]
  refine wpAnyH_take (i := 4) (oi := ?oi5) (v := ?v5) ?hi5 (by kernel_rfl) (by kernel_rfl) (by kernel_rfl) ?hQ5 ?hy5 (by assumption) ?_
  case hi5 => (simp only [List.getElem?_toArray, List.getElem?_cons_succ, List.getElem?_cons_zero]; rfl)
  case hQ5 => exact fun _ _ _ h => h
  case hy5 => (refine Or.inl ⟨by rfl, ?_⟩; intro w hSw; (obtain ⟨hSw0, hSw1, hSw2, hSw3, hSw4, hSw5, hSw6, hSw7, hSw8, hSw9, hSw10, hSw11, hSw12⟩ := hSw); go_simp; try with_reducible rfl)
  try simp only [Act.put, List.setIfInBounds_toArray, List.set_cons_zero, List.set_cons_succ]
  refine wpAnyH_take (i := 5) (oi := ?oi6) (v := ?v6) ?hi6 (by kernel_rfl) (by kernel_rfl) (by kernel_rfl) ?hQ6 ?hy6 (by assumption) ?_
  case hi6 => (simp only [List.getElem?_toArray, List.getElem?_cons_succ, List.getElem?_cons_zero]; rfl)
  case hQ6 => exact fun _ _ _ h => h
  case hy6 => (refine Or.inl ⟨by rfl, ?_⟩; intro w hSw; (obtain ⟨hSw0, hSw1, hSw2, hSw3, hSw4, hSw5, hSw6, hSw7, hSw8, hSw9, hSw10, hSw11, hSw12⟩ := hSw); go_simp; try with_reducible rfl)
  try simp only [Act.put, List.setIfInBounds_toArray, List.set_cons_zero, List.set_cons_succ]
  refine wpAnyH_take (i := 6) (oi := ?oi7) (v := ?v7) ?hi7 (by kernel_rfl) (by kernel_rfl) (by kernel_rfl) ?hQ7 ?hy7 (by assumption) ?_
  case hi7 => (simp only [List.getElem?_toArray, List.getElem?_cons_succ, List.getElem?_cons_zero]; rfl)
  case hQ7 => exact fun _ _ _ h => h
  case hy7 => (refine Or.inl ⟨by rfl, ?_⟩; intro w hSw; (obtain ⟨hSw0, hSw1, hSw2, hSw3, hSw4, hSw5, hSw6, hSw7, hSw8, hSw9, hSw10, hSw11, hSw12⟩ := hSw); go_simp; try with_reducible rfl)
  try simp only [Act.put, List.setIfInBounds_toArray, List.set_cons_zero, List.set_cons_succ]
  refine wpAnyH_take (i := 8) (oi := ?oi8) (v := ?v8) ?hi8 (by kernel_rfl) (by kernel_rfl) (by kernel_rfl) ?hQ8 ?hy8 (by assumption) ?_
  case hi8 => (simp only [List.getElem?_toArray, List.getElem?_cons_succ, List.getElem?_cons_zero]; rfl)
  case hQ8 => exact fun _ _ _ h => h
  case hy8 => (refine Or.inl ⟨by rfl, ?_⟩; intro w hSw; (obtain ⟨hSw0, hSw1, hSw2, hSw3, hSw4, hSw5, hSw6, hSw7, hSw8, hSw9, hSw10, hSw11, hSw12⟩ := hSw); go_simp; try with_reducible rfl)
  try simp only [Act.put, List.setIfInBounds_toArray, List.set_cons_zero, List.set_cons_succ]
  refine wpAnyH_take (i := 9) (oi := ?oi9) (v := ?v9) ?hi9 (by kernel_rfl) (by kernel_rfl) (by kernel_rfl) ?hQ9 ?hy9 (by assumption) ?_
  case hi9 => (simp only [List.getElem?_toArray, List.getElem?_cons_succ, List.getElem?_cons_zero]; rfl)
  case hQ9 => exact fun _ _ _ h => h
  case hy9 => (refine Or.inl ⟨by rfl, ?_⟩; intro w hSw; (obtain ⟨hSw0, hSw1, hSw2, hSw3, hSw4, hSw5, hSw6, hSw7, hSw8, hSw9, hSw10, hSw11, hSw12⟩ := hSw); go_simp; try with_reducible rfl)
  try simp only [Act.put, List.setIfInBounds_toArray, List.set_cons_zero, List.set_cons_succ]
  refine wpAnyH_take (i := 10) (oi := ?oi10) (v := ?v10) ?hi10 (by kernel_rfl) (by kernel_rfl) (by kernel_rfl) ?hQ10 ?hy10 (by assumption) ?_
  case hi10 => (simp only [List.getElem?_toArray, List.getElem?_cons_succ, List.getElem?_cons_zero]; rfl)
  case hQ10 => exact fun _ _ _ h => h
  case hy10 => (refine Or.inl ⟨by rfl, ?_⟩; intro w hSw; (obtain ⟨hSw0, hSw1, hSw2, hSw3, hSw4, hSw5, hSw6, hSw7, hSw8, hSw9, hSw10, hSw11, hSw12⟩ := hSw); go_simp; try with_reducible rfl)
  try simp only [Act.put, List.setIfInBounds_toArray, List.set_cons_zero, List.set_cons_succ]
  refine wpAnyH_ready (rs := [7]) (by kernel_rfl) (by simp) ?_
  refine AllReadyH.cons (o := ?oi1107) ?ho1107 (fun K hK => ?_) AllReadyH.nil
  case ho1107 => (simp only [List.getElem?_toArray, List.getElem?_cons_succ, List.getElem?_cons_zero]; rfl)
  go_simp
  go_at_call 28; (with_reducible refine (c_tier (H0.out.same (hSS _ (by assumption)))).mono ?_); rintro e w' ⟨rfl, rfl⟩
  refine hK.out _ _ ?_ (fun hHeld => ?_)
  · (try dsimp only); assumption
  clear hK K
  try simp only [Act.put, List.setIfInBounds_toArray, List.set_cons_zero, List.set_cons_succ]
  refine wpAnyH_take (i := 11) (oi := ?oi12) (v := ?v12) ?hi12 (by kernel_rfl) (by kernel_rfl) (by kernel_rfl) ?hQ12 ?hy12 (by assumption) ?_
  case hi12 => (simp only [List.getElem?_toArray, List.getElem?_cons_succ, List.getElem?_cons_zero]; rfl)
  case hQ12 => exact fun _ _ _ h => h
  case hy12 => (refine Or.inl ⟨by rfl, ?_⟩; intro w hSw; (obtain ⟨hSw0, hSw1, hSw2, hSw3, hSw4, hSw5, hSw6, hSw7, hSw8, hSw9, hSw10, hSw11, hSw12⟩ := hSw); go_simp; try with_reducible rfl)
  try simp only [Act.put, List.setIfInBounds_toArray, List.set_cons_zero, List.set_cons_succ]
  refine wpAnyH_take (i := 12) (oi := ?oi13) (v := ?v13) ?hi13 (by kernel_rfl) (by kernel_rfl) (by kernel_rfl) ?hQ13 ?hy13 (by assumption) ?_
  case hi13 => (simp only [List.getElem?_toArray, List.getElem?_cons_succ, List.getElem?_cons_zero]; rfl)
  case hQ13 => exact fun _ _ _ h => h
  case hy13 => (refine Or.inl ⟨by rfl, ?_⟩; intro w hSw; (obtain ⟨hSw0, hSw1, hSw2, hSw3, hSw4, hSw5, hSw6, hSw7, hSw8, hSw9, hSw10, hSw11, hSw12⟩ := hSw); go_simp; try with_reducible rfl)
  try simp only [Act.put, List.setIfInBounds_toArray, List.set_cons_zero, List.set_cons_succ]
  refine wpAnyH_take (i := 13) (oi := ?oi14) (v := ?v14) ?hi14 (by kernel_rfl) (by kernel_rfl) (by kernel_rfl) ?hQ14 ?hy14 (by assumption) ?_
  case hi14 => (simp only [List.getElem?_toArray, List.getElem?_cons_succ, List.getElem?_cons_zero]; rfl)
  case hQ14 => exact fun _ _ _ h => h
  case hy14 => (refine Or.inl ⟨by rfl, ?_⟩; intro w hSw; (obtain ⟨hSw0, hSw1, hSw2, hSw3, hSw4, hSw5, hSw6, hSw7, hSw8, hSw9, hSw10, hSw11, hSw12⟩ := hSw); go_simp; try with_reducible rfl)
  try simp only [Act.put, List.setIfInBounds_toArray, List.set_cons_zero, List.set_cons_succ]
  refine wpAnyH_take (i := 14) (oi := ?oi15) (v := ?v15) ?hi15 (by kernel_rfl) (by kernel_rfl) (by kernel_rfl) ?hQ15 ?hy15 (by assumption) ?_
  case hi15 => (simp only [List.getElem?_toArray, List.getElem?_cons_succ, List.getElem?_cons_zero]; rfl)
  case hQ15 => exact fun _ _ _ h => h
  case hy15 => (refine Or.inl ⟨by rfl, ?_⟩; intro w hSw; (obtain ⟨hSw0, hSw1, hSw2, hSw3, hSw4, hSw5, hSw6, hSw7, hSw8, hSw9, hSw10, hSw11, hSw12⟩ := hSw); go_simp; try with_reducible rfl)
  try simp only [Act.put, List.setIfInBounds_toArray, List.set_cons_zero, List.set_cons_succ]
  refine wpAnyH_take (i := 16) (oi := ?oi16) (v := ?v16) ?hi16 (by kernel_rfl) (by kernel_rfl) (by kernel_rfl) ?hQ16 ?hy16 (by assumption) ?_
  case hi16 => (simp only [List.getElem?_toArray, List.getElem?_cons_succ, List.getElem?_cons_zero]; rfl)
  case hQ16 => exact fun _ _ _ h => h
  case hy16 => (refine Or.inl ⟨by rfl, ?_⟩; intro w hSw; (obtain ⟨hSw0, hSw1, hSw2, hSw3, hSw4, hSw5, hSw6, hSw7, hSw8, hSw9, hSw10, hSw11, hSw12⟩ := hSw); go_simp; try with_reducible rfl)
  try simp only [Act.put, List.setIfInBounds_toArray, List.set_cons_zero, List.set_cons_succ]
  refine wpAnyH_take (i := 17) (oi := ?oi17) (v := ?v17) ?hi17 (by kernel_rfl) (by kernel_rfl) (by kernel_rfl) ?hQ17 ?hy17 (by assumption) ?_
  case hi17 => (simp only [List.getElem?_toArray, List.getElem?_cons_succ, List.getElem?_cons_zero]; rfl)
  case hQ17 => exact fun _ _ _ h => h
  case hy17 => (refine Or.inl ⟨by rfl, ?_⟩; intro w hSw; (obtain ⟨hSw0, hSw1, hSw2, hSw3, hSw4, hSw5, hSw6, hSw7, hSw8, hSw9, hSw10, hSw11, hSw12⟩ := hSw); go_simp; try with_reducible rfl)
  try simp only [Act.put, List.setIfInBounds_toArray, List.set_cons_zero, List.set_cons_succ]
  refine wpAnyH_ready (rs := [15]) (by kernel_rfl) (by simp) ?_
  refine AllReadyH.cons (o := ?oi1815) ?ho1815 (fun K hK => ?_) AllReadyH.nil
  case ho1815 => (simp only [List.getElem?_toArray, List.getElem?_cons_succ, List.getElem?_cons_zero]; rfl)
  go_simp
  go_at_call 29; (with_reducible refine (c_epoch (H0.out.same (hSS _ (by assumption)))).mono ?_); rintro e w' ⟨rfl, rfl⟩
  refine hK.out _ _ ?_ (fun hHeld => ?_)
  · (try dsimp only); assumption
  clear hK K
  try simp only [Act.put, List.setIfInBounds_toArray, List.set_cons_zero, List.set_cons_succ]
  refine wpAnyH_take (i := 18) (oi := ?oi19) (v := ?v19) ?hi19 (by kernel_rfl) (by kernel_rfl) (by kernel_rfl) ?hQ19 ?hy19 (by assumption) ?_
  case hi19 => (simp only [List.getElem?_toArray, List.getElem?_cons_succ, List.getElem?_cons_zero]; rfl)
  case hQ19 => exact fun _ _ _ h => h
  case hy19 => (refine Or.inl ⟨by rfl, ?_⟩; intro w hSw; (obtain ⟨hSw0, hSw1, hSw2, hSw3, hSw4, hSw5, hSw6, hSw7, hSw8, hSw9, hSw10, hSw11, hSw12⟩ := hSw); go_simp; try with_reducible rfl)
  try simp only [Act.put, List.setIfInBounds_toArray, List.set_cons_zero, List.set_cons_succ]
  refine wpAnyH_take (i := 19) (oi := ?oi20) (v := ?v20) ?hi20 (by kernel_rfl) (by kernel_rfl) (by kernel_rfl) ?hQ20 ?hy20 (by assumption) ?_
  case hi20 => (simp only [List.getElem?_toArray, List.getElem?_cons_succ, List.getElem?_cons_zero]; rfl)
  case hQ20 => exact fun _ _ _ h => h
  case hy20 => (refine Or.inl ⟨by rfl, ?_⟩; intro w hSw; (obtain ⟨hSw0, hSw1, hSw2, hSw3, hSw4, hSw5, hSw6, hSw7, hSw8, hSw9, hSw10, hSw11, hSw12⟩ := hSw); go_simp; try with_reducible rfl)
  try simp only [Act.put, List.setIfInBounds_toArray, List.set_cons_zero, List.set_cons_succ]
  refine wpAnyH_take (i := 20) (oi := ?oi21) (v := ?v21) ?hi21 (by kernel_rfl) (by kernel_rfl) (by kernel_rfl) ?hQ21 ?hy21 (by assumption) ?_
  case hi21 => (simp only [List.getElem?_toArray, List.getElem?_cons_succ, List.getElem?_cons_zero]; rfl)
  case hQ21 => exact fun _ _ _ h => h
  case hy21 => (refine Or.inl ⟨by rfl, ?_⟩; intro w hSw; (obtain ⟨hSw0, hSw1, hSw2, hSw3, hSw4, hSw5, hSw6, hSw7, hSw8, hSw9, hSw10, hSw11, hSw12⟩ := hSw); go_simp; try with_reducible rfl)
  try simp only [Act.put, List.setIfInBounds_toArray, List.set_cons_zero, List.set_cons_succ]
  refine wpAnyH_take (i := 21) (oi := ?oi22) (v := ?v22) ?hi22 (by kernel_rfl) (by kernel_rfl) (by kernel_rfl) ?hQ22 ?hy22 (by assumption) ?_
  case hi22 => (simp only [List.getElem?_toArray, List.getElem?_cons_succ, List.getElem?_cons_zero]; rfl)
  case hQ22 => exact fun _ _ _ h => h
  case hy22 => (refine Or.inl ⟨by rfl, ?_⟩; intro w hSw; (obtain ⟨hSw0, hSw1, hSw2, hSw3, hSw4, hSw5, hSw6, hSw7, hSw8, hSw9, hSw10, hSw11, hSw12⟩ := hSw); go_simp; try with_reducible rfl)
  try simp only [Act.put, List.setIfInBounds_toArray, List.set_cons_zero, List.set_cons_succ]
  refine wpAnyH_take (i := 23) (oi := ?oi23) (v := ?v23) ?hi23 (by kernel_rfl) (by kernel_rfl) (by kernel_rfl) ?hQ23 ?hy23 (by assumption) ?_
  case hi23 => (simp only [List.getElem?_toArray, List.getElem?_cons_succ, List.getElem?_cons_zero]; rfl)
  case hQ23 => exact fun _ _ _ h => h
  case hy23 => (refine Or.inl ⟨by rfl, ?_⟩; intro w hSw; (obtain ⟨hSw0, hSw1, hSw2, hSw3, hSw4, hSw5, hSw6, hSw7, hSw8, hSw9, hSw10, hSw11, hSw12⟩ := hSw); go_simp; try with_reducible rfl)
  try simp only [Act.put, List.setIfInBounds_toArray, List.set_cons_zero, List.set_cons_succ]
  refine wpAnyH_take (i := 24) (oi := ?oi24) (v := ?v24) ?hi24 (by kernel_rfl) (by kernel_rfl) (by kernel_rfl) ?hQ24 ?hy24 (by assumption) ?_
  case hi24 => (simp only [List.getElem?_toArray, List.getElem?_cons_succ, List.getElem?_cons_zero]; rfl)
  case hQ24 => exact fun _ _ _ h => h
  case hy24 => (refine Or.inl ⟨by rfl, ?_⟩; intro w hSw; (obtain ⟨hSw0, hSw1, hSw2, hSw3, hSw4, hSw5, hSw6, hSw7, hSw8, hSw9, hSw10, hSw11, hSw12⟩ := hSw); go_simp; try with_reducible rfl)
  try simp only [Act.put, List.setIfInBounds_toArray, List.set_cons_zero, List.set_cons_succ]
  refine wpAnyH_take (i := 25) (oi := ?oi25) (v := ?v25) ?hi25 (by kernel_rfl) (by kernel_rfl) (by kernel_rfl) ?hQ25 ?hy25 (by assumption) ?_
  case hi25 => (simp only [List.getElem?_toArray, List.getElem?_cons_succ, List.getElem?_cons_zero]; rfl)
  case hQ25 => exact fun _ _ _ h => h
  case hy25 => (refine Or.inl ⟨by rfl, ?_⟩; intro w hSw; (obtain ⟨hSw0, hSw1, hSw2, hSw3, hSw4, hSw5, hSw6, hSw7, hSw8, hSw9, hSw10, hSw11, hSw12⟩ := hSw); go_simp; try with_reducible rfl)
  try simp only [Act.put, List.setIfInBounds_toArray, List.set_cons_zero, List.set_cons_succ]
  refine wpAnyH_ready (rs := [22]) (by kernel_rfl) (by simp) ?_
  refine AllReadyH.cons (o := ?oi2622) ?ho2622 (fun K hK => ?_) AllReadyH.nil
  case ho2622 => (simp only [List.getElem?_toArray, List.getElem?_cons_succ, List.getElem?_cons_zero]; rfl)
  go_simp
  go_at_call 30; (with_reducible refine (c_way (H0.out.same (hSS _ (by assumption)))).mono ?_); rintro e w' ⟨rfl, rfl⟩
  refine hK.out _ _ ?_ (fun hHeld => ?_)
  · (try dsimp only); assumption
  clear hK K
  try simp only [Act.put, List.setIfInBounds_toArray, List.set_cons_zero, List.set_cons_succ]
  refine wpAnyH_take (i := 26) (oi := ?oi27) (v := ?v27) ?hi27 (by kernel_rfl) (by kernel_rfl) (by kernel_rfl) ?hQ27 ?hy27 (by assumption) ?_
  case hi27 => (simp only [List.getElem?_toArray, List.getElem?_cons_succ, List.getElem?_cons_zero]; rfl)
  case hQ27 => exact fun _ _ _ h => h
  case hy27 => (refine Or.inl ⟨by rfl, ?_⟩; intro w hSw; (obtain ⟨hSw0, hSw1, hSw2, hSw3, hSw4, hSw5, hSw6, hSw7, hSw8, hSw9, hSw10, hSw11, hSw12⟩ := hSw); go_simp; try with_reducible rfl)
  try simp only [Act.put, List.setIfInBounds_toArray, List.set_cons_zero, List.set_cons_succ]
  refine wpAnyH_take (i := 27) (oi := ?oi28) (v := ?v28) ?hi28 (by kernel_rfl) (by kernel_rfl) (by kernel_rfl) ?hQ28 ?hy28 (by assumption) ?_
  case hi28 => (simp only [List.getElem?_toArray, List.getElem?_cons_succ, List.getElem?_cons_zero]; rfl)
  case hQ28 => exact fun _ _ _ h => h
  case hy28 => (refine Or.inl ⟨by rfl, ?_⟩; intro w hSw; (obtain ⟨hSw0, hSw1, hSw2, hSw3, hSw4, hSw5, hSw6, hSw7, hSw8, hSw9, hSw10, hSw11, hSw12⟩ := hSw); go_simp; try with_reducible rfl)
  try simp only [Act.put, List.setIfInBounds_toArray, List.set_cons_zero, List.set_cons_succ]
  refine wpAnyH_take (i := 28) (oi := ?oi29) (v := ?v29) ?hi29 (by kernel_rfl) (by kernel_rfl) (by kernel_rfl) ?hQ29 ?hy29 (by assumption) ?_
  case hi29 => (simp only [List.getElem?_toArray, List.getElem?_cons_succ, List.getElem?_cons_zero]; rfl)
  case hQ29 => exact fun _ _ _ h => h
  case hy29 => (refine Or.inl ⟨by rfl, ?_⟩; intro w hSw; (obtain ⟨hSw0, hSw1, hSw2, hSw3, hSw4, hSw5, hSw6, hSw7, hSw8, hSw9, hSw10, hSw11, hSw12⟩ := hSw); go_simp; try with_reducible rfl)
  try simp only [Act.put, List.setIfInBounds_toArray, List.set_cons_zero, List.set_cons_succ]
  refine wpAnyH_take (i := 29) (oi := ?oi30) (v := ?v30) ?hi30 (by kernel_rfl) (by kernel_rfl) (by kernel_rfl) ?hQ30 ?hy30 (by assumption) ?_
  case hi30 => (simp only [List.getElem?_toArray, List.getElem?_cons_succ, List.getElem?_cons_zero]; rfl)
  case hQ30 => exact fun _ _ _ h => h
  case hy30 => (refine Or.inl ⟨by rfl, ?_⟩; intro w hSw; (obtain ⟨hSw0, hSw1, hSw2, hSw3, hSw4, hSw5, hSw6, hSw7, hSw8, hSw9, hSw10, hSw11, hSw12⟩ := hSw); go_simp; try with_reducible rfl)
  try simp only [Act.put, List.setIfInBounds_toArray, List.set_cons_zero, List.set_cons_succ]
  refine wpAnyH_take (i := 31) (oi := ?oi31) (v := ?v31) ?hi31 (by kernel_rfl) (by kernel_rfl) (by kernel_rfl) ?hQ31 ?hy31 (by assumption) ?_
  case hi31 => (simp only [List.getElem?_toArray, List.getElem?_cons_succ, List.getElem?_cons_zero]; rfl)
  case hQ31 => exact fun _ _ _ h => h
  case hy31 => (refine Or.inl ⟨by rfl, ?_⟩; intro w hSw; (obtain ⟨hSw0, hSw1, hSw2, hSw3, hSw4, hSw5, hSw6, hSw7, hSw8, hSw9, hSw10, hSw11, hSw12⟩ := hSw); go_simp; try with_reducible rfl)
  try simp only [Act.put, List.setIfInBounds_toArray, List.set_cons_zero, List.set_cons_succ]
  refine wpAnyH_take (i := 32) (oi := ?oi32) (v := ?v32) ?hi32 (by kernel_rfl) (by kernel_rfl) (by kernel_rfl) ?hQ32 ?hy32 (by assumption) ?_
  case hi32 => (simp only [List.getElem?_toArray, List.getElem?_cons_succ, List.getElem?_cons_zero]; rfl)
  case hQ32 => exact fun _ _ _ h => h
  case hy32 => (refine Or.inl ⟨by rfl, ?_⟩; intro w hSw; (obtain ⟨hSw0, hSw1, hSw2, hSw3, hSw4, hSw5, hSw6, hSw7, hSw8, hSw9, hSw10, hSw11, hSw12⟩ := hSw); go_simp; try with_reducible rfl)
  try simp only [Act.put, List.setIfInBounds_toArray, List.set_cons_zero, List.set_cons_succ]
  refine wpAnyH_ready (rs := [30]) (by kernel_rfl) (by simp) ?_
  refine AllReadyH.cons (o := ?oi3330) ?ho3330 (fun K hK => ?_) AllReadyH.nil
  case ho3330 => (simp only [List.getElem?_toArray, List.getElem?_cons_succ, List.getElem?_cons_zero]; rfl)
  go_simp
  go_at_call 31; (with_reducible refine (c_knobs (H0.out.same (hSS _ (by assumption)))).mono ?_); rintro e wK ⟨rfl, hbK⟩; have hkK := SSm.keep hbK (by assumption)
  refine hK.out _ _ ?_ (fun hHeld => ?_)
  · (try dsimp only); assumption
  clear hK K
  try simp only [Act.put, List.setIfInBounds_toArray, List.set_cons_zero, List.set_cons_succ]
  refine wpAnyH_take (i := 33) (oi := ?oi34) (v := ?v34) ?hi34 (by kernel_rfl) (by kernel_rfl) (by kernel_rfl) ?hQ34 ?hy34 (by assumption) ?_
  case hi34 => (simp only [List.getElem?_toArray, List.getElem?_cons_succ, List.getElem?_cons_zero]; rfl)
  case hQ34 => exact fun _ _ _ h => h
  case hy34 => (refine Or.inl ⟨by rfl, ?_⟩; intro w hSw; (obtain ⟨hSw0, hSw1, hSw2, hSw3, hSw4, hSw5, hSw6, hSw7, hSw8, hSw9, hSw10, hSw11, hSw12⟩ := hSw); go_simp; try with_reducible rfl)
  try simp only [Act.put, List.setIfInBounds_toArray, List.set_cons_zero, List.set_cons_succ]
  refine wpAnyH_take (i := 34) (oi := ?oi35) (v := ?v35) ?hi35 (by kernel_rfl) (by kernel_rfl) (by kernel_rfl) ?hQ35 ?hy35 (by assumption) ?_
  case hi35 => (simp only [List.getElem?_toArray, List.getElem?_cons_succ, List.getElem?_cons_zero]; rfl)
  case hQ35 => exact fun _ _ _ h => h
  case hy35 => (refine Or.inl ⟨by rfl, ?_⟩; intro w hSw; (obtain ⟨hSw0, hSw1, hSw2, hSw3, hSw4, hSw5, hSw6, hSw7, hSw8, hSw9, hSw10, hSw11, hSw12⟩ := hSw); go_simp; try with_reducible rfl)
  try simp only [Act.put, List.setIfInBounds_toArray, List.set_cons_zero, List.set_cons_succ]
  refine wpAnyH_take (i := 35) (oi := ?oi36) (v := ?v36) ?hi36 (by kernel_rfl) (by kernel_rfl) (by kernel_rfl) ?hQ36 ?hy36 (by assumption) ?_
  case hi36 => (simp only [List.getElem?_toArray, List.getElem?_cons_succ, List.getElem?_cons_zero]; rfl)
  case hQ36 => exact fun _ _ _ h => h
  case hy36 => (refine Or.inl ⟨by rfl, ?_⟩; intro w hSw; (obtain ⟨hSw0, hSw1, hSw2, hSw3, hSw4, hSw5, hSw6, hSw7, hSw8, hSw9, hSw10, hSw11, hSw12⟩ := hSw); go_simp; try with_reducible rfl)
  try simp only [Act.put, List.setIfInBounds_toArray, List.set_cons_zero, List.set_cons_succ]
  refine wpAnyH_take (i := 36) (oi := ?oi37) (v := ?v37) ?hi37 (by kernel_rfl) (by kernel_rfl) (by kernel_rfl) ?hQ37 ?hy37 (by assumption) ?_
  case hi37 => (simp only [List.getElem?_toArray, List.getElem?_cons_succ, List.getElem?_cons_zero]; rfl)
  case hQ37 => exact fun _ _ _ h => h
  case hy37 => (refine Or.inl ⟨by rfl, ?_⟩; intro w hSw; (obtain ⟨hSw0, hSw1, hSw2, hSw3, hSw4, hSw5, hSw6, hSw7, hSw8, hSw9, hSw10, hSw11, hSw12⟩ := hSw); go_simp; try with_reducible rfl)
  try simp only [Act.put, List.setIfInBounds_toArray, List.set_cons_zero, List.set_cons_succ]
  refine wpAnyH_take (i := 38) (oi := ?oi38) (v := zV z sv wv) ?hi38 (by kernel_rfl) (by kernel_rfl) (by kernel_rfl) ?hQ38 ?hy38 (by assumption) ?_
  case hi38 => (simp only [List.getElem?_toArray, List.getElem?_cons_succ, List.getElem?_cons_zero]; rfl)
  case hQ38 => exact fun _ _ _ h => h
  case hy38 => exact yieldsIf_load_mid (by rfl) 38 _ (by rfl) B 0 (by rfl) (zC z sv wv) _ (fun w hw => hw.1) Tryz.underlying38 rfl zinfo
  try simp only [Act.put, List.setIfInBounds_toArray, List.set_cons_zero, List.set_cons_succ]
  refine wpAnyH_ready (rs := [37]) (by kernel_rfl) (by simp) ?_
  refine AllReadyH.cons (o := ?oi3937) ?ho3937 (fun K hK => ?_) AllReadyH.nil
  case ho3937 => (simp only [List.getElem?_toArray, List.getElem?_cons_succ, List.getElem?_cons_zero]; rfl)
  go_simp
  go_at_call 32; (with_reducible refine (c_calm (H0.out.same (hSS _ (by assumption)))).mono ?_); rintro e wK ⟨rfl, hbK⟩; have hkK := SSm.keep hbK (by assumption)
  refine hK.out _ _ ?_ (fun hHeld => ?_)
  · (try dsimp only); assumption
  clear hK K
  try simp only [Act.put, List.setIfInBounds_toArray, List.set_cons_zero, List.set_cons_succ]
  refine wpAnyH_ready (rs := [39]) (by kernel_rfl) (by simp) ?_
  refine AllReadyH.cons (o := ?oi4039) ?ho4039 (fun K hK => ?_) AllReadyH.nil
  case ho4039 => (simp only [List.getElem?_toArray, List.getElem?_cons_succ, List.getElem?_cons_zero]; rfl)
  go_simp
  go_at_call 33; (with_reducible refine (rcalmz z sv wv _).mono ?_); rintro e wK ⟨rfl, hbK⟩; have hkK := SSm.keep hbK (by assumption)
  refine hK.out _ _ ?_ (fun hHeld => ?_)
  · (try dsimp only); assumption
  clear hK K
  try simp only [Act.put, List.setIfInBounds_toArray, List.set_cons_zero, List.set_cons_succ]
  refine wpAnyH_take (i := 40) (oi := ?oi41) (v := ?v41) ?hi41 (by kernel_rfl) (by kernel_rfl) (by kernel_rfl) ?hQ41 ?hy41 (by assumption) ?_
  case hi41 => (simp only [List.getElem?_toArray, List.getElem?_cons_succ, List.getElem?_cons_zero]; rfl)
  case hQ41 => exact fun _ _ _ h => h
  case hy41 => (refine Or.inl ⟨by rfl, ?_⟩; intro w hSw; (obtain ⟨hSw0, hSw1, hSw2, hSw3, hSw4, hSw5, hSw6, hSw7, hSw8, hSw9, hSw10, hSw11, hSw12⟩ := hSw); go_simp; try with_reducible rfl)
  try simp only [Act.put, List.setIfInBounds_toArray, List.set_cons_zero, List.set_cons_succ]
  refine wpAnyH_take (i := 41) (oi := ?oi42) (v := ?v42) ?hi42 (by kernel_rfl) (by kernel_rfl) (by kernel_rfl) ?hQ42 ?hy42 (by assumption) ?_
  case hi42 => (simp only [List.getElem?_toArray, List.getElem?_cons_succ, List.getElem?_cons_zero]; rfl)
  case hQ42 => exact fun _ _ _ h => h
  case hy42 => (refine Or.inl ⟨by rfl, ?_⟩; intro w hSw; (obtain ⟨hSw0, hSw1, hSw2, hSw3, hSw4, hSw5, hSw6, hSw7, hSw8, hSw9, hSw10, hSw11, hSw12⟩ := hSw); go_simp; try with_reducible rfl)
  try simp only [Act.put, List.setIfInBounds_toArray, List.set_cons_zero, List.set_cons_succ]
  refine wpAnyH_take (i := 42) (oi := ?oi43) (v := ?v43) ?hi43 (by kernel_rfl) (by kernel_rfl) (by kernel_rfl) ?hQ43 ?hy43 (by assumption) ?_
  case hi43 => (simp only [List.getElem?_toArray, List.getElem?_cons_succ, List.getElem?_cons_zero]; rfl)
  case hQ43 => exact fun _ _ _ h => h
  case hy43 => (refine Or.inl ⟨by rfl, ?_⟩; intro w hSw; (obtain ⟨hSw0, hSw1, hSw2, hSw3, hSw4, hSw5, hSw6, hSw7, hSw8, hSw9, hSw10, hSw11, hSw12⟩ := hSw); go_simp; try with_reducible rfl)
  try simp only [Act.put, List.setIfInBounds_toArray, List.set_cons_zero, List.set_cons_succ]
  refine wpAnyH_take (i := 43) (oi := ?oi44) (v := ?v44) ?hi44 (by kernel_rfl) (by kernel_rfl) (by kernel_rfl) ?hQ44 ?hy44 (by assumption) ?_
  case hi44 => (simp only [List.getElem?_toArray, List.getElem?_cons_succ, List.getElem?_cons_zero]; rfl)
  case hQ44 => exact fun _ _ _ h => h
  case hy44 => (refine Or.inl ⟨by rfl, ?_⟩; intro w hSw; (obtain ⟨hSw0, hSw1, hSw2, hSw3, hSw4, hSw5, hSw6, hSw7, hSw8, hSw9, hSw10, hSw11, hSw12⟩ := hSw); go_simp; try with_reducible rfl)
  try simp only [Act.put, List.setIfInBounds_toArray, List.set_cons_zero, List.set_cons_succ]
  refine wpAnyH_take (i := 44) (oi := ?oi45) (v := ?v45) ?hi45 (by kernel_rfl) (by kernel_rfl) (by kernel_rfl) ?hQ45 ?hy45 (by assumption) ?_
  case hi45 => (simp only [List.getElem?_toArray, List.getElem?_cons_succ, List.getElem?_cons_zero]; rfl)
  case hQ45 => exact fun _ _ _ h => h
  case hy45 => (refine Or.inl ⟨by rfl, ?_⟩; intro w hSw; (obtain ⟨hSw0, hSw1, hSw2, hSw3, hSw4, hSw5, hSw6, hSw7, hSw8, hSw9, hSw10, hSw11, hSw12⟩ := hSw); go_simp; try with_reducible rfl)
  try simp only [Act.put, List.setIfInBounds_toArray, List.set_cons_zero, List.set_cons_succ]
  refine wpAnyH_take (i := 46) (oi := ?oi46) (v := ?v46) ?hi46 (by kernel_rfl) (by kernel_rfl) (by kernel_rfl) ?hQ46 ?hy46 (by assumption) ?_
  case hi46 => (simp only [List.getElem?_toArray, List.getElem?_cons_succ, List.getElem?_cons_zero]; rfl)
  case hQ46 => exact fun _ _ _ h => h
  case hy46 => (refine Or.inl ⟨by rfl, ?_⟩; intro w hSw; (obtain ⟨hSw0, hSw1, hSw2, hSw3, hSw4, hSw5, hSw6, hSw7, hSw8, hSw9, hSw10, hSw11, hSw12⟩ := hSw); go_simp; try with_reducible rfl)
  try simp only [Act.put, List.setIfInBounds_toArray, List.set_cons_zero, List.set_cons_succ]
  refine wpAnyH_take (i := 47) (oi := ?oi47) (v := ?v47) ?hi47 (by kernel_rfl) (by kernel_rfl) (by kernel_rfl) ?hQ47 ?hy47 (by assumption) ?_
  case hi47 => (simp only [List.getElem?_toArray, List.getElem?_cons_succ, List.getElem?_cons_zero]; rfl)
  case hQ47 => exact fun _ _ _ h => h
  case hy47 => (refine Or.inl ⟨by rfl, ?_⟩; intro w hSw; (obtain ⟨hSw0, hSw1, hSw2, hSw3, hSw4, hSw5, hSw6, hSw7, hSw8, hSw9, hSw10, hSw11, hSw12⟩ := hSw); go_simp; try with_reducible rfl)
  try simp only [Act.put, List.setIfInBounds_toArray, List.set_cons_zero, List.set_cons_succ]
  refine wpAnyH_ready (rs := [45]) (by kernel_rfl) (by simp) ?_
  refine AllReadyH.cons (o := ?oi4845) ?ho4845 (fun K hK => ?_) AllReadyH.nil
  case ho4845 => (simp only [List.getElem?_toArray, List.getElem?_cons_succ, List.getElem?_cons_zero]; rfl)
  go_simp
  go_at_call 19; (with_reducible refine (passes_in hn (H0.out.same (hSS _ (by assumption)))).mono ?_); rintro e w' ⟨rfl, rfl⟩
  refine hK.out _ _ ?_ (fun hHeld => ?_)
  · (try dsimp only); assumption
  clear hK K
  try simp only [Act.put, List.setIfInBounds_toArray, List.set_cons_zero, List.set_cons_succ]
  refine wpAnyH_take (i := 48) (oi := ?oi49) (v := ?v49) ?hi49 (by kernel_rfl) (by kernel_rfl) (by kernel_rfl) ?hQ49 ?hy49 (by assumption) ?_
  case hi49 => (simp only [List.getElem?_toArray, List.getElem?_cons_succ, List.getElem?_cons_zero]; rfl)
  case hQ49 => exact fun _ _ _ h => h
  case hy49 => (refine Or.inl ⟨by rfl, ?_⟩; intro w hSw; (obtain ⟨hSw0, hSw1, hSw2, hSw3, hSw4, hSw5, hSw6, hSw7, hSw8, hSw9, hSw10, hSw11, hSw12⟩ := hSw); go_simp; try with_reducible rfl)
  try simp only [Act.put, List.setIfInBounds_toArray, List.set_cons_zero, List.set_cons_succ]
  refine wpAnyH_take (i := 49) (oi := ?oi50) (v := ?v50) ?hi50 (by kernel_rfl) (by kernel_rfl) (by kernel_rfl) ?hQ50 ?hy50 (by assumption) ?_
  case hi50 => (simp only [List.getElem?_toArray, List.getElem?_cons_succ, List.getElem?_cons_zero]; rfl)
  case hQ50 => exact fun _ _ _ h => h
  case hy50 => (refine Or.inl ⟨by rfl, ?_⟩; intro w hSw; (obtain ⟨hSw0, hSw1, hSw2, hSw3, hSw4, hSw5, hSw6, hSw7, hSw8, hSw9, hSw10, hSw11, hSw12⟩ := hSw); go_simp; try with_reducible rfl)
  try simp only [Act.put, List.setIfInBounds_toArray, List.set_cons_zero, List.set_cons_succ]
  refine wpAnyH_take (i := 50) (oi := ?oi51) (v := ?v51) ?hi51 (by kernel_rfl) (by kernel_rfl) (by kernel_rfl) ?hQ51 ?hy51 (by assumption) ?_
  case hi51 => (simp only [List.getElem?_toArray, List.getElem?_cons_succ, List.getElem?_cons_zero]; rfl)
  case hQ51 => exact fun _ _ _ h => h
  case hy51 => (refine Or.inl ⟨by rfl, ?_⟩; intro w hSw; (obtain ⟨hSw0, hSw1, hSw2, hSw3, hSw4, hSw5, hSw6, hSw7, hSw8, hSw9, hSw10, hSw11, hSw12⟩ := hSw); go_simp; try with_reducible rfl)
  try simp only [Act.put, List.setIfInBounds_toArray, List.set_cons_zero, List.set_cons_succ]
  refine wpAnyH_take (i := 51) (oi := ?oi52) (v := ?v52) ?hi52 (by kernel_rfl) (by kernel_rfl) (by kernel_rfl) ?hQ52 ?hy52 (by assumption) ?_
  case hi52 => (simp only [List.getElem?_toArray, List.getElem?_cons_succ, List.getElem?_cons_zero]; rfl)
  case hQ52 => exact fun _ _ _ h => h
  case hy52 => (refine Or.inl ⟨by rfl, ?_⟩; intro w hSw; (obtain ⟨hSw0, hSw1, hSw2, hSw3, hSw4, hSw5, hSw6, hSw7, hSw8, hSw9, hSw10, hSw11, hSw12⟩ := hSw); go_simp; try with_reducible rfl)
  try simp only [Act.put, List.setIfInBounds_toArray, List.set_cons_zero, List.set_cons_succ]
  refine wpAnyH_take (i := 52) (oi := ?oi53) (v := ?v53) ?hi53 (by kernel_rfl) (by kernel_rfl) (by kernel_rfl) ?hQ53 ?hy53 (by assumption) ?_
  case hi53 => (simp only [List.getElem?_toArray, List.getElem?_cons_succ, List.getElem?_cons_zero]; rfl)
  case hQ53 => exact fun _ _ _ h => h
  case hy53 => (refine Or.inl ⟨by rfl, ?_⟩; intro w hSw; (obtain ⟨hSw0, hSw1, hSw2, hSw3, hSw4, hSw5, hSw6, hSw7, hSw8, hSw9, hSw10, hSw11, hSw12⟩ := hSw); go_simp; try with_reducible rfl)
  try simp only [Act.put, List.setIfInBounds_toArray, List.set_cons_zero, List.set_cons_succ]
  refine wpAnyH_take (i := 53) (oi := ?oi54) (v := ?v54) ?hi54 (by kernel_rfl) (by kernel_rfl) (by kernel_rfl) ?hQ54 ?hy54 (by assumption) ?_
  case hi54 => (simp only [List.getElem?_toArray, List.getElem?_cons_succ, List.getElem?_cons_zero]; rfl)
  case hQ54 => exact fun _ _ _ h => h
  case hy54 => (refine Or.inl ⟨by rfl, ?_⟩; intro w hSw; (obtain ⟨hSw0, hSw1, hSw2, hSw3, hSw4, hSw5, hSw6, hSw7, hSw8, hSw9, hSw10, hSw11, hSw12⟩ := hSw); go_simp; try with_reducible rfl)
  try simp only [Act.put, List.setIfInBounds_toArray, List.set_cons_zero, List.set_cons_succ]
  refine wpAnyH_take (i := 54) (oi := ?oi55) (v := ?v55) ?hi55 (by kernel_rfl) (by kernel_rfl) (by kernel_rfl) ?hQ55 ?hy55 (by assumption) ?_
  case hi55 => (simp only [List.getElem?_toArray, List.getElem?_cons_succ, List.getElem?_cons_zero]; rfl)
  case hQ55 => exact fun _ _ _ h => h
  case hy55 => (refine Or.inl ⟨by rfl, ?_⟩; intro w hSw; (obtain ⟨hSw0, hSw1, hSw2, hSw3, hSw4, hSw5, hSw6, hSw7, hSw8, hSw9, hSw10, hSw11, hSw12⟩ := hSw); go_simp; try with_reducible rfl)
  try simp only [Act.put, List.setIfInBounds_toArray, List.set_cons_zero, List.set_cons_succ]
  refine wpAnyH_take (i := 55) (oi := ?oi56) (v := ?v56) ?hi56 (by kernel_rfl) (by kernel_rfl) (by kernel_rfl) ?hQ56 ?hy56 (by assumption) ?_
  case hi56 => (simp only [List.getElem?_toArray, List.getElem?_cons_succ, List.getElem?_cons_zero]; rfl)
  case hQ56 => exact fun _ _ _ h => h
  case hy56 => (refine Or.inl ⟨by rfl, ?_⟩; intro w hSw; (obtain ⟨hSw0, hSw1, hSw2, hSw3, hSw4, hSw5, hSw6, hSw7, hSw8, hSw9, hSw10, hSw11, hSw12⟩ := hSw); go_simp; try with_reducible rfl)
  try simp only [Act.put, List.setIfInBounds_toArray, List.set_cons_zero, List.set_cons_succ]
  refine wpAnyH_take (i := 56) (oi := ?oi57) (v := ?v57) ?hi57 (by kernel_rfl) (by kernel_rfl) (by kernel_rfl) ?hQ57 ?hy57 (by assumption) ?_
  case hi57 => (simp only [List.getElem?_toArray, List.getElem?_cons_succ, List.getElem?_cons_zero]; rfl)
  case hQ57 => exact fun _ _ _ h => h
  case hy57 => (refine Or.inl ⟨by rfl, ?_⟩; intro w hSw; (obtain ⟨hSw0, hSw1, hSw2, hSw3, hSw4, hSw5, hSw6, hSw7, hSw8, hSw9, hSw10, hSw11, hSw12⟩ := hSw); go_simp; try with_reducible rfl)
  try simp only [Act.put, List.setIfInBounds_toArray, List.set_cons_zero, List.set_cons_succ]
  refine wpAnyH_take (i := 57) (oi := ?oi58) (v := ?v58) ?hi58 (by kernel_rfl) (by kernel_rfl) (by kernel_rfl) ?hQ58 ?hy58 (by assumption) ?_
  case hi58 => (simp only [List.getElem?_toArray, List.getElem?_cons_succ, List.getElem?_cons_zero]; rfl)
  case hQ58 => exact fun _ _ _ h => h
  case hy58 => (refine Or.inl ⟨by rfl, ?_⟩; intro w hSw; (obtain ⟨hSw0, hSw1, hSw2, hSw3, hSw4, hSw5, hSw6, hSw7, hSw8, hSw9, hSw10, hSw11, hSw12⟩ := hSw); go_simp; try with_reducible rfl)
  try simp only [Act.put, List.setIfInBounds_toArray, List.set_cons_zero, List.set_cons_succ]
  refine wpAnyH_take (i := 58) (oi := ?oi59) (v := ?v59) ?hi59 (by kernel_rfl) (by kernel_rfl) (by kernel_rfl) ?hQ59 ?hy59 (by assumption) ?_
  case hi59 => (simp only [List.getElem?_toArray, List.getElem?_cons_succ, List.getElem?_cons_zero]; rfl)
  case hQ59 => exact fun _ _ _ h => h
  case hy59 => (refine Or.inl ⟨by rfl, ?_⟩; intro w hSw; (obtain ⟨hSw0, hSw1, hSw2, hSw3, hSw4, hSw5, hSw6, hSw7, hSw8, hSw9, hSw10, hSw11, hSw12⟩ := hSw); go_simp; try with_reducible rfl)
  try simp only [Act.put, List.setIfInBounds_toArray, List.set_cons_zero, List.set_cons_succ]
  refine wpAnyH_take (i := 60) (oi := ?oi60) (v := ?v60) ?hi60 (by kernel_rfl) (by kernel_rfl) (by kernel_rfl) ?hQ60 ?hy60 (by assumption) ?_
  case hi60 => (simp only [List.getElem?_toArray, List.getElem?_cons_succ, List.getElem?_cons_zero]; rfl)
  case hQ60 => exact fun _ _ _ h => h
  case hy60 => (refine Or.inl ⟨by rfl, ?_⟩; intro w hSw; (obtain ⟨hSw0, hSw1, hSw2, hSw3, hSw4, hSw5, hSw6, hSw7, hSw8, hSw9, hSw10, hSw11, hSw12⟩ := hSw); go_simp; try with_reducible rfl)
  try simp only [Act.put, List.setIfInBounds_toArray, List.set_cons_zero, List.set_cons_succ]
  refine wpAnyH_take (i := 61) (oi := ?oi61) (v := ?v61) ?hi61 (by kernel_rfl) (by kernel_rfl) (by kernel_rfl) ?hQ61 ?hy61 (by assumption) ?_
  case hi61 => (simp only [List.getElem?_toArray, List.getElem?_cons_succ, List.getElem?_cons_zero]; rfl)
  case hQ61 => exact fun _ _ _ h => h
  case hy61 => (refine Or.inl ⟨by rfl, ?_⟩; intro w hSw; (obtain ⟨hSw0, hSw1, hSw2, hSw3, hSw4, hSw5, hSw6, hSw7, hSw8, hSw9, hSw10, hSw11, hSw12⟩ := hSw); go_simp; try with_reducible rfl)
  try simp only [Act.put, List.setIfInBounds_toArray, List.set_cons_zero, List.set_cons_succ]
  refine wpAnyH_take (i := 62) (oi := ?oi62) (v := ?v62) ?hi62 (by kernel_rfl) (by kernel_rfl) (by kernel_rfl) ?hQ62 ?hy62 (by assumption) ?_
  case hi62 => (simp only [List.getElem?_toArray, List.getElem?_cons_succ, List.getElem?_cons_zero]; rfl)
  case hQ62 => exact fun _ _ _ h => h
  case hy62 => (refine Or.inl ⟨by rfl, ?_⟩; intro w hSw; (obtain ⟨hSw0, hSw1, hSw2, hSw3, hSw4, hSw5, hSw6, hSw7, hSw8, hSw9, hSw10, hSw11, hSw12⟩ := hSw); go_simp; try with_reducible rfl)
  try simp only [Act.put, List.setIfInBounds_toArray, List.set_cons_zero, List.set_cons_succ]
  refine wpAnyH_take (i := 63) (oi := ?oi63) (v := ?v63) ?hi63 (by kernel_rfl) (by kernel_rfl) (by kernel_rfl) ?hQ63 ?hy63 (by assumption) ?_
  case hi63 => (simp only [List.getElem?_toArray, List.getElem?_cons_succ, List.getElem?_cons_zero]; rfl)
  case hQ63 => exact fun _ _ _ h => h
  case hy63 => (refine Or.inl ⟨by rfl, ?_⟩; intro w hSw; (obtain ⟨hSw0, hSw1, hSw2, hSw3, hSw4, hSw5, hSw6, hSw7, hSw8, hSw9, hSw10, hSw11, hSw12⟩ := hSw); go_simp; try with_reducible rfl)
  try simp only [Act.put, List.setIfInBounds_toArray, List.set_cons_zero, List.set_cons_succ]
  refine wpAnyH_take (i := 64) (oi := ?oi64) (v := ?v64) ?hi64 (by kernel_rfl) (by kernel_rfl) (by kernel_rfl) ?hQ64 ?hy64 (by assumption) ?_
  case hi64 => (simp only [List.getElem?_toArray, List.getElem?_cons_succ, List.getElem?_cons_zero]; rfl)
  case hQ64 => exact fun _ _ _ h => h
  case hy64 => (refine Or.inl ⟨by rfl, ?_⟩; intro w hSw; (obtain ⟨hSw0, hSw1, hSw2, hSw3, hSw4, hSw5, hSw6, hSw7, hSw8, hSw9, hSw10, hSw11, hSw12⟩ := hSw); go_simp; try with_reducible rfl)
  try simp only [Act.put, List.setIfInBounds_toArray, List.set_cons_zero, List.set_cons_succ]
  refine wpAnyH_ready (rs := [59]) (by kernel_rfl) (by simp) ?_
  refine AllReadyH.cons (o := ?oi6559) ?ho6559 (fun K hK => ?_) AllReadyH.nil
  case ho6559 => (simp only [List.getElem?_toArray, List.getElem?_cons_succ, List.getElem?_cons_zero]; rfl)
  go_simp
  go_at_call 20; (with_reducible refine (c_permits n (H0.out.same (hSS _ (by assumption)))).mono ?_); rintro e w' ⟨rfl, rfl⟩
  refine hK.out _ _ ?_ (fun hHeld => ?_)
  · (try dsimp only); assumption
  clear hK K
  try simp only [Act.put, List.setIfInBounds_toArray, List.set_cons_zero, List.set_cons_succ]
  refine wpAnyH_take (i := 65) (oi := ?oi66) (v := ?v66) ?hi66 (by kernel_rfl) (by kernel_rfl) (by kernel_rfl) ?hQ66 ?hy66 (by assumption) ?_
  case hi66 => (simp only [List.getElem?_toArray, List.getElem?_cons_succ, List.getElem?_cons_zero]; rfl)
  case hQ66 => exact fun _ _ _ h => h
  case hy66 => (refine Or.inl ⟨by rfl, ?_⟩; intro w hSw; (obtain ⟨hSw0, hSw1, hSw2, hSw3, hSw4, hSw5, hSw6, hSw7, hSw8, hSw9, hSw10, hSw11, hSw12⟩ := hSw); go_simp; try with_reducible rfl)
  try simp only [Act.put, List.setIfInBounds_toArray, List.set_cons_zero, List.set_cons_succ]
  refine wpAnyH_take (i := 66) (oi := ?oi67) (v := ?v67) ?hi67 (by kernel_rfl) (by kernel_rfl) (by kernel_rfl) ?hQ67 ?hy67 (by assumption) ?_
  case hi67 => (simp only [List.getElem?_toArray, List.getElem?_cons_succ, List.getElem?_cons_zero]; rfl)
  case hQ67 => exact fun _ _ _ h => h
  case hy67 => (refine Or.inl ⟨by rfl, ?_⟩; intro w hSw; (obtain ⟨hSw0, hSw1, hSw2, hSw3, hSw4, hSw5, hSw6, hSw7, hSw8, hSw9, hSw10, hSw11, hSw12⟩ := hSw); go_simp; try with_reducible rfl)
  try simp only [Act.put, List.setIfInBounds_toArray, List.set_cons_zero, List.set_cons_succ]
  refine wpAnyH_take (i := 67) (oi := ?oi68) (v := ?v68) ?hi68 (by kernel_rfl) (by kernel_rfl) (by kernel_rfl) ?hQ68 ?hy68 (by assumption) ?_
  case hi68 => (simp only [List.getElem?_toArray, List.getElem?_cons_succ, List.getElem?_cons_zero]; rfl)
  case hQ68 => exact fun _ _ _ h => h
  case hy68 => (refine Or.inl ⟨by rfl, ?_⟩; intro w hSw; (obtain ⟨hSw0, hSw1, hSw2, hSw3, hSw4, hSw5, hSw6, hSw7, hSw8, hSw9, hSw10, hSw11, hSw12⟩ := hSw); go_simp; try with_reducible rfl)
  try simp only [Act.put, List.setIfInBounds_toArray, List.set_cons_zero, List.set_cons_succ]
  refine wpAnyH_done (by kernel_rfl) ?_ _
  go_wp2
  have hB := B0.out.trans ((hSS _ (by assumption)).mono B0.out.size)
  go_ret
  exact ⟨rfl, hB⟩
set_option maxRecDepth 100000 in
set_option maxHeartbeats 8000000 in
theorem same20_out (n : Int) (sv wv : Value) (hn : n < 0) (h : CtlAt w C T D S L z) : Calls Tryz.prog 7 #[.pointer (some ⟨C, 0, none⟩), zV z sv wv, .int .i64 n] w fun e w' => e = .returned (.bool true) ∧ Below w.heap.size w w' := by
  obtain ⟨B, hB⟩ : ∃ B, B = w.heap.size := ⟨_, rfl⟩
  have hn0 : decide (0 ≤ n) = false := by simpa using hn
  have hn1 : (0 ≤ n) = False := by simpa using hn
  have B0 := Lib.hid (show Below w.heap.size w (w.alloc (.cells (zC z sv wv).toArray 38)) from (Below.refl _ w).alloc (Nat.le_refl _) _)
  have O0 := Lib.hid (show IsObj (w.alloc (.cells (zC z sv wv).toArray 38)) B 38 (zC z sv wv) by rw [hB]; exact IsObj.new w _ (zC z sv wv))
  have H0 := Lib.hid (h.same B0.out)
  have HB := Lib.hid hB
  clear hB h
  go_enter Tryz.func7, Tryz.ntmps7
  simp only [List.append_eq, List.cons_append, List.nil_append]
  go_upto_region 1 with (fail)
  rw [← HB.out]
  generalize (w.alloc (.cells (zC z sv wv).toArray 38)) = w0 at *
  have hSS := fun W (h : SSm B w0 z sv wv W) => h.b
  have K0 : SSm B w0 z sv wv w0.drew := ⟨IsObj.range O0.out.drew, O0.out.drew.cell 15, O0.out.drew.cell 13, O0.out.drew.cell 16, O0.out.drew.cell 10, O0.out.drew.cell 1, O0.out.drew.cell 2, O0.out.drew.cell 3, O0.out.drew.cell 4, O0.out.drew.cell 5, O0.out.drew.cell 6, O0.out.drew.cell 7, (Below.refl _ _).drew⟩
  clear O0
  refine wp_region_held_drew (S := SSm B w0 z sv wv) (by kernel_rfl) ?_ (fun hHeld => ?_)
  · exact K0
  refine wpAnyH_take (i := 0) (oi := ?oi69) (v := ?v69) ?hi69 (by kernel_rfl) (by kernel_rfl) (by kernel_rfl) ?hQ69 ?hy69 (by assumption) ?_
  case hi69 => (simp only [List.getElem?_toArray, List.getElem?_cons_succ, List.getElem?_cons_zero]; rfl)
  case hQ69 => exact fun _ _ _ h => h
  case hy69 => (refine Or.inl ⟨by rfl, ?_⟩; intro w hSw; (obtain ⟨hSw0, hSw1, hSw2, hSw3, hSw4, hSw5, hSw6, hSw7, hSw8, hSw9, hSw10, hSw11, hSw12⟩ := hSw); go_simp; try with_reducible rfl)
  try simp only [Act.put, List.setIfInBounds_toArray, List.set_cons_zero, List.set_cons_succ]
  refine wpAnyH_take (i := 2) (oi := ?oi70) (v := ?v70) ?hi70 (by kernel_rfl) (by kernel_rfl) (by kernel_rfl) ?hQ70 ?hy70 (by assumption) ?_
  case hi70 => (simp only [List.getElem?_toArray, List.getElem?_cons_succ, List.getElem?_cons_zero]; rfl)
  case hQ70 => exact fun _ _ _ h => h
  case hy70 => (refine Or.inl ⟨by rfl, ?_⟩; intro w hSw; (obtain ⟨hSw0, hSw1, hSw2, hSw3, hSw4, hSw5, hSw6, hSw7, hSw8, hSw9, hSw10, hSw11, hSw12⟩ := hSw); go_simp; try with_reducible rfl)
  try simp only [Act.put, List.setIfInBounds_toArray, List.set_cons_zero, List.set_cons_succ]
  refine wpAnyH_take (i := 3) (oi := ?oi71) (v := ?v71) ?hi71 (by kernel_rfl) (by kernel_rfl) (by kernel_rfl) ?hQ71 ?hy71 (by assumption) ?_
  case hi71 => (simp only [List.getElem?_toArray, List.getElem?_cons_succ, List.getElem?_cons_zero]; rfl)
  case hQ71 => exact fun _ _ _ h => h
  case hy71 => (refine Or.inl ⟨by rfl, ?_⟩; intro w hSw; (obtain ⟨hSw0, hSw1, hSw2, hSw3, hSw4, hSw5, hSw6, hSw7, hSw8, hSw9, hSw10, hSw11, hSw12⟩ := hSw); go_simp; try with_reducible rfl)
  try simp only [Act.put, List.setIfInBounds_toArray, List.set_cons_zero, List.set_cons_succ]
  refine wpAnyH_ready (rs := [1]) (by kernel_rfl) (by simp) ?_
  refine AllReadyH.cons (o := ?oi7201) ?ho7201 (fun K hK => ?_) AllReadyH.nil
  case ho7201 => (simp only [List.getElem?_toArray, List.getElem?_cons_succ, List.getElem?_cons_zero]; rfl)
  go_simp
  go_at_call 27; (with_reducible refine (c_threshold (H0.out.same (hSS _ (by assumption)))).mono ?_); rintro e w' ⟨rfl, rfl⟩
  refine hK.out _ _ ?_ (fun hHeld => ?_)
  · (try dsimp only); assumption
  clear hK K
  try simp only [Act.put, List.setIfInBounds_toArray, List.set_cons_zero, List.set_cons_succ]
  refine wpAnyH_take (i := 4) (oi := ?oi73) (v := ?v73) ?hi73 (by kernel_rfl) (by kernel_rfl) (by kernel_rfl) ?hQ73 ?hy73 (by assumption) ?_
  case hi73 => (simp only [List.getElem?_toArray, List.getElem?_cons_succ, List.getElem?_cons_zero]; rfl)
  case hQ73 => exact fun _ _ _ h => h
  case hy73 => (refine Or.inl ⟨by rfl, ?_⟩; intro w hSw; (obtain ⟨hSw0, hSw1, hSw2, hSw3, hSw4, hSw5, hSw6, hSw7, hSw8, hSw9, hSw10, hSw11, hSw12⟩ := hSw); go_simp; try with_reducible rfl)
  try simp only [Act.put, List.setIfInBounds_toArray, List.set_cons_zero, List.set_cons_succ]
  refine wpAnyH_take (i := 5) (oi := ?oi74) (v := ?v74) ?hi74 (by kernel_rfl) (by kernel_rfl) (by kernel_rfl) ?hQ74 ?hy74 (by assumption) ?_
  case hi74 => (simp only [List.getElem?_toArray, List.getElem?_cons_succ, List.getElem?_cons_zero]; rfl)
  case hQ74 => exact fun _ _ _ h => h
  case hy74 => (refine Or.inl ⟨by rfl, ?_⟩; intro w hSw; (obtain ⟨hSw0, hSw1, hSw2, hSw3, hSw4, hSw5, hSw6, hSw7, hSw8, hSw9, hSw10, hSw11, hSw12⟩ := hSw); go_simp; try with_reducible rfl)
  try simp only [Act.put, List.setIfInBounds_toArray, List.set_cons_zero, List.set_cons_succ]
  refine wpAnyH_take (i := 6) (oi := ?oi75) (v := ?v75) ?hi75 (by kernel_rfl) (by kernel_rfl) (by kernel_rfl) ?hQ75 ?hy75 (by assumption) ?_
  case hi75 => (simp only [List.getElem?_toArray, List.getElem?_cons_succ, List.getElem?_cons_zero]; rfl)
  case hQ75 => exact fun _ _ _ h => h
  case hy75 => (refine Or.inl ⟨by rfl, ?_⟩; intro w hSw; (obtain ⟨hSw0, hSw1, hSw2, hSw3, hSw4, hSw5, hSw6, hSw7, hSw8, hSw9, hSw10, hSw11, hSw12⟩ := hSw); go_simp; try with_reducible rfl)
  try simp only [Act.put, List.setIfInBounds_toArray, List.set_cons_zero, List.set_cons_succ]
  refine wpAnyH_take (i := 8) (oi := ?oi76) (v := ?v76) ?hi76 (by kernel_rfl) (by kernel_rfl) (by kernel_rfl) ?hQ76 ?hy76 (by assumption) ?_
  case hi76 => (simp only [List.getElem?_toArray, List.getElem?_cons_succ, List.getElem?_cons_zero]; rfl)
  case hQ76 => exact fun _ _ _ h => h
  case hy76 => (refine Or.inl ⟨by rfl, ?_⟩; intro w hSw; (obtain ⟨hSw0, hSw1, hSw2, hSw3, hSw4, hSw5, hSw6, hSw7, hSw8, hSw9, hSw10, hSw11, hSw12⟩ := hSw); go_simp; try with_reducible rfl)
  try simp only [Act.put, List.setIfInBounds_toArray, List.set_cons_zero, List.set_cons_succ]
  refine wpAnyH_take (i := 9) (oi := ?oi77) (v := ?v77) ?hi77 (by kernel_rfl) (by kernel_rfl) (by kernel_rfl) ?hQ77 ?hy77 (by assumption) ?_
  case hi77 => (simp only [List.getElem?_toArray, List.getElem?_cons_succ, List.getElem?_cons_zero]; rfl)
  case hQ77 => exact fun _ _ _ h => h
  case hy77 => (refine Or.inl ⟨by rfl, ?_⟩; intro w hSw; (obtain ⟨hSw0, hSw1, hSw2, hSw3, hSw4, hSw5, hSw6, hSw7, hSw8, hSw9, hSw10, hSw11, hSw12⟩ := hSw); go_simp; try with_reducible rfl)
  try simp only [Act.put, List.setIfInBounds_toArray, List.set_cons_zero, List.set_cons_succ]
  refine wpAnyH_take (i := 10) (oi := ?oi78) (v := ?v78) ?hi78 (by kernel_rfl) (by kernel_rfl) (by kernel_rfl) ?hQ78 ?hy78 (by assumption) ?_
  case hi78 => (simp only [List.getElem?_toArray, List.getElem?_cons_succ, List.getElem?_cons_zero]; rfl)
  case hQ78 => exact fun _ _ _ h => h
  case hy78 => (refine Or.inl ⟨by rfl, ?_⟩; intro w hSw; (obtain ⟨hSw0, hSw1, hSw2, hSw3, hSw4, hSw5, hSw6, hSw7, hSw8, hSw9, hSw10, hSw11, hSw12⟩ := hSw); go_simp; try with_reducible rfl)
  try simp only [Act.put, List.setIfInBounds_toArray, List.set_cons_zero, List.set_cons_succ]
  refine wpAnyH_ready (rs := [7]) (by kernel_rfl) (by simp) ?_
  refine AllReadyH.cons (o := ?oi7907) ?ho7907 (fun K hK => ?_) AllReadyH.nil
  case ho7907 => (simp only [List.getElem?_toArray, List.getElem?_cons_succ, List.getElem?_cons_zero]; rfl)
  go_simp
  go_at_call 28; (with_reducible refine (c_tier (H0.out.same (hSS _ (by assumption)))).mono ?_); rintro e w' ⟨rfl, rfl⟩
  refine hK.out _ _ ?_ (fun hHeld => ?_)
  · (try dsimp only); assumption
  clear hK K
  try simp only [Act.put, List.setIfInBounds_toArray, List.set_cons_zero, List.set_cons_succ]
  refine wpAnyH_take (i := 11) (oi := ?oi80) (v := ?v80) ?hi80 (by kernel_rfl) (by kernel_rfl) (by kernel_rfl) ?hQ80 ?hy80 (by assumption) ?_
  case hi80 => (simp only [List.getElem?_toArray, List.getElem?_cons_succ, List.getElem?_cons_zero]; rfl)
  case hQ80 => exact fun _ _ _ h => h
  case hy80 => (refine Or.inl ⟨by rfl, ?_⟩; intro w hSw; (obtain ⟨hSw0, hSw1, hSw2, hSw3, hSw4, hSw5, hSw6, hSw7, hSw8, hSw9, hSw10, hSw11, hSw12⟩ := hSw); go_simp; try with_reducible rfl)
  try simp only [Act.put, List.setIfInBounds_toArray, List.set_cons_zero, List.set_cons_succ]
  refine wpAnyH_take (i := 12) (oi := ?oi81) (v := ?v81) ?hi81 (by kernel_rfl) (by kernel_rfl) (by kernel_rfl) ?hQ81 ?hy81 (by assumption) ?_
  case hi81 => (simp only [List.getElem?_toArray, List.getElem?_cons_succ, List.getElem?_cons_zero]; rfl)
  case hQ81 => exact fun _ _ _ h => h
  case hy81 => (refine Or.inl ⟨by rfl, ?_⟩; intro w hSw; (obtain ⟨hSw0, hSw1, hSw2, hSw3, hSw4, hSw5, hSw6, hSw7, hSw8, hSw9, hSw10, hSw11, hSw12⟩ := hSw); go_simp; try with_reducible rfl)
  try simp only [Act.put, List.setIfInBounds_toArray, List.set_cons_zero, List.set_cons_succ]
  refine wpAnyH_take (i := 13) (oi := ?oi82) (v := ?v82) ?hi82 (by kernel_rfl) (by kernel_rfl) (by kernel_rfl) ?hQ82 ?hy82 (by assumption) ?_
  case hi82 => (simp only [List.getElem?_toArray, List.getElem?_cons_succ, List.getElem?_cons_zero]; rfl)
  case hQ82 => exact fun _ _ _ h => h
  case hy82 => (refine Or.inl ⟨by rfl, ?_⟩; intro w hSw; (obtain ⟨hSw0, hSw1, hSw2, hSw3, hSw4, hSw5, hSw6, hSw7, hSw8, hSw9, hSw10, hSw11, hSw12⟩ := hSw); go_simp; try with_reducible rfl)
  try simp only [Act.put, List.setIfInBounds_toArray, List.set_cons_zero, List.set_cons_succ]
  refine wpAnyH_take (i := 14) (oi := ?oi83) (v := ?v83) ?hi83 (by kernel_rfl) (by kernel_rfl) (by kernel_rfl) ?hQ83 ?hy83 (by assumption) ?_
  case hi83 => (simp only [List.getElem?_toArray, List.getElem?_cons_succ, List.getElem?_cons_zero]; rfl)
  case hQ83 => exact fun _ _ _ h => h
  case hy83 => (refine Or.inl ⟨by rfl, ?_⟩; intro w hSw; (obtain ⟨hSw0, hSw1, hSw2, hSw3, hSw4, hSw5, hSw6, hSw7, hSw8, hSw9, hSw10, hSw11, hSw12⟩ := hSw); go_simp; try with_reducible rfl)
  try simp only [Act.put, List.setIfInBounds_toArray, List.set_cons_zero, List.set_cons_succ]
  refine wpAnyH_take (i := 16) (oi := ?oi84) (v := ?v84) ?hi84 (by kernel_rfl) (by kernel_rfl) (by kernel_rfl) ?hQ84 ?hy84 (by assumption) ?_
  case hi84 => (simp only [List.getElem?_toArray, List.getElem?_cons_succ, List.getElem?_cons_zero]; rfl)
  case hQ84 => exact fun _ _ _ h => h
  case hy84 => (refine Or.inl ⟨by rfl, ?_⟩; intro w hSw; (obtain ⟨hSw0, hSw1, hSw2, hSw3, hSw4, hSw5, hSw6, hSw7, hSw8, hSw9, hSw10, hSw11, hSw12⟩ := hSw); go_simp; try with_reducible rfl)
  try simp only [Act.put, List.setIfInBounds_toArray, List.set_cons_zero, List.set_cons_succ]
  refine wpAnyH_take (i := 17) (oi := ?oi85) (v := ?v85) ?hi85 (by kernel_rfl) (by kernel_rfl) (by kernel_rfl) ?hQ85 ?hy85 (by assumption) ?_
  case hi85 => (simp only [List.getElem?_toArray, List.getElem?_cons_succ, List.getElem?_cons_zero]; rfl)
  case hQ85 => exact fun _ _ _ h => h
  case hy85 => (refine Or.inl ⟨by rfl, ?_⟩; intro w hSw; (obtain ⟨hSw0, hSw1, hSw2, hSw3, hSw4, hSw5, hSw6, hSw7, hSw8, hSw9, hSw10, hSw11, hSw12⟩ := hSw); go_simp; try with_reducible rfl)
  try simp only [Act.put, List.setIfInBounds_toArray, List.set_cons_zero, List.set_cons_succ]
  refine wpAnyH_ready (rs := [15]) (by kernel_rfl) (by simp) ?_
  refine AllReadyH.cons (o := ?oi8615) ?ho8615 (fun K hK => ?_) AllReadyH.nil
  case ho8615 => (simp only [List.getElem?_toArray, List.getElem?_cons_succ, List.getElem?_cons_zero]; rfl)
  go_simp
  go_at_call 29; (with_reducible refine (c_epoch (H0.out.same (hSS _ (by assumption)))).mono ?_); rintro e w' ⟨rfl, rfl⟩
  refine hK.out _ _ ?_ (fun hHeld => ?_)
  · (try dsimp only); assumption
  clear hK K
  try simp only [Act.put, List.setIfInBounds_toArray, List.set_cons_zero, List.set_cons_succ]
  refine wpAnyH_take (i := 18) (oi := ?oi87) (v := ?v87) ?hi87 (by kernel_rfl) (by kernel_rfl) (by kernel_rfl) ?hQ87 ?hy87 (by assumption) ?_
  case hi87 => (simp only [List.getElem?_toArray, List.getElem?_cons_succ, List.getElem?_cons_zero]; rfl)
  case hQ87 => exact fun _ _ _ h => h
  case hy87 => (refine Or.inl ⟨by rfl, ?_⟩; intro w hSw; (obtain ⟨hSw0, hSw1, hSw2, hSw3, hSw4, hSw5, hSw6, hSw7, hSw8, hSw9, hSw10, hSw11, hSw12⟩ := hSw); go_simp; try with_reducible rfl)
  try simp only [Act.put, List.setIfInBounds_toArray, List.set_cons_zero, List.set_cons_succ]
  refine wpAnyH_take (i := 19) (oi := ?oi88) (v := ?v88) ?hi88 (by kernel_rfl) (by kernel_rfl) (by kernel_rfl) ?hQ88 ?hy88 (by assumption) ?_
  case hi88 => (simp only [List.getElem?_toArray, List.getElem?_cons_succ, List.getElem?_cons_zero]; rfl)
  case hQ88 => exact fun _ _ _ h => h
  case hy88 => (refine Or.inl ⟨by rfl, ?_⟩; intro w hSw; (obtain ⟨hSw0, hSw1, hSw2, hSw3, hSw4, hSw5, hSw6, hSw7, hSw8, hSw9, hSw10, hSw11, hSw12⟩ := hSw); go_simp; try with_reducible rfl)
  try simp only [Act.put, List.setIfInBounds_toArray, List.set_cons_zero, List.set_cons_succ]
  refine wpAnyH_take (i := 20) (oi := ?oi89) (v := ?v89) ?hi89 (by kernel_rfl) (by kernel_rfl) (by kernel_rfl) ?hQ89 ?hy89 (by assumption) ?_
  case hi89 => (simp only [List.getElem?_toArray, List.getElem?_cons_succ, List.getElem?_cons_zero]; rfl)
  case hQ89 => exact fun _ _ _ h => h
  case hy89 => (refine Or.inl ⟨by rfl, ?_⟩; intro w hSw; (obtain ⟨hSw0, hSw1, hSw2, hSw3, hSw4, hSw5, hSw6, hSw7, hSw8, hSw9, hSw10, hSw11, hSw12⟩ := hSw); go_simp; try with_reducible rfl)
  try simp only [Act.put, List.setIfInBounds_toArray, List.set_cons_zero, List.set_cons_succ]
  refine wpAnyH_take (i := 21) (oi := ?oi90) (v := ?v90) ?hi90 (by kernel_rfl) (by kernel_rfl) (by kernel_rfl) ?hQ90 ?hy90 (by assumption) ?_
  case hi90 => (simp only [List.getElem?_toArray, List.getElem?_cons_succ, List.getElem?_cons_zero]; rfl)
  case hQ90 => exact fun _ _ _ h => h
  case hy90 => (refine Or.inl ⟨by rfl, ?_⟩; intro w hSw; (obtain ⟨hSw0, hSw1, hSw2, hSw3, hSw4, hSw5, hSw6, hSw7, hSw8, hSw9, hSw10, hSw11, hSw12⟩ := hSw); go_simp; try with_reducible rfl)
  try simp only [Act.put, List.setIfInBounds_toArray, List.set_cons_zero, List.set_cons_succ]
  refine wpAnyH_take (i := 23) (oi := ?oi91) (v := ?v91) ?hi91 (by kernel_rfl) (by kernel_rfl) (by kernel_rfl) ?hQ91 ?hy91 (by assumption) ?_
  case hi91 => (simp only [List.getElem?_toArray, List.getElem?_cons_succ, List.getElem?_cons_zero]; rfl)
  case hQ91 => exact fun _ _ _ h => h
  case hy91 => (refine Or.inl ⟨by rfl, ?_⟩; intro w hSw; (obtain ⟨hSw0, hSw1, hSw2, hSw3, hSw4, hSw5, hSw6, hSw7, hSw8, hSw9, hSw10, hSw11, hSw12⟩ := hSw); go_simp; try with_reducible rfl)
  try simp only [Act.put, List.setIfInBounds_toArray, List.set_cons_zero, List.set_cons_succ]
  refine wpAnyH_take (i := 24) (oi := ?oi92) (v := ?v92) ?hi92 (by kernel_rfl) (by kernel_rfl) (by kernel_rfl) ?hQ92 ?hy92 (by assumption) ?_
  case hi92 => (simp only [List.getElem?_toArray, List.getElem?_cons_succ, List.getElem?_cons_zero]; rfl)
  case hQ92 => exact fun _ _ _ h => h
  case hy92 => (refine Or.inl ⟨by rfl, ?_⟩; intro w hSw; (obtain ⟨hSw0, hSw1, hSw2, hSw3, hSw4, hSw5, hSw6, hSw7, hSw8, hSw9, hSw10, hSw11, hSw12⟩ := hSw); go_simp; try with_reducible rfl)
  try simp only [Act.put, List.setIfInBounds_toArray, List.set_cons_zero, List.set_cons_succ]
  refine wpAnyH_take (i := 25) (oi := ?oi93) (v := ?v93) ?hi93 (by kernel_rfl) (by kernel_rfl) (by kernel_rfl) ?hQ93 ?hy93 (by assumption) ?_
  case hi93 => (simp only [List.getElem?_toArray, List.getElem?_cons_succ, List.getElem?_cons_zero]; rfl)
  case hQ93 => exact fun _ _ _ h => h
  case hy93 => (refine Or.inl ⟨by rfl, ?_⟩; intro w hSw; (obtain ⟨hSw0, hSw1, hSw2, hSw3, hSw4, hSw5, hSw6, hSw7, hSw8, hSw9, hSw10, hSw11, hSw12⟩ := hSw); go_simp; try with_reducible rfl)
  try simp only [Act.put, List.setIfInBounds_toArray, List.set_cons_zero, List.set_cons_succ]
  refine wpAnyH_ready (rs := [22]) (by kernel_rfl) (by simp) ?_
  refine AllReadyH.cons (o := ?oi9422) ?ho9422 (fun K hK => ?_) AllReadyH.nil
  case ho9422 => (simp only [List.getElem?_toArray, List.getElem?_cons_succ, List.getElem?_cons_zero]; rfl)
  go_simp
  go_at_call 30; (with_reducible refine (c_way (H0.out.same (hSS _ (by assumption)))).mono ?_); rintro e w' ⟨rfl, rfl⟩
  refine hK.out _ _ ?_ (fun hHeld => ?_)
  · (try dsimp only); assumption
  clear hK K
  try simp only [Act.put, List.setIfInBounds_toArray, List.set_cons_zero, List.set_cons_succ]
  refine wpAnyH_take (i := 26) (oi := ?oi95) (v := ?v95) ?hi95 (by kernel_rfl) (by kernel_rfl) (by kernel_rfl) ?hQ95 ?hy95 (by assumption) ?_
  case hi95 => (simp only [List.getElem?_toArray, List.getElem?_cons_succ, List.getElem?_cons_zero]; rfl)
  case hQ95 => exact fun _ _ _ h => h
  case hy95 => (refine Or.inl ⟨by rfl, ?_⟩; intro w hSw; (obtain ⟨hSw0, hSw1, hSw2, hSw3, hSw4, hSw5, hSw6, hSw7, hSw8, hSw9, hSw10, hSw11, hSw12⟩ := hSw); go_simp; try with_reducible rfl)
  try simp only [Act.put, List.setIfInBounds_toArray, List.set_cons_zero, List.set_cons_succ]
  refine wpAnyH_take (i := 27) (oi := ?oi96) (v := ?v96) ?hi96 (by kernel_rfl) (by kernel_rfl) (by kernel_rfl) ?hQ96 ?hy96 (by assumption) ?_
  case hi96 => (simp only [List.getElem?_toArray, List.getElem?_cons_succ, List.getElem?_cons_zero]; rfl)
  case hQ96 => exact fun _ _ _ h => h
  case hy96 => (refine Or.inl ⟨by rfl, ?_⟩; intro w hSw; (obtain ⟨hSw0, hSw1, hSw2, hSw3, hSw4, hSw5, hSw6, hSw7, hSw8, hSw9, hSw10, hSw11, hSw12⟩ := hSw); go_simp; try with_reducible rfl)
  try simp only [Act.put, List.setIfInBounds_toArray, List.set_cons_zero, List.set_cons_succ]
  refine wpAnyH_take (i := 28) (oi := ?oi97) (v := ?v97) ?hi97 (by kernel_rfl) (by kernel_rfl) (by kernel_rfl) ?hQ97 ?hy97 (by assumption) ?_
  case hi97 => (simp only [List.getElem?_toArray, List.getElem?_cons_succ, List.getElem?_cons_zero]; rfl)
  case hQ97 => exact fun _ _ _ h => h
  case hy97 => (refine Or.inl ⟨by rfl, ?_⟩; intro w hSw; (obtain ⟨hSw0, hSw1, hSw2, hSw3, hSw4, hSw5, hSw6, hSw7, hSw8, hSw9, hSw10, hSw11, hSw12⟩ := hSw); go_simp; try with_reducible rfl)
  try simp only [Act.put, List.setIfInBounds_toArray, List.set_cons_zero, List.set_cons_succ]
  refine wpAnyH_take (i := 29) (oi := ?oi98) (v := ?v98) ?hi98 (by kernel_rfl) (by kernel_rfl) (by kernel_rfl) ?hQ98 ?hy98 (by assumption) ?_
  case hi98 => (simp only [List.getElem?_toArray, List.getElem?_cons_succ, List.getElem?_cons_zero]; rfl)
  case hQ98 => exact fun _ _ _ h => h
  case hy98 => (refine Or.inl ⟨by rfl, ?_⟩; intro w hSw; (obtain ⟨hSw0, hSw1, hSw2, hSw3, hSw4, hSw5, hSw6, hSw7, hSw8, hSw9, hSw10, hSw11, hSw12⟩ := hSw); go_simp; try with_reducible rfl)
  try simp only [Act.put, List.setIfInBounds_toArray, List.set_cons_zero, List.set_cons_succ]
  refine wpAnyH_take (i := 31) (oi := ?oi99) (v := ?v99) ?hi99 (by kernel_rfl) (by kernel_rfl) (by kernel_rfl) ?hQ99 ?hy99 (by assumption) ?_
  case hi99 => (simp only [List.getElem?_toArray, List.getElem?_cons_succ, List.getElem?_cons_zero]; rfl)
  case hQ99 => exact fun _ _ _ h => h
  case hy99 => (refine Or.inl ⟨by rfl, ?_⟩; intro w hSw; (obtain ⟨hSw0, hSw1, hSw2, hSw3, hSw4, hSw5, hSw6, hSw7, hSw8, hSw9, hSw10, hSw11, hSw12⟩ := hSw); go_simp; try with_reducible rfl)
  try simp only [Act.put, List.setIfInBounds_toArray, List.set_cons_zero, List.set_cons_succ]
  refine wpAnyH_take (i := 32) (oi := ?oi100) (v := ?v100) ?hi100 (by kernel_rfl) (by kernel_rfl) (by kernel_rfl) ?hQ100 ?hy100 (by assumption) ?_
  case hi100 => (simp only [List.getElem?_toArray, List.getElem?_cons_succ, List.getElem?_cons_zero]; rfl)
  case hQ100 => exact fun _ _ _ h => h
  case hy100 => (refine Or.inl ⟨by rfl, ?_⟩; intro w hSw; (obtain ⟨hSw0, hSw1, hSw2, hSw3, hSw4, hSw5, hSw6, hSw7, hSw8, hSw9, hSw10, hSw11, hSw12⟩ := hSw); go_simp; try with_reducible rfl)
  try simp only [Act.put, List.setIfInBounds_toArray, List.set_cons_zero, List.set_cons_succ]
  refine wpAnyH_ready (rs := [30]) (by kernel_rfl) (by simp) ?_
  refine AllReadyH.cons (o := ?oi10130) ?ho10130 (fun K hK => ?_) AllReadyH.nil
  case ho10130 => (simp only [List.getElem?_toArray, List.getElem?_cons_succ, List.getElem?_cons_zero]; rfl)
  go_simp
  go_at_call 31; (with_reducible refine (c_knobs (H0.out.same (hSS _ (by assumption)))).mono ?_); rintro e wK ⟨rfl, hbK⟩; have hkK := SSm.keep hbK (by assumption)
  refine hK.out _ _ ?_ (fun hHeld => ?_)
  · (try dsimp only); assumption
  clear hK K
  try simp only [Act.put, List.setIfInBounds_toArray, List.set_cons_zero, List.set_cons_succ]
  refine wpAnyH_take (i := 33) (oi := ?oi102) (v := ?v102) ?hi102 (by kernel_rfl) (by kernel_rfl) (by kernel_rfl) ?hQ102 ?hy102 (by assumption) ?_
  case hi102 => (simp only [List.getElem?_toArray, List.getElem?_cons_succ, List.getElem?_cons_zero]; rfl)
  case hQ102 => exact fun _ _ _ h => h
  case hy102 => (refine Or.inl ⟨by rfl, ?_⟩; intro w hSw; (obtain ⟨hSw0, hSw1, hSw2, hSw3, hSw4, hSw5, hSw6, hSw7, hSw8, hSw9, hSw10, hSw11, hSw12⟩ := hSw); go_simp; try with_reducible rfl)
  try simp only [Act.put, List.setIfInBounds_toArray, List.set_cons_zero, List.set_cons_succ]
  refine wpAnyH_take (i := 34) (oi := ?oi103) (v := ?v103) ?hi103 (by kernel_rfl) (by kernel_rfl) (by kernel_rfl) ?hQ103 ?hy103 (by assumption) ?_
  case hi103 => (simp only [List.getElem?_toArray, List.getElem?_cons_succ, List.getElem?_cons_zero]; rfl)
  case hQ103 => exact fun _ _ _ h => h
  case hy103 => (refine Or.inl ⟨by rfl, ?_⟩; intro w hSw; (obtain ⟨hSw0, hSw1, hSw2, hSw3, hSw4, hSw5, hSw6, hSw7, hSw8, hSw9, hSw10, hSw11, hSw12⟩ := hSw); go_simp; try with_reducible rfl)
  try simp only [Act.put, List.setIfInBounds_toArray, List.set_cons_zero, List.set_cons_succ]
  refine wpAnyH_take (i := 35) (oi := ?oi104) (v := ?v104) ?hi104 (by kernel_rfl) (by kernel_rfl) (by kernel_rfl) ?hQ104 ?hy104 (by assumption) ?_
  case hi104 => (simp only [List.getElem?_toArray, List.getElem?_cons_succ, List.getElem?_cons_zero]; rfl)
  case hQ104 => exact fun _ _ _ h => h
  case hy104 => (refine Or.inl ⟨by rfl, ?_⟩; intro w hSw; (obtain ⟨hSw0, hSw1, hSw2, hSw3, hSw4, hSw5, hSw6, hSw7, hSw8, hSw9, hSw10, hSw11, hSw12⟩ := hSw); go_simp; try with_reducible rfl)
  try simp only [Act.put, List.setIfInBounds_toArray, List.set_cons_zero, List.set_cons_succ]
  refine wpAnyH_take (i := 36) (oi := ?oi105) (v := ?v105) ?hi105 (by kernel_rfl) (by kernel_rfl) (by kernel_rfl) ?hQ105 ?hy105 (by assumption) ?_
  case hi105 => (simp only [List.getElem?_toArray, List.getElem?_cons_succ, List.getElem?_cons_zero]; rfl)
  case hQ105 => exact fun _ _ _ h => h
  case hy105 => (refine Or.inl ⟨by rfl, ?_⟩; intro w hSw; (obtain ⟨hSw0, hSw1, hSw2, hSw3, hSw4, hSw5, hSw6, hSw7, hSw8, hSw9, hSw10, hSw11, hSw12⟩ := hSw); go_simp; try with_reducible rfl)
  try simp only [Act.put, List.setIfInBounds_toArray, List.set_cons_zero, List.set_cons_succ]
  refine wpAnyH_take (i := 38) (oi := ?oi106) (v := zV z sv wv) ?hi106 (by kernel_rfl) (by kernel_rfl) (by kernel_rfl) ?hQ106 ?hy106 (by assumption) ?_
  case hi106 => (simp only [List.getElem?_toArray, List.getElem?_cons_succ, List.getElem?_cons_zero]; rfl)
  case hQ106 => exact fun _ _ _ h => h
  case hy106 => exact yieldsIf_load_mid (by rfl) 38 _ (by rfl) B 0 (by rfl) (zC z sv wv) _ (fun w hw => hw.1) Tryz.underlying38 rfl zinfo
  try simp only [Act.put, List.setIfInBounds_toArray, List.set_cons_zero, List.set_cons_succ]
  refine wpAnyH_ready (rs := [37]) (by kernel_rfl) (by simp) ?_
  refine AllReadyH.cons (o := ?oi10737) ?ho10737 (fun K hK => ?_) AllReadyH.nil
  case ho10737 => (simp only [List.getElem?_toArray, List.getElem?_cons_succ, List.getElem?_cons_zero]; rfl)
  go_simp
  go_at_call 32; (with_reducible refine (c_calm (H0.out.same (hSS _ (by assumption)))).mono ?_); rintro e wK ⟨rfl, hbK⟩; have hkK := SSm.keep hbK (by assumption)
  refine hK.out _ _ ?_ (fun hHeld => ?_)
  · (try dsimp only); assumption
  clear hK K
  try simp only [Act.put, List.setIfInBounds_toArray, List.set_cons_zero, List.set_cons_succ]
  refine wpAnyH_ready (rs := [39]) (by kernel_rfl) (by simp) ?_
  refine AllReadyH.cons (o := ?oi10839) ?ho10839 (fun K hK => ?_) AllReadyH.nil
  case ho10839 => (simp only [List.getElem?_toArray, List.getElem?_cons_succ, List.getElem?_cons_zero]; rfl)
  go_simp
  go_at_call 33; (with_reducible refine (rcalmz z sv wv _).mono ?_); rintro e wK ⟨rfl, hbK⟩; have hkK := SSm.keep hbK (by assumption)
  refine hK.out _ _ ?_ (fun hHeld => ?_)
  · (try dsimp only); assumption
  clear hK K
  try simp only [Act.put, List.setIfInBounds_toArray, List.set_cons_zero, List.set_cons_succ]
  refine wpAnyH_take (i := 40) (oi := ?oi109) (v := ?v109) ?hi109 (by kernel_rfl) (by kernel_rfl) (by kernel_rfl) ?hQ109 ?hy109 (by assumption) ?_
  case hi109 => (simp only [List.getElem?_toArray, List.getElem?_cons_succ, List.getElem?_cons_zero]; rfl)
  case hQ109 => exact fun _ _ _ h => h
  case hy109 => (refine Or.inl ⟨by rfl, ?_⟩; intro w hSw; (obtain ⟨hSw0, hSw1, hSw2, hSw3, hSw4, hSw5, hSw6, hSw7, hSw8, hSw9, hSw10, hSw11, hSw12⟩ := hSw); go_simp; try with_reducible rfl)
  try simp only [Act.put, List.setIfInBounds_toArray, List.set_cons_zero, List.set_cons_succ]
  refine wpAnyH_take (i := 41) (oi := ?oi110) (v := ?v110) ?hi110 (by kernel_rfl) (by kernel_rfl) (by kernel_rfl) ?hQ110 ?hy110 (by assumption) ?_
  case hi110 => (simp only [List.getElem?_toArray, List.getElem?_cons_succ, List.getElem?_cons_zero]; rfl)
  case hQ110 => exact fun _ _ _ h => h
  case hy110 => (refine Or.inl ⟨by rfl, ?_⟩; intro w hSw; (obtain ⟨hSw0, hSw1, hSw2, hSw3, hSw4, hSw5, hSw6, hSw7, hSw8, hSw9, hSw10, hSw11, hSw12⟩ := hSw); go_simp; try with_reducible rfl)
  try simp only [Act.put, List.setIfInBounds_toArray, List.set_cons_zero, List.set_cons_succ]
  refine wpAnyH_take (i := 42) (oi := ?oi111) (v := ?v111) ?hi111 (by kernel_rfl) (by kernel_rfl) (by kernel_rfl) ?hQ111 ?hy111 (by assumption) ?_
  case hi111 => (simp only [List.getElem?_toArray, List.getElem?_cons_succ, List.getElem?_cons_zero]; rfl)
  case hQ111 => exact fun _ _ _ h => h
  case hy111 => (refine Or.inl ⟨by rfl, ?_⟩; intro w hSw; (obtain ⟨hSw0, hSw1, hSw2, hSw3, hSw4, hSw5, hSw6, hSw7, hSw8, hSw9, hSw10, hSw11, hSw12⟩ := hSw); go_simp; try with_reducible rfl)
  try simp only [Act.put, List.setIfInBounds_toArray, List.set_cons_zero, List.set_cons_succ]
  refine wpAnyH_take (i := 43) (oi := ?oi112) (v := ?v112) ?hi112 (by kernel_rfl) (by kernel_rfl) (by kernel_rfl) ?hQ112 ?hy112 (by assumption) ?_
  case hi112 => (simp only [List.getElem?_toArray, List.getElem?_cons_succ, List.getElem?_cons_zero]; rfl)
  case hQ112 => exact fun _ _ _ h => h
  case hy112 => (refine Or.inl ⟨by rfl, ?_⟩; intro w hSw; (obtain ⟨hSw0, hSw1, hSw2, hSw3, hSw4, hSw5, hSw6, hSw7, hSw8, hSw9, hSw10, hSw11, hSw12⟩ := hSw); go_simp; try with_reducible rfl)
  try simp only [Act.put, List.setIfInBounds_toArray, List.set_cons_zero, List.set_cons_succ]
  refine wpAnyH_take (i := 44) (oi := ?oi113) (v := ?v113) ?hi113 (by kernel_rfl) (by kernel_rfl) (by kernel_rfl) ?hQ113 ?hy113 (by assumption) ?_
  case hi113 => (simp only [List.getElem?_toArray, List.getElem?_cons_succ, List.getElem?_cons_zero]; rfl)
  case hQ113 => exact fun _ _ _ h => h
  case hy113 => (refine Or.inl ⟨by rfl, ?_⟩; intro w hSw; (obtain ⟨hSw0, hSw1, hSw2, hSw3, hSw4, hSw5, hSw6, hSw7, hSw8, hSw9, hSw10, hSw11, hSw12⟩ := hSw); go_simp; try with_reducible rfl)
  try simp only [Act.put, List.setIfInBounds_toArray, List.set_cons_zero, List.set_cons_succ]
  refine wpAnyH_take (i := 46) (oi := ?oi114) (v := ?v114) ?hi114 (by kernel_rfl) (by kernel_rfl) (by kernel_rfl) ?hQ114 ?hy114 (by assumption) ?_
  case hi114 => (simp only [List.getElem?_toArray, List.getElem?_cons_succ, List.getElem?_cons_zero]; rfl)
  case hQ114 => exact fun _ _ _ h => h
  case hy114 => (refine Or.inl ⟨by rfl, ?_⟩; intro w hSw; (obtain ⟨hSw0, hSw1, hSw2, hSw3, hSw4, hSw5, hSw6, hSw7, hSw8, hSw9, hSw10, hSw11, hSw12⟩ := hSw); go_simp; try with_reducible rfl)
  try simp only [Act.put, List.setIfInBounds_toArray, List.set_cons_zero, List.set_cons_succ]
  refine wpAnyH_take (i := 47) (oi := ?oi115) (v := ?v115) ?hi115 (by kernel_rfl) (by kernel_rfl) (by kernel_rfl) ?hQ115 ?hy115 (by assumption) ?_
  case hi115 => (simp only [List.getElem?_toArray, List.getElem?_cons_succ, List.getElem?_cons_zero]; rfl)
  case hQ115 => exact fun _ _ _ h => h
  case hy115 => (refine Or.inl ⟨by rfl, ?_⟩; intro w hSw; (obtain ⟨hSw0, hSw1, hSw2, hSw3, hSw4, hSw5, hSw6, hSw7, hSw8, hSw9, hSw10, hSw11, hSw12⟩ := hSw); go_simp; try with_reducible rfl)
  try simp only [Act.put, List.setIfInBounds_toArray, List.set_cons_zero, List.set_cons_succ]
  refine wpAnyH_ready (rs := [45]) (by kernel_rfl) (by simp) ?_
  refine AllReadyH.cons (o := ?oi11645) ?ho11645 (fun K hK => ?_) AllReadyH.nil
  case ho11645 => (simp only [List.getElem?_toArray, List.getElem?_cons_succ, List.getElem?_cons_zero]; rfl)
  go_simp
  go_at_call 19; (with_reducible refine (passes_out hn (H0.out.same (hSS _ (by assumption)))).mono ?_); rintro e w' ⟨rfl, rfl⟩
  refine hK.out _ _ ?_ (fun hHeld => ?_)
  · (try dsimp only); assumption
  clear hK K
  try simp only [Act.put, List.setIfInBounds_toArray, List.set_cons_zero, List.set_cons_succ]
  refine wpAnyH_take (i := 48) (oi := ?oi117) (v := ?v117) ?hi117 (by kernel_rfl) (by kernel_rfl) (by kernel_rfl) ?hQ117 ?hy117 (by assumption) ?_
  case hi117 => (simp only [List.getElem?_toArray, List.getElem?_cons_succ, List.getElem?_cons_zero]; rfl)
  case hQ117 => exact fun _ _ _ h => h
  case hy117 => (refine Or.inl ⟨by rfl, ?_⟩; intro w hSw; (obtain ⟨hSw0, hSw1, hSw2, hSw3, hSw4, hSw5, hSw6, hSw7, hSw8, hSw9, hSw10, hSw11, hSw12⟩ := hSw); go_simp; try with_reducible rfl)
  try simp only [Act.put, List.setIfInBounds_toArray, List.set_cons_zero, List.set_cons_succ]
  refine wpAnyH_take (i := 49) (oi := ?oi118) (v := undef) ?hi118 (by kernel_rfl) (by kernel_rfl) (by kernel_rfl) ?hQ118 ?hy118 (by assumption) ?_
  case hi118 => (simp only [List.getElem?_toArray, List.getElem?_cons_succ, List.getElem?_cons_zero]; rfl)
  case hQ118 => exact fun _ _ _ h => h
  case hy118 => exact Or.inr ⟨by rfl, rfl⟩
  try simp only [Act.put, List.setIfInBounds_toArray, List.set_cons_zero, List.set_cons_succ]
  refine wpAnyH_take (i := 50) (oi := ?oi119) (v := undef) ?hi119 (by kernel_rfl) (by kernel_rfl) (by kernel_rfl) ?hQ119 ?hy119 (by assumption) ?_
  case hi119 => (simp only [List.getElem?_toArray, List.getElem?_cons_succ, List.getElem?_cons_zero]; rfl)
  case hQ119 => exact fun _ _ _ h => h
  case hy119 => exact Or.inr ⟨by rfl, rfl⟩
  try simp only [Act.put, List.setIfInBounds_toArray, List.set_cons_zero, List.set_cons_succ]
  refine wpAnyH_take (i := 51) (oi := ?oi120) (v := undef) ?hi120 (by kernel_rfl) (by kernel_rfl) (by kernel_rfl) ?hQ120 ?hy120 (by assumption) ?_
  case hi120 => (simp only [List.getElem?_toArray, List.getElem?_cons_succ, List.getElem?_cons_zero]; rfl)
  case hQ120 => exact fun _ _ _ h => h
  case hy120 => exact Or.inr ⟨by rfl, rfl⟩
  try simp only [Act.put, List.setIfInBounds_toArray, List.set_cons_zero, List.set_cons_succ]
  refine wpAnyH_take (i := 52) (oi := ?oi121) (v := undef) ?hi121 (by kernel_rfl) (by kernel_rfl) (by kernel_rfl) ?hQ121 ?hy121 (by assumption) ?_
  case hi121 => (simp only [List.getElem?_toArray, List.getElem?_cons_succ, List.getElem?_cons_zero]; rfl)
  case hQ121 => exact fun _ _ _ h => h
  case hy121 => exact Or.inr ⟨by rfl, rfl⟩
  try simp only [Act.put, List.setIfInBounds_toArray, List.set_cons_zero, List.set_cons_succ]
  refine wpAnyH_take (i := 53) (oi := ?oi122) (v := ?v122) ?hi122 (by kernel_rfl) (by kernel_rfl) (by kernel_rfl) ?hQ122 ?hy122 (by assumption) ?_
  case hi122 => (simp only [List.getElem?_toArray, List.getElem?_cons_succ, List.getElem?_cons_zero]; rfl)
  case hQ122 => exact fun _ _ _ h => h
  case hy122 => (refine Or.inl ⟨by rfl, ?_⟩; intro w hSw; (obtain ⟨hSw0, hSw1, hSw2, hSw3, hSw4, hSw5, hSw6, hSw7, hSw8, hSw9, hSw10, hSw11, hSw12⟩ := hSw); go_simp; try with_reducible rfl)
  try simp only [Act.put, List.setIfInBounds_toArray, List.set_cons_zero, List.set_cons_succ]
  refine wpAnyH_take (i := 54) (oi := ?oi123) (v := ?v123) ?hi123 (by kernel_rfl) (by kernel_rfl) (by kernel_rfl) ?hQ123 ?hy123 (by assumption) ?_
  case hi123 => (simp only [List.getElem?_toArray, List.getElem?_cons_succ, List.getElem?_cons_zero]; rfl)
  case hQ123 => exact fun _ _ _ h => h
  case hy123 => (refine Or.inl ⟨by rfl, ?_⟩; intro w hSw; (obtain ⟨hSw0, hSw1, hSw2, hSw3, hSw4, hSw5, hSw6, hSw7, hSw8, hSw9, hSw10, hSw11, hSw12⟩ := hSw); go_simp; try with_reducible rfl)
  try simp only [Act.put, List.setIfInBounds_toArray, List.set_cons_zero, List.set_cons_succ]
  refine wpAnyH_take (i := 55) (oi := ?oi124) (v := ?v124) ?hi124 (by kernel_rfl) (by kernel_rfl) (by kernel_rfl) ?hQ124 ?hy124 (by assumption) ?_
  case hi124 => (simp only [List.getElem?_toArray, List.getElem?_cons_succ, List.getElem?_cons_zero]; rfl)
  case hQ124 => exact fun _ _ _ h => h
  case hy124 => (refine Or.inl ⟨by rfl, ?_⟩; intro w hSw; (obtain ⟨hSw0, hSw1, hSw2, hSw3, hSw4, hSw5, hSw6, hSw7, hSw8, hSw9, hSw10, hSw11, hSw12⟩ := hSw); go_simp; try with_reducible rfl)
  try simp only [Act.put, List.setIfInBounds_toArray, List.set_cons_zero, List.set_cons_succ]
  refine wpAnyH_take (i := 56) (oi := ?oi125) (v := ?v125) ?hi125 (by kernel_rfl) (by kernel_rfl) (by kernel_rfl) ?hQ125 ?hy125 (by assumption) ?_
  case hi125 => (simp only [List.getElem?_toArray, List.getElem?_cons_succ, List.getElem?_cons_zero]; rfl)
  case hQ125 => exact fun _ _ _ h => h
  case hy125 => (refine Or.inl ⟨by rfl, ?_⟩; intro w hSw; (obtain ⟨hSw0, hSw1, hSw2, hSw3, hSw4, hSw5, hSw6, hSw7, hSw8, hSw9, hSw10, hSw11, hSw12⟩ := hSw); go_simp; try with_reducible rfl)
  try simp only [Act.put, List.setIfInBounds_toArray, List.set_cons_zero, List.set_cons_succ]
  refine wpAnyH_take (i := 57) (oi := ?oi126) (v := ?v126) ?hi126 (by kernel_rfl) (by kernel_rfl) (by kernel_rfl) ?hQ126 ?hy126 (by assumption) ?_
  case hi126 => (simp only [List.getElem?_toArray, List.getElem?_cons_succ, List.getElem?_cons_zero]; rfl)
  case hQ126 => exact fun _ _ _ h => h
  case hy126 => (refine Or.inl ⟨by rfl, ?_⟩; intro w hSw; (obtain ⟨hSw0, hSw1, hSw2, hSw3, hSw4, hSw5, hSw6, hSw7, hSw8, hSw9, hSw10, hSw11, hSw12⟩ := hSw); go_simp; try with_reducible rfl)
  try simp only [Act.put, List.setIfInBounds_toArray, List.set_cons_zero, List.set_cons_succ]
  refine wpAnyH_take (i := 58) (oi := ?oi127) (v := ?v127) ?hi127 (by kernel_rfl) (by kernel_rfl) (by kernel_rfl) ?hQ127 ?hy127 (by assumption) ?_
  case hi127 => (simp only [List.getElem?_toArray, List.getElem?_cons_succ, List.getElem?_cons_zero]; rfl)
  case hQ127 => exact fun _ _ _ h => h
  case hy127 => (refine Or.inl ⟨by rfl, ?_⟩; intro w hSw; (obtain ⟨hSw0, hSw1, hSw2, hSw3, hSw4, hSw5, hSw6, hSw7, hSw8, hSw9, hSw10, hSw11, hSw12⟩ := hSw); go_simp; try with_reducible rfl)
  try simp only [Act.put, List.setIfInBounds_toArray, List.set_cons_zero, List.set_cons_succ]
  refine wpAnyH_take (i := 60) (oi := ?oi128) (v := ?v128) ?hi128 (by kernel_rfl) (by kernel_rfl) (by kernel_rfl) ?hQ128 ?hy128 (by assumption) ?_
  case hi128 => (simp only [List.getElem?_toArray, List.getElem?_cons_succ, List.getElem?_cons_zero]; rfl)
  case hQ128 => exact fun _ _ _ h => h
  case hy128 => (refine Or.inl ⟨by rfl, ?_⟩; intro w hSw; (obtain ⟨hSw0, hSw1, hSw2, hSw3, hSw4, hSw5, hSw6, hSw7, hSw8, hSw9, hSw10, hSw11, hSw12⟩ := hSw); go_simp; try with_reducible rfl)
  try simp only [Act.put, List.setIfInBounds_toArray, List.set_cons_zero, List.set_cons_succ]
  refine wpAnyH_take (i := 61) (oi := ?oi129) (v := ?v129) ?hi129 (by kernel_rfl) (by kernel_rfl) (by kernel_rfl) ?hQ129 ?hy129 (by assumption) ?_
  case hi129 => (simp only [List.getElem?_toArray, List.getElem?_cons_succ, List.getElem?_cons_zero]; rfl)
  case hQ129 => exact fun _ _ _ h => h
  case hy129 => (refine Or.inl ⟨by rfl, ?_⟩; intro w hSw; (obtain ⟨hSw0, hSw1, hSw2, hSw3, hSw4, hSw5, hSw6, hSw7, hSw8, hSw9, hSw10, hSw11, hSw12⟩ := hSw); go_simp; try with_reducible rfl)
  try simp only [Act.put, List.setIfInBounds_toArray, List.set_cons_zero, List.set_cons_succ]
  refine wpAnyH_take (i := 62) (oi := ?oi130) (v := ?v130) ?hi130 (by kernel_rfl) (by kernel_rfl) (by kernel_rfl) ?hQ130 ?hy130 (by assumption) ?_
  case hi130 => (simp only [List.getElem?_toArray, List.getElem?_cons_succ, List.getElem?_cons_zero]; rfl)
  case hQ130 => exact fun _ _ _ h => h
  case hy130 => (refine Or.inl ⟨by rfl, ?_⟩; intro w hSw; (obtain ⟨hSw0, hSw1, hSw2, hSw3, hSw4, hSw5, hSw6, hSw7, hSw8, hSw9, hSw10, hSw11, hSw12⟩ := hSw); go_simp; try with_reducible rfl)
  try simp only [Act.put, List.setIfInBounds_toArray, List.set_cons_zero, List.set_cons_succ]
  refine wpAnyH_take (i := 63) (oi := ?oi131) (v := ?v131) ?hi131 (by kernel_rfl) (by kernel_rfl) (by kernel_rfl) ?hQ131 ?hy131 (by assumption) ?_
  case hi131 => (simp only [List.getElem?_toArray, List.getElem?_cons_succ, List.getElem?_cons_zero]; rfl)
  case hQ131 => exact fun _ _ _ h => h
  case hy131 => (refine Or.inl ⟨by rfl, ?_⟩; intro w hSw; (obtain ⟨hSw0, hSw1, hSw2, hSw3, hSw4, hSw5, hSw6, hSw7, hSw8, hSw9, hSw10, hSw11, hSw12⟩ := hSw); go_simp; try with_reducible rfl)
  try simp only [Act.put, List.setIfInBounds_toArray, List.set_cons_zero, List.set_cons_succ]
  refine wpAnyH_take (i := 64) (oi := ?oi132) (v := ?v132) ?hi132 (by kernel_rfl) (by kernel_rfl) (by kernel_rfl) ?hQ132 ?hy132 (by assumption) ?_
  case hi132 => (simp only [List.getElem?_toArray, List.getElem?_cons_succ, List.getElem?_cons_zero]; rfl)
  case hQ132 => exact fun _ _ _ h => h
  case hy132 => (refine Or.inl ⟨by rfl, ?_⟩; intro w hSw; (obtain ⟨hSw0, hSw1, hSw2, hSw3, hSw4, hSw5, hSw6, hSw7, hSw8, hSw9, hSw10, hSw11, hSw12⟩ := hSw); go_simp; try with_reducible rfl)
  try simp only [Act.put, List.setIfInBounds_toArray, List.set_cons_zero, List.set_cons_succ]
  refine wpAnyH_ready (rs := [59]) (by kernel_rfl) (by simp) ?_
  refine AllReadyH.cons (o := ?oi13359) ?ho13359 (fun K hK => ?_) AllReadyH.nil
  case ho13359 => (simp only [List.getElem?_toArray, List.getElem?_cons_succ, List.getElem?_cons_zero]; rfl)
  go_simp
  go_at_call 20; (with_reducible refine (c_permits n (H0.out.same (hSS _ (by assumption)))).mono ?_); rintro e w' ⟨rfl, rfl⟩
  refine hK.out _ _ ?_ (fun hHeld => ?_)
  · (try dsimp only); assumption
  clear hK K
  try simp only [Act.put, List.setIfInBounds_toArray, List.set_cons_zero, List.set_cons_succ]
  refine wpAnyH_take (i := 65) (oi := ?oi134) (v := ?v134) ?hi134 (by kernel_rfl) (by kernel_rfl) (by kernel_rfl) ?hQ134 ?hy134 (by assumption) ?_
  case hi134 => (simp only [List.getElem?_toArray, List.getElem?_cons_succ, List.getElem?_cons_zero]; rfl)
  case hQ134 => exact fun _ _ _ h => h
  case hy134 => (refine Or.inl ⟨by rfl, ?_⟩; intro w hSw; (obtain ⟨hSw0, hSw1, hSw2, hSw3, hSw4, hSw5, hSw6, hSw7, hSw8, hSw9, hSw10, hSw11, hSw12⟩ := hSw); go_simp; try with_reducible rfl)
  try simp only [Act.put, List.setIfInBounds_toArray, List.set_cons_zero, List.set_cons_succ]
  refine wpAnyH_take (i := 66) (oi := ?oi135) (v := ?v135) ?hi135 (by kernel_rfl) (by kernel_rfl) (by kernel_rfl) ?hQ135 ?hy135 (by assumption) ?_
  case hi135 => (simp only [List.getElem?_toArray, List.getElem?_cons_succ, List.getElem?_cons_zero]; rfl)
  case hQ135 => exact fun _ _ _ h => h
  case hy135 => (refine Or.inl ⟨by rfl, ?_⟩; intro w hSw; (obtain ⟨hSw0, hSw1, hSw2, hSw3, hSw4, hSw5, hSw6, hSw7, hSw8, hSw9, hSw10, hSw11, hSw12⟩ := hSw); go_simp; try with_reducible rfl)
  try simp only [Act.put, List.setIfInBounds_toArray, List.set_cons_zero, List.set_cons_succ]
  refine wpAnyH_take (i := 67) (oi := ?oi136) (v := ?v136) ?hi136 (by kernel_rfl) (by kernel_rfl) (by kernel_rfl) ?hQ136 ?hy136 (by assumption) ?_
  case hi136 => (simp only [List.getElem?_toArray, List.getElem?_cons_succ, List.getElem?_cons_zero]; rfl)
  case hQ136 => exact fun _ _ _ h => h
  case hy136 => (refine Or.inl ⟨by rfl, ?_⟩; intro w hSw; (obtain ⟨hSw0, hSw1, hSw2, hSw3, hSw4, hSw5, hSw6, hSw7, hSw8, hSw9, hSw10, hSw11, hSw12⟩ := hSw); go_simp; try with_reducible rfl)
  try simp only [Act.put, List.setIfInBounds_toArray, List.set_cons_zero, List.set_cons_succ]
  refine wpAnyH_done (by kernel_rfl) ?_ _
  go_wp2
  have hB := B0.out.trans ((hSS _ (by assumption)).mono B0.out.size)
  go_ret
  exact ⟨rfl, hB⟩
theorem same20 (n : Int) (sv wv : Value) (h : CtlAt w C T D S L z) : Calls Tryz.prog 7 #[.pointer (some ⟨C, 0, none⟩), zV z sv wv, .int .i64 n] w fun e w' => e = .returned (.bool true) ∧ Below w.heap.size w w' := by
  rcases Int.lt_or_le n 0 with hn | hn
  · exact same20_out n sv wv hn h
  · exact same20_in n sv wv hn h
end
end Go.Proofs.YtagfbnfbiadpfaaGreat
