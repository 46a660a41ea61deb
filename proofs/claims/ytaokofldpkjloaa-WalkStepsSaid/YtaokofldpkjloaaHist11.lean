/-
  Layer 10 (hist): the statement HistNobody.
-/
import Derived.Test.YtaokofldpkjloaaHist7
namespace Go.Proofs.Ytaokofldpkjloaa
open Go.RowKit Go.Shelf
set_option linter.unusedVariables false
set_option linter.unusedSimpArgs false

set_option maxRecDepth 100000 in
set_option maxHeartbeats 1000000 in
theorem all_zeroH (b : Nat) (c : List Int) (w : World) (h : HistAt w b 0 c) :
    Calls Try.prog 23 #[.pointer (some ⟨b, 0, none⟩)] w fun e w' => ∃ v cap, e = .returned (.slice v 0 cap) ∧ Below w.heap.size w w' := by
  have cl := h.lev
  have hlt := h.o.lt
  clear h
  go_enter Try.func23, Try.ntmps23
  go_wp2_with fail
  go_region_held3 (fun w' => w'.cell? ⟨b, 0, none⟩ = some (.int .i64 0)) (first | go_keep) (fail)
  go_wp2
  go_ret
  exact ⟨some ⟨w.heap.size, 0, none⟩, 0, by simp, below_drewN ((Below.refl w.heap.size w).alloc (Nat.le_refl _) (.cells #[] 3)) 1⟩
def cN : List Int := hadd 2 zeros 1 1
theorem hnew2 (w : World) : Calls Try.prog 8 #[.int .i64 2] w fun e w' => e = .returned (.tuple #[.pointer (some ⟨w.heap.size, 0, none⟩), .int .i64 0]) ∧ HistAt w' w.heap.size 2 zeros ∧ Below w.heap.size w w' := hnew_ok 2 w (by omega) (by omega)
theorem hcount2 (b : Nat) (w : World) (h : HistAt w b 2 zeros) : Calls Try.prog 16 #[.pointer (some ⟨b, 0, none⟩), .int .i64 1] w fun e w' => e = .returned (.bool true) ∧ HistAt w' b 2 cN ∧ Only b w w' := count_any b 2 zeros 1 w h
theorem hmany2 (b : Nat) (w : World) (h : HistAt w b 2 cN) : Calls Try.prog 24 #[.pointer (some ⟨b, 0, none⟩), .int .i64 1] w fun e w' => e = .returned (.int .i64 1) ∧ w = w' := by
  have K := many_any b 2 cN 1 w h
  rwa [show manyL 2 cN 1 = 1 by decide +kernel] at K
theorem hall2 (b : Nat) (w : World) (h : HistAt w b 2 cN) : Calls Try.prog 23 #[.pointer (some ⟨b, 0, none⟩)] w fun e w' => ∃ g cap, e = .returned (.slice (some ⟨g, 0, none⟩) 2 cap) ∧ w'.ownsRow w.heap.size 3 1 (.slice (some ⟨g, 0, none⟩) 2 cap) 2 ((cN.take 2).map (Value.int .i64)) ∧ Below w.heap.size w w' := all_anyH b 2 cN w h (by omega)
structure NoAt (w : World) (H B : Nat) (W : World) : Prop where
  o : HistAt W H 0 zeros
  h : HistAt W B 2 cN
  b : Below H w W
theorem NoAt.next {w : World} {H B : Nat} {W W' : World} (h : NoAt w H B W) (hb : Below W.heap.size W W') : NoAt w H B W' := ⟨h.o.same hb, h.h.same hb, h.b.trans (hb.mono (by have := h.o.o.lt; omega))⟩
section
variable {w : World} {H B : Nat} {W : World}
theorem no_below (T : Int) (h : NoAt w H B W) : Calls Try.prog 12 #[.pointer (some ⟨H, 0, none⟩), .int .i64 T] W fun e W' => e = .returned (.int .i64 0) ∧ NoAt w H B W' := by
  have K := below_anyH H 0 zeros T W h.o
  rw [show belowH 0 zeros T = 0 by unfold belowH; split <;> simp [sumH]] at K
  exact K.mono fun _ _ ⟨he, hb⟩ => ⟨he, h.next hb⟩
theorem no_total (h : NoAt w H B W) : Calls Try.prog 14 #[.pointer none] W fun e W' => e = .returned (.int .i64 0) ∧ NoAt w H B W' := (total_nil W).mono fun _ _ ⟨he, hb⟩ => ⟨he, h.next hb⟩
theorem no_most (m : Int) (h : NoAt w H B W) : Calls Try.prog 11 #[.pointer (some ⟨H, 0, none⟩), .int .i64 m] W fun e W' => e = .returned (.int .i64 0) ∧ NoAt w H B W' := by
  have K := most_anyH H 0 zeros m W h.o
  have hm := most_spec 0 zeros m
  rw [show mostH 0 zeros m = 0 by omega] at K
  exact K.mono fun _ _ ⟨he, hb⟩ => ⟨he, h.next hb⟩
theorem no_all (h : NoAt w H B W) : Calls Try.prog 23 #[.pointer (some ⟨H, 0, none⟩)] W fun e W' => (∃ v cap, e = .returned (.slice v 0 cap)) ∧ NoAt w H B W' := (all_zeroH H zeros W h.o).mono fun _ _ ⟨v, cap, he, hb⟩ => ⟨⟨v, cap, he⟩, h.next hb⟩
theorem no_add (lev m : Int) (h : NoAt w H B W) : Calls Try.prog 9 #[.pointer (some ⟨H, 0, none⟩), .int .i64 lev, .int .i64 m] W fun e W' => e = .returned (.bool false) ∧ W = W' := hadd_out H 0 zeros lev m W h.o (by unfold hasL; rw [decide_eq_false_iff_not]; omega)
theorem no_awake (h : NoAt w H B W) : Calls Try.prog 7 #[] W fun e W' => e = .returned (.bool true) ∧ NoAt w H B W' := (hawake_any W).mono fun _ _ ⟨he, hb⟩ => ⟨he, h.next hb⟩
end
set_option maxRecDepth 100000 in
set_option maxHeartbeats 4000000 in
theorem nobody_walk (lev many : Int) (w : World) :
    Calls Try.prog 5 #[.int .i64 lev, .int .i64 many] w fun e w' => e = .returned (.bool true) ∧ Below w.heap.size w w' := by
  have zv := zero_hist
  have hne := hst_ne 0 zeros
  obtain ⟨H, hH⟩ : ∃ H, H = w.heap.size := ⟨_, rfl⟩
  have b0 : Below H w (w.alloc (.cells (hstCells 0 zeros).toArray 48)) := by rw [hH]; exact (Below.refl _ w).alloc (Nat.le_refl _) _
  have h0 : HistAt (w.alloc (.cells (hstCells 0 zeros).toArray 48)) H 0 zeros := by rw [hH]; exact ⟨IsObj.new w _ (hstCells 0 zeros), zeros_len, by omega⟩
  have B0 := Lib.hid b0
  have H0 := Lib.hid h0
  have HH := Lib.hid hH
  have hn2 : w.heap.size ≤ H := by omega
  clear b0 h0 hH
  go_enter Try.func5, Try.ntmps5
  go_wp2_with fail
  rw [← HH.out]
  refine (hclear_nil _).mono ?_
  rintro e w' ⟨rfl, rfl⟩
  go_wp2_with fail
  refine (hclear_any H 0 zeros _ H0.out).mono ?_
  rintro e w1 ⟨rfl, h1, o1⟩
  have H1 := Lib.hid h1
  have B1 := Lib.hid (B0.out.trans (o1.below (Nat.le_refl _) (by have := H0.out.o.lt; omega)))
  clear h1 o1 H0 B0
  go_wp2_with fail
  refine (least_nilH 1 _).mono ?_
  rintro e w2 ⟨rfl, b2⟩
  have H2 := Lib.hid (H1.out.same b2)
  have B2 := Lib.hid (B1.out.trans (b2.mono (by have := H1.out.o.lt; omega)))
  clear b2 H1 B1
  unfold firstV
  go_wp2_with fail
  refine (least_zero H zeros 1 _ H2.out).mono ?_
  rintro e w3 ⟨rfl, b3⟩
  have H3 := Lib.hid (H2.out.same b3)
  have B3 := Lib.hid (B2.out.trans (b3.mono (by have := H2.out.o.lt; omega)))
  clear b3 H2 B2
  unfold firstV
  go_wp2_with fail
  refine (hnew2 _).mono ?_
  rintro e w4 ⟨rfl, h4, b4⟩
  obtain ⟨B, hB⟩ : ∃ B, B = w3.heap.size := ⟨_, rfl⟩
  rw [← hB] at h4 ⊢
  have hHB : H < B := by rw [hB]; exact H3.out.o.lt
  have G4 := Lib.hid h4
  have H4 := Lib.hid (H3.out.same b4)
  have B4 := Lib.hid (B3.out.trans (b4.mono (by omega)))
  clear b4 h4 H3 B3 hB
  go_wp2_with fail
  refine (hcount2 B _ G4.out).mono ?_
  rintro e w5 ⟨rfl, g5, o5⟩
  have G5 := Lib.hid g5
  have H5 := Lib.hid (show HistAt w5 H 0 zeros from ⟨IsObj.only H4.out.o o5 (by omega), zeros_len, by omega⟩)
  have B5 := Lib.hid (B4.out.trans (o5.below (by omega) (by have := H4.out.o.lt; omega)))
  clear o5 g5 G4 H4 B4
  go_wp2_with fail
  refine (hall2 B _ G5.out).mono ?_
  rintro e w6 ⟨g, cap, rfl, hown, b6⟩
  have hgB := hown.lt g rfl
  have hg5 := G5.out.o.lt
  have G6 := Lib.hid (G5.out.same b6)
  have H6 := Lib.hid (H5.out.same b6)
  have B6 := Lib.hid (B5.out.trans (b6.mono (by omega)))
  have f1 := World.ownsRow.frozenAt hown 1
  have c1 := World.ownsRow.cellAt hown 1 (by omega)
  rw [show ((cN.take 2).map (Value.int .i64))[1]? = some (.int .i64 1) by rw [show cN.take 2 = [0, 1] by decide +kernel]; rfl] at c1
  clear hown b6 G5 H5 B5
  have no := Lib.hid (show NoAt w H B (w6.setCell ⟨g, 1, none⟩ (.int .i64 9)) from ⟨⟨H6.out.o.setOther ⟨g, 1, none⟩ _ (by simp; omega), zeros_len, by omega⟩, ⟨G6.out.o.setOther ⟨g, 1, none⟩ _ (by simp; omega), G6.out.l, by omega⟩, B6.out.setCell (p := ⟨g, 1, none⟩) (by simp; omega) _⟩)
  clear H6 G6 B6
  go_wp2_with (first
    | (go_at_call 16; (with_reducible refine (count_nil _ _).mono ?_); rintro e w' ⟨rfl, rfl⟩)
    | (go_at_call 9; (with_reducible refine (no_add _ _ no.out).mono ?_); rintro e w' ⟨rfl, rfl⟩)
    | (go_at_call 24; (with_reducible refine (many_nil _ _).mono ?_); rintro e w' ⟨rfl, rfl⟩)
    | (go_at_call 24; (with_reducible refine (hmany2 B _ no.out.h).mono ?_); rintro e w' ⟨rfl, rfl⟩)
    | (go_at_call 12; (with_reducible refine (no_below _ no.out).mono ?_); (rintro e w' ⟨rfl, st⟩; replace no := Lib.hid st; clear st))
    | (go_at_call 14; (with_reducible refine (no_total no.out).mono ?_); (rintro e w' ⟨rfl, st⟩; replace no := Lib.hid st; clear st))
    | (go_at_call 11; (with_reducible refine (no_most _ no.out).mono ?_); (rintro e w' ⟨rfl, st⟩; replace no := Lib.hid st; clear st))
    | (go_at_call 23; (with_reducible refine (all_nilH _).mono ?_); rintro e w' ⟨rfl, rfl⟩)
    | (go_at_call 23; (with_reducible refine (no_all no.out).mono ?_); (rintro e w' ⟨⟨va, ca, rfl⟩, st⟩; replace no := Lib.hid st; clear st))
    | (go_at_call 7; (with_reducible refine (no_awake no.out).mono ?_); (rintro e w' ⟨rfl, st⟩; replace no := Lib.hid st; clear st)))
  go_ret
  exact ⟨rfl, no.out.b.mono hn2⟩
theorem nobody_done : Walk 5 Try.f5 := by
  intro W args hs hc
  rw [Try.params5] at hs hc
  obtain ⟨l⟩ := args
  match l, hs with
  | [v0, v1], _ =>
    obtain ⟨n, rfl, _⟩ := came_int Try.underlying3 (hc 0 3 v0 rfl rfl)
    obtain ⟨m, rfl, _⟩ := came_int Try.underlying3 (hc 1 3 v1 rfl rfl)
    exact nobody_walk n m W
end Go.Proofs.Ytaokofldpkjloaa
