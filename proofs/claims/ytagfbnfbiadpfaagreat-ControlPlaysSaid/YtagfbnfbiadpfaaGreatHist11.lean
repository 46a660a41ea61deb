
/-
  Layer 10 (hist): the statement HistNobody.
-/
import Derived.Test.YtagfbnfbiadpfaaGreatHist7
namespace Go.Proofs.YtagfbnfbiadpfaaGreat
open Go.RowKit Go.Shelf
set_option linter.unusedVariables false
set_option linter.unusedSimpArgs false

set_option maxRecDepth 100000 in
set_option maxHeartbeats 1000000 in
theorem all_zeroH (b : Nat) (c : List Int) (w : World) (h : HistAt w b 0 c) :
    Calls Tryz.prog 110 #[.pointer (some ⟨b, 0, none⟩)] w fun e w' => ∃ v cap, e = .returned (.slice v 0 cap) ∧ Below w.heap.size w w' := by
  have cl := h.lev
  have hlt := h.o.lt
  clear h
  go_enter Tryz.func110, Tryz.ntmps110
  go_wp2_with fail
  go_region_held3 (fun w' => w'.cell? ⟨b, 0, none⟩ = some (.int .i64 0)) (first | go_keep) (fail)
  go_wp2
  go_ret
  exact ⟨some ⟨w.heap.size, 0, none⟩, 0, by simp, below_drewN ((Below.refl w.heap.size w).alloc (Nat.le_refl _) (.cells #[] 3)) 1⟩
def cN : List Int := hadd 2 zeros 1 1
theorem hnew2 (w : World) : Calls Tryz.prog 21 #[.int .i64 2] w fun e w' => e = .returned (.tuple #[.pointer (some ⟨w.heap.size, 0, none⟩), .int .i64 0]) ∧ HistAt w' w.heap.size 2 zeros ∧ Below w.heap.size w w' := hnew_ok 2 w (by omega) (by omega)
theorem hcount2 (b : Nat) (w : World) (h : HistAt w b 2 zeros) : Calls Tryz.prog 36 #[.pointer (some ⟨b, 0, none⟩), .int .i64 1] w fun e w' => e = .returned (.bool true) ∧ HistAt w' b 2 cN ∧ Only b w w' := count_any b 2 zeros 1 w h
theorem hmany2 (b : Nat) (w : World) (h : HistAt w b 2 cN) : Calls Tryz.prog 118 #[.pointer (some ⟨b, 0, none⟩), .int .i64 1] w fun e w' => e = .returned (.int .i64 1) ∧ w = w' := by
  have K := many_any b 2 cN 1 w h
  rwa [show manyL 2 cN 1 = 1 by decide +kernel] at K
theorem hall2 (b : Nat) (w : World) (h : HistAt w b 2 cN) : Calls Tryz.prog 110 #[.pointer (some ⟨b, 0, none⟩)] w fun e w' => ∃ g cap, e = .returned (.slice (some ⟨g, 0, none⟩) 2 cap) ∧ w'.ownsRow w.heap.size 3 1 (.slice (some ⟨g, 0, none⟩) 2 cap) 2 ((cN.take 2).map (Value.int .i64)) ∧ Below w.heap.size w w' := all_anyH b 2 cN w h (by omega)
structure NoAt (w : World) (H B : Nat) (W : World) : Prop where
  o : HistAt W H 0 zeros
  h : HistAt W B 2 cN
  b : Below H w W
theorem NoAt.next {w : World} {H B : Nat} {W W' : World} (h : NoAt w H B W) (hb : Below W.heap.size W W') : NoAt w H B W' := ⟨h.o.same hb, h.h.same hb, h.b.trans (hb.mono (by have := h.o.o.lt; omega))⟩
section
variable {w : World} {H B : Nat} {W : World}
theorem no_below (T : Int) (h : NoAt w H B W) : Calls Tryz.prog 95 #[.pointer (some ⟨H, 0, none⟩), .int .i64 T] W fun e W' => e = .returned (.int .i64 0) ∧ NoAt w H B W' := by
  have K := below_anyH H 0 zeros T W h.o
  rw [show belowH 0 zeros T = 0 by unfold belowH; split <;> simp [sumH]] at K
  exact K.mono fun _ _ ⟨he, hb⟩ => ⟨he, h.next hb⟩
theorem no_total (h : NoAt w H B W) : Calls Tryz.prog 97 #[.pointer none] W fun e W' => e = .returned (.int .i64 0) ∧ NoAt w H B W' := (total_nil W).mono fun _ _ ⟨he, hb⟩ => ⟨he, h.next hb⟩
theorem no_all (h : NoAt w H B W) : Calls Tryz.prog 110 #[.pointer (some ⟨H, 0, none⟩)] W fun e W' => (∃ v cap, e = .returned (.slice v 0 cap)) ∧ NoAt w H B W' := (all_zeroH H zeros W h.o).mono fun _ _ ⟨v, cap, he, hb⟩ => ⟨⟨v, cap, he⟩, h.next hb⟩
theorem no_add (lev m : Int) (h : NoAt w H B W) : Calls Tryz.prog 62 #[.pointer (some ⟨H, 0, none⟩), .int .i64 lev, .int .i64 m] W fun e W' => e = .returned (.bool false) ∧ W = W' := hadd_out H 0 zeros lev m W h.o (by unfold hasL; rw [decide_eq_false_iff_not]; omega)
end
end Go.Proofs.YtagfbnfbiadpfaaGreat
