
/-
  The statement RankOrders of layer 11 (rank). No condition.
-/
import Derived.Test.YtmanmebgmhpilaaRank
import Derived.Deep.DeepCutAuto
namespace Go.Proofs.Ytmanmebgmhpilaa
open Go.RowKit
set_option linter.unusedVariables false

theorem before_is (a b : It) (r : Bool) (h : befo a b = r) (w : World) : Calls Try.prog 49 #[itV a, itV b] w fun e w' => e = .returned (.bool r) ∧ Below w.heap.size w w' := by
  rw [← h]
  exact before_any a b w
theorem worse_is (a b : It) (r : Bool) (h : wrs a b = r) (w : World) : Calls Try.prog 50 #[itV a, itV b] w fun e w' => e = .returned (.bool r) ∧ Below w.heap.size w w' := by
  rw [← h]
  exact worse_any a b w
theorem ends_is (x : It) (now r : Int) (h : now < x.dl) (hr : (if x.bud < bLeft now x.since then 4 else 0) = r) (w : World) : Calls Try.prog 51 #[itV x, .int .i64 now] w fun e w' => e = .returned (.int .i64 r) ∧ Below w.heap.size w w' := by
  rw [← hr]
  exact ends_wait x now w h

set_option maxRecDepth 100000 in
set_option maxHeartbeats 2000000 in
theorem awake11 (w : World) : Calls Try.prog 17 #[] w fun e w' => e = .returned (.bool true) ∧ Below w.heap.size w w' := by
  go_enter Try.func17, Try.ntmps17
  go_wp2_with fail
  refine (victim_any (some ⟨w.heap.size + 1 + 1 + 1, 0, none⟩) 3 [⟨0, 3, 0, 0, 0, 0, 0⟩, ⟨0, 7, 0, 4, 0, 0, 0⟩, ⟨0, 7, 0, 6, 0, 0, 0⟩] _ (by simp) (row_new itCells 7 itCells_len [⟨0, 3, 0, 0, 0, 0, 0⟩, ⟨0, 7, 0, 4, 0, 0, 0⟩, ⟨0, 7, 0, 6, 0, 0, 0⟩] _ _ (by simp) 31)).mono ?_
  rintro e w1 ⟨rfl, hb⟩
  obtain ⟨u1, rfl⟩ := ext_of hb
  have hv : vict [⟨0, 3, 0, 0, 0, 0, 0⟩, ⟨0, 7, 0, 4, 0, 0, 0⟩, ⟨0, 7, 0, 6, 0, 0, 0⟩] [(⟨0, 3, 0, 0, 0, 0, 0⟩ : It), ⟨0, 7, 0, 4, 0, 0, 0⟩, ⟨0, 7, 0, 6, 0, 0, 0⟩].length = 2 := by decide +kernel
  rw [hv]
  clear hb hv
  go_wp2_with (first | (go_at_call 49; (with_reducible refine (before_is ⟨0, 0, 0, 5, 0, 0, 9⟩ ⟨0, 0, 0, 6, 0, 0, 1⟩ true (by decide +kernel) _).mono ?_); rintro e w' ⟨rfl, hx⟩; obtain ⟨ux, rfl⟩ := ext_of hx; clear hx) | (go_at_call 49; (with_reducible refine (before_is ⟨0, 0, 0, 6, 0, 0, 1⟩ ⟨0, 0, 0, 5, 0, 0, 9⟩ false (by decide +kernel) _).mono ?_); rintro e w' ⟨rfl, hx⟩; obtain ⟨ux, rfl⟩ := ext_of hx; clear hx) | (go_at_call 50; (with_reducible refine (worse_is ⟨0, 0, 0, 6, 0, 0, 1⟩ ⟨0, 0, 0, 5, 0, 0, 9⟩ true (by decide +kernel) _).mono ?_); rintro e w' ⟨rfl, hx⟩; obtain ⟨ux, rfl⟩ := ext_of hx; clear hx) | (go_at_call 51; (with_reducible refine (ends_is ⟨0, 0, 0, 9, 3, 2, 0⟩ 5 0 (by decide) (by decide +kernel) _).mono ?_); rintro e w' ⟨rfl, hx⟩; obtain ⟨ux, rfl⟩ := ext_of hx; clear hx) | (go_at_call 51; (with_reducible refine (ends_is ⟨0, 0, 0, 9, 3, 2, 0⟩ 6 4 (by decide) (by decide +kernel) _).mono ?_); rintro e w' ⟨rfl, hx⟩; obtain ⟨ux, rfl⟩ := ext_of hx; clear hx) | (go_at_call 51; (with_reducible refine (ends_late ⟨0, 0, 0, 9, 3, 2, 0⟩ 9 _ (by decide)).mono ?_); rintro e w' ⟨rfl, hx⟩; obtain ⟨ux, rfl⟩ := ext_of hx; clear hx))
  go_ret
  exact ⟨rfl, below_ext _ (((((Below.refl _ _).alloc (Nat.le_refl _) _).alloc (by simp) _).alloc (by simp; omega) _).alloc (by simp; omega) _) (by simp; omega)⟩

theorem befo_self (a : It) : befo a a = false := by
  rw [Bool.eq_false_iff, ne_eq, befo_iff]
  unfold Ahead
  omega
theorem wrs_self (a : It) : wrs a a = false := by
  rw [Bool.eq_false_iff, ne_eq, wrs_iff]
  unfold Wors Ahead
  omega
theorem befo_trans {a b c : It} (h : befo a b = true) (h2 : befo b c = true) : befo a c = true := by
  rw [befo_iff] at *
  unfold Ahead at *
  omega
theorem wrs_trans {a b c : It} (h : wrs a b = true) (h2 : wrs b c = true) : wrs a c = true := by
  rw [wrs_iff] at *
  unfold Wors Ahead at *
  omega
/-- Are they alike? -/
def alk (a b : It) : Bool := decide (a.dl = b.dl ∧ a.seq = b.seq ∧ a.id = b.id)
/-- Of two that are unlike one is ahead, and one is worse. -/
theorem order_cases (a b : It) :
    (alk a b = true ∧ befo a b = false ∧ befo b a = false ∧ wrs a b = false ∧ wrs b a = false ∧ (a.lev != b.lev) = false) ∨
    (alk a b = true ∧ befo a b = false ∧ befo b a = false ∧ wrs a b = true ∧ wrs b a = false ∧ (a.lev != b.lev) = true) ∨
    (alk a b = true ∧ befo a b = false ∧ befo b a = false ∧ wrs a b = false ∧ wrs b a = true ∧ (a.lev != b.lev) = true) ∨
    (alk a b = false ∧ befo a b = true ∧ befo b a = false ∧ wrs a b = true ∧ wrs b a = false) ∨
    (alk a b = false ∧ befo a b = true ∧ befo b a = false ∧ wrs a b = false ∧ wrs b a = true) ∨
    (alk a b = false ∧ befo a b = false ∧ befo b a = true ∧ wrs a b = true ∧ wrs b a = false) ∨
    (alk a b = false ∧ befo a b = false ∧ befo b a = true ∧ wrs a b = false ∧ wrs b a = true) := by
  have h1 : ¬ (befo a b = true ∧ befo b a = true) := by
    rw [befo_iff, befo_iff]; unfold Ahead; omega
  have h2 : alk a b = true ↔ ¬ befo a b = true ∧ ¬ befo b a = true := by
    rw [befo_iff, befo_iff, alk, decide_eq_true_eq]; unfold Ahead; omega
  have h3 : ¬ (wrs a b = true ∧ wrs b a = true) := by
    rw [wrs_iff, wrs_iff]; unfold Wors Ahead; omega
  have h4 : (¬ wrs a b = true ∧ ¬ wrs b a = true) ↔ ((¬ befo a b = true ∧ ¬ befo b a = true) ∧ a.lev = b.lev) := by
    rw [wrs_iff, wrs_iff, befo_iff, befo_iff]; unfold Wors Ahead; omega
  have h5 : (a.lev != b.lev) = true ↔ ¬ a.lev = b.lev := by simp
  generalize (a.lev != b.lev) = q at *
  generalize befo a b = p1 at *
  generalize befo b a = p2 at *
  generalize wrs a b = p3 at *
  generalize wrs b a = p4 at *
  generalize alk a b = p5 at *
  generalize (a.lev = b.lev) = z at *
  revert h1 h2 h3 h4 h5
  by_cases hz : z <;> simp only [hz] <;> clear hz <;> cases p1 <;> cases p2 <;> cases p3 <;> cases p4 <;> cases p5 <;> cases q <;> decide
theorem rbefore_is (a b : It) (r : Bool) (h : befo a b = r) (w : World) : Calls Try.prog 14 #[itV a, itV b] w fun e w' => e = .returned (.bool r) ∧ Below w.heap.size w w' := by
  rw [← h]
  exact rbefore_any a b w
theorem rworse_is (a b : It) (r : Bool) (h : wrs a b = r) (w : World) : Calls Try.prog 35 #[itV a, itV b] w fun e w' => e = .returned (.bool r) ∧ Below w.heap.size w w' := by
  rw [← h]
  exact rworse_any a b w
/-- The seven cells of an item in its box. -/
def BoxAt (w : World) (b : Nat) (x : It) : Prop := ∀ j, w.cell? ⟨b, j, none⟩ = (itCells x)[j]?
theorem BoxAt.cells {w : World} {b : Nat} {x : It} (h : BoxAt w b x) :
    w.cell? ⟨b, 0, none⟩ = some (.int .i64 x.id) ∧ w.cell? ⟨b, 1, none⟩ = some (.int .i64 x.lev) ∧ w.cell? ⟨b, 2, none⟩ = some (.int .i64 x.frm) ∧ w.cell? ⟨b, 3, none⟩ = some (.int .i64 x.dl) ∧ w.cell? ⟨b, 4, none⟩ = some (.int .i64 x.bud) ∧ w.cell? ⟨b, 5, none⟩ = some (.int .i64 x.since) ∧ w.cell? ⟨b, 6, none⟩ = some (.int .i64 x.seq) ∧ b < w.heap.size := by
  have h0 := h 0
  exact ⟨h 0, h 1, h 2, h 3, h 4, h 5, h 6, cell_lt h0⟩

end Go.Proofs.Ytmanmebgmhpilaa
