/-
  The statement RankOrders of layer 11 (rank). No condition.
-/
import Derived.Test.YtjifgeplgohpeaaRank
import Derived.Deep.DeepCutAuto
namespace Go.Proofs.Ytjifgeplgohpeaa
open Go.RowKit
set_option linter.unusedVariables false

theorem before_is (a b : It) (r : Bool) (h : befo a b = r) (w : World) : Calls Try.prog 43 #[itV a, itV b] w fun e w' => e = .returned (.bool r) ∧ Below w.heap.size w w' := by
  rw [← h]
  exact before_any a b w
theorem worse_is (a b : It) (r : Bool) (h : wrs a b = r) (w : World) : Calls Try.prog 45 #[itV a, itV b] w fun e w' => e = .returned (.bool r) ∧ Below w.heap.size w w' := by
  rw [← h]
  exact worse_any a b w
theorem ends_is (x : It) (now r : Int) (h : now < x.dl) (hr : (if x.bud < bLeft now x.since then 4 else 0) = r) (w : World) : Calls Try.prog 89 #[itV x, .int .i64 now] w fun e w' => e = .returned (.int .i64 r) ∧ Below w.heap.size w w' := by
  rw [← hr]
  exact ends_wait x now w h

set_option maxRecDepth 100000 in
set_option maxHeartbeats 2000000 in
theorem awake11 (w : World) : Calls Try.prog 47 #[] w fun e w' => e = .returned (.bool true) ∧ Below w.heap.size w w' := by
  go_enter Try.func47, Try.ntmps47
  go_wp2_with fail
  refine (victim_any (some ⟨w.heap.size + 1 + 1 + 1, 0, none⟩) 3 [⟨0, 3, 0, 0, 0, 0, 0⟩, ⟨0, 7, 0, 4, 0, 0, 0⟩, ⟨0, 7, 0, 6, 0, 0, 0⟩] _ (by simp) (row_new itCells 7 itCells_len [⟨0, 3, 0, 0, 0, 0, 0⟩, ⟨0, 7, 0, 4, 0, 0, 0⟩, ⟨0, 7, 0, 6, 0, 0, 0⟩] _ _ (by simp) 86)).mono ?_
  rintro e w1 ⟨rfl, hb⟩
  obtain ⟨u1, rfl⟩ := ext_of hb
  have hv : vict [⟨0, 3, 0, 0, 0, 0, 0⟩, ⟨0, 7, 0, 4, 0, 0, 0⟩, ⟨0, 7, 0, 6, 0, 0, 0⟩] [(⟨0, 3, 0, 0, 0, 0, 0⟩ : It), ⟨0, 7, 0, 4, 0, 0, 0⟩, ⟨0, 7, 0, 6, 0, 0, 0⟩].length = 2 := by decide +kernel
  rw [hv]
  clear hb hv
  go_wp2_with (first | (go_at_call 43; (with_reducible refine (before_is ⟨0, 0, 0, 5, 0, 0, 9⟩ ⟨0, 0, 0, 6, 0, 0, 1⟩ true (by decide +kernel) _).mono ?_); rintro e w' ⟨rfl, hx⟩; obtain ⟨ux, rfl⟩ := ext_of hx; clear hx) | (go_at_call 43; (with_reducible refine (before_is ⟨0, 0, 0, 6, 0, 0, 1⟩ ⟨0, 0, 0, 5, 0, 0, 9⟩ false (by decide +kernel) _).mono ?_); rintro e w' ⟨rfl, hx⟩; obtain ⟨ux, rfl⟩ := ext_of hx; clear hx) | (go_at_call 45; (with_reducible refine (worse_is ⟨0, 0, 0, 6, 0, 0, 1⟩ ⟨0, 0, 0, 5, 0, 0, 9⟩ true (by decide +kernel) _).mono ?_); rintro e w' ⟨rfl, hx⟩; obtain ⟨ux, rfl⟩ := ext_of hx; clear hx) | (go_at_call 89; (with_reducible refine (ends_is ⟨0, 0, 0, 9, 3, 2, 0⟩ 5 0 (by decide) (by decide +kernel) _).mono ?_); rintro e w' ⟨rfl, hx⟩; obtain ⟨ux, rfl⟩ := ext_of hx; clear hx) | (go_at_call 89; (with_reducible refine (ends_is ⟨0, 0, 0, 9, 3, 2, 0⟩ 6 4 (by decide) (by decide +kernel) _).mono ?_); rintro e w' ⟨rfl, hx⟩; obtain ⟨ux, rfl⟩ := ext_of hx; clear hx) | (go_at_call 89; (with_reducible refine (ends_late ⟨0, 0, 0, 9, 3, 2, 0⟩ 9 _ (by decide)).mono ?_); rintro e w' ⟨rfl, hx⟩; obtain ⟨ux, rfl⟩ := ext_of hx; clear hx))
  go_ret
  exact ⟨rfl, below_ext _ (((((Below.refl _ _).alloc (Nat.le_refl _) _).alloc (by simp) _).alloc (by simp; omega) _).alloc (by simp; omega) _) (by simp; omega)⟩

theorem befo_self (a : It) : befo a a = false := by
  rw [Bool.eq_false_iff, ne_eq, befo_iff]
  unfold Ahead
  omega
theorem wrs_self (a : It) : wrs a a = false := by
  rw [Bool.eq_false_iff, ne_eq, wrs_iff]
  unfold Wors Ahead
  omega
theorem befo_trans {a b c : It} (h : befo a b = true) (h2 : befo b c = true) : befo a c = true := by
  rw [befo_iff] at *
  unfold Ahead at *
  omega
theorem wrs_trans {a b c : It} (h : wrs a b = true) (h2 : wrs b c = true) : wrs a c = true := by
  rw [wrs_iff] at *
  unfold Wors Ahead at *
  omega
/-- Are they alike? -/
def alk (a b : It) : Bool := decide (a.dl = b.dl ∧ a.seq = b.seq ∧ a.id = b.id)
/-- Of two that are unlike one is ahead, and one is worse. -/
theorem order_cases (a b : It) :
    (alk a b = true ∧ befo a b = false ∧ befo b a = false ∧ wrs a b = false ∧ wrs b a = false ∧ (a.lev != b.lev) = false) ∨
    (alk a b = true ∧ befo a b = false ∧ befo b a = false ∧ wrs a b = true ∧ wrs b a = false ∧ (a.lev != b.lev) = true) ∨
    (alk a b = true ∧ befo a b = false ∧ befo b a = false ∧ wrs a b = false ∧ wrs b a = true ∧ (a.lev != b.lev) = true) ∨
    (alk a b = false ∧ befo a b = true ∧ befo b a = false ∧ wrs a b = true ∧ wrs b a = false) ∨
    (alk a b = false ∧ befo a b = true ∧ befo b a = false ∧ wrs a b = false ∧ wrs b a = true) ∨
    (alk a b = false ∧ befo a b = false ∧ befo b a = true ∧ wrs a b = true ∧ wrs b a = false) ∨
    (alk a b = false ∧ befo a b = false ∧ befo b a = true ∧ wrs a b = false ∧ wrs b a = true) := by
  have h1 : ¬ (befo a b = true ∧ befo b a = true) := by
    rw [befo_iff, befo_iff]; unfold Ahead; omega
  have h2 : alk a b = true ↔ ¬ befo a b = true ∧ ¬ befo b a = true := by
    rw [befo_iff, befo_iff, alk, decide_eq_true_eq]; unfold Ahead; omega
  have h3 : ¬ (wrs a b = true ∧ wrs b a = true) := by
    rw [wrs_iff, wrs_iff]; unfold Wors Ahead; omega
  have h4 : (¬ wrs a b = true ∧ ¬ wrs b a = true) ↔ ((¬ befo a b = true ∧ ¬ befo b a = true) ∧ a.lev = b.lev) := by
    rw [wrs_iff, wrs_iff, befo_iff, befo_iff]; unfold Wors Ahead; omega
  have h5 : (a.lev != b.lev) = true ↔ ¬ a.lev = b.lev := by simp
  generalize (a.lev != b.lev) = q at *
  generalize befo a b = p1 at *
  generalize befo b a = p2 at *
  generalize wrs a b = p3 at *
  generalize wrs b a = p4 at *
  generalize alk a b = p5 at *
  generalize (a.lev = b.lev) = z at *
  revert h1 h2 h3 h4 h5
  by_cases hz : z <;> simp only [hz] <;> clear hz <;> cases p1 <;> cases p2 <;> cases p3 <;> cases p4 <;> cases p5 <;> cases q <;> decide
theorem rbefore_is (a b : It) (r : Bool) (h : befo a b = r) (w : World) : Calls Try.prog 44 #[itV a, itV b] w fun e w' => e = .returned (.bool r) ∧ Below w.heap.size w w' := by
  rw [← h]
  exact rbefore_any a b w
theorem rworse_is (a b : It) (r : Bool) (h : wrs a b = r) (w : World) : Calls Try.prog 46 #[itV a, itV b] w fun e w' => e = .returned (.bool r) ∧ Below w.heap.size w w' := by
  rw [← h]
  exact rworse_any a b w
/-- The seven cells of an item in its box. -/
def BoxAt (w : World) (b : Nat) (x : It) : Prop := ∀ j, w.cell? ⟨b, j, none⟩ = (itCells x)[j]?
theorem BoxAt.cells {w : World} {b : Nat} {x : It} (h : BoxAt w b x) :
    w.cell? ⟨b, 0, none⟩ = some (.int .i64 x.id) ∧ w.cell? ⟨b, 1, none⟩ = some (.int .i64 x.lev) ∧ w.cell? ⟨b, 2, none⟩ = some (.int .i64 x.frm) ∧ w.cell? ⟨b, 3, none⟩ = some (.int .i64 x.dl) ∧ w.cell? ⟨b, 4, none⟩ = some (.int .i64 x.bud) ∧ w.cell? ⟨b, 5, none⟩ = some (.int .i64 x.since) ∧ w.cell? ⟨b, 6, none⟩ = some (.int .i64 x.seq) ∧ b < w.heap.size := by
  have h0 := h 0
  exact ⟨h 0, h 1, h 2, h 3, h 4, h 5, h 6, cell_lt h0⟩

set_option maxRecDepth 100000 in
set_option maxHeartbeats 4000000 in
theorem orders_walk (a b c : It) (w : World) : Calls Try.prog 10 #[itV a, itV b, itV c] w fun e w' => e = .returned (.bool true) ∧ Below w.heap.size w w' := by
  go_enter Try.func10, Try.ntmps10
  go_wp2_with fail
  obtain ⟨W, hW⟩ : ∃ W, W = ((w.alloc (.cells #[.int .i64 a.id, .int .i64 a.lev, .int .i64 a.frm, .int .i64 a.dl, .int .i64 a.bud, .int .i64 a.since, .int .i64 a.seq] 86)).alloc (.cells #[.int .i64 b.id, .int .i64 b.lev, .int .i64 b.frm, .int .i64 b.dl, .int .i64 b.bud, .int .i64 b.since, .int .i64 b.seq] 86)).alloc (.cells #[.int .i64 c.id, .int .i64 c.lev, .int .i64 c.frm, .int .i64 c.dl, .int .i64 c.bud, .int .i64 c.since, .int .i64 c.seq] 86) := ⟨_, rfl⟩
  have ha : BoxAt W w.heap.size a := by
    intro j
    rw [hW]
    go_simp
    rfl
  have hb : BoxAt W (w.heap.size + 1) b := by
    intro j
    rw [hW]
    go_simp
    rfl
  have hc : BoxAt W (w.heap.size + 1 + 1) c := by
    intro j
    rw [hW]
    go_simp
    rfl
  have hB : Below w.heap.size w W := by
    rw [hW]
    exact (((Below.refl _ _).alloc (Nat.le_refl _) _).alloc (by simp) _).alloc (by simp; omega) _
  rw [← hW]
  have HB := Lib.hid hB
  obtain ⟨A, hA⟩ : ∃ A, A = w.heap.size := ⟨_, rfl⟩
  obtain ⟨B, hB2⟩ : ∃ B, B = A + 1 := ⟨_, rfl⟩
  obtain ⟨C, hC2⟩ : ∃ C, C = B + 1 := ⟨_, rfl⟩
  rw [← hA] at ha hb hc ⊢
  rw [← hB2] at hb hc ⊢
  rw [← hC2] at hc ⊢
  obtain ⟨a0, a1, a2, a3, a4, a5, a6, al⟩ := ha.cells
  obtain ⟨b0, b1, b2, b3, b4, b5, b6, bl⟩ := hb.cells
  obtain ⟨c0, c1, c2, c3, c4, c5, c6, cl⟩ := hc.cells
  have HCc := Lib.hid hc
  clear hW ha hb hc hB hA hB2 hC2
  ((first | (with_reducible refine region_ext2 (by kernel_rfl) (by kernel_rfl) ?_) | (refine region_ext (by kernel_rfl) (by kernel_rfl) ?_)); (repeat ((with_reducible refine wpQuiet_step (fun K hK => ?_)); go_simp; (first | ((refine hK _ ?_); clear hK K) | ((apply Exists.intro); (refine ⟨fun _ => ?_, hK _ ?_⟩); (first | (go_at_call 43; with_reducible exact ext_below (before_is a b _ rfl _)) | (go_at_call 44; with_reducible exact ext_below (rbefore_is a b _ rfl _)) | (go_at_call 45; with_reducible exact ext_below (worse_is a b _ rfl _)) | (go_at_call 46; with_reducible exact ext_below (rworse_is a b _ rfl _)) | (go_at_call 43; with_reducible exact ext_below (before_is a a false (befo_self a) _)) | (go_at_call 45; with_reducible exact ext_below (worse_is a a false (wrs_self a) _))); clear hK K)))); refine wpQuiet_nil ?_; rintro _ ⟨uq, rfl⟩)
  go_upto_region 3 with (fail)
  go_cut [7] (fun s wx => s = .bool (!alk a b) ∧ wx = ext W uq)
  case first =>
    go_wp2
    all_goals
      go_meet
      refine ⟨congrArg Value.bool ?_, rfl⟩
      first | (simp [alk]; done) | (simp [alk]; omega) | (rw [Bool.eq_iff_iff]; simp [alk]; omega)
  case rest =>
    obtain ⟨rfl, rfl⟩ := hcut
    go_upto_region 4 with (fail)
    go_cut [7, 91] (fun s7 s wx => s = .bool false ∧ ∃ u, wx = ext W u)
    case first =>
      clear c0 c1 c2 c3 c4 c5 c6 cl
      rcases order_cases a b with ⟨e0, e1, e2, e3, e4, e5⟩ | ⟨e0, e1, e2, e3, e4, e5⟩ | ⟨e0, e1, e2, e3, e4, e5⟩ | ⟨e0, e1, e2, e3, e4⟩ | ⟨e0, e1, e2, e3, e4⟩ | ⟨e0, e1, e2, e3, e4⟩ | ⟨e0, e1, e2, e3, e4⟩
      all_goals
        rw [e0]
        simp only [Bool.not_false, Bool.not_true]
        clear e0
        ((first | (with_reducible refine region_ext2 (by kernel_rfl) (by kernel_rfl) ?_) | (refine region_ext (by kernel_rfl) (by kernel_rfl) ?_)); (repeat ((with_reducible refine wpQuiet_step (fun K hK => ?_)); go_simp; (first | ((refine hK _ ?_); clear hK K) | ((apply Exists.intro); (refine ⟨fun _ => ?_, hK _ ?_⟩); (first | (go_at_call 43; with_reducible exact ext_below (before_is a b _ e1 _)) | (go_at_call 43; with_reducible exact ext_below (before_is b a _ e2 _)) | (go_at_call 45; with_reducible exact ext_below (worse_is a b _ e3 _)) | (go_at_call 45; with_reducible exact ext_below (worse_is b a _ e4 _))); clear hK K)))); refine wpQuiet_nil ?_; rintro _ ⟨uq, rfl⟩)
        go_wp2
        go_meet
        exact ⟨rfl, _, rfl⟩
    case rest =>
      obtain ⟨rfl, u4, rfl⟩ := hcut
      have T1 := Lib.hid (@befo_trans a b c)
      have T2 := Lib.hid (@wrs_trans a b c)
      have hsz := HB.out.size
      go_wp2_with (first | (go_at_call 43; (with_reducible refine (before_is a b _ rfl _).mono ?_); rintro e w' ⟨rfl, hx⟩; obtain ⟨ux, rfl⟩ := ext_of hx; clear hx) | (go_at_call 43; (with_reducible refine (before_is b c _ rfl _).mono ?_); rintro e w' ⟨rfl, hx⟩; obtain ⟨ux, rfl⟩ := ext_of hx; clear hx) | (go_at_call 43; (with_reducible refine (before_is a c _ rfl _).mono ?_); rintro e w' ⟨rfl, hx⟩; obtain ⟨ux, rfl⟩ := ext_of hx; clear hx) | (go_at_call 45; (with_reducible refine (worse_is a b _ rfl _).mono ?_); rintro e w' ⟨rfl, hx⟩; obtain ⟨ux, rfl⟩ := ext_of hx; clear hx) | (go_at_call 45; (with_reducible refine (worse_is b c _ rfl _).mono ?_); rintro e w' ⟨rfl, hx⟩; obtain ⟨ux, rfl⟩ := ext_of hx; clear hx) | (go_at_call 45; (with_reducible refine (worse_is a c _ rfl _).mono ?_); rintro e w' ⟨rfl, hx⟩; obtain ⟨ux, rfl⟩ := ext_of hx; clear hx) | (go_at_call 47; (with_reducible refine (awake11 _).mono ?_); rintro e w' ⟨rfl, hx⟩; obtain ⟨ux, rfl⟩ := ext_of hx; clear hx))
      all_goals first
        | (go_ret
           exact ⟨rfl, below_ext _ HB.out hsz⟩)
        | (exfalso
           rename_i q1 q2 q3
           have := T1.out (by assumption) (by assumption)
           simp_all; done)
        | (exfalso
           have := T2.out (by assumption) (by assumption)
           simp_all; done)

theorem orders_done : Walk 10 Try.f10 := by
  intro W args hs hc
  rw [Try.params10] at hs hc
  obtain ⟨l⟩ := args
  match l, hs with
  | [v0, v1, v2], _ =>
    obtain ⟨a, rfl⟩ := came_item (hc 0 86 v0 rfl rfl)
    obtain ⟨b, rfl⟩ := came_item (hc 1 86 v1 rfl rfl)
    obtain ⟨c, rfl⟩ := came_item (hc 2 86 v2 rfl rfl)
    exact orders_walk a b c W
end Go.Proofs.Ytjifgeplgohpeaa
