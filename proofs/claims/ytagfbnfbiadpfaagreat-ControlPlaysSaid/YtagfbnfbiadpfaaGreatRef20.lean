/-
  Layer 20 (control), the document's: its controller.
-/
import Derived.Test.YtagfbnfbiadpfaaGreatLaw20
import Derived.Test.YtagfbnfbiadpfaaGreatRef15
import Derived.Test.YtagfbnfbiadpfaaGreatRef18
import Derived.Test.YtagfbnfbiadpfaaGreatHist8
namespace Go.Proofs.YtagfbnfbiadpfaaGreat
open Go.RowKit Go.Shelf
set_option linter.unusedVariables false
set_option linter.unusedSimpArgs false

theorem eleven_keepx {W W1 : World} {p0 p1 p2 p3 p4 p5 p6 p7 p8 p9 p10 : Addr} {v0 v1 v2 v3 v4 v5 v6 v7 v8 v9 v10 : Value} (hb : Below W.heap.size W W1) (h : W.cell? p0 = some v0 ∧ W.cell? p1 = some v1 ∧ W.cell? p2 = some v2 ∧ W.cell? p3 = some v3 ∧ W.cell? p4 = some v4 ∧ W.cell? p5 = some v5 ∧ W.cell? p6 = some v6 ∧ W.cell? p7 = some v7 ∧ W.cell? p8 = some v8 ∧ W.cell? p9 = some v9 ∧ W.cell? p10 = some v10) : W1.cell? p0 = some v0 ∧ W1.cell? p1 = some v1 ∧ W1.cell? p2 = some v2 ∧ W1.cell? p3 = some v3 ∧ W1.cell? p4 = some v4 ∧ W1.cell? p5 = some v5 ∧ W1.cell? p6 = some v6 ∧ W1.cell? p7 = some v7 ∧ W1.cell? p8 = some v8 ∧ W1.cell? p9 = some v9 ∧ W1.cell? p10 = some v10 := ⟨cell_keep hb h.1, cell_keep hb h.2.1, cell_keep hb h.2.2.1, cell_keep hb h.2.2.2.1, cell_keep hb h.2.2.2.2.1, cell_keep hb h.2.2.2.2.2.1, cell_keep hb h.2.2.2.2.2.2.1, cell_keep hb h.2.2.2.2.2.2.2.1, cell_keep hb h.2.2.2.2.2.2.2.2.1, cell_keep hb h.2.2.2.2.2.2.2.2.2.1, cell_keep hb h.2.2.2.2.2.2.2.2.2.2⟩
abbrev xV (lv k0 k1 k2 k3 k4 k5 k6 : Int) (sv wv : Value) (way held tr ti dh th ep : Int) : Value := .agg #[.int .i64 lv, .int .i64 k0, .int .i64 k1, .int .i64 k2, .int .i64 k3, .int .i64 k4, .int .i64 k5, .int .i64 k6, sv, wv, .int .i64 way, .int .i64 held, .int .i64 tr, .int .i64 ti, .int .i64 dh, .int .i64 th, .int .i64 ep]
abbrev xCs (lv k0 k1 k2 k3 k4 k5 k6 : Int) (sv wv : Value) (way held tr ti dh th ep : Int) : List Value := [.int .i64 lv, .int .i64 k0, .int .i64 k1, .int .i64 k2, .int .i64 k3, .int .i64 k4, .int .i64 k5, .int .i64 k6, sv, wv, .int .i64 way, .int .i64 held, .int .i64 tr, .int .i64 ti, .int .i64 dh, .int .i64 th, .int .i64 ep]
theorem rlater20_any (n : Int) (w : World) (h0 : 0 ≤ n) (h1 : n ≤ 4294967295) : Calls Tryz.prog 43 #[.int .i64 n] w fun e w' => e = .returned (.int .i64 (laterE n)) ∧ w = w' := by
  have i0 : IntKind.i64.wrap (n + 1) = n + 1 := IntWalk.i64_in _ (by omega)
  go_enter Tryz.func43, Tryz.ntmps43
  go_wp2_with (go_at_call 67; (with_reducible refine (rkeep_any _ _ _).mono ?_); rintro e w' ⟨rfl, rfl⟩)
  go_ret
  exact ⟨rfl, rfl⟩
set_option maxRecDepth 100000 in
set_option maxHeartbeats 4000000 in
theorem rcalm20_any (lv k0 k1 k2 k3 k4 k5 k6 : Int) (sv wv : Value) (way held tr ti dh th ep : Int) (w : World) : Calls Tryz.prog 33 #[xV lv k0 k1 k2 k3 k4 k5 k6 sv wv way held tr ti dh th ep] w fun e w' => e = .returned (.int .i64 (caWin k5 k6 th lv ti tr)) ∧ Below w.heap.size w w' := by
  obtain ⟨B, hB⟩ : ∃ B, B = w.heap.size := ⟨_, rfl⟩
  have B0 := Lib.hid (show Below w.heap.size w (w.alloc (.cells #[.int .i64 lv, .int .i64 k0, .int .i64 k1, .int .i64 k2, .int .i64 k3, .int .i64 k4, .int .i64 k5, .int .i64 k6, sv, wv, .int .i64 way, .int .i64 held, .int .i64 tr, .int .i64 ti, .int .i64 dh, .int .i64 th, .int .i64 ep] 38)) from (Below.refl _ w).alloc (Nat.le_refl _) _)
  have O0 := Lib.hid (show IsObj (w.alloc (.cells #[.int .i64 lv, .int .i64 k0, .int .i64 k1, .int .i64 k2, .int .i64 k3, .int .i64 k4, .int .i64 k5, .int .i64 k6, sv, wv, .int .i64 way, .int .i64 held, .int .i64 tr, .int .i64 ti, .int .i64 dh, .int .i64 th, .int .i64 ep] 38)) B 38 (xCs lv k0 k1 k2 k3 k4 k5 k6 sv wv way held tr ti dh th ep) by rw [hB]; exact IsObj.new w _ (xCs lv k0 k1 k2 k3 k4 k5 k6 sv wv way held tr ti dh th ep))
  have HB := Lib.hid hB
  clear hB
  go_enter Tryz.func33, Tryz.ntmps33
  go_upto_region 1 with (fail)
  rw [← HB.out]
  generalize w.alloc (.cells #[.int .i64 lv, .int .i64 k0, .int .i64 k1, .int .i64 k2, .int .i64 k3, .int .i64 k4, .int .i64 k5, .int .i64 k6, sv, wv, .int .i64 way, .int .i64 held, .int .i64 tr, .int .i64 ti, .int .i64 dh, .int .i64 th, .int .i64 ep] 38) = w0 at *
  have q1 : w0.cell? ⟨B, 1, none⟩ = some (.int .i64 k0) := O0.out.cell 1
  have q2 : w0.cell? ⟨B, 2, none⟩ = some (.int .i64 k1) := O0.out.cell 2
  have q3 : w0.cell? ⟨B, 3, none⟩ = some (.int .i64 k2) := O0.out.cell 3
  have q4 : w0.cell? ⟨B, 4, none⟩ = some (.int .i64 k3) := O0.out.cell 4
  have q5 : w0.cell? ⟨B, 5, none⟩ = some (.int .i64 k4) := O0.out.cell 5
  have q6 : w0.cell? ⟨B, 6, none⟩ = some (.int .i64 k5) := O0.out.cell 6
  have q7 : w0.cell? ⟨B, 7, none⟩ = some (.int .i64 k6) := O0.out.cell 7
  have q15 : w0.cell? ⟨B, 15, none⟩ = some (.int .i64 th) := O0.out.cell 15
  have q0 : w0.cell? ⟨B, 0, none⟩ = some (.int .i64 lv) := O0.out.cell 0
  have q13 : w0.cell? ⟨B, 13, none⟩ = some (.int .i64 ti) := O0.out.cell 13
  have q12 : w0.cell? ⟨B, 12, none⟩ = some (.int .i64 tr) := O0.out.cell 12
  go_wp2_with fail
  go_region_held3 (fun w' => w'.cell? ⟨B, 1, none⟩ = some (.int .i64 k0) ∧ w'.cell? ⟨B, 2, none⟩ = some (.int .i64 k1) ∧ w'.cell? ⟨B, 3, none⟩ = some (.int .i64 k2) ∧ w'.cell? ⟨B, 4, none⟩ = some (.int .i64 k3) ∧ w'.cell? ⟨B, 5, none⟩ = some (.int .i64 k4) ∧ w'.cell? ⟨B, 6, none⟩ = some (.int .i64 k5) ∧ w'.cell? ⟨B, 7, none⟩ = some (.int .i64 k6) ∧ w'.cell? ⟨B, 15, none⟩ = some (.int .i64 th) ∧ w'.cell? ⟨B, 0, none⟩ = some (.int .i64 lv) ∧ w'.cell? ⟨B, 13, none⟩ = some (.int .i64 ti) ∧ w'.cell? ⟨B, 12, none⟩ = some (.int .i64 tr)) (first | assumption | exact hk2 | exact hk | go_keep)
    (first
      | (go_at_call 60; with_reducible refine (ropen_any _ _ _ _ _ _ _ _ _ _).mono ?_; rintro e w1 ⟨rfl, hb⟩; have hk := eleven_keepx hb (by assumption))
      | (go_at_call 61; with_reducible refine (rbright_any _ _ _ _ _ _ _ _ _ _).mono ?_; rintro e w2 ⟨rfl, hb2⟩; have hk2 := eleven_keepx hb2 (by assumption))
      | (go_at_call 59; with_reducible refine (radd_any _ _ _).mono ?_; rintro e w3 ⟨rfl, rfl⟩))
  have BB := Lib.hid (B0.out.trans (((below_drew_left hb).trans (hb2.mono (by have := hb.size; exact this))).mono (by have := B0.out.size; exact this)))
  clear hb hb2 hk hk2
  go_wp2_with fail
  go_ret
  exact ⟨rfl, BB.out⟩
theorem make_ints (W : Nat) (w : World) (h6 : W ≤ 4096) : ∃ w1, (Instr.makeSlice 32 (.int .i64 (W : Int)) (.int .i64 (W : Int))).run Tryz.prog w = .ok (.slice (some ⟨w.heap.size, 0, none⟩) W W) w1 ∧ IsObj w1 w.heap.size 3 (List.replicate W (.int .i64 0)) ∧ Below w.heap.size w w1 ∧ w.heap.size < w1.heap.size := by
  obtain ⟨i0, hi, hz0, hz1, hz2⟩ := info_parts info_int
  have hr := run_make (P := Tryz.prog) w 32 3 i0 (.int .i64 0) Tryz.underlying32 hi hz0 .i64 .i64 W W (by omega) (Int.le_refl _) (by rw [hz2]; omega) (by omega)
  simp only [Int.toNat_natCast, hz1, Nat.mul_one] at hr
  refine ⟨_, hr, ?_, (Below.refl _ _).alloc (Nat.le_refl _) _, by simp⟩
  have h1 := IsObj.new w 3 (madeCells #[.int .i64 0] W).toList
  rw [toList_madeCells_one, ← toList_madeCells_one] at h1
  rw [← toList_madeCells_one]
  simpa [Value.cells] using h1
end Go.Proofs.YtagfbnfbiadpfaaGreat
