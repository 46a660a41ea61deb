/-
  Layer 27 (frame): a frame's cells; two frames' equality; the part of a frame, and the frame of a part.
-/
import Derived.Test.YtobcjbpgeohbgaaGreatDoorHead4
import Derived.Test.YtobcjbpgeohbgaaGreatDoorLaw24b
import Derived.Test.YtobcjbpgeohbgaaGreatDoorPush6
import Derived.Test.YtobcjbpgeohbgaaGreatDoorReply4
import Derived.Test.YtobcjbpgeohbgaaGreatDoorLaid
import Derived.Deep.MidRow
namespace Go.Proofs.YtobcjbpgeohbgaaGreatDoor
open Go.RowKit
set_option linter.unusedVariables false
set_option linter.unusedSimpArgs false

/-- A frame. -/
structure Fm where
  k : Int
  q : Rq
  a : Rp
  p : Ps
def fmCells (x : Fm) : List Value := [.int .i64 x.k, .int .i64 x.q.id, .int .i64 x.q.frm, .int .i64 x.q.tto, .int .i64 x.q.lev, .int .i64 x.q.dl, .int .i64 x.q.bud, .int .i64 x.a.id, .int .i64 x.a.frm, .int .i64 x.a.tto, .int .i64 x.a.cod, .int .i64 x.a.thr, .int .i64 x.a.epo, .int .i64 x.a.tie, .int .i64 x.p.p0, .int .i64 x.p.p1, .int .i64 x.p.p2, .int .i64 x.p.p3, .int .i64 x.p.p4, .int .i64 x.p.p5, .int .i64 x.p.p6, .int .i64 x.p.p7, .int .i64 x.p.p8]
abbrev fmV (x : Fm) : Value := .agg (fmCells x).toArray
def q0 : Rq := ⟨0, 0, 0, 0, 0, 0⟩
def a0 : Rp := ⟨0, 0, 0, 0, 0, 0, 0⟩
def p0 : Ps := ⟨0, 0, 0, 0, 0, 0, 0, 0, 0⟩
def fm0 : Fm := ⟨0, q0, a0, p0⟩
def fmEq (x y : Fm) : Bool := (x.k == y.k && (x.q.id == y.q.id && x.q.frm == y.q.frm && x.q.tto == y.q.tto && x.q.lev == y.q.lev && x.q.dl == y.q.dl && x.q.bud == y.q.bud)) && (x.a.id == y.a.id && x.a.frm == y.a.frm && x.a.tto == y.a.tto && x.a.cod == y.a.cod && x.a.thr == y.a.thr && x.a.epo == y.a.epo && x.a.tie == y.a.tie) && (x.p.p0 == y.p.p0 && x.p.p1 == y.p.p1 && x.p.p2 == y.p.p2 && x.p.p3 == y.p.p3 && x.p.p4 == y.p.p4 && x.p.p5 == y.p.p5 && x.p.p6 == y.p.p6 && x.p.p7 == y.p.p7 && x.p.p8 == y.p.p8)
theorem fmEq_iff (x y : Fm) : fmEq x y = true ↔ x = y := by
  obtain ⟨k, ⟨_, _, _, _, _, _⟩, ⟨_, _, _, _, _, _, _⟩, ⟨_, _, _, _, _, _, _, _, _⟩⟩ := x
  obtain ⟨k', ⟨_, _, _, _, _, _⟩, ⟨_, _, _, _, _, _, _⟩, ⟨_, _, _, _, _, _, _, _, _⟩⟩ := y
  simp only [fmEq, Bool.and_eq_true, beq_iff_eq, Fm.mk.injEq, Rq.mk.injEq, Rp.mk.injEq, Ps.mk.injEq, and_assoc]
theorem fmEq_self (x : Fm) : fmEq x x = true := (fmEq_iff x x).2 rfl
theorem ite_ok (p : Prop) [Decidable p] (b : Bool) (w : World) : (if p then Result.ok (Value.bool b) w else Result.ok (Value.bool false) w) = Result.ok (Value.bool (decide p && b)) w := by
  by_cases h : p <;> simp [h]
theorem ite_okn (p : Prop) [Decidable p] (b : Bool) (w : World) : (if p then Result.ok (Value.bool b) w else Result.ok (Value.bool true) w) = Result.ok (Value.bool (!(decide p && !b))) w := by
  by_cases h : p <;> simp [h]
theorem ib_dec (a b : Int) : (a == b) = decide (a = b) := rfl
theorem fm_eql (x y : Fm) (w : World) : (binOp .eql 32 (fmV x) (fmV y)).run Tryz.prog w = .ok (.bool (fmEq x y)) w := by
  unfold fmV fmCells
  go_simp
  simp only [ite_ok]
  congr 2
  simp only [fmEq, ib_dec, Bool.and_assoc, Bool.and_true]
theorem fm_neq (x y : Fm) (w : World) : (binOp .neq 32 (fmV x) (fmV y)).run Tryz.prog w = .ok (.bool (!fmEq x y)) w := by
  unfold fmV fmCells
  go_simp
  simp only [ite_okn]
  congr 2
  simp only [fmEq, ib_dec, Bool.and_assoc, Bool.and_true, Bool.not_not, Bool.not_false]
/-- The part of a frame. -/
def partV (x : Fm) : Value := if x.k = 1 then .iface 68 (rqV x.q) else if x.k = 2 then .iface 71 (rpV x.a) else if x.k = 3 then .iface 74 (psV x.p) else .nilIface
set_option maxRecDepth 100000 in
theorem of_any (x : Fm) (w : World) : Calls Tryz.prog 27 #[fmV x] w fun e w' => e = .returned (partV x) ∧ Below w.heap.size w w' := by
  have hb : ∀ o, Below w.heap.size w (w.alloc o) := fun o => (Below.refl _ _).alloc (Nat.le_refl _) _
  unfold fmV fmCells partV
  by_cases h1 : x.k = 1
  · rw [if_pos h1]
    go_enter Tryz.func27, Tryz.ntmps27
    go_wp2
    go_ret
    exact ⟨rfl, hb _⟩
  · rw [if_neg h1]
    by_cases h2 : x.k = 2
    · rw [if_pos h2]
      go_enter Tryz.func27, Tryz.ntmps27
      go_wp2
      go_ret
      exact ⟨rfl, hb _⟩
    · rw [if_neg h2]
      by_cases h3 : x.k = 3
      · rw [if_pos h3]
        go_enter Tryz.func27, Tryz.ntmps27
        go_wp2
        go_ret
        exact ⟨rfl, hb _⟩
      · rw [if_neg h3]
        go_enter Tryz.func27, Tryz.ntmps27
        go_wp2
        go_ret
        exact ⟨rfl, hb _⟩
theorem ta_q (q : Rq) (w : World) : (Instr.typeAssert (.iface 68 (rqV q)) 54 68 true).run Tryz.prog w = .ok (.tuple #[rqV q, .bool true]) w := by kernel_rfl
theorem ta_a (q : Rp) (w : World) : (Instr.typeAssert (.iface 71 (rpV q)) 54 71 true).run Tryz.prog w = .ok (.tuple #[rpV q, .bool true]) w := by kernel_rfl
theorem ta_aq (q : Rp) (w : World) : (Instr.typeAssert (.iface 71 (rpV q)) 54 68 true).run Tryz.prog w = .ok (.tuple #[.agg #[.int .i64 0, .int .i64 0, .int .i64 0, .int .i64 0, .int .i64 0, .int .i64 0], .bool false]) w := by kernel_rfl
theorem ta_pq (q : Ps) (w : World) : (Instr.typeAssert (.iface 74 (psV q)) 54 68 true).run Tryz.prog w = .ok (.tuple #[.agg #[.int .i64 0, .int .i64 0, .int .i64 0, .int .i64 0, .int .i64 0, .int .i64 0], .bool false]) w := by kernel_rfl
theorem ta_pa (q : Ps) (w : World) : (Instr.typeAssert (.iface 74 (psV q)) 54 71 true).run Tryz.prog w = .ok (.tuple #[.agg #[.int .i64 0, .int .i64 0, .int .i64 0, .int .i64 0, .int .i64 0, .int .i64 0, .int .i64 0], .bool false]) w := by kernel_rfl
theorem ta_p (q : Ps) (w : World) : (Instr.typeAssert (.iface 74 (psV q)) 54 74 false).run Tryz.prog w = .ok (psV q) w := by kernel_rfl
end Go.Proofs.YtobcjbpgeohbgaaGreatDoor
