/-
  Layer 24 (request): parts, Check, and the document's Check.
-/
import Derived.Test.YtobcjbpgeohbgaaGreatDoorOctet3
import Derived.Handy
namespace Go.Proofs.YtobcjbpgeohbgaaGreatDoor
open Go.RowKit
set_option linter.unusedVariables false

structure Rq where
  id : Int
  frm : Int
  tto : Int
  lev : Int
  dl : Int
  bud : Int
instance : Inhabited Rq := ⟨⟨0, 0, 0, 0, 0, 0⟩⟩
def rqCells (x : Rq) : List Value := [.int .i64 x.id, .int .i64 x.frm, .int .i64 x.tto, .int .i64 x.lev, .int .i64 x.dl, .int .i64 x.bud]
abbrev rqV (x : Rq) : Value := .agg #[.int .i64 x.id, .int .i64 x.frm, .int .i64 x.tto, .int .i64 x.lev, .int .i64 x.dl, .int .i64 x.bud]
/-- Field k. -/
def fld (x : Rq) (k : Nat) : Int := [x.id, x.frm, x.tto, x.lev, x.dl, x.bud].getD k 0
def wd (k : Nat) : Int := [6, 1, 1, 1, 6, 2].getD k 0
def sft (k : Nat) : Int := [0, 1, 0, 0, 0, 0].getD k 0
def lst (k : Nat) : Int := [0, -1, 0, 0, 0, 0].getD k 0
def grt (k : Nat) : Int := [281474976710655, 7, 7, 127, 1099511627776, 65535].getD k 0
theorem lt6 {i : Nat} (h : i < 6) : i = 0 ∨ i = 1 ∨ i = 2 ∨ i = 3 ∨ i = 4 ∨ i = 5 := by omega
theorem rq_at (x : Rq) (k : Nat) (h : k < 6) : (rqCells x)[k]? = some (.int .i64 (fld x k)) := by
  rcases lt6 h with rfl | rfl | rfl | rfl | rfl | rfl <;> rfl
/-- Block B is a request's variable. -/
def RqAt (w : World) (B : Nat) (x : Rq) : Prop := IsObj w B 24 (rqCells x)
theorem RqAt.same {w w' : World} {b : Nat} {x : Rq} (h : RqAt w b x) (hb : Below w.heap.size w w') : RqAt w' b x := IsObj.below h hb h.lt
theorem RqAt.cell {w : World} {B : Nat} {x : Rq} (h : RqAt w B x) (k : Nat) (hk : k < 6) : w.cell? ⟨B, k, none⟩ = some (.int .i64 (fld x k)) := by
  rw [IsObj.cell h, rq_at x k hk]
def partC (B k : Nat) : List Value := [.pointer (some ⟨B, k, none⟩), .int .i64 (wd k), .int .i64 (sft k), .int .i64 (lst k), .int .i64 (grt k)]
def partsL (B : Nat) : List Value := partC B 0 ++ (partC B 1 ++ (partC B 2 ++ (partC B 3 ++ (partC B 4 ++ partC B 5))))
theorem parts_at (B i j : Nat) (hi : i < 6) (hj : j < 5) : (partsL B)[i * 5 + j]? = (partC B i)[j]? := by
  have : j = 0 ∨ j = 1 ∨ j = 2 ∨ j = 3 ∨ j = 4 := by omega
  rcases lt6 hi with rfl | rfl | rfl | rfl | rfl | rfl <;> rcases this with rfl | rfl | rfl | rfl | rfl <;> rfl
/-- Block S holds the parts of the request in block B. -/
def PartsAt (w : World) (S B : Nat) : Prop := IsObj w S 109 (partsL B)
theorem PartsAt.same {w w' : World} {S B : Nat} (h : PartsAt w S B) (hb : Below w.heap.size w w') : PartsAt w' S B := IsObj.below h hb h.lt
theorem PartsAt.cells {w : World} {S B : Nat} (h : PartsAt w S B) (k : Nat) (hk : k < 6) :
    w.cell? ⟨S, k * 5, none⟩ = some (.pointer (some ⟨B, k, none⟩)) ∧ w.cell? ⟨S, k * 5 + 1, none⟩ = some (.int .i64 (wd k)) ∧ w.cell? ⟨S, k * 5 + 2, none⟩ = some (.int .i64 (sft k)) ∧ w.cell? ⟨S, k * 5 + 3, none⟩ = some (.int .i64 (lst k)) ∧ w.cell? ⟨S, k * 5 + 4, none⟩ = some (.int .i64 (grt k)) := by
  have hc := fun j hj => (IsObj.cell h (k * 5 + j)).trans (parts_at B k j hk hj)
  exact ⟨hc 0 (by omega), hc 1 (by omega), hc 2 (by omega), hc 3 (by omega), hc 4 (by omega)⟩

set_option maxRecDepth 100000 in
theorem parts_any (B : Nat) (w : World) : Calls Tryz.prog 65 #[.pointer (some ⟨B, 0, none⟩)] w fun e w' => e = .returned (.slice (some ⟨w.heap.size, 0, none⟩) 6 6) ∧ PartsAt w' w.heap.size B ∧ Below w.heap.size w w' ∧ w.heap.size < w'.heap.size := by
  have hO := IsObj.new w.drew 109 (partsL B)
  have HO := Lib.hid hO
  clear hO
  go_enter Tryz.func65, Tryz.ntmps65
  go_wp2_with fail
  (refine region_tail 24 (by kernel_rfl) (by kernel_rfl) ?_; simp only [List.take_succ_cons, List.take_zero, List.drop_succ_cons, List.drop_zero]; (repeat (refine wpStill_step (fun K hK => ?_); go_simp; (refine hK _ ?_); clear hK K)); refine wpStill_nil ?_)
  go_wp2
  go_ret
  exact ⟨rfl, HO.out, ((Below.refl _ _).alloc (Nat.le_refl _) _).drew, by simp⟩

/-! ### Check -/
def partOk (x : Rq) (k : Nat) : Bool := decide (lst k ≤ fld x k ∧ fld x k ≤ grt k)
def rqOk (x : Rq) : Bool := partOk x 0 && partOk x 1 && partOk x 2 && partOk x 3 && partOk x 4 && partOk x 5 && !(x.frm == x.tto)
theorem rqOk_part {x : Rq} {k : Nat} (hk : k < 6) (h : partOk x k = false) : rqOk x = false := by
  unfold rqOk
  rcases lt6 hk with rfl | rfl | rfl | rfl | rfl | rfl <;> rw [h] <;> simp
theorem rqOk_same {x : Rq} (h : (x.frm == x.tto) = true) : rqOk x = false := by
  unfold rqOk
  rw [h]
  simp
theorem rqOk_all {x : Rq} (h : ∀ k, k < 6 → partOk x k = true) (h2 : (x.frm == x.tto) = false) : rqOk x = true := by
  unfold rqOk
  rw [h 0 (by omega), h 1 (by omega), h 2 (by omega), h 3 (by omega), h 4 (by omega), h 5 (by omega), h2]
  rfl
def errOf (x : Rq) : Int := if rqOk x = true then 0 else 1

end Go.Proofs.YtobcjbpgeohbgaaGreatDoor
