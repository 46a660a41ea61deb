
/-
  hist.Hist: the first threshold that is as asked for; Most, Least.
-/
import Derived.Test.YtagfbnfbiadpfaaGreatHist3
namespace Go.Proofs.YtagfbnfbiadpfaaGreat
open Go.RowKit Go.Shelf
set_option linter.unusedVariables false
set_option linter.unusedSimpArgs false
attribute [local go_sem] Oper.semAt_some

/-- The first threshold of which the sum below is as asked for. -/
def firstH (lv : Nat) (c : List Int) (q : Int → Bool) : Option Nat := (List.range (lv + 1)).find? fun t => q (sumH lv c t)
theorem first_none' (lv : Nat) (c : List Int) (q : Int → Bool) (h : ∀ p ∈ upto (sumAt lv c) (lv + 1), q p.2 = false) : firstH lv c q = none := by
  unfold firstH
  rw [List.find?_eq_none]
  intro t ht
  have := h _ (mem_upto lv c t (lv + 1) (List.mem_range.1 ht))
  have h2 : q (sumH lv c t) = false := this
  simp [h2]
theorem first_some' (lv : Nat) (c : List Int) (q : Int → Bool) (k : Nat) (hk : k ≤ lv + 1) (pre : List (Int × Int)) (x : Int × Int) (he : upto (sumAt lv c) k = pre ++ [x]) (hx : q x.2 = true) (h : ∀ p ∈ pre, q p.2 = false) : ∃ t : Nat, firstH lv c q = some t ∧ x.1 = t := by
  cases k with
  | zero => simp [upto] at he
  | succ k =>
    rw [upto_succ] at he
    obtain ⟨rfl, e2⟩ := List.append_inj' he rfl
    have e3 : sumAt lv c k = x := by simpa using e2
    subst e3
    refine ⟨k, ?_, rfl⟩
    unfold firstH
    rw [List.find?_eq_some_iff_getElem]
    refine ⟨hx, k, by rw [List.length_range]; omega, List.getElem_range .., fun j hj => ?_⟩
    rw [List.getElem_range]
    have h2 : q (sumH lv c j) = false := h _ (mem_upto lv c j k hj)
    simp [h2]
theorem IsObj.newAt' {n : Nat} (w : World) (ty : TypeId) (cs : List Value) (h : n = w.heap.size) : IsObj (w.alloc (.cells cs.toArray ty)) n ty cs := by
  subst h
  exact IsObj.new w ty cs
def firstV : Option Nat → Value
  | some t => .tuple #[.int .i64 t, .bool true]
  | none => .tuple #[.int .i64 0, .bool false]

/-! ### Most, Least -/
/-- The greatest threshold below which there are no more than so many. -/
def mostH (lv : Nat) (c : List Int) (many : Int) : Int := match firstH lv c (fun s => decide (cnt many < s)) with | none => lv | some t => (t : Int) - 1
def leastH (lv : Nat) (c : List Int) (many : Int) : Option Nat := if lv = 0 then none else firstH lv c (fun s => decide (cnt many ≤ s))
theorem first_lt (lv : Nat) (c : List Int) (q : Int → Bool) (t : Nat) (h : firstH lv c q = some t) : t ≤ lv := by
  have := List.mem_of_find?_eq_some h
  rw [List.mem_range] at this
  omega
end Go.Proofs.YtagfbnfbiadpfaaGreat
