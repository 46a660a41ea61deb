/-
  Objects of many cells: one that is filled at once, and one that is read at once.
-/
import Derived.Test.YtobcjbpgeohbgaaGreatDoorFrame
import Derived.Deep.MidRow
import Derived.Deep.CutBlock
import Derived.Deep.CutRange
import Derived.BigFrame
namespace Go.Proofs.YtobcjbpgeohbgaaGreatDoor
open Go.RowKit
set_option linter.unusedVariables false
set_option linter.unusedSimpArgs false

theorem Only.setCells {b : Nat} (vs : List Value) : ∀ (o : Nat) {u w : World}, Only b u w → Only b u (w.setCells b o vs) := by
  induction vs with
  | nil => intro o u w h; exact h
  | cons v vs ih => intro o u w h; exact ih (o + 1) (h.setCell (.inl rfl) v)
theorem IsObj.there {w : World} {b : Nat} {ty : TypeId} {cs : List Value} (h : IsObj w b ty cs) (o n : Nat) (hn : o + n ≤ cs.length) : w.there b o n := by
  intro j hj
  refine ⟨?_, IsObj.free h _⟩
  rw [IsObj.cell h]
  simp; omega
theorem IsObj.range {w : World} {b : Nat} {ty : TypeId} {cs : List Value} (h : IsObj w b ty cs) : w.rangeAt b 0 cs := fun j v hv => by rw [Nat.zero_add, h.cell j]; exact hv
theorem IsObj.setCells {b : Nat} {ty : TypeId} (vs : List Value) : ∀ (o : Nat) {w : World} {cs : List Value}, IsObj w b ty cs → o + vs.length ≤ cs.length → IsObj (w.setCells b o vs) b ty (cs.take o ++ vs ++ cs.drop (o + vs.length)) := by
  induction vs with
  | nil => intro o w cs h hl; simpa [World.setCells] using h
  | cons v vs ih =>
    intro o w cs h hl
    simp only [List.length_cons] at hl
    have h1 := ih (o + 1) (h.set o v) (by rw [List.length_set]; omega)
    have e : (cs.set o v).take (o + 1) ++ vs ++ (cs.set o v).drop (o + 1 + vs.length) = cs.take o ++ (v :: vs) ++ cs.drop (o + (v :: vs).length) := by
      simp only [List.length_cons] at hl ⊢
      rw [List.drop_set_of_lt (by omega), List.take_set, List.take_succ_eq_append_getElem (by omega), List.set_append_right _ _ (by simp; omega)]
      simp [Nat.min_eq_left (show o ≤ cs.length by omega)]
      congr 1
      omega
    rw [e] at h1
    exact h1
theorem IsObj.setAll {w : World} {b : Nat} {ty : TypeId} {cs xs : List Value} (h : IsObj w b ty cs) (hl : xs.length = cs.length) : IsObj (w.setCells b 0 xs) b ty xs := by
  have k := IsObj.setCells xs 0 h (by omega)
  rw [List.take_zero, List.nil_append, List.drop_eq_nil_of_le (by omega), List.append_nil] at k
  exact k
theorem newvar (W : World) (cs zs : List Value) (ty : TypeId) (hl : cs.length = zs.length) : (W.alloc (.cells zs.toArray ty)).there W.heap.size 0 cs.toArray.size ∧ IsObj ((W.alloc (.cells zs.toArray ty)).setCells W.heap.size 0 cs.toArray.toList) W.heap.size ty cs ∧ Below W.heap.size W ((W.alloc (.cells zs.toArray ty)).setCells W.heap.size 0 cs.toArray.toList) := by
  have o := IsObj.new W ty zs
  have hO := Only.setCells (b := W.heap.size) cs 0 (Only.refl W.heap.size (W.alloc (.cells zs.toArray ty)))
  have b1 : Below W.heap.size W (W.alloc (.cells zs.toArray ty)) := (Below.refl _ W).alloc (Nat.le_refl _) _
  exact ⟨IsObj.there o 0 cs.length (by omega), IsObj.setAll o hl, b1.trans (hO.below (Nat.le_refl _) (by simp))⟩
theorem results_cell {fn : Func} {tmps : Array Value} {a : Nat} {t : TypeId} {ad : Addr} {w : World} {v : Value} (h : fn.results = #[.cell a t]) (ha : tmps.getD a undef = .pointer (some ad)) (hl : (loadVar t ad).run Tryz.prog w = .ok v w) : (results fn tmps).run Tryz.prog w = .ok v w := by
  rw [Array.getD_eq_getD_getElem?] at ha
  simp [results, h, ha, asAddr, hl]
theorem results_cell_tmp {fn : Func} {tmps : Array Value} {a k : Nat} {t : TypeId} {ad : Addr} {w : World} {v x : Value} (h : fn.results = #[.cell a t, .tmp k]) (ha : tmps.getD a undef = .pointer (some ad)) (hx : tmps.getD k undef = x) (hl : (loadVar t ad).run Tryz.prog w = .ok v w) : (results fn tmps).run Tryz.prog w = .ok (.tuple #[v, x]) w := by
  rw [Array.getD_eq_getD_getElem?] at ha hx
  simp [results, h, ha, asAddr, hl, hx]
theorem results_cell_cell {fn : Func} {tmps : Array Value} {a b : Nat} {t u : TypeId} {ad bd : Addr} {w : World} {v x : Value} (h : fn.results = #[.cell a t, .cell b u]) (ha : tmps.getD a undef = .pointer (some ad)) (hb : tmps.getD b undef = .pointer (some bd)) (hl : (loadVar t ad).run Tryz.prog w = .ok v w) (hm : (loadVar u bd).run Tryz.prog w = .ok x w) : (results fn tmps).run Tryz.prog w = .ok (.tuple #[v, x]) w := by
  rw [Array.getD_eq_getD_getElem?] at ha hb
  simp [results, h, ha, hb, asAddr, hl, hm]
theorem wpList_load_midg {ops : Array Oper} {rest : List Oper} {op : Oper} {a : Act} {w : World} {Q : Exit → Act → World → Prop} (hw : Region.wanted op (yielded ops a.tmps) = true) (ty : TypeId) (x : Operand) (ho : op.op = .load ty x)
    (b o : Nat) (hx : a.eval x = .pointer (some ⟨b, o, none⟩)) (cs : List Value) (d : TypeDesc) (hc : w.rangeAt b o cs)
    (hu : Tryz.prog.underlying ty = some d) (hd : d.isRow = true) (hi : (Tryz.prog.info? ty).map (·.size) = some cs.length)
    (h : wpList Tryz.prog ops Q rest (a.put op.dst (.agg cs.toArray)) w) : wpList Tryz.prog ops Q (op :: rest) a w :=
  BigFrame.wpList_want hw fun _ hK => wp_load_mid ty x ho b o hx cs d hc hu hd hi (hK _ _ h)
theorem below_go {w W W1 : World} (h : Below w.heap.size w W) (hb : Below W.heap.size W W1) : Below w.heap.size w W1 := h.trans (hb.mono h.size)
end Go.Proofs.YtobcjbpgeohbgaaGreatDoor
