/-
  Two slices that the call itself makes, element by element: what is put behind one leaves the other as it is.
-/
import Derived.Test.YtgkmmoiniidhlaaFrame
import Derived.Maps.AppendAt
namespace Go.Proofs.Ytgkmmoiniidhlaa
open Go.RowKit
set_option linter.unusedVariables false

/-- The two lie apart. -/
def Apart2 (v2 v : Value) : Prop := v2.ownBlock = none ∨ v2.ownBlock ≠ v.ownBlock
theorem Apart2.symm {v2 v : Value} (h : Apart2 v2 v) : Apart2 v v2 := by
  unfold Apart2 at *
  rcases h with h | h
  · by_cases hv : v.ownBlock = none
    · exact .inl hv
    · exact .inr (by rw [h]; exact hv)
  · exact .inr (Ne.symm h)
theorem apart2_nil (v : Value) : Apart2 (.slice none 0 0) v := .inl rfl
theorem wpList_append_two {P : Program} {w : World} {ops : Array Oper} {rest : List Oper} {o : Oper} {a : Act} {Q : Exit → Act → World → Prop} (hgd : o.guard = none) (s x : Operand) (t : TypeId)
    (ho : o.op = .call { callee := .builtin .append, args := #[s, x], argTypes := #[t, t] })
    (base : Nat) (e : TypeId) (i : TypeInfo) (z : Value) (size bytes : Nat) (ht : P.underlying t = some (.slice e)) (hi : P.info? e = some i) (hz : i.zero = some z)
    (hsize : i.size = size) (hby : i.bytes = bytes) (hzs : z.cells.size = size) (hsz : 0 < size)
    (v : Value) (n : Nat) (xs : List Value) (cs : Array Value) (hs : a.eval s = v) (hown : w.ownsRow base e size v n xs)
    (v2 : Value) (n2 : Nat) (xs2 : List Value) (e2 : TypeId) (size2 : Nat) (hown2 : w.ownsRow base e2 size2 v2 n2 xs2) (hap : Apart2 v2 v)
    (hx : a.eval x = .slice (some ⟨w.heap.size, 0, none⟩) 1 1) (hcs : cs.size = size) (h1 : cs.toList.all (fun u => u.oneCell') = true)
    (hn : n < 4294967296) (hb : bytes ≤ 16384) (hbase : base ≤ w.heap.size)
    (h : ∀ v' w', w'.ownsRow base e size v' (n + 1) (xs ++ cs.toList) → w'.ownsRow base e2 size2 v2 n2 xs2 → Apart2 v2 v' → Below base w w' → wpList P ops Q rest (a.put o.dst v') w') : wpList P ops Q (o :: rest) a (w.alloc (.cells cs e)) := by
  refine wpList_append_own_at _ hgd s x t ho base e i z size bytes ht hi hz hsize hby hzs hsz v n xs hs (hown.alloc _) ⟨w.heap.size, 0, none⟩ 1 1 cs.toList hx (by simp [hcs]) ?_ ?_ ?_ ?_ ?_ ?_
  · intro j u hu
    have hj : j < cs.size := by
      have := List.getElem?_eq_some_iff.1 hu
      simpa using this.1
    rw [addr_add]
    have hg : (w.alloc (.cells cs e)).heap[w.heap.size]? = some (.cells cs e (0, 0)) := heap_alloc_new w _
    simp only [World.cell?, hg, Nat.zero_add]
    simpa using hu
  · intro u hu
    exact List.all_eq_true.1 h1 u hu
  · unfold maxLen; omega
  · have : (n + 1) * bytes ≤ 4294967296 * 16384 := Nat.mul_le_mul (by omega) hb
    omega
  · simp; omega
  · intro v' w' hown' hg _ hat
    refine h v' w' hown' ((hown2.alloc (.cells cs e)).kept hg hap) ?_ ?_
    · rcases hap with h0 | h0
      · exact .inl h0
      · rcases hat with h2 | h2
        · exact .inr (by rw [h2]; exact h0)
        · cases h3 : v2.ownBlock with
          | none => exact .inl h3
          | some g =>
            have := (World.ownsRow.lt hown2 g h3).2
            refine .inr ?_
            rw [h2, h3]
            intro e1
            have e2 := Option.some.inj e1
            simp at e2
            omega
    · refine Below.grown ((Below.refl base w).alloc hbase _) hg (by simp; omega) ?_
      intro k hk
      exact ((World.ownsRow.lt hown k hk).1)
end Go.Proofs.Ytgkmmoiniidhlaa
