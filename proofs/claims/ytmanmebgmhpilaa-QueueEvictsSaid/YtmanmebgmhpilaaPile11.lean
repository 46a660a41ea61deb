/-
  Layer 12 (pile): Clear; All; a pile that nobody made.
-/
import Derived.Test.YtmanmebgmhpilaaSortT
import Derived.Test.YtmanmebgmhpilaaAwake12
namespace Go.Proofs.Ytmanmebgmhpilaa
open Go.RowKit Go.Maps
set_option linter.unusedVariables false

theorem wpList_run1 {P : Program} {ops : Array Oper} {rest : List Oper} {o : Oper} {a : Act} {w w' : World} {v : Value} {Q : Exit → Act → World → Prop} (hgd : o.guard = none) (x : Operand) (t : TypeId)
    (ho : o.op = .call { callee := .builtin .clear, args := #[x], argTypes := #[t] }) (u : Value) (hx : a.eval x = u) (hr : (Builtin.clear_ #[t] o.type #[u]).run P w = .ok v w') (h : wpList P ops Q rest (a.put o.dst v) w') : wpList P ops Q (o :: rest) a w := by
  refine wpList_plain hgd fun K hK => ?_
  unfold Oper.wp execOp
  simp only [ho, resolve, invoke, builtin, Sem.run_bind, Sem.run_pure, Result.andThen_ok, List.map_toArray, List.map_cons, List.map_nil, hx, hr]
  exact hK _ _ h
theorem run_clear {w : World} {M : Nat} {es : Array MapEntry} {clock : Nat} (ty : TypeId) (hb : w.heap[M]? = some (.map es clock)) :
    ∃ w', (Builtin.clear_ #[54] ty #[.map (some M)]).run Try.prog w = .ok (.tuple #[]) w' ∧ w'.heap[M]? = some (.map #[] clock) ∧ Only M w w' := by
  have hu := run_underlying Try.underlying54
  refine ⟨{ w with heap := w.heap.setIfInBounds M (.map #[] clock) }, ?_, ?_, ?_⟩
  · simp [Builtin.clear_, hu, Go.MapKept.run_getObj_map hb, Go.MapKept.run_setObj_map _ hb, Result.andThen]
  · exact (Go.MapKept.heap_set hb).1
  · exact ⟨rfl, rfl, rfl, by simp, fun k hk hne => (Go.MapKept.heap_set hb).2 k (fun e => hne (by rw [e]))⟩
theorem PRaw.cleared {w w1 w2 : World} {p M : Nat} {most : Int} {tv : Value} {T : List It} {D : Dat} {clock : Nat} (h : PRaw w p M most tv T D) (hw1 : w1 = w.setCell ⟨p, 2, none⟩ (.slice none 0 0)) (hm : w2.heap[M]? = some (.map #[] clock)) (ho : Only M w1 w2) :
    PRaw w2 p M most (.slice none 0 0) [] (.map []) ∧ Frp p M tv (.slice none 0 0) w w2 := by
  subst hw1
  have o1 := h.o.set 2 (.slice none 0 0)
  have hpM : p ≠ M := by have := h.ord; omega
  have o2 : IsObj w2 p 58 [.map (some M), .int .i64 most, .slice none 0 0] := (ho.block p o1.lt (fun e => hpM (by cases e; rfl))).trans o1
  refine ⟨⟨o2, ⟨#[], clock, hm, ⟨by simp, Go.MapKept.stamped_empty clock, by simp⟩, Nat.zero_le _, rfl⟩, World.ownsRow_nil _ _ _ _, h.ord, fun x hx => by simp at hx, by simp⟩, ?_⟩
  refine ⟨ho.os, ho.tape, ho.output, by have := ho.size; simpa using this, fun k hk h1 h2 h3 => ?_, .inr fun g hg => by simp [Value.ownBlock] at hg⟩
  exact (ho.block k (by simpa using hk) (fun e => h2 (by cases e; rfl))).trans (Below.heap_setCell w _ _ k h1)
set_option maxRecDepth 100000 in
theorem pclear_any {w : World} {p M : Nat} {most : Int} {tv : Value} {T : List It} (h : PAt w p M most tv T) : Calls Try.prog 25 #[.pointer (some ⟨p, 0, none⟩)] w fun e w' => e = .returned (.tuple #[]) ∧ PAt w' p M most (.slice none 0 0) [] ∧ Frp p M tv (.slice none 0 0) w w' := by
  obtain ⟨D, hr, _, _⟩ := h.raw
  have c2 : w.cell? ⟨p, 2, none⟩ = some tv := hr.o.cell 2
  have f2 := hr.o.free 2
  have c0 : (w.setCell ⟨p, 2, none⟩ (.slice none 0 0)).cell? ⟨p, 0, none⟩ = some (.map (some M)) := (hr.o.set 2 (.slice none 0 0)).cell 0
  obtain ⟨es, clock, hb, _⟩ := hr.m
  have hb1 : (w.setCell ⟨p, 2, none⟩ (.slice none 0 0)).heap[M]? = some (.map es clock) := (Below.heap_setCell w _ _ M (by have := hr.ord; simp; omega)).trans hb
  obtain ⟨w2, hrun, hm2, ho2⟩ := run_clear 0 hb1
  have HR := Lib.hid hr
  have HH := Lib.hid (And.intro hm2 ho2)
  clear hr h hb hm2 ho2 hb1
  go_enter Try.func25, Try.ntmps25
  go_wp2_with (refine wpList_run1 (by rfl) _ 54 (by rfl) (.map (some M)) (by rfl) hrun ?_)
  go_end0
  obtain ⟨q1, q2⟩ := HR.out.cleared rfl HH.out.1 HH.out.2
  exact ⟨rfl, ⟨⟨_, q1, idx_empty, by simp [Maps.size]⟩, by simp⟩, q2⟩
set_option maxRecDepth 100000 in
theorem pclear_nil (w : World) : Calls Try.prog 25 #[.pointer none] w fun e w' => e = .returned (.tuple #[]) ∧ w = w' := by
  go_enter Try.func25, Try.ntmps25
  go_wp2
  go_end0
  exact ⟨rfl, rfl⟩

/-! ### All -/
set_option maxRecDepth 100000 in
theorem pall_nil (w : World) : Calls Try.prog 27 #[.pointer none] w fun e w' => e = .returned (.slice none 0 0) ∧ w = w' := by
  go_enter Try.func27, Try.ntmps27
  go_wp2_with ((go_at_call 16; (with_reducible refine (plen_nil _).mono ?_); rintro e w' ⟨rfl, rfl⟩))
  go_ret
  exact ⟨rfl, rfl⟩
set_option maxRecDepth 100000 in
theorem pall_empty {w : World} {p M : Nat} {most : Int} {tv : Value} (h : PAt w p M most tv []) : Calls Try.prog 27 #[.pointer (some ⟨p, 0, none⟩)] w fun e w' => e = .returned (.slice none 0 0) ∧ w = w' := by
  have KL : Calls Try.prog 16 #[.pointer (some ⟨p, 0, none⟩)] w fun e w' => e = .returned (.int .i64 0) ∧ w = w' := plen_any h
  clear h
  go_enter Try.func27, Try.ntmps27
  go_wp2_with ((go_at_call 16; (with_reducible refine (KL).mono ?_); rintro e w' ⟨rfl, rfl⟩))
  go_ret
  exact ⟨rfl, rfl⟩
set_option maxRecDepth 100000 in
theorem pall_any {w : World} {p M : Nat} {most : Int} {tv : Value} {T : List It} (h : PAt w p M most tv T) (h0 : 0 < T.length) : Calls Try.prog 27 #[.pointer (some ⟨p, 0, none⟩)] w fun e w' => ∃ g cap, e = .returned (.slice (some ⟨g, 0, none⟩) T.length cap) ∧ w'.ownsRow w.heap.size 31 7 (.slice (some ⟨g, 0, none⟩) T.length cap) T.length ((ssort T).flatMap itCells) ∧ Below w.heap.size w w' := by
  have KL := plen_any h
  obtain ⟨D, hr, _⟩ := h.raw
  obtain ⟨g0, cap0, hv, _, _⟩ := hr.shape h0
  have c2 : w.cell? ⟨p, 2, none⟩ = some (.slice (some ⟨g0, 0, none⟩) T.length cap0) := by rw [← hv]; exact hr.o.cell 2
  have hrow := own_rowOf0 hr.t hv
  have h64 := hr.len
  have hz : ¬ (T.length : Int) = 0 := by omega
  have hcon := sort_any (some ⟨g0, 0, none⟩) cap0 T w (by omega) (.inr ⟨g0, 0, rfl, hrow⟩)
  clear hr h hrow
  go_enter Try.func27, Try.ntmps27
  go_wp2_with (first | (go_at_call 16; (with_reducible refine (KL).mono ?_); rintro e w' ⟨rfl, rfl⟩) | (go_at_call 21; refine hcon.mono ?_; rintro e w' ⟨g, cap, rfl, hown, hb⟩))
  go_ret
  exact ⟨g, cap, rfl, hown, hb⟩
end Go.Proofs.Ytmanmebgmhpilaa
