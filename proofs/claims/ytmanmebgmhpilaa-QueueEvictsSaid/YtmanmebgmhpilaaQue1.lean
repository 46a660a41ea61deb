/-
  Layer 13 (queue): what a queue is in memory; its items; All, Has, Room, Clear, New.
-/
import Derived.Test.YtmanmebgmhpilaaPl2
namespace Go.Proofs.Ytmanmebgmhpilaa
open Go.RowKit
set_option linter.unusedVariables false
set_option linter.unusedSimpArgs false

abbrev QObj (w : World) (q : Nat) (pv : Value) (most : Int) : Prop := IsObj w q 80 [pv, .int .i64 most]
/-- Whose pile is asked. -/
def Items (qv pv : Value) (w : World) : Prop := Calls Try.prog 56 #[qv] w fun e w' => e = .returned pv ∧ w = w'
set_option maxRecDepth 100000 in
theorem items_nil (w : World) : Items (.pointer none) (.pointer none) w := by
  unfold Items
  go_enter Try.func56, Try.ntmps56
  go_wp2
  go_ret
  exact ⟨rfl, rfl⟩
set_option maxRecDepth 100000 in
theorem items_any {w : World} {q : Nat} {a : Option Addr} {most : Int} (h : QObj w q (.pointer a) most) : Items (.pointer (some ⟨q, 0, none⟩)) (.pointer a) w := by
  have c0 : w.cell? ⟨q, 0, none⟩ = some (.pointer a) := h.cell 0
  clear h
  unfold Items
  go_enter Try.func56, Try.ntmps56
  go_wp2
  go_ret
  exact ⟨rfl, rfl⟩
set_option maxRecDepth 100000 in
theorem qall_gen (qv pv : Value) (w : World) (R : Value → World → Prop) (hI : Items qv pv w) (hA : Calls Try.prog 27 #[pv] w fun e w' => ∃ v, e = .returned v ∧ R v w') :
    Calls Try.prog 31 #[qv] w fun e w' => ∃ v, e = .returned v ∧ R v w' := by
  have HI := Lib.hid hI
  unfold Items at HI
  have HA := Lib.hid hA
  clear hI hA
  go_enter Try.func31, Try.ntmps31
  go_wp2_with (first | (go_at_call 56; refine HI.out.mono ?_; rintro e w' ⟨rfl, rfl⟩) | (go_at_call 27; refine HA.out.mono ?_; rintro e w' ⟨v, rfl, hR⟩))
  go_ret
  exact ⟨v, rfl, hR⟩
set_option maxRecDepth 100000 in
theorem qclear_gen (qv pv : Value) (w : World) (R : World → Prop) (hI : Items qv pv w) (hA : Calls Try.prog 25 #[pv] w fun e w' => e = .returned (.tuple #[]) ∧ R w') :
    Calls Try.prog 41 #[qv] w fun e w' => e = .returned (.tuple #[]) ∧ R w' := by
  have HI := Lib.hid hI
  unfold Items at HI
  have HA := Lib.hid hA
  clear hI hA
  go_enter Try.func41, Try.ntmps41
  go_wp2_with (first | (go_at_call 56; refine HI.out.mono ?_; rintro e w' ⟨rfl, rfl⟩) | (go_at_call 25; refine HA.out.mono ?_; rintro e w' ⟨rfl, hR⟩))
  go_end0
  exact ⟨rfl, hR⟩
set_option maxRecDepth 100000 in
theorem qroom_nil (w : World) : Calls Try.prog 37 #[.pointer none] w fun e w' => e = .returned (.int .i64 0) ∧ Below w.heap.size w w' := by
  go_enter Try.func37, Try.ntmps37
  go_wp2
  go_ret
  exact ⟨rfl, Below.refl _ _⟩
set_option maxRecDepth 100000 in
theorem qroom_any {w : World} {q : Nat} {a : Option Addr} {most : Int} (n : Nat) (h : QObj w q (.pointer a) most) (hm : 0 ≤ most ∧ most ≤ 64) (hn : n ≤ 64) (hL : ∀ w', Below w.heap.size w w' → Calls Try.prog 16 #[.pointer a] w' fun e w2 => e = .returned (.int .i64 n) ∧ w' = w2) :
    Calls Try.prog 37 #[.pointer (some ⟨q, 0, none⟩)] w fun e w' => e = .returned (.int .i64 (most - n)) ∧ Below w.heap.size w w' := by
  have c0 : w.cell? ⟨q, 0, none⟩ = some (.pointer a) := h.cell 0
  have c1 : w.cell? ⟨q, 1, none⟩ = some (.int .i64 most) := h.cell 1
  have hLn : ∀ k, Calls Try.prog 16 #[.pointer a] (w.drewN k) fun e w2 => e = .returned (.int .i64 n) ∧ w.drewN k = w2 := fun k => hL _ (below_drewN (Below.refl _ _) k)
  have hw : IntKind.i64.wrap (most - (n : Int)) = most - (n : Int) := by rw [IntKind.wrap_i64]; omega
  have HL := Lib.hid hLn
  clear h hL hLn
  go_enter Try.func37, Try.ntmps37
  go_wp2_with fail
  go_quiet ((first | (go_at_call 16; first | (with_reducible exact quiet_left (HL.out _)) | (with_reducible exact quiet_add_left (HL.out _)))))
  go_wp2
  go_ret
  exact ⟨rfl, below_drewN (Below.refl _ _) _⟩
end Go.Proofs.Ytmanmebgmhpilaa
