/-
  Layer 13 (queue): Take, Next, All, Has, Room, Clear of a queue in memory, and of none; New.
-/
import Derived.Test.YtmanmebgmhpilaaQue2
namespace Go.Proofs.Ytmanmebgmhpilaa
open Go.RowKit
set_option linter.unusedVariables false
set_option linter.unusedSimpArgs false

theorem ssort_nil : ssort [] = [] := List.eq_nil_of_length_eq_zero (ssort_len [])
theorem below_mid {w w0 w2 w' : World} (b0 : Below w.heap.size w w0) (b2 : Below w0.heap.size w0 w2) (ho : Only w.heap.size w2 w') : Below w.heap.size w w' := by
  have h := b0.trans (b2.mono b0.size)
  exact h.trans (ho.below (Nat.le_refl _) h.size)
section
variable {w : World} {q p M : Nat} {most : Int} {tv : Value} {T : List It}
theorem qtake_in (k : Nat) (h : QAt w q p M most tv T) (hk : k < T.length) : Calls Try.prog 39 #[.pointer (some ⟨q, 0, none⟩), .int .i64 (nth T k).id] w fun e w' => e = .returned (.tuple #[.agg (itCells (nth T k)).toArray, .bool true]) ∧ ∃ tv', QAt w' q p M most tv' (outT T k) ∧ Frp p M tv tv' w w' := by
  have hy := h.h.young rfl
  refine (qtake_gen _ _ _ w (nth T k) true (fun w0 w2 => ∃ tv', PAt w2 p M most tv' (outT T k) ∧ Frp p M tv tv' w0 w2) h.items (fun w0 hb => ptake_in k (h.h.same hb) hk) (fun w0 w2 hb hs ⟨tv', _, f⟩ => f.block _ hs hy.1 hy.2.1 hy.2.2)).mono ?_
  rintro e w' ⟨he, w0, w2, b0, hs, ⟨tv', hp, f⟩, ho⟩
  obtain ⟨r1, r2⟩ := frp_mid h.h b0 hs hp f ho
  exact ⟨he, tv', h.frp r2 r1, r2⟩
theorem qtake_out (id : Int) (h : QAt w q p M most tv T) (hid : IdOk id) (hn : id ∉ T.map It.id) : Calls Try.prog 39 #[.pointer (some ⟨q, 0, none⟩), .int .i64 id] w fun e w' => e = .returned (.tuple #[.agg (itCells it0).toArray, .bool false]) ∧ Below w.heap.size w w' := by
  refine (qtake_gen _ _ _ w it0 false (fun w0 w2 => Below w0.heap.size w0 w2) h.items (fun w0 hb => ptake_out id (h.h.same hb) hid hn) (fun w0 w2 hb hs h2 => h2.block _ hs)).mono ?_
  rintro e w' ⟨he, w0, w2, b0, hs, h2, ho⟩
  exact ⟨he, below_mid b0 h2 ho⟩
theorem qnext_any (h : QAt w q p M most tv T) (h0 : 0 < T.length) : Calls Try.prog 33 #[.pointer (some ⟨q, 0, none⟩)] w fun e w' => e = .returned (.tuple #[.agg (itCells (nth T 0)).toArray, .bool true]) ∧ ∃ tv', QAt w' q p M most tv' (outT T 0) ∧ Frp p M tv tv' w w' := by
  have hy := h.h.young rfl
  refine (qnext_gen _ _ w (nth T 0) true (fun w0 w2 => ∃ tv', PAt w2 p M most tv' (outT T 0) ∧ Frp p M tv tv' w0 w2) h.items (fun w0 hb => ppop_any (h.h.same hb) h0) (fun w0 w2 hb hs ⟨tv', _, f⟩ => f.block _ hs hy.1 hy.2.1 hy.2.2)).mono ?_
  rintro e w' ⟨he, w0, w2, b0, hs, ⟨tv', hp, f⟩, ho⟩
  obtain ⟨r1, r2⟩ := frp_mid h.h b0 hs hp f ho
  exact ⟨he, tv', h.frp r2 r1, r2⟩
theorem qnext_empty (h : QAt w q p M most tv []) : Calls Try.prog 33 #[.pointer (some ⟨q, 0, none⟩)] w fun e w' => e = .returned (.tuple #[.agg (itCells it0).toArray, .bool false]) ∧ Below w.heap.size w w' := by
  refine (qnext_gen _ _ w it0 false (fun w0 w2 => Below w0.heap.size w0 w2) h.items (fun w0 hb => ppop_empty (h.h.same hb)) (fun w0 w2 hb hs h2 => h2.block _ hs)).mono ?_
  rintro e w' ⟨he, w0, w2, b0, hs, h2, ho⟩
  exact ⟨he, below_mid b0 h2 ho⟩
theorem qall_any (h : QAt w q p M most tv T) : Calls Try.prog 31 #[.pointer (some ⟨q, 0, none⟩)] w fun e w' => ∃ v, e = .returned v ∧ w'.ownsRow w.heap.size 31 7 v T.length ((ssort T).flatMap itCells) ∧ Below w.heap.size w w' := by
  refine qall_gen _ _ w (fun v w' => w'.ownsRow w.heap.size 31 7 v T.length ((ssort T).flatMap itCells) ∧ Below w.heap.size w w') (h.items w (Below.refl _ _)) ?_
  by_cases hT : T = []
  · subst hT
    refine (pall_empty h.h).mono ?_
    rintro e w' ⟨rfl, rfl⟩
    exact ⟨_, rfl, by rw [ssort_nil]; exact World.ownsRow_nil _ _ _ _, Below.refl _ _⟩
  · refine (pall_any h.h (List.length_pos_iff.2 hT)).mono ?_
    rintro e w' ⟨g, cap, rfl, ho, hb⟩
    exact ⟨_, rfl, ho, hb⟩
theorem qhas_in (k : Nat) (h : QAt w q p M most tv T) (hk : k < T.length) : Calls Try.prog 42 #[.pointer (some ⟨q, 0, none⟩), .int .i64 (nth T k).id] w fun e w' => e = .returned (.bool true) ∧ Below w.heap.size w w' :=
  qhas_gen _ _ _ w (nth T k) true (h.items w (Below.refl _ _)) (pget_in k h.h hk)
theorem qhas_out (id : Int) (h : QAt w q p M most tv T) (hid : IdOk id) (hn : id ∉ T.map It.id) : Calls Try.prog 42 #[.pointer (some ⟨q, 0, none⟩), .int .i64 id] w fun e w' => e = .returned (.bool false) ∧ Below w.heap.size w w' :=
  qhas_gen _ _ _ w it0 false (h.items w (Below.refl _ _)) (pget_out id h.h hid hn)
theorem qroom_at (h : QAt w q p M most tv T) (hm : 0 ≤ most ∧ most ≤ 64) : Calls Try.prog 37 #[.pointer (some ⟨q, 0, none⟩)] w fun e w' => e = .returned (.int .i64 (most - T.length)) ∧ Below w.heap.size w w' :=
  qroom_any T.length h.o hm h.h.len64 (fun w' hb => plen_any (h.h.same hb))
theorem qclear_any (h : QAt w q p M most tv T) : Calls Try.prog 41 #[.pointer (some ⟨q, 0, none⟩)] w fun e w' => e = .returned (.tuple #[]) ∧ QAt w' q p M most (.slice none 0 0) [] ∧ Frp p M tv (.slice none 0 0) w w' := by
  refine qclear_gen _ _ w (fun w' => QAt w' q p M most (.slice none 0 0) [] ∧ Frp p M tv (.slice none 0 0) w w') (h.items w (Below.refl _ _)) ?_
  refine (pclear_any h.h).mono ?_
  rintro e w' ⟨he, hp, f⟩
  exact ⟨he, h.frp f hp, f⟩
end
/-! ### no pile -/
section
variable {w : World} {qv : Value}
theorem nnext (hI : ∀ w', Below w.heap.size w w' → Items qv (.pointer none) w') : Calls Try.prog 33 #[qv] w fun e w' => e = .returned (.tuple #[.agg (itCells it0).toArray, .bool false]) ∧ Below w.heap.size w w' := by
  refine (qnext_gen _ _ w it0 false (fun w0 w2 => Below w0.heap.size w0 w2) hI (fun w0 hb => ppop_nil w0) (fun w0 w2 hb hs h2 => h2.block _ hs)).mono ?_
  rintro e w' ⟨he, w0, w2, b0, hs, h2, ho⟩
  exact ⟨he, below_mid b0 h2 ho⟩
theorem ntake (id : Int) (hI : ∀ w', Below w.heap.size w w' → Items qv (.pointer none) w') : Calls Try.prog 39 #[qv, .int .i64 id] w fun e w' => e = .returned (.tuple #[.agg (itCells it0).toArray, .bool false]) ∧ Below w.heap.size w w' := by
  refine (qtake_gen _ _ _ w it0 false (fun w0 w2 => Below w0.heap.size w0 w2) hI (fun w0 hb => ptake_nil w0 id) (fun w0 w2 hb hs h2 => h2.block _ hs)).mono ?_
  rintro e w' ⟨he, w0, w2, b0, hs, h2, ho⟩
  exact ⟨he, below_mid b0 h2 ho⟩
theorem nall (hI : Items qv (.pointer none) w) : Calls Try.prog 31 #[qv] w fun e w' => e = .returned (.slice none 0 0) ∧ w = w' := by
  refine (qall_gen _ _ w (fun v w' => v = .slice none 0 0 ∧ w = w') hI ((pall_nil w).mono fun e w' ⟨he, hw⟩ => ⟨_, he, rfl, hw⟩)).mono ?_
  rintro e w' ⟨v, he, rfl, hw⟩
  exact ⟨he, hw⟩
theorem nhas (id : Int) (hI : Items qv (.pointer none) w) : Calls Try.prog 42 #[qv, .int .i64 id] w fun e w' => e = .returned (.bool false) ∧ Below w.heap.size w w' :=
  qhas_gen _ _ _ w it0 false hI (pget_nil id w)
theorem nclear (hI : Items qv (.pointer none) w) : Calls Try.prog 41 #[qv] w fun e w' => e = .returned (.tuple #[]) ∧ w = w' :=
  qclear_gen _ _ w (fun w' => w = w') hI ((pclear_nil w).mono fun e w' h => h)
theorem nroom {q : Nat} (h : QObj w q (.pointer none) 0) : Calls Try.prog 37 #[.pointer (some ⟨q, 0, none⟩)] w fun e w' => e = .returned (.int .i64 0) ∧ Below w.heap.size w w' := by
  have h1 := qroom_any (w := w) (q := q) (a := none) (most := 0) 0 h (by decide) (by decide) (fun w' hb => plen_nil w')
  exact h1
end
/-! ### New -/
set_option maxRecDepth 100000 in
theorem qnew_ok (most : Int) (w : World) (h0 : 1 ≤ most) (h1 : most ≤ 64) : Calls Try.prog 30 #[.int .i64 most] w fun e w' => ∃ q p M, e = .returned (.tuple #[.pointer (some ⟨q, 0, none⟩), .int .i64 0]) ∧ QAt w' q p M most (.slice none 0 0) [] ∧ Below w.heap.size w w' ∧ w.heap.size ≤ M ∧ w.heap.size ≤ p ∧ w.heap.size ≤ q := by
  have KN := pnew_ok most w (by omega) h1
  have j0 : decide (most < 1) = false := decide_eq_false (by omega)
  go_enter Try.func30, Try.ntmps30
  go_wp2_with fail
  refine KN.mono ?_
  rintro e w1 ⟨rfl, hp, b1⟩
  have HP := Lib.hid hp
  have B1 := Lib.hid b1
  clear hp b1 KN
  go_wp2_with fail
  go_returns
  have b2 : Below w1.heap.size w1 (w1.alloc (.cells #[.pointer (some ⟨w.heap.size + 1, 0, none⟩), .int .i64 most] 80)) := (Below.refl _ _).alloc (Nat.le_refl _) _
  have hy := HP.out.young (G := w1.heap.size) rfl
  exact ⟨w1.heap.size, w.heap.size + 1, w.heap.size, rfl, ⟨IsObj.new w1 _ [.pointer (some ⟨w.heap.size + 1, 0, none⟩), .int .i64 most], HP.out.same b2, hy⟩, B1.out.trans (b2.mono B1.out.size), Nat.le_refl _, by omega, B1.out.size⟩
set_option maxRecDepth 100000 in
theorem qnew_bad (most : Int) (w : World) (h : most < 1 ∨ 64 < most) : Calls Try.prog 30 #[.int .i64 most] w fun e w' => e = .returned (.tuple #[.pointer none, .int .i64 1]) ∧ w = w' := by
  by_cases h0 : most < 1
  · have j0 : decide (most < 1) = true := decide_eq_true h0
    clear h
    go_enter Try.func30, Try.ntmps30
    go_wp2
    go_returns
    exact ⟨rfl, rfl⟩
  · have j0 : decide (most < 1) = false := decide_eq_false h0
    have KN := pnew_bad most w (.inr (by omega))
    clear h
    go_enter Try.func30, Try.ntmps30
    go_wp2_with (go_at_call 11; refine KN.mono ?_; rintro e w1 ⟨rfl, rfl⟩)
    go_returns
    exact ⟨rfl, rfl⟩
end Go.Proofs.Ytmanmebgmhpilaa
