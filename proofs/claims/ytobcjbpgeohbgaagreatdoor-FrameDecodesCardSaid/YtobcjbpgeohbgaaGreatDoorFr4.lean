/-
  Layer 27 (frame): what a body is read as, and the panic where it is none; the deferred closure.
-/
import Derived.Test.YtobcjbpgeohbgaaGreatDoorFr3
import Derived.Defers
import Derived.Recover
import Derived.Laws.Pointers
import Derived.WalkSmall
namespace Go.Proofs.YtobcjbpgeohbgaaGreatDoor
open Go.RowKit
set_option linter.unusedVariables false
set_option linter.unusedSimpArgs false

theorem must_ok (v : Value) (w : World) : Calls Tryz.prog 39 #[v, .int .i64 0] w fun e w' => e = .returned v ∧ w = w' := by
  go_enter Tryz.func39, Tryz.ntmps39
  go_wp2
  go_ret
  exact ⟨rfl, rfl⟩
theorem must_no (v : Value) (n : Int) (w : World) (hn : n ≠ 0) : Calls Tryz.prog 39 #[v, .int .i64 n] w fun e w' => e = .panicked [{ v := .iface 33 (.int .i64 n), recovered := false }] ∧ w = w' := by
  have hb : (n != 0) = true := by simpa using hn
  go_enter Tryz.func39, Tryz.ntmps39
  go_wp2
  exact ⟨rfl, rfl, rfl⟩
set_option maxRecDepth 100000 in
set_option maxHeartbeats 1000000 in
theorem read_q_ok (k : Int) (s : ByteArray) (hk : k = 1) (w : World) (hs : s.size ≤ 2147483648) (hN : NmAt w) (hW : WdAt w) (h : (getB s).err = 0) : Calls Tryz.prog 22 #[.int .i64 k, .string s] w fun e w' => e = .returned (.iface 68 (rqV (getB s).r)) ∧ Below w.heap.size w w' := by
  have KG := qget_any s w hs
  rw [h] at KG
  generalize (getB s).r = r at *
  clear hN hW h
  subst hk
  go_enter Tryz.func22, Tryz.ntmps22
  go_wp2_with (first | (go_at_call 38; refine KG.mono ?_; rintro e w1 ⟨rfl, b1⟩) | (go_at_call 39; refine (must_ok _ _).mono ?_; rintro e w2 ⟨rfl, rfl⟩))
  go_ret
  exact ⟨rfl, b1.trans (((Below.refl _ w1).alloc (Nat.le_refl _) _).mono b1.size)⟩
set_option maxRecDepth 100000 in
set_option maxHeartbeats 1000000 in
theorem read_q_no (k : Int) (s : ByteArray) (hk : k = 1) (w : World) (hs : s.size ≤ 2147483648) (hN : NmAt w) (hW : WdAt w) (h : (getB s).err ≠ 0) : Calls Tryz.prog 22 #[.int .i64 k, .string s] w fun e w' => (∃ n, e = .panicked [{ v := .iface 33 (.int .i64 n), recovered := false }]) ∧ Below w.heap.size w w' := by
  have KG := qget_any s w hs
  generalize (getB s).r = r at *
  generalize (getB s).err = n at *
  clear hN hW
  have KM := fun v w => must_no v n w h
  clear h
  subst hk
  go_enter Tryz.func22, Tryz.ntmps22
  go_wp2_with (first | (go_at_call 38; refine KG.mono ?_; rintro e w1 ⟨rfl, b1⟩) | (go_at_call 39; refine (KM _ _).mono ?_; rintro e w2 ⟨rfl, rfl⟩))
  exact ⟨rfl, ⟨n, rfl⟩, b1.trans (((Below.refl _ w1).alloc (Nat.le_refl _) _).mono b1.size)⟩
set_option maxRecDepth 100000 in
set_option maxHeartbeats 1000000 in
theorem read_a_ok (k : Int) (s : ByteArray) (hk : k = 2) (w : World) (hs : s.size ≤ 2147483648) (hN : NmAt w) (hW : WdAt w) (h : (getR s).err = 0) : Calls Tryz.prog 22 #[.int .i64 k, .string s] w fun e w' => e = .returned (.iface 71 (rpV (getR s).r)) ∧ Below w.heap.size w w' := by
  have KG := ypget_any s w hs hN
  rw [h] at KG
  generalize (getR s).r = r at *
  clear hN hW h
  subst hk
  go_enter Tryz.func22, Tryz.ntmps22
  go_wp2_with (first | (go_at_call 40; refine KG.mono ?_; rintro e w1 ⟨rfl, b1⟩) | (go_at_call 39; refine (must_ok _ _).mono ?_; rintro e w2 ⟨rfl, rfl⟩))
  go_ret
  exact ⟨rfl, b1.trans (((Below.refl _ w1).alloc (Nat.le_refl _) _).mono b1.size)⟩
set_option maxRecDepth 100000 in
set_option maxHeartbeats 1000000 in
theorem read_a_no (k : Int) (s : ByteArray) (hk : k = 2) (w : World) (hs : s.size ≤ 2147483648) (hN : NmAt w) (hW : WdAt w) (h : (getR s).err ≠ 0) : Calls Tryz.prog 22 #[.int .i64 k, .string s] w fun e w' => (∃ n, e = .panicked [{ v := .iface 33 (.int .i64 n), recovered := false }]) ∧ Below w.heap.size w w' := by
  have KG := ypget_any s w hs hN
  generalize (getR s).r = r at *
  generalize (getR s).err = n at *
  clear hN hW
  have KM := fun v w => must_no v n w h
  clear h
  subst hk
  go_enter Tryz.func22, Tryz.ntmps22
  go_wp2_with (first | (go_at_call 40; refine KG.mono ?_; rintro e w1 ⟨rfl, b1⟩) | (go_at_call 39; refine (KM _ _).mono ?_; rintro e w2 ⟨rfl, rfl⟩))
  exact ⟨rfl, ⟨n, rfl⟩, b1.trans (((Below.refl _ w1).alloc (Nat.le_refl _) _).mono b1.size)⟩
set_option maxRecDepth 100000 in
set_option maxHeartbeats 1000000 in
theorem read_p_ok (k : Int) (s : ByteArray) (hk : k ≠ 1 ∧ k ≠ 2) (w : World) (hs : s.size ≤ 2147483648) (hN : NmAt w) (hW : WdAt w) (h : (getP s).err = 0) : Calls Tryz.prog 22 #[.int .i64 k, .string s] w fun e w' => e = .returned (.iface 74 (psV (getP s).r)) ∧ Below w.heap.size w w' := by
  have KG := pget_any s w hs hW
  rw [h] at KG
  generalize (getP s).r = r at *
  clear hN hW h
  obtain ⟨h1, h2⟩ := hk
  have h1b : (k == 1) = false := by simpa using h1
  have h2b : (k == 2) = false := by simpa using h2
  go_enter Tryz.func22, Tryz.ntmps22
  go_wp2_with (first | (go_at_call 41; refine KG.mono ?_; rintro e w1 ⟨rfl, b1⟩) | (go_at_call 39; refine (must_ok _ _).mono ?_; rintro e w2 ⟨rfl, rfl⟩))
  go_ret
  exact ⟨rfl, b1.trans (((Below.refl _ w1).alloc (Nat.le_refl _) _).mono b1.size)⟩
set_option maxRecDepth 100000 in
set_option maxHeartbeats 1000000 in
theorem read_p_no (k : Int) (s : ByteArray) (hk : k ≠ 1 ∧ k ≠ 2) (w : World) (hs : s.size ≤ 2147483648) (hN : NmAt w) (hW : WdAt w) (h : (getP s).err ≠ 0) : Calls Tryz.prog 22 #[.int .i64 k, .string s] w fun e w' => (∃ n, e = .panicked [{ v := .iface 33 (.int .i64 n), recovered := false }]) ∧ Below w.heap.size w w' := by
  have KG := pget_any s w hs hW
  generalize (getP s).r = r at *
  generalize (getP s).err = n at *
  clear hN hW
  have KM := fun v w => must_no v n w h
  clear h
  obtain ⟨h1, h2⟩ := hk
  have h1b : (k == 1) = false := by simpa using h1
  have h2b : (k == 2) = false := by simpa using h2
  go_enter Tryz.func22, Tryz.ntmps22
  go_wp2_with (first | (go_at_call 41; refine KG.mono ?_; rintro e w1 ⟨rfl, b1⟩) | (go_at_call 39; refine (KM _ _).mono ?_; rintro e w2 ⟨rfl, rfl⟩))
  exact ⟨rfl, ⟨n, rfl⟩, b1.trans (((Below.refl _ w1).alloc (Nat.le_refl _) _).mono b1.size)⟩
/-- What a body is read as, and whether it is one. -/
structure Rd where
  f : Fm
  err : Int
def rdF (k : Int) (s : ByteArray) : Rd := if k = 1 then ⟨⟨1, (getB s).r, a0, p0⟩, (getB s).err⟩ else if k = 2 then ⟨⟨2, q0, (getR s).r, p0⟩, (getR s).err⟩ else ⟨⟨3, q0, a0, (getP s).r⟩, (getP s).err⟩
theorem read_ok (k : Int) (s : ByteArray) (w : World) (hs : s.size ≤ 2147483648) (hN : NmAt w) (hW : WdAt w) (h : (rdF k s).err = 0) : Calls Tryz.prog 22 #[.int .i64 k, .string s] w fun e w' => (∃ v, e = .returned v ∧ ∀ W, Calls Tryz.prog 21 #[v] W fun e w' => e = .returned (fmV (rdF k s).f) ∧ Below W.heap.size W w') ∧ Below w.heap.size w w' := by
  unfold rdF at *
  by_cases h1 : k = 1
  · simp only [h1, if_true] at h ⊢
    exact (read_q_ok 1 s rfl w hs hN hW h).mono (by rintro e w' ⟨rfl, hb⟩; exact ⟨⟨_, rfl, fun W => whole_q _ W⟩, hb⟩)
  · by_cases h2 : k = 2
    · simp only [h2, if_true, if_neg (show ¬ ((2 : Int) = 1) by decide)] at h ⊢
      exact (read_a_ok 2 s rfl w hs hN hW h).mono (by rintro e w' ⟨rfl, hb⟩; exact ⟨⟨_, rfl, fun W => whole_a _ W⟩, hb⟩)
    · simp only [if_neg h1, if_neg h2] at h ⊢
      exact (read_p_ok k s ⟨h1, h2⟩ w hs hN hW h).mono (by rintro e w' ⟨rfl, hb⟩; exact ⟨⟨_, rfl, fun W => whole_p _ W⟩, hb⟩)
theorem read_no (k : Int) (s : ByteArray) (w : World) (hs : s.size ≤ 2147483648) (hN : NmAt w) (hW : WdAt w) (h : (rdF k s).err ≠ 0) : Calls Tryz.prog 22 #[.int .i64 k, .string s] w fun e w' => (∃ n, e = .panicked [{ v := .iface 33 (.int .i64 n), recovered := false }]) ∧ Below w.heap.size w w' := by
  unfold rdF at *
  by_cases h1 : k = 1
  · simp only [h1, if_true] at h ⊢
    exact read_q_no 1 s rfl w hs hN hW h
  · by_cases h2 : k = 2
    · simp only [h2, if_true, if_neg (show ¬ ((2 : Int) = 1) by decide)] at h ⊢
      exact read_a_no 2 s rfl w hs hN hW h
    · simp only [if_neg h1, if_neg h2] at h ⊢
      exact read_p_no k s ⟨h1, h2⟩ w hs hN hW h
end Go.Proofs.YtobcjbpgeohbgaaGreatDoor
