/-
  The statement CrcSeals of layer 3 (crc). No condition.
-/
import Derived.Test.YtmohgbnfhpffjaaCrc6
namespace Go.Proofs.Ytmohgbnfhpffjaa
open Go.RowKit
set_option linter.unusedVariables false

set_option maxRecDepth 100000 in
set_option maxHeartbeats 2000000 in
theorem seals_walk (a b : ByteArray) (w : World) : Calls Try.prog 10 #[.string a, .string b] w fun e w' => e = .returned (.bool true) ∧ Below w.heap.size w w' := by
  have HZ := Lib.hid (awake03)
  by_cases hl : 300 < a.size ∨ 300 < b.size
  · have hd : decide ((300 : Int) < (a.size : Int)) = true ∨ (decide ((300 : Int) < (a.size : Int)) = false ∧ decide ((300 : Int) < (b.size : Int)) = true) := by
      simp; omega
    rcases hd with hd | ⟨hd, hd2⟩
    all_goals
      go_enter Try.func10, Try.ntmps10
      go_wp2_with (go_at_call 23; refine (HZ.out _).mono ?_; rintro e w1 ⟨rfl, hb⟩)
      go_ret
      exact ⟨rfl, hb⟩
  · have hd : decide ((300 : Int) < (a.size : Int)) = false := by simp; omega
    have hd2 : decide ((300 : Int) < (b.size : Int)) = false := by simp; omega
    have ha : a.size ≤ 2147483648 := by omega
    have hb : b.size ≤ 2147483648 := by omega
    have hs : (ofL (sealL (bl a))).size ≤ 2147483648 := by rw [seal_size]; omega
    have C0 := fun w => csumN_any (ofL (sealL (bl a))) w hs
    rw [bl_ofL, crc_seal0] at C0
    have O1 := fun w => open_any (ofL (sealL (bl a))) w hs
    rw [open_seal] at O1
    have S1 := fun w => seal_any a w ha
    have S2 := fun w => rseal_any a w ha
    have O2 := fun w => open_any b w hb
    have O3 := fun w => ropen_any b w hb
    have A1 := fun w => apart_any a b w hb ha
    have A2 := fun w => rapart_any a b w hb ha
    generalize ofL (sealL (bl a)) = s at *
    generalize openB b = ob at *
    obtain ⟨y, f⟩ := ob
    generalize apB a b = ap at *
    obtain ⟨n, ok⟩ := ap
    have HC0 := Lib.hid C0
    have HO1 := Lib.hid O1
    have HS1 := Lib.hid S1
    have HS2 := Lib.hid S2
    have HO2 := Lib.hid O2
    have HO3 := Lib.hid O3
    have HA1 := Lib.hid A1
    have HA2 := Lib.hid A2
    clear C0 O1 S1 S2 O2 O3 A1 A2 hs ha hb hl
    go_enter Try.func10, Try.ntmps10
    go_wp2_with (first | (go_at_call 36; (with_reducible refine (HS1.out _).mono ?_); rintro e w' ⟨rfl, hx⟩; obtain ⟨ux, rfl⟩ := ext_of hx; clear hx) | (go_at_call 37; (with_reducible refine (HO1.out _).mono ?_); rintro e w' ⟨rfl, hx⟩; obtain ⟨ux, rfl⟩ := ext_of hx; clear hx) | (go_at_call 37; (with_reducible refine (HO2.out _).mono ?_); rintro e w' ⟨rfl, hx⟩; obtain ⟨ux, rfl⟩ := ext_of hx; clear hx) | (go_at_call 38; (with_reducible refine (HO3.out _).mono ?_); rintro e w' ⟨rfl, hx⟩; obtain ⟨ux, rfl⟩ := ext_of hx; clear hx) | (go_at_call 39; (with_reducible refine (HA1.out _).mono ?_); rintro e w' ⟨rfl, hx⟩; obtain ⟨ux, rfl⟩ := ext_of hx; clear hx) | (go_at_call 40; (with_reducible refine (HA2.out _).mono ?_); rintro e w' ⟨rfl, rfl⟩) | (go_at_call 41; (with_reducible refine (HS2.out _).mono ?_); rintro e w' ⟨rfl, hx⟩; obtain ⟨ux, rfl⟩ := ext_of hx; clear hx) | (go_at_call 24; (with_reducible refine (HC0.out _).mono ?_); rintro e w' ⟨rfl, hx⟩; obtain ⟨ux, rfl⟩ := ext_of hx; clear hx) | (go_at_call 23; (with_reducible refine (HZ.out _).mono ?_); rintro e w' ⟨rfl, hx⟩; obtain ⟨ux, rfl⟩ := ext_of hx; clear hx))
    go_ret
    exact ⟨rfl, below_ext _ (Below.refl _ _) (Nat.le_refl _)⟩
theorem seals_done : Walk 10 Try.f10 := by
  intro W args hs hc
  rw [Try.params10] at hs hc
  obtain ⟨l⟩ := args
  match l, hs with
  | [v0, v1], _ =>
    obtain ⟨a, rfl, _⟩ := came_string Try.underlying9 (hc 0 9 v0 rfl rfl)
    obtain ⟨b, rfl, _⟩ := came_string Try.underlying9 (hc 1 9 v1 rfl rfl)
    exact seals_walk a b W
end Go.Proofs.Ytmohgbnfhpffjaa
