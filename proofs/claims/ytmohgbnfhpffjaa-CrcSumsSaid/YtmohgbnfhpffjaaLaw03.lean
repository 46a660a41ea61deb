/-
  The statement CrcSums of layer 3 (crc). No condition.
-/
import Derived.Test.YtmohgbnfhpffjaaCrc2
namespace Go.Proofs.Ytmohgbnfhpffjaa
open Go.RowKit
set_option linter.unusedVariables false

theorem r16_id (n : Nat) (h : n < 65536) : r16 (n : Int) = n := by unfold r16; omega
theorem moreM_any (x : Int) (s : ByteArray) (m : Nat) (hm : moreN (r16 x) (bl s) = m) (w : World) (hs : s.size ≤ 2147483648) : Calls Try.prog 26 #[.int .i64 x, .string s] w fun e w' => e = .returned (.int .i64 (m : Nat)) ∧ Below w.heap.size w w' := by
  subst hm
  exact more_any x s w hs
theorem rmoreM_any (x : Int) (s : ByteArray) (m : Nat) (hm : moreN (r16 x) (bl s) = m) (w : World) (hs : s.size ≤ 2147483648) : Calls Try.prog 27 #[.int .i64 x, .string s] w fun e w' => e = .returned (.int .i64 (m : Nat)) ∧ w = w' := by
  subst hm
  exact rmore_any x s w hs
theorem csumM_any (s : ByteArray) (m : Nat) (hm : crcN (bl s) = m) (w : World) (hs : s.size ≤ 2147483648) : Calls Try.prog 24 #[.string s] w fun e w' => e = .returned (.int .i64 (m : Nat)) ∧ Below w.heap.size w w' := by
  subst hm
  exact csumN_any s w hs
theorem bl_append (a b : ByteArray) : bl (a ++ b) = bl a ++ bl b := by
  have h := append_ofL a (bl b)
  rw [ofL_bl] at h
  rw [h, bl_ofL]
set_option maxRecDepth 100000 in
theorem sums_walk (a b : ByteArray) (x : Int) (w : World) : Calls Try.prog 6 #[.string a, .string b, .int .i64 x] w fun e w' => e = .returned (.bool true) ∧ Below w.heap.size w w' := by
  by_cases hl : 300 < a.size ∨ 300 < b.size
  · have hd : decide ((300 : Int) < (a.size : Int)) = true ∨ (decide ((300 : Int) < (a.size : Int)) = false ∧ decide ((300 : Int) < (b.size : Int)) = true) := by
      simp; omega
    rcases hd with hd | ⟨hd, hd2⟩
    all_goals
      go_enter Try.func6, Try.ntmps6
      go_wp2_with (go_at_call 23; refine (awake03 _).mono ?_; rintro e w1 ⟨rfl, hb⟩)
      go_ret
      exact ⟨rfl, hb⟩
  · have hd : decide ((300 : Int) < (a.size : Int)) = false := by simp; omega
    have hd2 : decide ((300 : Int) < (b.size : Int)) = false := by simp; omega
    have ha : a.size ≤ 300 := by omega
    have hb : b.size ≤ 300 := by omega
    have hab : (a ++ b).size ≤ 2147483648 := by rw [ByteArray.size_append']; omega
    obtain ⟨p, hp⟩ : ∃ p, crcN (bl a) = p := ⟨_, rfl⟩
    obtain ⟨q, hq⟩ : ∃ q, moreN (r16 x) (bl b) = q := ⟨_, rfl⟩
    obtain ⟨z, hz⟩ : ∃ z, moreN p (bl b) = z := ⟨_, rfl⟩
    have hp2 : p < 65536 := by rw [← hp]; exact crcN_lt _
    have hz2 : crcN (bl (a ++ b)) = z := by
      rw [bl_append, ← hz, ← hp]
      exact moreN_append 65535 (bl a) (bl b)
    have H1 := Lib.hid (fun w => csumM_any a p hp w (by omega))
    have H2 := Lib.hid (fun w => rsumN_any a w (by omega))
    rw [hp] at H2
    have H3 := Lib.hid (fun w => moreM_any x b q hq w (by omega))
    have H4 := Lib.hid (fun w => rmoreM_any x b q hq w (by omega))
    have H5 := Lib.hid (fun w => moreM_any (p : Int) b z (by rw [r16_id p hp2]; exact hz) w (by omega))
    have H6 := Lib.hid (fun w => csumM_any (a ++ b) z hz2 w hab)
    have HZ := Lib.hid (awake03)
    clear hl hp hq hz hz2 hab
    go_enter Try.func6, Try.ntmps6
    go_wp2_with (first | (go_at_call 24; (with_reducible refine (H1.out _).mono ?_); rintro e w' ⟨rfl, hx⟩; obtain ⟨ux, rfl⟩ := ext_of hx; clear hx) | (go_at_call 25; (with_reducible refine (H2.out _).mono ?_); rintro e w' ⟨rfl, rfl⟩) | (go_at_call 26; (with_reducible refine (H3.out _).mono ?_); rintro e w' ⟨rfl, hx⟩; obtain ⟨ux, rfl⟩ := ext_of hx; clear hx) | (go_at_call 27; (with_reducible refine (H4.out _).mono ?_); rintro e w' ⟨rfl, rfl⟩) | (go_at_call 26; (with_reducible refine (H5.out _).mono ?_); rintro e w' ⟨rfl, hx⟩; obtain ⟨ux, rfl⟩ := ext_of hx; clear hx) | (go_at_call 24; (with_reducible refine (H6.out _).mono ?_); rintro e w' ⟨rfl, hx⟩; obtain ⟨ux, rfl⟩ := ext_of hx; clear hx) | (go_at_call 23; (with_reducible refine (HZ.out _).mono ?_); rintro e w' ⟨rfl, hx⟩; obtain ⟨ux, rfl⟩ := ext_of hx; clear hx))
    go_ret
    exact ⟨rfl, below_ext _ (Below.refl _ _) (Nat.le_refl _)⟩
theorem sums3_done : Walk 6 Try.f6 := by
  intro W args hs hc
  rw [Try.params6] at hs hc
  obtain ⟨l⟩ := args
  match l, hs with
  | [v0, v1, v2], _ =>
    obtain ⟨a, rfl, _⟩ := came_string Try.underlying9 (hc 0 9 v0 rfl rfl)
    obtain ⟨b, rfl, _⟩ := came_string Try.underlying9 (hc 1 9 v1 rfl rfl)
    obtain ⟨n, rfl, hn⟩ := came_int Try.underlying3 (hc 2 3 v2 rfl rfl)
    exact sums_walk a b n W
end Go.Proofs.Ytmohgbnfhpffjaa
