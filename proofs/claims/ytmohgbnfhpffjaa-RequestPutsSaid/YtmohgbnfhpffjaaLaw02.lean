/-
  The statements of layer 2 (octet): OctetPuts. No condition.
-/
import Derived.Test.YtmohgbnfhpffjaaOctet3
namespace Go.Proofs.Ytmohgbnfhpffjaa
open Go.RowKit
set_option linter.unusedVariables false

theorem awake02 (w : World) : Calls Try.prog 12 #[] w fun e w' => e = .returned (.bool true) ∧ Below w.heap.size w w' := by
  have p1 : putV ⟨#[120]⟩ 258 3 = .tuple #[.string ⟨#[120, 0, 1, 2]⟩, .int .i64 0] := by rfl
  have t1 : takeB ⟨#[1, 0, 7]⟩ 2 = ⟨256, 0, ⟨#[7]⟩⟩ := by rfl
  have t2 : takeB ⟨#[7]⟩ 2 = ⟨0, 3, ⟨#[7]⟩⟩ := by rfl
  have t3 : takeB ⟨#[7]⟩ 1 = ⟨7, 0, ⟨#[]⟩⟩ := by rfl
  go_enter Try.func12, Try.ntmps12
  go_wp2_with fail
  refine (put_any _ _ _ _ (by decide)).mono ?_
  rw [p1]
  rintro e w1 ⟨rfl, hb1⟩
  go_wp2_with fail
  refine (read_any _ _).mono ?_
  rintro e w2 ⟨rfl, hC, hb2, hs2⟩
  go_wp2_with fail
  refine (take_any _ _ 2 _ hC (by decide)).mono ?_
  rw [t1]
  rintro e w3 ⟨rfl, hC3, hO3⟩
  go_wp2_with fail
  refine (take_any _ _ 2 _ hC3 (by decide)).mono ?_
  rw [t2]
  rintro e w4 ⟨rfl, hC4, hO4⟩
  go_wp2_with fail
  refine (take_any _ _ 1 _ hC4 (by decide)).mono ?_
  rw [t3]
  rintro e w5 ⟨rfl, hC5, hO5⟩
  have hO := (hO3.trans hO4).trans hO5
  have HB := Lib.hid (hb1.trans ((hb2.mono hb1.size).trans (hO.below hb1.size (by have := hb1.size; have := hb2.size; omega))))
  clear hC hC3 hC4 hC5 hO3 hO4 hO5 hO hb1 hb2 hs2
  go_wp2
  go_ret
  exact ⟨rfl, HB.out⟩

theorem puts_walk (s : ByteArray) (n width : Int) (w : World) (hs : s.size ≤ maxLen) (hn : n ≤ 9223372036854775807) : Calls Try.prog 3 #[.string s, .int .i64 n, .int .i64 width] w fun e w' => e = .returned (.bool true) ∧ Below w.heap.size w w' := by
  by_cases hl : 500 < s.size
  · go_enter Try.func3, Try.ntmps3
    go_wp2_with (go_at_call 12; refine (awake02 _).mono ?_; rintro e w1 ⟨rfl, hb⟩)
    go_ret
    exact ⟨rfl, hb⟩
  · have hl2 : s.size ≤ 2147483648 := by omega
    have P1 := fun w => put_any s n width w hl2
    have P2 := fun w => rput_any s n width w hl2 hn
    unfold putV at P1 P2
    cases hk : numOk n width with
    | true =>
      rw [hk, if_pos rfl] at P1 P2
      generalize ofL (bl s ++ beB n width.toNat) = r at *
      have HP1 := Lib.hid P1
      have HP2 := Lib.hid P2
      clear P1 P2 hk
      go_enter Try.func3, Try.ntmps3
      go_wp2_with fail
      refine (HP1.out _).mono ?_
      rintro e w1 ⟨rfl, hb1⟩
      go_wp2_with fail
      refine (HP2.out _).mono ?_
      rintro e w2 ⟨rfl, hb2⟩
      go_wp2_with (go_at_call 12; refine (awake02 _).mono ?_; rintro e w3 ⟨rfl, hb3⟩)
      all_goals
        go_ret
        have s1 := hb1.size
        have s2 := hb2.size
        exact ⟨rfl, hb1.trans ((hb2.mono s1).trans (hb3.mono (by omega)))⟩
    | false =>
      rw [hk, if_neg (by decide)] at P1 P2
      have HP1 := Lib.hid P1
      have HP2 := Lib.hid P2
      clear P1 P2 hk
      go_enter Try.func3, Try.ntmps3
      go_wp2_with fail
      refine (HP1.out _).mono ?_
      rintro e w1 ⟨rfl, hb1⟩
      go_wp2_with fail
      refine (HP2.out _).mono ?_
      rintro e w2 ⟨rfl, hb2⟩
      go_wp2_with (go_at_call 12; refine (awake02 _).mono ?_; rintro e w3 ⟨rfl, hb3⟩)
      all_goals
        go_ret
        have s1 := hb1.size
        have s2 := hb2.size
        exact ⟨rfl, hb1.trans ((hb2.mono s1).trans (hb3.mono (by omega)))⟩

theorem i64_le {n : Int} (h : (Lit.int .i64 n).wf = true) : n ≤ 9223372036854775807 := by
  have h2 := h
  simp only [Lit.wf, Bool.and_eq_true, decide_eq_true_eq] at h2
  exact h2.2
theorem puts_done : Walk 3 Try.f3 := by
  intro W args hs hc
  rw [Try.params3] at hs hc
  obtain ⟨l⟩ := args
  match l, hs with
  | [v0, v1, v2], _ =>
    obtain ⟨s, rfl, hsz⟩ := came_string Try.underlying9 (hc 0 9 v0 rfl rfl)
    obtain ⟨n, rfl, hn⟩ := came_int Try.underlying3 (hc 1 3 v1 rfl rfl)
    obtain ⟨k, rfl, _⟩ := came_int Try.underlying3 (hc 2 3 v2 rfl rfl)
    exact puts_walk s n k W hsz (i64_le hn)
end Go.Proofs.Ytmohgbnfhpffjaa
