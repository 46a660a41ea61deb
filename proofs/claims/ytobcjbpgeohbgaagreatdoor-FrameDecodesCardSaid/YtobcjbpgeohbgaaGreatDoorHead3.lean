/-
  Layer 23 (head): First and Get, and the document's.
-/
import Derived.Test.YtobcjbpgeohbgaaGreatDoorHead2
namespace Go.Proofs.YtobcjbpgeohbgaaGreatDoor
open Go.RowKit
set_option linter.unusedVariables false

theorem lk_yes {s : ByteArray} {k : Nat} {r : Nat → Bool} {e : Int} (h : k < s.size ∧ r (sb s k) = false) : lk s k r e = e := if_pos h
theorem lk_no {s : ByteArray} {k : Nat} {r : Nat → Bool} {e : Int} (h : ¬ (k < s.size ∧ r (sb s k) = false)) : lk s k r e = 0 := if_neg h
theorem wrong_cases (s : ByteArray) :
    ((0 < s.size ∧ sb s 0 ≠ 183) ∧ wrongN s = 2) ∨
    ((1 < s.size ∧ sb s 0 = 183 ∧ sb s 1 ≠ 1) ∧ wrongN s = 2) ∨
    ((2 < s.size ∧ sb s 0 = 183 ∧ sb s 1 = 1 ∧ (sb s 2 < 1 ∨ (1 ≤ sb s 2 ∧ 3 < sb s 2))) ∧ wrongN s = 5) ∨
    ((3 < s.size ∧ sb s 0 = 183 ∧ sb s 1 = 1 ∧ 1 ≤ sb s 2 ∧ sb s 2 ≤ 3 ∧ 200 < sb s 3) ∧ wrongN s = 9) ∨
    ((s.size < 4 ∧ (0 < s.size → sb s 0 = 183) ∧ (1 < s.size → sb s 1 = 1) ∧ (2 < s.size → 1 ≤ sb s 2 ∧ sb s 2 ≤ 3)) ∧ wrongN s = 3) ∨
    ((4 ≤ s.size ∧ sb s 0 = 183 ∧ sb s 1 = 1 ∧ 1 ≤ sb s 2 ∧ sb s 2 ≤ 3 ∧ sb s 3 ≤ 200) ∧ wrongN s = 0) := by
  unfold wrongN lk0 lk1 lk2 lk3
  by_cases h0 : 0 < s.size ∧ sb s 0 ≠ 183
  · rw [lk_yes (e := 2) (k := 0) (r := fun b => b == 183) ⟨h0.1, by simpa using h0.2⟩]
    exact .inl ⟨h0, rfl⟩
  rw [lk_no (e := 2) (k := 0) (r := fun b => b == 183) (by simp; intro h; by_cases c : sb s 0 = 183; exact c; exact absurd ⟨h, c⟩ h0)]
  by_cases h1 : 1 < s.size ∧ sb s 1 ≠ 1
  · rw [lk_yes (e := 2) (k := 1) (r := fun b => b == 1) ⟨h1.1, by simpa using h1.2⟩]
    exact .inr (.inl ⟨⟨h1.1, by omega, h1.2⟩, rfl⟩)
  rw [lk_no (e := 2) (k := 1) (r := fun b => b == 1) (by simp; intro h; by_cases c : sb s 1 = 1; exact c; exact absurd ⟨h, c⟩ h1)]
  by_cases h2 : 2 < s.size ∧ ¬ (1 ≤ sb s 2 ∧ sb s 2 ≤ 3)
  · rw [lk_yes (e := 5) (k := 2) (r := fun b => decide (1 ≤ b ∧ b ≤ 3)) ⟨h2.1, by simpa using h2.2⟩]
    exact .inr (.inr (.inl ⟨⟨h2.1, by omega, by omega, by omega⟩, rfl⟩))
  rw [lk_no (e := 5) (k := 2) (r := fun b => decide (1 ≤ b ∧ b ≤ 3)) (by simp; intro h; omega)]
  by_cases h3 : 3 < s.size ∧ ¬ (sb s 3 ≤ 200)
  · rw [lk_yes (e := 9) (k := 3) (r := fun b => decide (b ≤ 200)) ⟨h3.1, by simpa using h3.2⟩]
    exact .inr (.inr (.inr (.inl ⟨⟨h3.1, by omega, by omega, by omega, by omega, by omega⟩, rfl⟩)))
  rw [lk_no (e := 9) (k := 3) (r := fun b => decide (b ≤ 200)) (by simp; intro h; omega)]
  by_cases h4 : s.size < 4
  · exact .inr (.inr (.inr (.inr (.inl ⟨⟨h4, by omega, by omega, by omega⟩, by simp [h4]⟩))))
  · exact .inr (.inr (.inr (.inr (.inr ⟨⟨by omega, by omega, by omega, by omega, by omega, by omega⟩, by simp [h4]⟩))))
structure Hf where
  kind : Int
  body : ByteArray
  n : Int
  err : Int
def noHf (e : Int) : Hf := ⟨0, ⟨#[]⟩, 0, e⟩
/-- What First comes to. -/
def firstB (s : ByteArray) : Hf := if wrongN s ≠ 0 then noHf (wrongN s) else if s.size < 6 + sb s 3 then noHf 3 else if (openB (s.extract 0 (6 + sb s 3))).err ≠ 0 then noHf 4 else ⟨(sb s 2 : Nat), s.extract 4 (4 + sb s 3), ((6 + sb s 3 : Nat) : Int), 0⟩
theorem open_cases (t : ByteArray) (h : 2 ≤ t.size) : ((openB t).err = 0 ∧ (openB t).got = t.extract 0 (t.size - 2)) ∨ (openB t).err = 4 := by
  unfold openB
  rw [if_neg (by omega)]
  split
  · exact .inl ⟨rfl, rfl⟩
  · exact .inr rfl
theorem extract_ee (s : ByteArray) (a b c d : Nat) (h : d ≤ b) : (s.extract 0 b).extract c d = s.extract c d := by
  rw [← ofL_bl ((s.extract 0 b).extract c d), ← ofL_bl (s.extract c d)]
  congr 1
  rw [bl_extract, bl_extract, bl_extract, List.drop_zero, Nat.sub_zero, List.drop_take, List.take_take]
  congr 1
  omega
/-- The three ways of First where the first bytes are well. -/
theorem first_well {s : ByteArray} (h : wrongN s = 0) (hn : ¬ s.size < 6 + sb s 3) :
    (firstB s = noHf 4 ∧ (openB (s.extract 0 (6 + sb s 3))).err = 4) ∨
    (firstB s = ⟨(sb s 2 : Nat), s.extract 4 (4 + sb s 3), ((6 + sb s 3 : Nat) : Int), 0⟩ ∧ (openB (s.extract 0 (6 + sb s 3))).err = 0 ∧ (openB (s.extract 0 (6 + sb s 3))).got = s.extract 0 (4 + sb s 3)) := by
  have hz : (s.extract 0 (6 + sb s 3)).size = 6 + sb s 3 := by rw [ByteArray.size_extract]; omega
  have hoc := open_cases (s.extract 0 (6 + sb s 3)) (by omega)
  have hg : (s.extract 0 (6 + sb s 3)).extract 0 ((s.extract 0 (6 + sb s 3)).size - 2) = s.extract 0 (4 + sb s 3) := by
    rw [hz, extract_ee s 0 _ _ _ (by omega)]
    congr 1
    omega
  have e : firstB s = if (openB (s.extract 0 (6 + sb s 3))).err ≠ 0 then noHf 4 else ⟨(sb s 2 : Nat), s.extract 4 (4 + sb s 3), ((6 + sb s 3 : Nat) : Int), 0⟩ := by
    unfold firstB
    rw [if_neg (fun c => c h), if_neg hn]
  rw [hg] at hoc
  rw [e]
  clear e hg hz
  generalize openB (s.extract 0 (6 + sb s 3)) = ob at *
  obtain ⟨g, er⟩ := ob
  simp only at hoc ⊢
  rcases hoc with ⟨rfl, rfl⟩ | rfl
  · exact .inr ⟨if_neg (by decide), rfl, rfl⟩
  · exact .inl ⟨if_pos (by decide), rfl⟩
theorem openB_eta (t : ByteArray) (g : ByteArray) (e : Int) (h1 : (openB t).err = e) (h2 : (openB t).got = g) : openB t = ⟨g, e⟩ := by
  rw [← h1, ← h2]
set_option maxRecDepth 100000 in
set_option maxHeartbeats 1000000 in
theorem hfirst_any (s : ByteArray) (w : World) (hs : s.size ≤ 2147483648) : Calls Tryz.prog 37 #[.string s] w fun e w' => e = .returned (.tuple #[.int .i64 (firstB s).kind, .string (firstB s).body, .int .i64 (firstB s).n, .int .i64 (firstB s).err]) ∧ Below w.heap.size w w' := by
  have HWr := Lib.hid (fun w => wrong_any s w hs)
  by_cases hw : wrongN s = 0
  · rcases wrong_cases s with ⟨_, h⟩ | ⟨_, h⟩ | ⟨_, h⟩ | ⟨_, h⟩ | ⟨_, h⟩ | ⟨⟨k0, k1, k2, k3, k4, k5⟩, _⟩
    · rw [h] at hw; cases hw
    · rw [h] at hw; cases hw
    · rw [h] at hw; cases hw
    · rw [h] at hw; cases hw
    · rw [h] at hw; cases hw
    rw [hw] at HWr
    have hsb3 := sb_at s 3 (by omega)
    have hsb2 := sb_at s 2 (by omega)
    have hlen := Lib.hid (fun w => len_is (sb s 3 : Nat) ((6 + sb s 3 : Nat) : Int) (by rw [if_neg (by omega)]; omega) w)
    have i4 : (3 : Int) < (s.size : Int) := by omega
    have i5 : (2 : Int) < (s.size : Int) := by omega
    by_cases hn : s.size < 6 + sb s 3
    · have he : firstB s = noHf 3 := by unfold firstB; rw [if_neg (fun c => c hw), if_pos hn]
      rw [he]
      have i6 : (s.size : Int) < ((6 + sb s 3 : Nat) : Int) := by omega
      clear he hw
      go_enter Tryz.func37, Tryz.ntmps37
      go_wp2_with (first | (go_at_call 60; (with_reducible refine (HWr.out _).mono ?_); rintro e w' ⟨rfl, hx⟩; obtain ⟨ux, rfl⟩ := ext_of hx; clear hx) | (go_at_call 61; (with_reducible refine (hlen.out _).mono ?_); rintro e w' ⟨rfl, rfl⟩))
      go_returns
      exact ⟨rfl, below_ext _ (Below.refl _ _) (Nat.le_refl _)⟩
    · have i6 : ¬ (s.size : Int) < ((6 + sb s 3 : Nat) : Int) := by omega
      have i7 : (0 : Int) ≤ ((6 + sb s 3 : Nat) : Int) := by omega
      have hz : (s.extract 0 (6 + sb s 3)).size ≤ 2147483648 := by rw [ByteArray.size_extract]; omega
      have HO := Lib.hid (fun w => open_any (s.extract 0 (6 + sb s 3)) w hz)
      have htn : (((6 + sb s 3 : Nat) : Int)).toNat = 6 + sb s 3 := Int.toNat_natCast _
      rcases first_well hw hn with ⟨he, ho⟩ | ⟨he, ho, hg⟩
      · rw [he]
        rw [ho] at HO
        generalize (openB (s.extract 0 (6 + sb s 3))).got = t at *
        generalize 6 + sb s 3 = n at *
        clear hw he
        go_enter Tryz.func37, Tryz.ntmps37
        go_wp2_with (first | (go_at_call 60; (with_reducible refine (HWr.out _).mono ?_); rintro e w' ⟨rfl, hx⟩; obtain ⟨ux, rfl⟩ := ext_of hx; clear hx) | (go_at_call 61; (with_reducible refine (hlen.out _).mono ?_); rintro e w' ⟨rfl, rfl⟩) | (go_at_call 62; (with_reducible refine (HO.out _).mono ?_); rintro e w' ⟨rfl, hx⟩; obtain ⟨ux, rfl⟩ := ext_of hx; clear hx))
        go_returns
        exact ⟨rfl, below_ext _ (Below.refl _ _) (Nat.le_refl _)⟩
      · rw [he]
        rw [ho, hg] at HO
        have ht : (s.extract 0 (4 + sb s 3)).size = 4 + sb s 3 := by rw [ByteArray.size_extract]; omega
        have hb : (s.extract 0 (4 + sb s 3)).extract 4 (s.extract 0 (4 + sb s 3)).size = s.extract 4 (4 + sb s 3) := by rw [ht, extract_ee s 0 _ _ _ (Nat.le_refl _)]
        have hwr2 : IntKind.i64.wrap ((sb s 2 : Nat) : Int) = ((sb s 2 : Nat) : Int) := IntWalk.i64_in _ (by omega)
        have ht4 : (4 : Int) ≤ ((s.extract 0 (4 + sb s 3)).size : Int) := by omega
        generalize s.extract 4 (4 + sb s 3) = b at *
        generalize s.extract 0 (4 + sb s 3) = t at *
        generalize 6 + sb s 3 = n at *
        clear hw he ht
        go_enter Tryz.func37, Tryz.ntmps37
        go_wp2_with (first | (go_at_call 60; (with_reducible refine (HWr.out _).mono ?_); rintro e w' ⟨rfl, hx⟩; obtain ⟨ux, rfl⟩ := ext_of hx; clear hx) | (go_at_call 61; (with_reducible refine (hlen.out _).mono ?_); rintro e w' ⟨rfl, rfl⟩) | (go_at_call 62; (with_reducible refine (HO.out _).mono ?_); rintro e w' ⟨rfl, hx⟩; obtain ⟨ux, rfl⟩ := ext_of hx; clear hx))
        ((first | (with_reducible refine region_ext2 (by kernel_rfl) (by kernel_rfl) ?_) | (refine region_ext (by kernel_rfl) (by kernel_rfl) ?_)); (repeat ((with_reducible refine wpQuiet_step (fun K hK => ?_)); go_simp; (first | ((refine hK _ ?_); clear hK K) | ((apply Exists.intro); (refine ⟨fun _ => ?_, hK _ ?_⟩); (first | fail); clear hK K)))); refine wpQuiet_nil ?_; rintro _ ⟨uq, rfl⟩)
        go_wp2
        go_returns
        exact ⟨rfl, below_ext _ (Below.refl _ _) (Nat.le_refl _)⟩
  · have he : firstB s = noHf (wrongN s) := by unfold firstB; rw [if_pos hw]
    rw [he]
    have hwb : (wrongN s != 0) = true := by simpa using hw
    generalize wrongN s = e0 at *
    clear he hw
    go_enter Tryz.func37, Tryz.ntmps37
    go_wp2_with (go_at_call 60; (with_reducible refine (HWr.out _).mono ?_); rintro e w' ⟨rfl, hx⟩; obtain ⟨ux, rfl⟩ := ext_of hx; clear hx)
    go_returns
    exact ⟨rfl, below_ext _ (Below.refl _ _) (Nat.le_refl _)⟩
end Go.Proofs.YtobcjbpgeohbgaaGreatDoor
