/-
  Layer 23 (head): Get, and the document's First and Get.
-/
import Derived.Test.YtobcjbpgeohbgaaGreatDoorHead3
namespace Go.Proofs.YtobcjbpgeohbgaaGreatDoor
open Go.RowKit
set_option linter.unusedVariables false

/-- What Get comes to. -/
structure Hg where
  kind : Int
  body : ByteArray
  err : Int
def getH (s : ByteArray) : Hg := if (firstB s).err ≠ 0 then ⟨0, ⟨#[]⟩, (firstB s).err⟩ else if (firstB s).n < (s.size : Int) then ⟨0, ⟨#[]⟩, 2⟩ else ⟨(firstB s).kind, (firstB s).body, 0⟩
set_option maxRecDepth 100000 in
theorem hget_any (s : ByteArray) (w : World) (hs : s.size ≤ 2147483648) : Calls Tryz.prog 20 #[.string s] w fun e w' => e = .returned (.tuple #[.int .i64 (getH s).kind, .string (getH s).body, .int .i64 (getH s).err]) ∧ Below w.heap.size w w' := by
  have F := fun w => hfirst_any s w hs
  unfold getH
  generalize firstB s = f at *
  obtain ⟨k, b, n, er⟩ := f
  simp only at F ⊢
  have HF := Lib.hid F
  clear F
  by_cases he : er ≠ 0
  · rw [if_pos he]
    have hb : (er != 0) = true := by simpa using he
    go_enter Tryz.func20, Tryz.ntmps20
    go_wp2_with (go_at_call 37; (with_reducible refine (HF.out _).mono ?_); rintro e w' ⟨rfl, hx⟩; obtain ⟨ux, rfl⟩ := ext_of hx; clear hx)
    go_returns
    exact ⟨rfl, below_ext _ (Below.refl _ _) (Nat.le_refl _)⟩
  · rw [if_neg he]
    have he0 : er = 0 := by omega
    subst he0
    clear he
    by_cases hn : n < (s.size : Int)
    · rw [if_pos hn]
      go_enter Tryz.func20, Tryz.ntmps20
      go_wp2_with (go_at_call 37; (with_reducible refine (HF.out _).mono ?_); rintro e w' ⟨rfl, hx⟩; obtain ⟨ux, rfl⟩ := ext_of hx; clear hx)
      go_returns
      exact ⟨rfl, below_ext _ (Below.refl _ _) (Nat.le_refl _)⟩
    · rw [if_neg hn]
      go_enter Tryz.func20, Tryz.ntmps20
      go_wp2_with (go_at_call 37; (with_reducible refine (HF.out _).mono ?_); rintro e w' ⟨rfl, hx⟩; obtain ⟨ux, rfl⟩ := ext_of hx; clear hx)
      go_returns
      exact ⟨rfl, below_ext _ (Below.refl _ _) (Nat.le_refl _)⟩

/-! ### The document's -/
set_option maxRecDepth 100000 in
set_option maxHeartbeats 2000000 in
theorem rfirst_any (s : ByteArray) (w : World) (hs : s.size ≤ 2147483648) : Calls Tryz.prog 42 #[.string s] w fun e w' => e = .returned (.tuple #[.int .i64 (firstB s).kind, .string (firstB s).body, .int .i64 (firstB s).n, .int .i64 (firstB s).err]) ∧ Below w.heap.size w w' := by
  have b0 := sb_lt s 0
  have b1 := sb_lt s 1
  have b2 := sb_lt s 2
  have b3 := sb_lt s 3
  have hbad : wrongN s ≠ 0 → firstB s = noHf (wrongN s) := fun h => by unfold firstB; rw [if_pos h]
  rcases wrong_cases s with ⟨⟨k0, k1⟩, h⟩ | ⟨⟨k0, k1, k2⟩, h⟩ | ⟨⟨k0, k1, k2, k3⟩, h⟩ | ⟨⟨k0, k1, k2, k3, k4, k5⟩, h⟩ | ⟨⟨k0, k1, k2, k3⟩, h⟩ | ⟨⟨k0, k1, k2, k3, k4, k5⟩, h⟩
  · rw [hbad (by rw [h]; decide), h]
    clear hbad h
    have s0 := sb_at s 0 (by omega)
    have i0 : (0 : Int) < (s.size : Int) := by omega
    have q0 : ((sb s 0 : Int) != 183) = true := by simp; omega
    generalize sb s 0 = c0 at *
    go_enter Tryz.func42, Tryz.ntmps42
    go_wp2
    go_returns
    exact ⟨rfl, Below.refl _ _⟩
  · rw [hbad (by rw [h]; decide), h]
    clear hbad h
    have s0 := sb_at s 0 (by omega)
    have s1 := sb_at s 1 (by omega)
    have i0 : (0 : Int) < (s.size : Int) := by omega
    have i1 : (1 : Int) < (s.size : Int) := by omega
    rw [k1] at s0
    have q1 : ((sb s 1 : Int) != 1) = true := by simp; omega
    generalize sb s 1 = c1 at *
    go_enter Tryz.func42, Tryz.ntmps42
    go_wp2
    go_returns
    exact ⟨rfl, Below.refl _ _⟩
  · rw [hbad (by rw [h]; decide), h]
    clear hbad h
    have s0 := sb_at s 0 (by omega)
    have s1 := sb_at s 1 (by omega)
    have s2 := sb_at s 2 (by omega)
    have i0 : (0 : Int) < (s.size : Int) := by omega
    have i1 : (1 : Int) < (s.size : Int) := by omega
    have i2 : (2 : Int) < (s.size : Int) := by omega
    rw [k1] at s0
    rw [k2] at s1
    generalize sb s 2 = c2 at *
    rcases k3 with k3 | ⟨k3, k4⟩
    · have q2 : (c2 : Int) < 1 := by omega
      clear k3
      go_enter Tryz.func42, Tryz.ntmps42
      go_wp2
      go_returns
      exact ⟨rfl, Below.refl _ _⟩
    · have q2 : ¬ (c2 : Int) < 1 := by omega
      have q3 : (3 : Int) < (c2 : Int) := by omega
      clear k3 k4
      go_enter Tryz.func42, Tryz.ntmps42
      go_wp2
      go_returns
      exact ⟨rfl, Below.refl _ _⟩
  · rw [hbad (by rw [h]; decide), h]
    clear hbad h
    have s0 := sb_at s 0 (by omega)
    have s1 := sb_at s 1 (by omega)
    have s2 := sb_at s 2 (by omega)
    have s3 := sb_at s 3 (by omega)
    have i0 : (0 : Int) < (s.size : Int) := by omega
    have i1 : (1 : Int) < (s.size : Int) := by omega
    have i2 : (2 : Int) < (s.size : Int) := by omega
    have i3 : (3 : Int) < (s.size : Int) := by omega
    rw [k1] at s0
    rw [k2] at s1
    generalize sb s 2 = c2 at *
    generalize sb s 3 = c3 at *
    have q2 : ¬ (c2 : Int) < 1 := by omega
    have q3 : ¬ (3 : Int) < (c2 : Int) := by omega
    have q4 : (200 : Int) < (c3 : Int) := by omega
    clear k3 k4 k5
    go_enter Tryz.func42, Tryz.ntmps42
    go_wp2
    go_returns
    exact ⟨rfl, Below.refl _ _⟩
  · rw [hbad (by rw [h]; decide), h]
    clear hbad h
    have i3 : ¬ (3 : Int) < (s.size : Int) := by omega
    have i4 : (s.size : Int) < 4 := by omega
    by_cases z0 : 0 < s.size
    · have s0 := sb_at s 0 z0
      have i0 : (0 : Int) < (s.size : Int) := by omega
      rw [k1 z0] at s0
      by_cases z1 : 1 < s.size
      · have s1 := sb_at s 1 z1
        have i1 : (1 : Int) < (s.size : Int) := by omega
        rw [k2 z1] at s1
        by_cases z2 : 2 < s.size
        · have s2 := sb_at s 2 z2
          have i2 : (2 : Int) < (s.size : Int) := by omega
          obtain ⟨m1, m2⟩ := k3 z2
          clear k1 k2 k3
          generalize sb s 2 = c2 at *
          have q2 : ¬ (c2 : Int) < 1 := by omega
          have q3 : ¬ (3 : Int) < (c2 : Int) := by omega
          go_enter Tryz.func42, Tryz.ntmps42
          go_wp2
          go_returns
          exact ⟨rfl, Below.refl _ _⟩
        · have i2 : ¬ (2 : Int) < (s.size : Int) := by omega
          clear k1 k2 k3
          go_enter Tryz.func42, Tryz.ntmps42
          go_wp2
          go_returns
          exact ⟨rfl, Below.refl _ _⟩
      · have i1 : ¬ (1 : Int) < (s.size : Int) := by omega
        have i2 : ¬ (2 : Int) < (s.size : Int) := by omega
        clear k1 k2 k3
        go_enter Tryz.func42, Tryz.ntmps42
        go_wp2
        go_returns
        exact ⟨rfl, Below.refl _ _⟩
    · have i0 : ¬ (0 : Int) < (s.size : Int) := by omega
      have i1 : ¬ (1 : Int) < (s.size : Int) := by omega
      have i2 : ¬ (2 : Int) < (s.size : Int) := by omega
      clear k1 k2 k3
      go_enter Tryz.func42, Tryz.ntmps42
      go_wp2
      go_returns
      exact ⟨rfl, Below.refl _ _⟩
  · clear hbad
    have s0 := sb_at s 0 (by omega)
    have s1 := sb_at s 1 (by omega)
    have s2 := sb_at s 2 (by omega)
    have s3 := sb_at s 3 (by omega)
    have i0 : (0 : Int) < (s.size : Int) := by omega
    have i1 : (1 : Int) < (s.size : Int) := by omega
    have i2 : (2 : Int) < (s.size : Int) := by omega
    have i3 : (3 : Int) < (s.size : Int) := by omega
    have i4 : ¬ (s.size : Int) < 4 := by omega
    rw [k1] at s0
    rw [k2] at s1
    have q2 : ¬ (sb s 2 : Int) < 1 := by omega
    have q3 : ¬ (3 : Int) < (sb s 2 : Int) := by omega
    have q4 : ¬ (200 : Int) < (sb s 3 : Int) := by omega
    by_cases hn : s.size < 6 + sb s 3
    · have he : firstB s = noHf 3 := by unfold firstB; rw [if_neg (fun c => c h), if_pos hn]
      rw [he]
      have i6 : (s.size : Int) < 6 + ((sb s 3 : Nat) : Int) := by omega
      clear he h
      generalize sb s 2 = c2 at *
      generalize sb s 3 = c3 at *
      go_enter Tryz.func42, Tryz.ntmps42
      go_wp2
      go_returns
      exact ⟨rfl, Below.refl _ _⟩
    · have i6 : ¬ (s.size : Int) < 6 + ((sb s 3 : Nat) : Int) := by omega
      have hz : (s.extract 0 (6 + sb s 3)).size ≤ 2147483648 := by rw [ByteArray.size_extract]; omega
      have HO := Lib.hid (fun w => ropen_any (s.extract 0 (6 + sb s 3)) w hz)
      have htn : (6 + ((sb s 3 : Nat) : Int)).toNat = 6 + sb s 3 := by omega
      rcases first_well h hn with ⟨he, ho⟩ | ⟨he, ho, hg⟩
      · rw [he]
        rw [ho] at HO
        generalize (openB (s.extract 0 (6 + sb s 3))).got = t at *
        clear h he hz
        generalize sb s 2 = c2 at *
        generalize sb s 3 = c3 at *
        go_enter Tryz.func42, Tryz.ntmps42
        go_wp2_with (first | (go_at_call 72; (with_reducible refine (HO.out _).mono ?_); rintro e w' ⟨rfl, hx⟩; obtain ⟨ux, rfl⟩ := ext_of hx; clear hx))
        go_returns
        exact ⟨rfl, below_ext _ (Below.refl _ _) (Nat.le_refl _)⟩
      · rw [he]
        rw [ho, hg] at HO
        have htn2 : (6 + ((sb s 3 : Nat) : Int) - 2).toNat = 4 + sb s 3 := by omega
        have j1 : (4 : Int) ≤ 6 + ((sb s 3 : Nat) : Int) - 2 := by omega
        have j2 : 6 + ((sb s 3 : Nat) : Int) - 2 ≤ (s.size : Int) := by omega
        have hwr2 : IntKind.i64.wrap ((sb s 2 : Nat) : Int) = ((sb s 2 : Nat) : Int) := IntWalk.i64_in _ (by omega)
        have hwr3 : IntKind.i64.wrap (6 + ((sb s 3 : Nat) : Int) - 2) = 6 + ((sb s 3 : Nat) : Int) - 2 := IntWalk.i64_in _ (by omega)
        have hcast : ((6 + sb s 3 : Nat) : Int) = 6 + ((sb s 3 : Nat) : Int) := by omega
        rw [hcast]
        clear h he hz hcast
        generalize sb s 2 = c2 at *
        generalize sb s 3 = c3 at *
        go_enter Tryz.func42, Tryz.ntmps42
        go_wp2_with (first | (go_at_call 72; (with_reducible refine (HO.out _).mono ?_); rintro e w' ⟨rfl, hx⟩; obtain ⟨ux, rfl⟩ := ext_of hx; clear hx))
        ((first | (with_reducible refine region_ext2 (by kernel_rfl) (by kernel_rfl) ?_) | (refine region_ext (by kernel_rfl) (by kernel_rfl) ?_)); (repeat ((with_reducible refine wpQuiet_step (fun K hK => ?_)); go_simp; (first | ((refine hK _ ?_); clear hK K) | ((apply Exists.intro); (refine ⟨fun _ => ?_, hK _ ?_⟩); (first | fail); clear hK K)))); refine wpQuiet_nil ?_; rintro _ ⟨uq, rfl⟩)
        go_wp2
        go_returns
        exact ⟨rfl, below_ext _ (Below.refl _ _) (Nat.le_refl _)⟩
set_option maxRecDepth 100000 in
theorem rhget_any (s : ByteArray) (w : World) (hs : s.size ≤ 2147483648) : Calls Tryz.prog 23 #[.string s] w fun e w' => e = .returned (.tuple #[.int .i64 (getH s).kind, .string (getH s).body, .int .i64 (getH s).err]) ∧ Below w.heap.size w w' := by
  have F := fun w => rfirst_any s w hs
  unfold getH
  generalize firstB s = f at *
  obtain ⟨k, b, n, er⟩ := f
  simp only at F ⊢
  have HF := Lib.hid F
  clear F
  by_cases he : er ≠ 0
  · rw [if_pos he]
    have hb : (er != 0) = true := by simpa using he
    go_enter Tryz.func23, Tryz.ntmps23
    go_wp2_with (go_at_call 42; (with_reducible refine (HF.out _).mono ?_); rintro e w' ⟨rfl, hx⟩; obtain ⟨ux, rfl⟩ := ext_of hx; clear hx)
    go_returns
    exact ⟨rfl, below_ext _ (Below.refl _ _) (Nat.le_refl _)⟩
  · rw [if_neg he]
    have he0 : er = 0 := by omega
    subst he0
    clear he
    by_cases hn : n < (s.size : Int)
    · rw [if_pos hn]
      go_enter Tryz.func23, Tryz.ntmps23
      go_wp2_with (go_at_call 42; (with_reducible refine (HF.out _).mono ?_); rintro e w' ⟨rfl, hx⟩; obtain ⟨ux, rfl⟩ := ext_of hx; clear hx)
      go_returns
      exact ⟨rfl, below_ext _ (Below.refl _ _) (Nat.le_refl _)⟩
    · rw [if_neg hn]
      go_enter Tryz.func23, Tryz.ntmps23
      go_wp2_with (go_at_call 42; (with_reducible refine (HF.out _).mono ?_); rintro e w' ⟨rfl, hx⟩; obtain ⟨ux, rfl⟩ := ext_of hx; clear hx)
      go_returns
      exact ⟨rfl, below_ext _ (Below.refl _ _) (Nat.le_refl _)⟩
end Go.Proofs.YtobcjbpgeohbgaaGreatDoor
