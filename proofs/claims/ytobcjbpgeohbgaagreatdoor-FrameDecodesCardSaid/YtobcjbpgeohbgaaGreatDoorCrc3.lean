/-
  Layer 3 (crc): what was sealed, in plain; the document's Seal and Open.
-/
import Derived.Test.YtobcjbpgeohbgaaGreatDoorCrc2
import Derived.Test.YtobcjbpgeohbgaaGreatDoorOctet4
namespace Go.Proofs.YtobcjbpgeohbgaaGreatDoor
open Go.RowKit
set_option linter.unusedVariables false

theorem xor_top (q r : Nat) (h : r < 256) : (q * 256 + r) ^^^ (q * 256) = r := by
  apply Nat.eq_of_testBit_eq
  intro j
  have e1 : q * 256 + r = 2 ^ 8 * q + r := by rw [Nat.mul_comm]
  have e2 : q * 256 = 2 ^ 8 * q + 0 := by rw [Nat.mul_comm, Nat.add_zero]
  rw [Nat.testBit_xor, e1, e2, Nat.testBit_two_pow_mul_add q (by simpa using h) j, Nat.testBit_two_pow_mul_add q (by decide) j]
  by_cases hj : j < 8
  · rw [if_pos hj, if_pos hj]
    simp
  · rw [if_neg hj, if_neg hj, Bool.xor_self]
    exact (Nat.testBit_lt_two_pow (Nat.lt_of_lt_of_le h (by simpa using Nat.pow_le_pow_right (show 0 < 2 by decide) (show 8 ≤ j by omega)))).symm
theorem fed_top (m : Nat) (hm : m < 65536) : fedN m (m / 256) = m % 256 * 256 := by
  unfold fedN
  have h : m ^^^ (m / 256 * 256) = m % 256 := by
    have := xor_top (m / 256) (m % 256) (Nat.mod_lt _ (by decide))
    rwa [show m / 256 * 256 + m % 256 = m by omega] at this
  rw [h]
  have hl : m % 256 * 2 ^ 8 < 65536 := by
    have := Nat.mod_lt m (show 0 < 256 by decide)
    omega
  exact shN_low 8 _ hl
theorem fed_zero (r : Nat) : fedN (r * 256) r = 0 := by
  unfold fedN
  rw [Nat.xor_self]
  decide
theorem p256 : (256 : Int) ^ 2 = 65536 := by decide
theorem beB2 (m : Nat) (hm : m < 65536) : ∃ x y : UInt8, beB (m : Int) 2 = [x, y] ∧ x.toNat = m / 256 ∧ y.toNat = m % 256 := by
  have h2 : (beB (m : Int) 2).length = 2 := beB_len 2 _
  have hn := numOf_beB 2 (m : Int) (by omega) (by rw [p256]; omega)
  match hb : beB (m : Int) 2, h2 with
  | [x, y], _ =>
    rw [hb] at hn
    have e : numOf [x, y] = (x.toNat : Int) * 256 + (y.toNat : Int) := by
      rw [show [x, y] = [x] ++ [y] from rfl, numOf_snoc, show [x] = [] ++ [x] from rfl, numOf_snoc]
      simp [numOf]
    rw [e] at hn
    have := x.toNat_lt
    have := y.toNat_lt
    exact ⟨x, y, rfl, by omega, by omega⟩
/-- The sum of what was sealed is 0. -/
theorem crc_seal0 (l : List UInt8) : crcN (sealL l) = 0 := by
  have hm := crcN_lt l
  obtain ⟨x, y, hb, hx, hy⟩ := beB2 (crcN l) hm
  have e : crcN (sealL l) = moreN (crcN l) [x, y] := by
    unfold sealL
    rw [hb]
    exact moreN_append 65535 l [x, y]
  rw [e]
  show fedN (fedN (crcN l) x.toNat) y.toNat = 0
  rw [hx, hy, fed_top _ hm, fed_zero]
theorem seal_size (a : ByteArray) : (ofL (sealL (bl a))).size = a.size + 2 := by
  rw [← bl_len, bl_ofL]
  unfold sealL
  rw [List.length_append, beB_len, bl_len]
theorem open_seal (a : ByteArray) : openB (ofL (sealL (bl a))) = ⟨a, 0⟩ := by
  have hsz := seal_size a
  have hm := crcN_lt (bl a)
  have e1 : (ofL (sealL (bl a))).extract 0 a.size = a := by
    rw [← ofL_bl ((ofL (sealL (bl a))).extract 0 a.size), bl_extract, bl_ofL]
    unfold sealL
    rw [List.drop_zero, Nat.sub_zero, ← bl_len a, List.take_left, ofL_bl]
  have e2 : bl ((ofL (sealL (bl a))).extract a.size (a.size + 2)) = beB (crcN (bl a) : Nat) 2 := by
    rw [bl_extract, bl_ofL]
    unfold sealL
    rw [← bl_len a, List.drop_left, Nat.add_sub_cancel_left]
    exact List.take_of_length_le (by rw [beB_len]; exact Nat.le_refl _)
  unfold openB
  rw [if_neg (by rw [hsz]; omega), hsz, Nat.add_sub_cancel, e1, e2]
  exact if_pos (numOf_beB 2 _ (by omega) (by rw [p256]; omega))

theorem rseal_any (s : ByteArray) (w : World) (hs : s.size ≤ 2147483648) : Calls Tryz.prog 56 #[.string s] w fun e w' => e = .returned (.string (ofL (sealL (bl s)))) ∧ Below w.heap.size w w' := by
  have hn := crcN_lt (bl s)
  have hk : numOk ((crcN (bl s) : Nat) : Int) 2 = true := by
    simp only [numOk, decide_eq_true_eq]
    have : (256 : Int) ^ (2 : Int).toNat = 65536 := by decide
    omega
  have hS : numS ((crcN (bl s) : Nat) : Int) 2 = ofL (beB (crcN (bl s) : Nat) 2) := by
    unfold numS
    rw [if_neg (by omega)]
    rfl
  have P := fun w => rnum_is ((crcN (bl s) : Nat) : Int) 2 w true (by omega) hk
  rw [hS] at P
  have happ := append_ofL s (beB (crcN (bl s) : Nat) 2)
  have hl : (ofL (beB (crcN (bl s) : Nat) 2)).size ≤ 2 := by rw [← bl_len, bl_ofL, beB_len]; exact Nat.le_refl _
  have HS := Lib.hid (fun w => rsumN_any s w hs)
  have HP := Lib.hid P
  have HA := Lib.hid (show s ++ ofL (beB (crcN (bl s) : Nat) 2) = ofL (sealL (bl s)) from happ)
  clear P hk hS happ
  generalize ofL (beB (crcN (bl s) : Nat) 2) = t at *
  generalize crcN (bl s) = m at *
  generalize ofL (sealL (bl s)) = r at *
  go_enter Tryz.func56, Tryz.ntmps56
  go_wp2_with (first | (go_at_call 78; (with_reducible refine (HS.out _).mono ?_); rintro e w' ⟨rfl, rfl⟩) | (go_at_call 77; refine (HP.out _).mono ?_; rintro e w1 ⟨rfl, hb1⟩))
  go_ret
  exact ⟨by rw [HA.out]; rfl, hb1⟩
theorem ropen_any (s : ByteArray) (w : World) (hs : s.size ≤ 2147483648) : Calls Tryz.prog 72 #[.string s] w fun e w' => e = .returned (.tuple #[.string (openB s).got, .int .i64 (openB s).err]) ∧ Below w.heap.size w w' := by
  unfold openB
  by_cases h2 : s.size < 2
  · rw [if_pos h2]
    go_enter Tryz.func72, Tryz.ntmps72
    go_wp2
    go_returns
    exact ⟨rfl, Below.refl _ _⟩
  · rw [if_neg h2]
    have e1 : ((s.size : Int) - 2).toNat = s.size - 2 := by omega
    have i1 : (0 : Int) ≤ (s.size : Int) - 2 := by omega
    have i2 : (s.size : Int) - 2 ≤ (s.size : Int) := by omega
    have hsz : (s.extract (s.size - 2) s.size).size = 2 := by rw [ByteArray.size_extract]; omega
    have hs2 : (s.extract 0 (s.size - 2)).size ≤ 2147483648 := by rw [ByteArray.size_extract]; omega
    have HS := Lib.hid (fun w => rsumN_any (s.extract 0 (s.size - 2)) w hs2)
    have HO := Lib.hid (fun w => rof_any (s.extract (s.size - 2) s.size) w (by omega))
    clear hsz hs2
    generalize ht : s.extract (s.size - 2) s.size = t at *
    generalize ha : s.extract 0 (s.size - 2) = a at *
    generalize numOf (bl t) = n at *
    have hm := crcN_lt (bl a)
    generalize crcN (bl a) = m at *
    by_cases h : n = (m : Int)
    · rw [if_pos h]
      subst h
      go_enter Tryz.func72, Tryz.ntmps72
      go_wp2_with fail
      ((first | (with_reducible refine region_ext2 (by kernel_rfl) (by kernel_rfl) ?_) | (refine region_ext (by kernel_rfl) (by kernel_rfl) ?_)); (repeat ((with_reducible refine wpQuiet_step (fun K hK => ?_)); go_simp; (first | ((refine hK _ ?_); clear hK K) | ((apply Exists.intro); (refine ⟨fun _ => ?_, hK _ ?_⟩); (first | (go_at_call 78; with_reducible exact ext_same (HS.out _)) | (go_at_call 73; with_reducible exact ext_same (HO.out _))); clear hK K)))); refine wpQuiet_nil ?_; rintro _ ⟨uq, rfl⟩)
      go_wp2
      go_returns
      exact ⟨rfl, below_ext _ (Below.refl _ _) (Nat.le_refl _)⟩
    · rw [if_neg h]
      have hbn : ((m : Int) != n) = true := by simp; omega
      go_enter Tryz.func72, Tryz.ntmps72
      go_wp2_with fail
      ((first | (with_reducible refine region_ext2 (by kernel_rfl) (by kernel_rfl) ?_) | (refine region_ext (by kernel_rfl) (by kernel_rfl) ?_)); (repeat ((with_reducible refine wpQuiet_step (fun K hK => ?_)); go_simp; (first | ((refine hK _ ?_); clear hK K) | ((apply Exists.intro); (refine ⟨fun _ => ?_, hK _ ?_⟩); (first | (go_at_call 78; with_reducible exact ext_same (HS.out _)) | (go_at_call 73; with_reducible exact ext_same (HO.out _))); clear hK K)))); refine wpQuiet_nil ?_; rintro _ ⟨uq, rfl⟩)
      go_wp2
      go_returns
      exact ⟨rfl, below_ext _ (Below.refl _ _) (Nat.le_refl _)⟩
end Go.Proofs.YtobcjbpgeohbgaaGreatDoor
