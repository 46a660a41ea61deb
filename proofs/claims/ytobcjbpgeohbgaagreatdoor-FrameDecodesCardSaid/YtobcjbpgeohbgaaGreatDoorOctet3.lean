/-
  Layer 2 (octet): Take, the document's cursor, and awake.
-/
import Derived.Test.YtobcjbpgeohbgaaGreatDoorOctet2
namespace Go.Proofs.YtobcjbpgeohbgaaGreatDoor
open Go.RowKit
set_option linter.unusedVariables false

theorem i64_or_byte (m b : Int) (h0 : 0 ≤ m) (h1 : m < 1099511627776) (h2 : 0 ≤ b) (h3 : b < 256) : bits .or .i64 (m * 256) b = m * 256 + b :=
  bits_join .i64 62 (by decide) (fun n h0 h1 => IntWalk.i64_in _ (by omega)) 8 (m * 256) b (by omega) (by omega) (by omega) h2 (by omega) (by omega)
/-- What Take comes to. -/
structure Tk where
  n : Int
  err : Int
  rest : ByteArray
def takeB (s : ByteArray) (width : Int) : Tk := if 1 ≤ width ∧ width ≤ 6 then (if s.size < width then ⟨0, 3, s⟩ else ⟨numOf (bl (s.extract 0 width.toNat)), 0, s.extract width.toNat s.size⟩) else ⟨0, 1, s⟩
theorem extract_size (s : ByteArray) (k : Nat) (h : k ≤ s.size) : (s.extract 0 k).size = k := by
  rw [ByteArray.size_extract]
  omega
theorem take_nil (n : Int) (w : World) (h : 1 ≤ n) (h6 : n ≤ 6) : Calls Tryz.prog 64 #[.pointer none, .int .i64 n] w fun e w' => e = .returned (.tuple #[.int .i64 0, .int .i64 3]) ∧ w = w' := by
  have hd : decide (1 ≤ n ∧ n ≤ 6) = true := by simp; omega
  go_enter Tryz.func64, Tryz.ntmps64
  go_wp2_with (first | (go_at_call 84; (with_reducible refine (wide_any _ _).mono ?_); rintro e w' ⟨rfl, rfl⟩) | (go_at_call 85; (with_reducible refine (bytes_nil _ _ (by omega)).mono ?_); rintro e w' ⟨rfl, rfl⟩))
  go_returns
  exact ⟨rfl, rfl⟩
set_option maxRecDepth 100000 in
set_option maxHeartbeats 1000000 in
theorem take_any (b : Nat) (s : ByteArray) (width : Int) (w : World) (h : CurAt w b s) (hs : s.size ≤ 2147483648) : Calls Tryz.prog 64 #[.pointer (some ⟨b, 0, none⟩), .int .i64 width] w fun e w' => e = .returned (.tuple #[.int .i64 (takeB s width).n, .int .i64 (takeB s width).err]) ∧ CurAt w' b (takeB s width).rest ∧ Only b w w' := by
  have K := bytes_any b s width w h hs
  unfold takeB
  unfold cutB at K
  by_cases hw : 1 ≤ width ∧ width ≤ 6
  · rw [if_pos hw]
    have hd : decide (1 ≤ width ∧ width ≤ 6) = true := by simpa using hw
    rw [if_neg (show ¬ width < 0 by omega)] at K
    by_cases hl : (s.size : Int) < width
    · rw [if_pos hl] at K ⊢
      have HK := Lib.hid K
      clear K hl hw h
      go_enter Tryz.func64, Tryz.ntmps64
      go_wp2_with (first | (go_at_call 84; (with_reducible refine (wide_any _ _).mono ?_); rintro e w' ⟨rfl, rfl⟩) | (go_at_call 85; refine HK.out.mono ?_; rintro e w1 ⟨rfl, hC, hO⟩))
      go_returns
      exact ⟨rfl, hC, hO⟩
    · rw [if_neg hl] at K ⊢
      obtain ⟨W, rfl⟩ := Int.eq_ofNat_of_zero_le (show 0 ≤ width by omega)
      simp only [Int.toNat_natCast] at K ⊢
      have hgs : (s.extract 0 W).size = W := extract_size s W (by omega)
      have hgs6 : (s.extract 0 W).size ≤ 6 := by omega
      generalize s.extract 0 W = g at *
      generalize s.extract W s.size = r at *
      have HK := Lib.hid K
      have HG := Lib.hid hgs
      clear K hl hw h hgs
      go_enter Tryz.func64, Tryz.ntmps64
      go_wp2_with (first | (go_at_call 84; (with_reducible refine (wide_any _ _).mono ?_); rintro e w' ⟨rfl, rfl⟩) | (go_at_call 85; refine HK.out.mono ?_; rintro e w1 ⟨rfl, hC, hO⟩))
      have HC := Lib.hid hC
      have HO := Lib.hid hO
      clear hC hO HK
      go_loop [8, 9, 24] (fun a q i => ∃ k : Nat, k ≤ g.size ∧ i = .int .i64 k ∧ a = .int .i64 (numOf ((bl g).take k))) (fun _ _ i => g.size - (intOf i).toNat)
      case atStart => exact ⟨0, Nat.zero_le _, rfl, rfl⟩
      case round =>
        obtain ⟨k, hk, rfl, rfl⟩ := hrel
        by_cases hlt : k < g.size
        · have hN := Lib.hid (numOf_take g k hlt)
          have q0 := numOf_nn ((bl g).take k)
          have q1 := numOf_take_lt (bl g) k (by omega)
          have q2 := byte_rng g[k]
          have i2 : (k : Int) < (g.size : Int) := by omega
          have i1 : (0 : Int) ≤ (k : Int) := by omega
          generalize numOf ((bl g).take k) = m at *
          have hor := i64_or_byte m (g[k].toNat : Int) q0 q1 q2.1 q2.2
          go_wp2
          exact ⟨⟨k + 1, by omega, by go_num, by rw [hN.out]⟩, by simp only [intOf]; omega⟩
        · have hT : (bl g).take k = bl g := List.take_of_length_le (by rw [bl_len]; omega)
          rw [hT]
          clear hT
          go_wp2
          go_returns
          exact ⟨rfl, HC.out, HO.out⟩
  · rw [if_neg hw]
    have hd : decide (1 ≤ width ∧ width ≤ 6) = false := by simpa using hw
    have H := Lib.hid h
    clear K h
    go_enter Tryz.func64, Tryz.ntmps64
    go_wp2_with (first | (go_at_call 84; (with_reducible refine (wide_any _ _).mono ?_); rintro e w' ⟨rfl, rfl⟩))
    go_returns
    exact ⟨rfl, H.out, Only.refl _ _⟩

end Go.Proofs.YtobcjbpgeohbgaaGreatDoor
