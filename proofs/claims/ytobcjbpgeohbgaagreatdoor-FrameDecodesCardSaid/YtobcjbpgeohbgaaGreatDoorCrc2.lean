/-
  Layer 3 (crc): Seal, Open, awake; and the statement CrcSums. No condition.
-/
import Derived.Test.YtobcjbpgeohbgaaGreatDoorCrc
import Derived.Test.YtobcjbpgeohbgaaGreatDoorOctet3
namespace Go.Proofs.YtobcjbpgeohbgaaGreatDoor
open Go.RowKit
set_option linter.unusedVariables false

/-- The sum of a text. -/
def crcN (l : List UInt8) : Nat := moreN 65535 l
theorem csumN_any (s : ByteArray) (w : World) (hs : s.size ≤ 2147483648) : Calls Tryz.prog 75 #[.string s] w fun e w' => e = .returned (.int .i64 (crcN (bl s) : Nat)) ∧ Below w.heap.size w w' := csum_any s w hs
theorem rsumN_any (s : ByteArray) (w : World) (hs : s.size ≤ 2147483648) : Calls Tryz.prog 78 #[.string s] w fun e w' => e = .returned (.int .i64 (crcN (bl s) : Nat)) ∧ w = w' := rsum_any s w hs
theorem crcN_lt (l : List UInt8) : crcN l < 65536 := moreN_lt l _ (by decide)
def sealL (l : List UInt8) : List UInt8 := l ++ beB (crcN l : Nat) 2
theorem seal_any (s : ByteArray) (w : World) (hs : s.size ≤ 2147483648) : Calls Tryz.prog 52 #[.string s] w fun e w' => e = .returned (.string (ofL (sealL (bl s)))) ∧ Below w.heap.size w w' := by
  have hn := crcN_lt (bl s)
  have hk : numOk ((crcN (bl s) : Nat) : Int) 2 = true := by
    simp only [numOk, decide_eq_true_eq]
    have : (256 : Int) ^ (2 : Int).toNat = 65536 := by decide
    omega
  have P : ∀ w, Calls Tryz.prog 74 #[.string s, .int .i64 (crcN (bl s) : Nat), .int .i64 2] w fun e w' => e = .returned (.tuple #[.string (ofL (sealL (bl s))), .int .i64 0]) ∧ Below w.heap.size w w' := by
    intro w
    have := put_any s (crcN (bl s) : Nat) 2 w hs
    unfold putV at this
    rw [hk, if_pos rfl] at this
    exact this
  have HP := Lib.hid P
  have HS := Lib.hid (fun w => csumN_any s w hs)
  clear P hk
  generalize crcN (bl s) = m at *
  generalize ofL (sealL (bl s)) = r at *
  go_enter Tryz.func52, Tryz.ntmps52
  go_wp2_with fail
  refine (HS.out _).mono ?_
  rintro e w1 ⟨rfl, hb1⟩
  go_wp2_with fail
  refine (HP.out _).mono ?_
  rintro e w2 ⟨rfl, hb2⟩
  go_wp2
  go_ret
  exact ⟨rfl, hb1.trans (hb2.mono hb1.size)⟩
/-- What Open comes to. -/
structure Opn where
  got : ByteArray
  err : Int
def openB (s : ByteArray) : Opn := if s.size < 2 then ⟨⟨#[]⟩, 3⟩ else if numOf (bl (s.extract (s.size - 2) s.size)) = (crcN (bl (s.extract 0 (s.size - 2))) : Nat) then ⟨s.extract 0 (s.size - 2), 0⟩ else ⟨⟨#[]⟩, 4⟩
theorem extract_self (t : ByteArray) (k : Nat) (h : t.size = k) : t.extract 0 k = t := by
  subst h
  rw [← ofL_bl (t.extract 0 t.size), bl_extract, List.drop_zero, Nat.sub_zero, List.take_of_length_le (by rw [bl_len]; exact Nat.le_refl _), ofL_bl]
theorem open_any (s : ByteArray) (w : World) (hs : s.size ≤ 2147483648) : Calls Tryz.prog 62 #[.string s] w fun e w' => e = .returned (.tuple #[.string (openB s).got, .int .i64 (openB s).err]) ∧ Below w.heap.size w w' := by
  unfold openB
  by_cases h2 : s.size < 2
  · rw [if_pos h2]
    go_enter Tryz.func62, Tryz.ntmps62
    go_wp2
    go_returns
    exact ⟨rfl, Below.refl _ _⟩
  · rw [if_neg h2]
    have e1 : ((s.size : Int) - 2).toNat = s.size - 2 := by omega
    have hsz : (s.extract (s.size - 2) s.size).size = 2 := by rw [ByteArray.size_extract]; omega
    have hT : takeB (s.extract (s.size - 2) s.size) 2 = ⟨numOf (bl (s.extract (s.size - 2) s.size)), 0, (s.extract (s.size - 2) s.size).extract 2 (s.extract (s.size - 2) s.size).size⟩ := by
      unfold takeB
      rw [if_pos ⟨by decide, by decide⟩, if_neg (by rw [hsz]; decide)]
      have h2i : (2 : Int).toNat = 2 := rfl
      rw [h2i, extract_self _ _ hsz]
    have hs2 : (s.extract 0 (s.size - 2)).size ≤ 2147483648 := by rw [ByteArray.size_extract]; omega
    have HS := Lib.hid (fun w => csumN_any (s.extract 0 (s.size - 2)) w hs2)
    have T := fun b w h => take_any b (s.extract (s.size - 2) s.size) 2 w h (by omega)
    rw [hT] at T
    have HT := Lib.hid T
    clear T hT hsz hs2
    generalize ht : s.extract (s.size - 2) s.size = t at *
    generalize ha : s.extract 0 (s.size - 2) = a at *
    generalize numOf (bl t) = n at *
    generalize t.extract 2 t.size = rr at *
    have hm := crcN_lt (bl a)
    generalize crcN (bl a) = m at *
    by_cases h : n = (m : Int)
    · rw [if_pos h]
      subst h
      go_enter Tryz.func62, Tryz.ntmps62
      go_wp2_with fail
      refine (read_any _ _).mono ?_
      rintro e w1 ⟨rfl, hC, hb1, hs1⟩
      go_wp2_with fail
      refine (HT.out _ _ hC).mono ?_
      rintro e w2 ⟨rfl, hC2, hO2⟩
      have hb2 := hb1.trans (hO2.below (Nat.le_refl _) (by omega))
      clear hC hC2 hO2 hs1
      go_wp2_with fail
      refine (HS.out _).mono ?_
      rintro e w3 ⟨rfl, hb3⟩
      go_wp2
      go_returns
      exact ⟨rfl, hb2.trans (hb3.mono hb2.size)⟩
    · rw [if_neg h]
      have hbn : (n != (m : Int)) = true := by simpa using h
      go_enter Tryz.func62, Tryz.ntmps62
      go_wp2_with fail
      refine (read_any _ _).mono ?_
      rintro e w1 ⟨rfl, hC, hb1, hs1⟩
      go_wp2_with fail
      refine (HT.out _ _ hC).mono ?_
      rintro e w2 ⟨rfl, hC2, hO2⟩
      have hb2 := hb1.trans (hO2.below (Nat.le_refl _) (by omega))
      clear hC hC2 hO2 hs1
      go_wp2_with fail
      refine (HS.out _).mono ?_
      rintro e w3 ⟨rfl, hb3⟩
      go_wp2
      go_returns
      exact ⟨rfl, hb2.trans (hb3.mono hb2.size)⟩

end Go.Proofs.YtobcjbpgeohbgaaGreatDoor
