/-
  Layer 3 (crc): how far two texts are apart, in plain.
-/
import Derived.Test.YtfkceochmhelaaaCrc3
namespace Go.Proofs.Ytfkceochmhelaaa
open Go.RowKit
set_option linter.unusedVariables false

/-- The first and the last unlike bit among the first i ones; 'init': what the last one begins with. -/
def stp (a b : ByteArray) (init : Int) : Nat → Int × Int
  | 0 => (-1, init)
  | i + 1 => if tbit a i = tbit b i then stp a b init i else (if (stp a b init i).1 < 0 then (i : Int) else (stp a b init i).1, (i : Int))
/-- In which bits byte k is unlike. -/
def dN (a b : ByteArray) (k : Nat) : Nat := ((bl a).getD k 0).toNat ^^^ ((bl b).getD k 0).toNat
theorem dN_lt (a b : ByteArray) (k : Nat) : dN a b k < 256 := Nat.xor_lt_two_pow (n := 8) (UInt8.toNat_lt _) (UInt8.toNat_lt _)
theorem bitN_test (b k : Nat) : bitN b k = (b.testBit (7 - k)).toNat := by
  unfold bitN
  rw [Nat.toNat_testBit]
theorem bit_unlike (x y j : Nat) : bitN x j = bitN y j ↔ bitN (x ^^^ y) j = 0 := by
  rw [bitN_test, bitN_test, bitN_test, Nat.testBit_xor]
  cases x.testBit (7 - j) <;> cases y.testBit (7 - j) <;> decide
/-- The first one among the highest j bits of a byte that is 1; and the last one. -/
def hiO (d : Nat) : Nat → Option Nat
  | 0 => none
  | j + 1 => match hiO d j with
    | some h => some h
    | none => if bitN d j = 0 then none else some j
def loO (d : Nat) : Nat → Option Nat
  | 0 => none
  | j + 1 => if bitN d j = 0 then loO d j else some j
def nxF (p : Int) (k : Nat) : Option Nat → Int
  | none => p
  | some h => if p < 0 then 8 * (k : Int) + (h : Int) else p
def nxL (p : Int) (k : Nat) : Option Nat → Int
  | none => p
  | some h => 8 * (k : Int) + (h : Int)
theorem stp_byte (a b : ByteArray) (init : Int) (k : Nat) : ∀ j, j ≤ 8 → stp a b init (8 * k + j) = (nxF (stp a b init (8 * k)).1 k (hiO (dN a b k) j), nxL (stp a b init (8 * k)).2 k (loO (dN a b k) j))
  | 0, _ => rfl
  | j + 1, h => by
    have e : 8 * k + (j + 1) = (8 * k + j) + 1 := by omega
    have d1 : (8 * k + j) / 8 = k := by omega
    have d2 : (8 * k + j) % 8 = j := by omega
    have hb : (tbit a (8 * k + j) = tbit b (8 * k + j)) ↔ bitN (dN a b k) j = 0 := by
      unfold tbit dN
      rw [d1, d2]
      exact bit_unlike _ _ j
    have c : ((8 * k + j : Nat) : Int) = 8 * (k : Int) + (j : Int) := by omega
    rw [e, stp, stp_byte a b init k j (by omega), hiO, loO, c]
    generalize stp a b init (8 * k) = p
    obtain ⟨p1, p2⟩ := p
    by_cases hz : bitN (dN a b k) j = 0
    · rw [if_pos (hb.2 hz), if_pos hz]
      cases hh : hiO (dN a b k) j with
      | none => simp only; rw [if_pos hz]
      | some v => simp only; rw [if_pos hz]
    · rw [if_neg (fun c => hz (hb.1 c)), if_neg hz]
      cases hh : hiO (dN a b k) j with
      | none =>
        simp only
        rw [if_neg hz]
        rfl
      | some v =>
        simp only [nxF, nxL]
        by_cases hp : p1 < 0
        · have h2 : ¬ (8 * (k : Int) + (v : Int) < 0) := by omega
          simp only [hp, if_true, h2, if_false, hz]
        · simp only [hp, if_false, hz]
def clzN (d : Nat) : Nat := if d = 0 then 8 else 7 - Nat.log2 d
def ctzN (d : Nat) : Nat := if d = 0 then 8 else (if d % 2 = 1 then 0 else if d % 4 = 2 then 1 else if d % 8 = 4 then 2 else if d % 16 = 8 then 3 else if d % 32 = 16 then 4 else if d % 64 = 32 then 5 else if d % 128 = 64 then 6 else 7)
theorem byte_ends (d : Nat) (hd : d < 256) (h0 : d ≠ 0) : hiO d 8 = some (clzN d) ∧ loO d 8 = some (7 - ctzN d) ∧ clzN d ≤ 7 ∧ ctzN d ≤ 7 := by
  have : ∀ d : Fin 256, d.val ≠ 0 → hiO d 8 = some (clzN d) ∧ loO d 8 = some (7 - ctzN d) ∧ clzN d ≤ 7 ∧ ctzN d ≤ 7 := by decide +kernel
  exact this ⟨d, hd⟩ h0
theorem byte_none : hiO 0 8 = none ∧ loO 0 8 = none := by decide
/-- The same, byte by byte. -/
def bst (a b : ByteArray) : Nat → Int × Int
  | 0 => (-1, -1)
  | k + 1 => if dN a b k = 0 then bst a b k else (if (bst a b k).1 < 0 then 8 * (k : Int) + (clzN (dN a b k) : Int) else (bst a b k).1, 8 * (k : Int) + 8 - 1 - (ctzN (dN a b k) : Int))
theorem stp_bst (a b : ByteArray) : ∀ k, stp a b (-1) (8 * k) = bst a b k
  | 0 => rfl
  | k + 1 => by
    have e : 8 * (k + 1) = 8 * k + 8 := by omega
    rw [e, stp_byte a b (-1) k 8 (Nat.le_refl _), stp_bst a b k, bst]
    by_cases hz : dN a b k = 0
    · rw [if_pos hz, hz, byte_none.1, byte_none.2]
      rfl
    · rw [if_neg hz]
      obtain ⟨h1, h2, h3, h4⟩ := byte_ends _ (dN_lt a b k) hz
      rw [h1, h2]
      simp only [nxF, nxL]
      congr 1
      omega
theorem stp_rng (a b : ByteArray) (init : Int) (h : init = -1 ∨ init = -2) : ∀ n, (-1 ≤ (stp a b init n).1 ∧ (stp a b init n).1 < n) ∧ (-2 ≤ (stp a b init n).2 ∧ (stp a b init n).2 < n)
  | 0 => by unfold stp; omega
  | n + 1 => by
    have ih := stp_rng a b init h n
    unfold stp
    split
    · omega
    · simp only
      split <;> omega
theorem stp_two (a b : ByteArray) : ∀ n, ((stp a b (-1) n).1 < 0 ∧ stp a b (-1) n = (-1, -1) ∧ stp a b (-2) n = (-1, -2)) ∨ (0 ≤ (stp a b (-1) n).1 ∧ stp a b (-2) n = stp a b (-1) n)
  | 0 => .inl ⟨by show (-1 : Int) < 0; decide, rfl, rfl⟩
  | n + 1 => by
    have ih := stp_two a b n
    unfold stp
    by_cases hq : tbit a n = tbit b n
    · rw [if_pos hq, if_pos hq]
      exact ih
    · rw [if_neg hq, if_neg hq]
      refine .inr ?_
      rcases ih with ⟨h1, h2, h3⟩ | ⟨h1, h2⟩
      · rw [h2, h3]
        simp
      · rw [h2]
        refine ⟨?_, rfl⟩
        simp only
        split <;> omega
/-- What Apart comes to. -/
structure Ap where
  n : Int
  ok : Bool
def apB (a b : ByteArray) : Ap := if a.size = b.size then (if (bst a b a.size).1 < 0 then ⟨0, true⟩ else ⟨(bst a b a.size).2 - (bst a b a.size).1 + 1, true⟩) else ⟨0, false⟩
theorem apB_ref (a b : ByteArray) (h : a.size = b.size) : apB a b = ⟨(stp a b (-2) (8 * a.size)).2 - (stp a b (-2) (8 * a.size)).1 + 1, true⟩ := by
  unfold apB
  rw [if_pos h, ← stp_bst]
  rcases stp_two a b (8 * a.size) with ⟨h1, h2, h3⟩ | ⟨h1, h2⟩
  · rw [if_pos h1, h3]
    rfl
  · rw [if_neg (by omega), h2]
end Go.Proofs.Ytfkceochmhelaaa
