/-
  Sums of 16 bits, in plain: a byte at a time and a bit at a time are the same.
-/
import Derived.Test.YtobcjbpgeohbgaaGreatDoorOctet
namespace Go.Proofs.YtobcjbpgeohbgaaGreatDoor
open Go.RowKit
set_option linter.unusedVariables false

/-- One shift of the register. -/
def sh (n : Nat) : Nat := (2 * n % 65536) ^^^ (if n.testBit 15 then 4129 else 0)
theorem xor_lt16 {a b : Nat} (ha : a < 65536) (hb : b < 65536) : a ^^^ b < 65536 := Nat.xor_lt_two_pow (n := 16) ha hb
theorem sh_lt (n : Nat) : sh n < 65536 := by
  unfold sh
  refine xor_lt16 (Nat.mod_lt _ (by decide)) ?_
  split <;> decide
theorem two_mul_xor (a b : Nat) : 2 * (a ^^^ b) = 2 * a ^^^ 2 * b := by
  have h := Nat.shiftLeft_xor_distrib (a := a) (b := b) (i := 1)
  simp only [Nat.shiftLeft_eq, Nat.pow_one] at h
  rw [Nat.mul_comm 2, Nat.mul_comm 2, Nat.mul_comm 2]
  exact h
theorem sh_lin (a b : Nat) : sh (a ^^^ b) = sh a ^^^ sh b := by
  unfold sh
  rw [two_mul_xor, Nat.testBit_xor]
  have hm : (2 * a ^^^ 2 * b) % 65536 = (2 * a % 65536) ^^^ (2 * b % 65536) := Nat.xor_mod_two_pow (n := 16)
  rw [hm]
  generalize 2 * a % 65536 = x
  generalize 2 * b % 65536 = y
  have e : ∀ x y p q : Nat, (x ^^^ y) ^^^ (p ^^^ q) = (x ^^^ p) ^^^ (y ^^^ q) := by
    intro x y p q
    rw [Nat.xor_assoc, Nat.xor_assoc, ← Nat.xor_assoc y p q, ← Nat.xor_assoc p y q, Nat.xor_comm y p]
  cases a.testBit 15 <;> cases b.testBit 15
  · simp
  · simp [Nat.xor_assoc]
  · simp only [Bool.xor_false, if_true, Bool.false_eq_true, if_false, Nat.xor_zero]
    rw [Nat.xor_assoc, Nat.xor_comm y, ← Nat.xor_assoc]
  · simp only [Bool.xor_self, Bool.false_eq_true, if_false, if_true, Nat.xor_zero]
    rw [← e x y 4129 4129, Nat.xor_self, Nat.xor_zero]
theorem sh_low (n : Nat) (h : n < 32768) : sh n = 2 * n := by
  unfold sh
  have : n.testBit 15 = false := Nat.testBit_lt_two_pow (by simpa using h)
  rw [this, Nat.mod_eq_of_lt (by omega)]
  simp
def shN : Nat → Nat → Nat
  | 0, n => n
  | k + 1, n => sh (shN k n)
theorem shN_lt (k n : Nat) (h : n < 65536) : shN k n < 65536 := by
  cases k with
  | zero => exact h
  | succ k => exact sh_lt _
theorem shN_lin (k : Nat) : ∀ a b, shN k (a ^^^ b) = shN k a ^^^ shN k b := by
  induction k with
  | zero => intro a b; rfl
  | succ k ih => intro a b; simp only [shN]; rw [ih, sh_lin]
theorem shN_low (k : Nat) : ∀ n, n * 2 ^ k < 65536 → shN k n = n * 2 ^ k := by
  induction k with
  | zero => intro n h; simp [shN]
  | succ k ih =>
    intro n h
    rw [Nat.pow_succ, ← Nat.mul_assoc] at h
    simp only [shN]
    rw [ih n (by omega), sh_low _ (by omega), Nat.pow_succ, Nat.mul_comm 2, Nat.mul_assoc]
/-- One byte, as the program feeds it. -/
def fedN (s b : Nat) : Nat := shN 8 (s ^^^ (b * 256))
/-- The bit of a byte, the highest one first. -/
def bitN (b k : Nat) : Nat := b / 2 ^ (7 - k) % 2
/-- One bit, as the document feeds it. -/
def bitStep (s d : Nat) : Nat := sh (s ^^^ (d * 32768))
/-- k bits of a byte. -/
def bits8 (s b : Nat) : Nat → Nat
  | 0 => s
  | k + 1 => bitStep (bits8 s b k) (bitN b k)
/-- The highest k bits of a byte, at their place in the register. -/
def hiB (b k : Nat) : Nat := b / 2 ^ (8 - k) * 2 ^ (8 - k) * 256
theorem hi_split (b k : Nat) (hb : b < 256) (hk : k < 8) : hiB b (k + 1) = hiB b k ^^^ (bitN b k * 2 ^ (15 - k)) := by
  have : ∀ k : Fin 8, ∀ b : Fin 256, hiB b (k + 1) = hiB b k ^^^ (bitN b k * 2 ^ (15 - k.val)) := by decide +kernel
  exact this ⟨k, hk⟩ ⟨b, hb⟩
theorem bits8_eq (s b : Nat) (hb : b < 256) : ∀ k, k ≤ 8 → bits8 s b k = shN k (s ^^^ hiB b k)
  | 0, _ => by
    have : hiB b 0 = 0 := by
      unfold hiB
      simp [Nat.div_eq_of_lt hb]
    simp [bits8, shN, this]
  | k + 1, h => by
    have hd : bitN b k < 2 := Nat.mod_lt _ (by decide)
    have e2 : bitN b k * 2 ^ (15 - k) * 2 ^ k = bitN b k * 32768 := by
      rw [Nat.mul_assoc, ← Nat.pow_add, show 15 - k + k = 15 by omega]
    rw [bits8, bits8_eq s b hb k (by omega), bitStep, hi_split b k hb (by omega), ← Nat.xor_assoc]
    simp only [shN]
    rw [shN_lin k (s ^^^ hiB b k), shN_low k (bitN b k * 2 ^ (15 - k)) (by rw [e2]; omega), e2]
theorem bits8_fed (s b : Nat) (hb : b < 256) : bits8 s b 8 = fedN s b := by
  rw [bits8_eq s b hb 8 (Nat.le_refl _), fedN]
  have : hiB b 8 = b * 256 := by simp [hiB]
  rw [this]
/-- The sum of bytes, from a register on. -/
def moreN (s : Nat) (l : List UInt8) : Nat := l.foldl (fun s b => fedN s b.toNat) s
theorem fedN_lt (s b : Nat) : fedN s b < 65536 := by
  unfold fedN shN
  exact sh_lt _
theorem moreN_lt (l : List UInt8) : ∀ s, s < 65536 → moreN s l < 65536 := by
  induction l with
  | nil => intro s h; exact h
  | cons b l ih => intro s h; exact ih _ (fedN_lt _ _)
theorem moreN_snoc (s : Nat) (l : List UInt8) (b : UInt8) : moreN s (l ++ [b]) = fedN (moreN s l) b.toNat := by
  unfold moreN
  rw [List.foldl_append]
  rfl
theorem moreN_append (s : Nat) (l m : List UInt8) : moreN s (l ++ m) = moreN (moreN s l) m := by
  unfold moreN
  rw [List.foldl_append]

/-! ### The operations on the register -/
theorem wrap_u16 (n : Nat) : IntKind.u16.wrap ((n : Int) * 2) = ((2 * n % 65536 : Nat) : Int) := by
  show ((n : Int) * 2) % 65536 = _
  omega
theorem and_pow (n i : Nat) : n &&& 2 ^ i = if n.testBit i = true then 2 ^ i else 0 := by
  apply Nat.eq_of_testBit_eq
  intro j
  rw [Nat.testBit_and, Nat.testBit_two_pow]
  by_cases h : i = j
  · subst h
    cases hb : n.testBit i <;> simp
  · cases hb : n.testBit i <;> simp [h]
theorem and_top (n : Nat) (h : n < 65536) : bits .and .u16 (n : Int) 32768 = if n.testBit 15 = true then 32768 else 0 := by
  rw [u16_and _ _ (by omega) (by omega) (by omega) (by omega)]
  have e : (32768 : Int).toNat = 2 ^ 15 := rfl
  rw [Int.toNat_natCast, e, and_pow]
  cases n.testBit 15 <;> simp
theorem xor_poly (n : Nat) (h : n < 65536) : bits .xor .u16 (n : Int) 4129 = ((n ^^^ 4129 : Nat) : Int) := by
  rw [u16_xor _ _ (by omega) (by omega) (by omega) (by omega)]
  rfl
end Go.Proofs.YtobcjbpgeohbgaaGreatDoor
