/-
  Rows of numbers, each in so many bytes: laws.
-/
import Derived.Test.YtobcjbpgeohbgaaGreatDoorOctet4
namespace Go.Proofs.YtobcjbpgeohbgaaGreatDoor
open Go.RowKit
set_option linter.unusedVariables false

def posN (W : Nat → Nat) : Nat → Nat
  | 0 => 0
  | k + 1 => posN W k + W k
/-- The bytes of the first k numbers. -/
def encN (W : Nat → Nat) (v : Nat → Int) : Nat → List UInt8
  | 0 => []
  | k + 1 => encN W v k ++ beB (v k) (W k)
/-- Number k of bytes. -/
def decN (W : Nat → Nat) (s : ByteArray) (k : Nat) : Int := numOf (bl (s.extract (posN W k) (posN W (k + 1))))
theorem posN_succ (W : Nat → Nat) (k : Nat) : posN W (k + 1) = posN W k + W k := rfl
theorem posN_mono (W : Nat → Nat) (j : Nat) : ∀ n, posN W j ≤ posN W (j + n)
  | 0 => Nat.le_refl _
  | n + 1 => by
    have h := posN_mono W j n
    have e : posN W (j + (n + 1)) = posN W (j + n) + W (j + n) := rfl
    omega
theorem posN_le (W : Nat → Nat) {j n : Nat} (h : j ≤ n) : posN W j ≤ posN W n := by
  have := posN_mono W j (n - j)
  rwa [show j + (n - j) = n from by omega] at this
theorem encN_len (W : Nat → Nat) (v : Nat → Int) : ∀ k, (encN W v k).length = posN W k
  | 0 => rfl
  | k + 1 => by
    unfold encN
    rw [List.length_append, beB_len, encN_len W v k, posN_succ]
theorem encN_pre (W : Nat → Nat) (v : Nat → Int) (j : Nat) : ∀ n, ∃ t, encN W v (j + n) = encN W v j ++ t
  | 0 => ⟨[], by simp⟩
  | n + 1 => by
    obtain ⟨t, ht⟩ := encN_pre W v j n
    refine ⟨t ++ beB (v (j + n)) (W (j + n)), ?_⟩
    have e : encN W v (j + (n + 1)) = encN W v (j + n) ++ beB (v (j + n)) (W (j + n)) := rfl
    rw [e, ht, List.append_assoc]
theorem encN_seg (W : Nat → Nat) (v : Nat → Int) (n k : Nat) (h : k < n) : ((encN W v n).drop (posN W k)).take (posN W (k + 1) - posN W k) = beB (v k) (W k) := by
  obtain ⟨t, ht⟩ := encN_pre W v (k + 1) (n - 1 - k)
  have e : k + 1 + (n - 1 - k) = n := by omega
  rw [e] at ht
  have hs : encN W v (k + 1) = encN W v k ++ beB (v k) (W k) := rfl
  have hp := posN_succ W k
  rw [ht, hs, List.append_assoc, List.drop_append_of_le_length (by rw [encN_len]; exact Nat.le_refl _), ← encN_len W v k, List.drop_length, List.nil_append]
  have hw : posN W (k + 1) - (encN W v k).length = (beB (v k) (W k)).length := by rw [encN_len, beB_len]; omega
  rw [hw, List.take_left]
theorem decN_encN (W : Nat → Nat) (v : Nat → Int) (n k : Nat) (h : k < n) (h0 : 0 ≤ v k) (hv : v k < 256 ^ W k) : decN W (ofL (encN W v n)) k = v k := by
  unfold decN
  rw [bl_extract, bl_ofL, encN_seg W v n k h, numOf_beB (W k) _ h0 hv]
theorem encN_decN (W : Nat → Nat) (s : ByteArray) : ∀ n, posN W n ≤ s.size → encN W (decN W s) n = (bl s).take (posN W n)
  | 0, _ => rfl
  | n + 1, hs => by
    have hp := posN_succ W n
    unfold encN
    rw [encN_decN W s n (by omega)]
    have e2 : (bl (s.extract (posN W n) (posN W (n + 1)))).length = W n := by rw [bl_len, ByteArray.size_extract]; omega
    have e3 : beB (decN W s n) (W n) = bl (s.extract (posN W n) (posN W (n + 1))) := by
      unfold decN
      conv => lhs; arg 2; rw [← e2]
      rw [beB_numOf]
    rw [e3, bl_extract, hp, Nat.add_sub_cancel_left, List.take_add]
theorem encN_congr (W : Nat → Nat) (v u : Nat → Int) : ∀ n, (∀ k, k < n → v k = u k) → encN W v n = encN W u n
  | 0, _ => rfl
  | n + 1, h => by
    unfold encN
    rw [encN_congr W v u n (fun k hk => h k (by omega)), h n (by omega)]
theorem decN_nn (W : Nat → Nat) (s : ByteArray) (k : Nat) : 0 ≤ decN W s k := numOf_nn _
theorem decN_lt (W : Nat → Nat) (s : ByteArray) (k : Nat) (h : posN W (k + 1) ≤ s.size) : decN W s k < 256 ^ W k := by
  have h1 := numOf_lt (bl (s.extract (posN W k) (posN W (k + 1))))
  have e2 : (bl (s.extract (posN W k) (posN W (k + 1)))).length = W k := by rw [bl_len, ByteArray.size_extract, posN_succ] at *; omega
  rw [e2] at h1
  exact h1
theorem pow6 (m : Nat) (h : m ≤ 6) : (256 : Int) ^ m ≤ 281474976710656 := by
  have : m = 0 ∨ m = 1 ∨ m = 2 ∨ m = 3 ∨ m = 4 ∨ m = 5 ∨ m = 6 := by omega
  rcases this with rfl | rfl | rfl | rfl | rfl | rfl | rfl <;> decide
theorem numOk_of {W : Nat} {v : Int} (h1 : 1 ≤ W) (h6 : W ≤ 6) (h0 : 0 ≤ v) (hv : v < 256 ^ W) : numOk v (W : Int) = true := by
  simp only [numOk, decide_eq_true_eq, Int.toNat_natCast]
  omega
theorem extract_leN (s : ByteArray) (a b : Nat) : (s.extract a b).size ≤ s.size := by
  rw [ByteArray.size_extract]
  omega
theorem extract_wholeN (t : ByteArray) : t.extract 0 t.size = t := by
  rw [← ofL_bl (t.extract 0 t.size), bl_extract, List.drop_zero, Nat.sub_zero, List.take_of_length_le (by rw [bl_len]; exact Nat.le_refl _), ofL_bl]
theorem extract_extractN (s : ByteArray) (a b : Nat) (h : a ≤ s.size) : (s.extract a s.size).extract 0 b = s.extract a (a + b) := by
  rw [← ofL_bl ((s.extract a s.size).extract 0 b), ← ofL_bl (s.extract a (a + b))]
  congr 1
  rw [bl_extract, bl_extract, bl_extract, List.drop_zero, Nat.sub_zero, Nat.add_sub_cancel_left, List.take_take, List.take_eq_take_iff]
  simp
theorem extract_tailN (s : ByteArray) (a b : Nat) (h : a + b ≤ s.size) : (s.extract a s.size).extract b (s.extract a s.size).size = s.extract (a + b) s.size := by
  rw [← ofL_bl ((s.extract a s.size).extract b (s.extract a s.size).size), ← ofL_bl (s.extract (a + b) s.size)]
  congr 1
  have e : (s.extract a s.size).size = s.size - a := by rw [ByteArray.size_extract]; omega
  rw [bl_extract, bl_extract, bl_extract, e, List.drop_take, List.drop_drop, List.take_take]
  congr 1
  omega
theorem take_atN (W : Nat → Nat) (s : ByteArray) (k : Nat) (hw : 1 ≤ W k ∧ W k ≤ 6) (hp : posN W (k + 1) ≤ s.size) : takeB (s.extract (posN W k) s.size) (W k : Int) = ⟨decN W s k, 0, s.extract (posN W (k + 1)) s.size⟩ := by
  have hs := posN_succ W k
  have hsz : (s.extract (posN W k) s.size).size = s.size - posN W k := by rw [ByteArray.size_extract]; omega
  unfold takeB
  rw [if_pos (by omega), if_neg (by rw [hsz]; omega), Int.toNat_natCast, extract_extractN s _ _ (by omega), extract_tailN s _ _ (by omega), ← hs]
  rfl
theorem take_shortN (W : Nat → Nat) (s : ByteArray) (k : Nat) (hw : 1 ≤ W k ∧ W k ≤ 6) (hp : s.size < posN W (k + 1)) (hp2 : posN W k ≤ s.size) : takeB (s.extract (posN W k) s.size) (W k : Int) = ⟨0, 3, s.extract (posN W k) s.size⟩ := by
  have hs := posN_succ W k
  have hsz : (s.extract (posN W k) s.size).size = s.size - posN W k := by rw [ByteArray.size_extract]; omega
  unfold takeB
  rw [if_pos (by omega), if_pos (by rw [hsz]; omega)]
/-- The numbers as a list. -/
def listN (f : Nat → Int) : Nat → List Int
  | 0 => []
  | k + 1 => listN f k ++ [f k]
theorem listN_len (f : Nat → Int) : ∀ k, (listN f k).length = k
  | 0 => rfl
  | k + 1 => by unfold listN; rw [List.length_append, listN_len f k]; rfl
theorem listN_at (f : Nat → Int) (n k : Nat) (h : k < n) : nth (listN f n) k = f k := by
  induction n with
  | zero => omega
  | succ n ih =>
    unfold listN nth
    by_cases hk : k < n
    · rw [List.getD_eq_getElem?_getD, List.getElem?_append_left (by rw [listN_len]; exact hk), ← List.getD_eq_getElem?_getD]
      exact ih hk
    · obtain rfl : k = n := by omega
      rw [List.getD_eq_getElem?_getD, List.getElem?_append_right (by rw [listN_len]; exact Nat.le_refl _), listN_len, Nat.sub_self]
      rfl
end Go.Proofs.YtobcjbpgeohbgaaGreatDoor
