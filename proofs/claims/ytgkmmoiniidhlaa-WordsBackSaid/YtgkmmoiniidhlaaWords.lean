/-
  Texts in parts: plain Lean of the packages words and lockkeeperref06. No program.
-/
import Derived.Test.YtgkmmoiniidhlaaFrame
import Derived.Test.YtgkmmoiniidhlaaOctet
import Derived.Laws.RangeAny
import Derived.Lib.OthersKept
namespace Go.Proofs.Ytgkmmoiniidhlaa
open Go.RowKit
set_option linter.unusedVariables false

/-- The byte at a place. -/
def sbyte (s : ByteArray) (i : Nat) : Nat := (s.get! i).toNat
theorem sbyte_at (s : ByteArray) (i : Nat) (h : i < s.size) : (s[i]'h).toNat = sbyte s i := by
  unfold sbyte
  congr 1
  simp [ByteArray.get!, h]
  rfl
theorem sbyte_lt (s : ByteArray) (i : Nat) : sbyte s i < 256 := (s.get! i).toNat_lt
/-- The parts that have ended, and from where the next one goes, when n bytes have been seen: bytes of which p tells part. -/
def parts (p : Nat → Bool) (s : ByteArray) : Nat → List ByteArray × Nat
  | 0 => ([], 0)
  | i + 1 => if p (sbyte s i) = true then ((parts p s i).1 ++ [s.extract (parts p s i).2 i], i + 1) else parts p s i
theorem parts_le (p : Nat → Bool) (s : ByteArray) : ∀ n, (parts p s n).2 ≤ n
  | 0 => Nat.le_refl _
  | i + 1 => by
    have ih := parts_le p s i
    unfold parts
    split
    · exact Nat.le_refl _
    · omega
theorem parts_len (p : Nat → Bool) (s : ByteArray) : ∀ n, (parts p s n).1.length ≤ n
  | 0 => Nat.le_refl _
  | i + 1 => by
    have ih := parts_len p s i
    unfold parts
    split
    · simp only [List.length_append, List.length_cons, List.length_nil]; omega
    · omega
theorem parts_yes {p : Nat → Bool} {s : ByteArray} {i : Nat} (h : p (sbyte s i) = true) : parts p s (i + 1) = ((parts p s i).1 ++ [s.extract (parts p s i).2 i], i + 1) := by
  rw [parts, if_pos h]
theorem parts_no {p : Nat → Bool} {s : ByteArray} {i : Nat} (h : p (sbyte s i) = false) : parts p s (i + 1) = parts p s i := by
  rw [parts, if_neg (by simp [h])]
theorem parts_skip {p : Nat → Bool} {s : ByteArray} {i : Nat} : ∀ w, (∀ j, j < w → p (sbyte s (i + j)) = false) → parts p s (i + w) = parts p s i
  | 0, _ => rfl
  | w + 1, h => by
    rw [← Nat.add_assoc, parts_no (h w (by omega))]
    exact parts_skip w (fun j hj => h j (by omega))
theorem ext_eq {a b : ByteArray} (h : a.data.toList = b.data.toList) : a = b := by
  cases a; cases b
  simp only [ByteArray.mk.injEq]
  exact Array.toList_inj.1 h
theorem extract_list (s : ByteArray) (a b : Nat) : (s.extract a b).data.toList = (s.data.toList.drop a).take (b - a) := bl_extract s a b
theorem append_list (a b : ByteArray) : (a ++ b).data.toList = a.data.toList ++ b.data.toList := by simp
theorem size_list (s : ByteArray) : s.data.toList.length = s.size := Array.length_toList
theorem extract_join (s : ByteArray) (a b c : Nat) (h1 : a ≤ b) (h2 : b ≤ c) : s.extract a b ++ s.extract b c = s.extract a c := by
  apply ext_eq
  rw [append_list, extract_list, extract_list, extract_list]
  have e : c - a = (b - a) + (c - b) := by omega
  rw [e, List.take_add, List.drop_drop]
  congr 3
  omega
theorem extract_nil (s : ByteArray) (a : Nat) : s.extract a a = ⟨#[]⟩ := by
  apply ext_eq
  rw [extract_list]
  simp
theorem extract_all (s : ByteArray) (b : Nat) (h : s.size ≤ b) : s.extract 0 b = s := by
  apply ext_eq
  rw [extract_list, List.drop_zero, Nat.sub_zero]
  exact List.take_of_length_le (by rw [size_list]; exact h)
theorem extract_extract (s : ByteArray) (a b n : Nat) (h : b ≤ n) : (s.extract 0 n).extract a b = s.extract a b := by
  apply ext_eq
  rw [extract_list, extract_list, extract_list, List.drop_zero, Nat.sub_zero, List.drop_take, List.take_take]
  congr 1
  omega
theorem size_extract' (s : ByteArray) (a b : Nat) (h : b ≤ s.size) : (s.extract a b).size = b - a := by
  rw [ByteArray.size_extract]
  omega
theorem empty_iff (s : ByteArray) : s = ⟨#[]⟩ ↔ s.size = 0 := by
  constructor
  · rintro rfl; rfl
  · intro h
    apply ext_eq
    have : s.data.toList.length = 0 := by rw [size_list]; exact h
    exact List.eq_nil_of_length_eq_zero this
/-- How many bytes stand ahead of the first byte of which e tells, among the first n. -/
def until? (e : Nat → Bool) (s : ByteArray) : Nat → Nat
  | 0 => s.size
  | k + 1 => if e (sbyte s (s.size - (k + 1))) = true then s.size - (k + 1) else until? e s k
/-- The first place at which e holds; else the size. -/
def firstAt (e : Nat → Bool) (s : ByteArray) : Nat := until? e s s.size
theorem until_spec (e : Nat → Bool) (s : ByteArray) : ∀ k, k ≤ s.size → s.size - k ≤ until? e s k ∧ until? e s k ≤ s.size ∧ (∀ j, s.size - k ≤ j → j < until? e s k → e (sbyte s j) = false) ∧ (until? e s k < s.size → e (sbyte s (until? e s k)) = true)
  | 0, _ => ⟨by unfold until?; omega, by unfold until?; omega, by unfold until?; intro j h1 h2; omega, by unfold until?; intro h; omega⟩
  | k + 1, hk => by
    obtain ⟨a, b, c, d⟩ := until_spec e s k (by omega)
    unfold until?
    split
    · rename_i h
      exact ⟨Nat.le_refl _, by omega, fun j h1 h2 => by omega, fun _ => h⟩
    · rename_i h
      refine ⟨by omega, b, fun j h1 h2 => ?_, d⟩
      by_cases hj : j = s.size - (k + 1)
      · subst hj; simpa using h
      · exact c j (by omega) h2
theorem first_le (e : Nat → Bool) (s : ByteArray) : firstAt e s ≤ s.size := (until_spec e s s.size (Nat.le_refl _)).2.1
theorem first_no (e : Nat → Bool) (s : ByteArray) (j : Nat) (h : j < firstAt e s) : e (sbyte s j) = false := (until_spec e s s.size (Nat.le_refl _)).2.2.1 j (by omega) h
theorem first_yes (e : Nat → Bool) (s : ByteArray) (h : firstAt e s < s.size) : e (sbyte s (firstAt e s)) = true := (until_spec e s s.size (Nat.le_refl _)).2.2.2 h
theorem first_eq (e : Nat → Bool) (s : ByteArray) (k : Nat) (hk : k < s.size) (h : ∀ j, j < k → e (sbyte s j) = false) (hy : e (sbyte s k) = true) : firstAt e s = k := by
  by_cases h1 : firstAt e s < k
  · have := first_yes e s (by omega)
    rw [h _ h1] at this
    exact absurd this (by decide)
  · by_cases h2 : k < firstAt e s
    · rw [first_no e s k h2] at hy
      exact absurd hy (by decide)
    · omega
theorem first_none (e : Nat → Bool) (s : ByteArray) (h : ∀ j, j < s.size → e (sbyte s j) = false) : firstAt e s = s.size := by
  have h1 := first_le e s
  by_cases h2 : firstAt e s < s.size
  · have := first_yes e s h2
    rw [h _ h2] at this
    exact absurd this (by decide)
  · omega

/-! ### Letters of more than one byte -/
theorem decode_width (s : ByteArray) (pos : Nat) (h : pos < s.size) : pos + (Utf8.decode s pos).2 ≤ s.size ∧ 1 ≤ (Utf8.decode s pos).2 ∧ ∀ j, 1 ≤ j → j < (Utf8.decode s pos).2 → 128 ≤ sbyte s (pos + j) := by
  have key : ∀ k, (decide (pos + k < s.size) && (s.get! (pos + k)).toNat / 64 == 2) = true → pos + k < s.size ∧ 128 ≤ sbyte s (pos + k) := by
    intro k hk
    simp only [Bool.and_eq_true, decide_eq_true_eq, beq_iff_eq] at hk
    unfold sbyte
    omega
  simp only [Utf8.decode]
  have one : ∀ j, 1 ≤ j → j < 1 → 128 ≤ sbyte s (pos + j) := fun j h1 h2 => by omega
  split
  · exact ⟨by simp only; omega, Nat.le_refl _, one⟩
  · split
    · rename_i h1
      simp only [Bool.and_eq_true] at h1
      have k1 := key 1 (by simpa using h1.2)
      split
      · refine ⟨by simp only; omega, by simp only; omega, fun j a b => ?_⟩
        simp only at b
        obtain rfl : j = 1 := by omega
        exact k1.2
      · exact ⟨by simp only; omega, Nat.le_refl _, one⟩
    · split
      · rename_i h1
        simp only [Bool.and_eq_true] at h1
        have k1 := key 1 (by simpa using h1.1.2)
        have k2 := key 2 (by simpa using h1.2)
        split
        · refine ⟨by simp only; omega, by simp only; omega, fun j a b => ?_⟩
          simp only at b
          obtain rfl | rfl : j = 1 ∨ j = 2 := by omega
          · exact k1.2
          · exact k2.2
        · exact ⟨by simp only; omega, Nat.le_refl _, one⟩
      · split
        · rename_i h1
          simp only [Bool.and_eq_true] at h1
          have k1 := key 1 (by simpa using h1.1.1.2)
          have k2 := key 2 (by simpa using h1.1.2)
          have k3 := key 3 (by simpa using h1.2)
          split
          · refine ⟨by simp only; omega, by simp only; omega, fun j a b => ?_⟩
            simp only at b
            obtain rfl | rfl | rfl : j = 1 ∨ j = 2 ∨ j = 3 := by omega
            · exact k1.2
            · exact k2.2
            · exact k3.2
          · exact ⟨by simp only; omega, Nat.le_refl _, one⟩
        · exact ⟨by simp only; omega, Nat.le_refl _, one⟩
theorem decode_low (s : ByteArray) (pos : Nat) (h : pos < s.size) (ha : sbyte s pos < 128) : Utf8.decode s pos = (sbyte s pos, 1) := by
  have := decode_ascii s pos h (by rw [sbyte_at s pos h]; exact ha)
  rw [this, sbyte_at s pos h]
theorem decode_up (s : ByteArray) (pos : Nat) (h : pos < s.size) (ha : 128 ≤ sbyte s pos) : 128 ≤ (Utf8.decode s pos).1 := (decode_high s pos h (by rw [sbyte_at s pos h]; exact ha)).1
end Go.Proofs.Ytgkmmoiniidhlaa
