/-
  Sums of 16 bits, in plain: a change within 16 bits in a row is told.
-/
import Derived.Test.YtfkceochmhelaaaCrc6
namespace Go.Proofs.Ytfkceochmhelaaa
open Go.RowKit
set_option linter.unusedVariables false

theorem xor_zero_iff {a b : Nat} : a ^^^ b = 0 ↔ a = b := by
  constructor
  · intro h
    apply Nat.eq_of_testBit_eq
    intro i
    have h2 := congrArg (fun n => n.testBit i) h
    simp only [Nat.testBit_xor, Nat.zero_testBit] at h2
    cases h3 : a.testBit i <;> cases h4 : b.testBit i <;> simp_all
  · intro h
    rw [h, Nat.xor_self]
theorem sh_zero (n : Nat) (hn : n < 65536) (h : sh n = 0) : n = 0 := by
  unfold sh at h
  have h2 : 2 * n % 65536 = if n.testBit 15 = true then 4129 else 0 := by
    have := xor_zero_iff.1 h
    exact this
  by_cases ht : n.testBit 15 = true
  · rw [if_pos ht] at h2
    omega
  · rw [if_neg ht] at h2
    have : n < 2 ^ 15 := by
      have h3 : n.testBit 15 = false := by simpa using ht
      have h4 : n / 2 ^ 15 % 2 = 0 := by
        rw [← Nat.toNat_testBit, h3]; rfl
      have : n / 2 ^ 15 < 2 := by omega
      omega
    omega
theorem shN_zero (k : Nat) : ∀ n, n < 65536 → shN k n = 0 → n = 0 := by
  induction k with
  | zero => intro n _ h; exact h
  | succ k ih => intro n hn h; exact ih n hn (sh_zero _ (shN_lt k n hn) h)
theorem sh_null : sh 0 = 0 := by decide
/-- The register's change, by the bits' change. -/
def difN (d : Nat → Nat) : Nat → Nat
  | 0 => 0
  | i + 1 => sh (difN d i ^^^ (d i * 32768))
theorem difN_lt (d : Nat → Nat) (i : Nat) : difN d i < 65536 := by
  cases i with
  | zero => exact (by decide : 0 < 65536)
  | succ i => exact sh_lt _
/-- The change of a row of k bits, at its place. -/
def rowT (d : Nat → Nat) (at_ : Nat) : Nat → Nat
  | 0 => 0
  | k + 1 => rowT d at_ k ^^^ (d (at_ + k) * 2 ^ (15 - k))
theorem difN_ahead (d : Nat → Nat) (at_ : Nat) (h : ∀ i, i < at_ → d i = 0) : ∀ i, i ≤ at_ → difN d i = 0
  | 0, _ => rfl
  | i + 1, hi => by
    rw [difN, difN_ahead d at_ h i (by omega), h i (by omega)]
    decide
theorem difN_row (d : Nat → Nat) (at_ : Nat) (h : ∀ i, i < at_ → d i = 0) (h1 : ∀ i, d i < 2) : ∀ k, k ≤ 16 → difN d (at_ + k) = shN k (rowT d at_ k)
  | 0, _ => by rw [Nat.add_zero, difN_ahead d at_ h at_ (Nat.le_refl _)]; rfl
  | k + 1, hk => by
    have hd := h1 (at_ + k)
    have e2 : d (at_ + k) * 2 ^ (15 - k) * 2 ^ k = d (at_ + k) * 32768 := by
      rw [Nat.mul_assoc, ← Nat.pow_add, show 15 - k + k = 15 by omega]
    rw [← Nat.add_assoc, difN, difN_row d at_ h h1 k (by omega), rowT]
    simp only [shN]
    rw [shN_lin k, shN_low k (d (at_ + k) * 2 ^ (15 - k)) (by rw [e2]; omega), e2]
theorem rowT_low (d : Nat → Nat) (at_ : Nat) (h1 : ∀ i, d i < 2) : ∀ k, k ≤ 16 → ∀ j, j + k < 16 → (rowT d at_ k).testBit j = false
  | 0, _, j, _ => by simp [rowT]
  | k + 1, hk, j, hj => by
    rw [rowT, Nat.testBit_xor, rowT_low d at_ h1 k (by omega) j (by omega)]
    have hd := h1 (at_ + k)
    have : d (at_ + k) = 0 ∨ d (at_ + k) = 1 := by omega
    rcases this with e | e
    · rw [e]; simp
    · rw [e, Nat.one_mul, Nat.testBit_two_pow]
      simp; omega
theorem rowT_lt (d : Nat → Nat) (at_ : Nat) (h1 : ∀ i, d i < 2) : ∀ k, k ≤ 16 → rowT d at_ k < 65536
  | 0, _ => (by decide : 0 < 65536)
  | k + 1, hk => by
    have hd := h1 (at_ + k)
    refine xor_lt16 (rowT_lt d at_ h1 k (by omega)) ?_
    have hp : 2 ^ (15 - k) ≤ 2 ^ 15 := Nat.pow_le_pow_right (by decide) (by omega)
    have : d (at_ + k) = 0 ∨ d (at_ + k) = 1 := by omega
    rcases this with e | e
    · rw [e]; simp
    · rw [e, Nat.one_mul]; omega
theorem rowT_zero (d : Nat → Nat) (at_ : Nat) (h1 : ∀ i, d i < 2) : ∀ k, k ≤ 16 → rowT d at_ k = 0 → ∀ j, j < k → d (at_ + j) = 0
  | 0, _, _, j, hj => by omega
  | k + 1, hk, h0, j, hj => by
    have hd := h1 (at_ + k)
    have hz : d (at_ + k) = 0 := by
      have ht : (rowT d at_ (k + 1)).testBit (15 - k) = false := by rw [h0]; simp
      rw [rowT, Nat.testBit_xor, rowT_low d at_ h1 k (by omega) (15 - k) (by omega)] at ht
      have : d (at_ + k) = 0 ∨ d (at_ + k) = 1 := by omega
      rcases this with e | e
      · exact e
      · rw [e, Nat.one_mul, Nat.testBit_two_pow] at ht
        simp at ht
    have hr : rowT d at_ k = 0 := by
      rw [rowT, hz] at h0
      simpa using h0
    by_cases hjk : j = k
    · rw [hjk]; exact hz
    · exact rowT_zero d at_ h1 k (by omega) hr j (by omega)
theorem difN_zero (d : Nat → Nat) (h : ∀ i, d i = 0) : ∀ n, difN d n = 0
  | 0 => rfl
  | n + 1 => by rw [difN, difN_zero d h n, h n]; decide
theorem difN_zero' (d : Nat → Nat) : ∀ n, (∀ i, i < n → d i = 0) → difN d n = 0
  | 0, _ => rfl
  | n + 1, h => by rw [difN, difN_zero' d n (fun i hi => h i (by omega)), h n (by omega)]; decide
theorem difN_behind (d : Nat → Nat) (m : Nat) (h : ∀ i, m ≤ i → d i = 0) : ∀ k, difN d (m + k) = 0 → difN d m = 0
  | 0, h0 => h0
  | k + 1, h0 => by
    rw [← Nat.add_assoc, difN, h (m + k) (by omega), Nat.zero_mul, Nat.xor_zero] at h0
    exact difN_behind d m h k (sh_zero _ (difN_lt _ _) h0)
/-- A change within 16 bits in a row is told. -/
theorem burst (d : Nat → Nat) (at_ n : Nat) (h1 : ∀ i, d i < 2) (hw : ∀ i, ¬ (at_ ≤ i ∧ i < at_ + 16) → d i = 0) (h0 : difN d n = 0) : ∀ i, i < n → d i = 0 := by
  intro i hi
  by_cases hin : at_ ≤ i ∧ i < at_ + 16
  · by_cases hn : n ≤ at_ + 16
    · obtain ⟨k, rfl⟩ : ∃ k, n = at_ + k := ⟨n - at_, by omega⟩
      have hr := difN_row d at_ (fun j hj => hw j (by omega)) h1 k (by omega)
      rw [h0] at hr
      have hz := shN_zero k _ (rowT_lt d at_ h1 k (by omega)) hr.symm
      have := rowT_zero d at_ h1 k (by omega) hz (i - at_) (by omega)
      rwa [show at_ + (i - at_) = i by omega] at this
    · obtain ⟨k, rfl⟩ : ∃ k, n = (at_ + 16) + k := ⟨n - (at_ + 16), by omega⟩
      have hb := difN_behind d (at_ + 16) (fun j hj => hw j (by omega)) k h0
      have hr := difN_row d at_ (fun j hj => hw j (by omega)) h1 16 (by omega)
      rw [hb] at hr
      have hz := shN_zero 16 _ (rowT_lt d at_ h1 16 (by omega)) hr.symm
      have := rowT_zero d at_ h1 16 (by omega) hz (i - at_) (by omega)
      rwa [show at_ + (i - at_) = i by omega] at this
  · exact hw i hin

/-! ### Two texts -/
theorem tbit_lt (s : ByteArray) (i : Nat) : tbit s i < 2 := Nat.mod_lt _ (by decide)
def unl (a b : ByteArray) (i : Nat) : Nat := tbit a i ^^^ tbit b i
theorem unl_lt (a b : ByteArray) (i : Nat) : unl a b i < 2 := Nat.xor_lt_two_pow (n := 1) (tbit_lt a i) (tbit_lt b i)
theorem unl_zero (a b : ByteArray) (i : Nat) : unl a b i = 0 ↔ tbit a i = tbit b i := xor_zero_iff
theorem mul_xor32768 (x y : Nat) : (x ^^^ y) * 32768 = (x * 32768) ^^^ (y * 32768) := by
  have h := Nat.shiftLeft_xor_distrib (a := x) (b := y) (i := 15)
  simpa only [Nat.shiftLeft_eq] using h
theorem bits_dif (x : Nat) (a b : ByteArray) : ∀ i, bitsN x a i ^^^ bitsN x b i = difN (unl a b) i
  | 0 => by simp [bitsN, difN]
  | i + 1 => by
    rw [bitsN, bitsN, difN, ← bits_dif x a b i, bitStep, bitStep, ← sh_lin, unl, mul_xor32768]
    congr 1
    rw [Nat.xor_assoc, Nat.xor_assoc, ← Nat.xor_assoc (tbit a i * 32768), ← Nat.xor_assoc (bitsN x b i), Nat.xor_comm (tbit a i * 32768) (bitsN x b i)]
theorem crc_dif (a b : ByteArray) (h : a.size = b.size) : crcN (bl a) ^^^ crcN (bl b) = difN (unl a b) (8 * a.size) := by
  rw [← bits_dif 65535 a b]
  have e1 := bitsN_all 65535 a a.size (Nat.le_refl _)
  have e2 := bitsN_all 65535 b b.size (Nat.le_refl _)
  rw [List.take_of_length_le (by simp [bl])] at e1 e2
  rw [e1, h, e2]
  rfl
theorem byte_eq (x y : UInt8) (h : ∀ j, j < 8 → bitN x.toNat j = bitN y.toNat j) : x = y := by
  apply UInt8.toNat_inj.1
  apply Nat.eq_of_testBit_eq
  intro i
  by_cases hi : i < 8
  · have := h (7 - i) (by omega)
    rw [bitN_test, bitN_test, show 7 - (7 - i) = i by omega] at this
    cases h1 : x.toNat.testBit i <;> cases h2 : y.toNat.testBit i <;> simp_all
  · have hp : 2 ^ 8 ≤ 2 ^ i := Nat.pow_le_pow_right (by decide) (by omega)
    rw [Nat.testBit_lt_two_pow (by have := UInt8.toNat_lt x; omega), Nat.testBit_lt_two_pow (by have := UInt8.toNat_lt y; omega)]
theorem text_eq (a b : ByteArray) (h : a.size = b.size) (hd : ∀ i, i < 8 * a.size → tbit a i = tbit b i) : a = b := by
  have hl : bl a = bl b := by
    apply List.ext_getElem (by simp [bl]; exact h)
    intro k h1 h2
    have hk : k < a.size := by simpa [bl] using h1
    apply byte_eq
    intro j hj
    have := hd (8 * k + j) (by omega)
    unfold tbit at this
    rw [show (8 * k + j) / 8 = k by omega, show (8 * k + j) % 8 = j by omega, List.getD_eq_getElem?_getD, List.getD_eq_getElem?_getD, List.getElem?_eq_getElem h1, List.getElem?_eq_getElem h2] at this
    exact this
  have : a.data = b.data := by
    apply Array.ext'
    exact hl
  cases a
  cases b
  cases this
  rfl
/-- c is s, but for what lies within 16 bits in a row. -/
structure Turned (at_ : Nat) (s c : ByteArray) : Prop where
  size : c.size = s.size
  out : ∀ i, i < 8 * s.size → ¬ (at_ ≤ i ∧ i < at_ + 16) → tbit c i = tbit s i
theorem unl_out {at_ : Nat} {s c : ByteArray} (h : Turned at_ s c) (i : Nat) (hi : ¬ (at_ ≤ i ∧ i < at_ + 16)) : unl s c i = 0 := by
  by_cases h8 : i < 8 * s.size
  · rw [unl_zero]; exact (h.out i h8 hi).symm
  · rw [unl_zero]
    unfold tbit
    have e1 : (bl s).getD (i / 8) 0 = 0 := by
      rw [List.getD_eq_getElem?_getD, List.getElem?_eq_none (by simp [bl]; show s.size ≤ _; omega)]; rfl
    have e2 : (bl c).getD (i / 8) 0 = 0 := by
      rw [List.getD_eq_getElem?_getD, List.getElem?_eq_none (by simp [bl]; show c.size ≤ _; rw [h.size]; omega)]; rfl
    rw [e1, e2]
theorem turned_crc {at_ : Nat} {s c : ByteArray} (h : Turned at_ s c) : crcN (bl s) = crcN (bl c) ↔ s = c := by
  constructor
  · intro e
    have hd := crc_dif s c h.size.symm
    rw [e, Nat.xor_self] at hd
    have hz := burst (unl s c) at_ (8 * s.size) (unl_lt s c) (unl_out h) hd.symm
    exact text_eq s c h.size.symm fun i hi => (unl_zero s c i).1 (hz i hi)
  · intro e
    rw [e]

/-! ### How far apart -/
theorem stp_same (a b : ByteArray) : ∀ n, (∀ i, i < n → tbit a i = tbit b i) → stp a b (-2) n = (-1, -2)
  | 0, _ => rfl
  | n + 1, h => by rw [stp, if_pos (h n (by omega)), stp_same a b n fun i hi => h i (by omega)]
theorem stp_in (at_ : Nat) (a b : ByteArray) (hw : ∀ i, ¬ (at_ ≤ i ∧ i < at_ + 16) → tbit a i = tbit b i) : ∀ n : Nat, (stp a b (-2) n = (-1, -2) ∧ ∀ i, i < n → tbit a i = tbit b i) ∨ ((at_ : Int) ≤ (stp a b (-2) n).1 ∧ (stp a b (-2) n).1 ≤ (stp a b (-2) n).2 ∧ (stp a b (-2) n).2 < (at_ : Int) + 16 ∧ (stp a b (-2) n).2 < n)
  | 0 => .inl ⟨rfl, fun i hi => by omega⟩
  | n + 1 => by
    have ih := stp_in at_ a b hw n
    by_cases hq : tbit a n = tbit b n
    · rw [stp, if_pos hq]
      rcases ih with ⟨h1, h2⟩ | ⟨h1, h2, h3, h4⟩
      · refine .inl ⟨h1, fun i hi => ?_⟩
        by_cases e : i = n
        · rw [e]; exact hq
        · exact h2 i (by omega)
      · exact .inr ⟨h1, h2, h3, by omega⟩
    · have hin : at_ ≤ n ∧ n < at_ + 16 := by
        by_cases hh : at_ ≤ n ∧ n < at_ + 16
        · exact hh
        · exact absurd (hw n hh) hq
      rw [stp, if_neg hq]
      refine .inr ?_
      rcases ih with ⟨h1, h2⟩ | ⟨h1, h2, h3, h4⟩
      · rw [h1]
        simp
        omega
      · simp only
        rw [if_neg (by omega)]
        omega
theorem ap_turned {at_ : Nat} {s c : ByteArray} (h : Turned at_ s c) : (apB s c).ok = true ∧ (apB s c).n ≤ 16 ∧ ((apB s c).n = 0 ↔ s = c) := by
  rw [apB_ref s c h.size.symm]
  have hw : ∀ i, ¬ (at_ ≤ i ∧ i < at_ + 16) → tbit s i = tbit c i := fun i hi => (unl_zero s c i).1 (unl_out h i hi)
  refine ⟨rfl, ?_⟩
  rcases stp_in at_ s c hw (8 * s.size) with ⟨h1, h2⟩ | ⟨h1, h2, h3, h4⟩
  · rw [h1]
    have := text_eq s c h.size.symm h2
    simp only
    exact ⟨by omega, fun _ => this, fun _ => by omega⟩
  · simp only
    refine ⟨by omega, fun e => by omega, fun e => ?_⟩
    exfalso
    have := stp_same s c (8 * s.size) (fun i _ => by rw [e])
    rw [this] at h1
    simp only at h1
    omega

/-! ### What is opened -/
theorem xor_two (x y : Nat) (hy : y < 256) : (x * 256) ^^^ y = x * 256 + y := by
  have h := xor_top x y hy
  have h2 : (x * 256) ^^^ ((x * 256 + y) ^^^ (x * 256)) = x * 256 + y := by
    rw [Nat.xor_comm (x * 256 + y), ← Nat.xor_assoc, Nat.xor_self, Nat.zero_xor]
  rwa [h] at h2
theorem crc_two (m x y : Nat) (hm : m < 65536) (hx : x < 256) (hy : y < 256) : fedN (fedN m x) y = 0 ↔ m = x * 256 + y := by
  have e8 : y * 256 = shN 8 y := by rw [shN_low 8 y (by omega)]
  have e : fedN (fedN m x) y = shN 8 (shN 8 ((m ^^^ (x * 256)) ^^^ y)) := by
    unfold fedN
    rw [e8, ← shN_lin]
  rw [e]
  have hl : (m ^^^ (x * 256)) ^^^ y < 65536 := xor_lt16 (xor_lt16 hm (by omega)) (by omega)
  constructor
  · intro h
    have h1 := shN_zero 8 _ (shN_lt 8 _ hl) h
    have h2 := shN_zero 8 _ hl h1
    rw [Nat.xor_assoc, xor_two x y hy, xor_zero_iff] at h2
    exact h2
  · intro h
    rw [Nat.xor_assoc, xor_two x y hy, h, Nat.xor_self]
    decide
theorem open_ok (c : ByteArray) (h2 : 2 ≤ c.size) : (openB c).err = 0 ↔ crcN (bl c) = 0 := by
  obtain ⟨l, x, y, hl⟩ : ∃ l x y, bl c = l ++ [x, y] := by
    have hlen : (bl c).length = c.size := bl_len c
    refine ⟨(bl c).take (c.size - 2), (bl c)[c.size - 2]'(by omega), (bl c)[c.size - 1]'(by omega), ?_⟩
    apply List.ext_getElem
    · simp; omega
    · intro i h1 h3
      by_cases hi : i < c.size - 2
      · rw [List.getElem_append_left (by simp; omega), List.getElem_take]
      · by_cases hi2 : i = c.size - 2
        · subst hi2
          rw [List.getElem_append_right (by simp <;> omega)]
          simp
        · have : i = c.size - 1 := by omega
          subst this
          have e : c.size - 1 - ((bl c).take (c.size - 2)).length = 1 := by rw [List.length_take, hlen]; omega
          rw [List.getElem_append_right (by rw [List.length_take, hlen]; omega)]
          simp only [e]
          rfl
  have hlen : l.length = c.size - 2 := by
    have := congrArg List.length hl
    rw [bl_len] at this
    simp at this
    omega
  have e1 : bl (c.extract (c.size - 2) c.size) = [x, y] := by
    rw [bl_extract, hl, ← hlen, List.drop_left]
    rw [List.take_of_length_le (by simp; omega)]
  have e2 : bl (c.extract 0 (c.size - 2)) = l := by
    rw [bl_extract, hl, List.drop_zero, Nat.sub_zero, ← hlen, List.take_left]
  have e3 : crcN (bl c) = fedN (fedN (crcN l) x.toNat) y.toNat := by
    rw [hl]
    unfold crcN
    rw [moreN_append]
    rfl
  have e4 : numOf [x, y] = ((x.toNat * 256 + y.toNat : Nat) : Int) := by
    unfold numOf
    simp
  rw [e3, crc_two _ _ _ (crcN_lt l) (UInt8.toNat_lt x) (UInt8.toNat_lt y)]
  unfold openB
  rw [if_neg (by omega), e1, e2, e4]
  by_cases hq : x.toNat * 256 + y.toNat = crcN l
  · rw [if_pos (by omega)]
    simp [hq]
  · rw [if_neg (by omega)]
    simp
    omega
theorem turned_open {at_ : Nat} {a c : ByteArray} (h : Turned at_ (ofL (sealL (bl a))) c) : (openB c).err = 0 ↔ ofL (sealL (bl a)) = c := by
  have hs := seal_size a
  rw [open_ok c (by rw [h.size, hs]; omega), ← turned_crc h, bl_ofL, crc_seal0]
  exact eq_comm
end Go.Proofs.Ytfkceochmhelaaa
