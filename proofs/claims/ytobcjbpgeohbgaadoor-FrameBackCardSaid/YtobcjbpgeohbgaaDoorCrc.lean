
/-
  Layer 3 (crc): fed, More, Sum; and the document's Bit, More, Sum.
-/
import Derived.Test.YtobcjbpgeohbgaaDoorCrcLaw
import Derived.Handy
namespace Go.Proofs.YtobcjbpgeohbgaaDoor
open Go.RowKit
set_option linter.unusedVariables false

set_option maxRecDepth 100000 in
theorem fed_any (s : Nat) (b : UInt8) (w : World) (hs : s < 65536) : Calls Tryd.prog 50 #[.int .u16 s, .int .u8 (b.toNat : Int)] w fun e w' => e = .returned (.int .u16 (fedN s b.toNat : Nat)) ∧ w = w' := by
  have hb : b.toNat < 256 := b.toNat_lt
  have hx : bits .xor .u16 (s : Int) ((b.toNat : Int) * 256) = ((s ^^^ (b.toNat * 256) : Nat) : Int) := by
    have := u16_xor_nat s (b.toNat * 256) hs (by omega)
    rw [Int.natCast_mul] at this
    exact this
  have q0 : (0 : Int) ≤ (b.toNat : Int) := by omega
  have q1 : (b.toNat : Int) < 256 := by omega
  have h0 : s ^^^ (b.toNat * 256) < 65536 := xor_lt16 hs (by omega)
  unfold fedN
  generalize s ^^^ (b.toNat * 256) = x at *
  go_enter Tryd.func50, Tryd.ntmps50
  go_wp2
  go_loop [0, 5, 11] (fun v q i => ∃ k : Nat, k ≤ 8 ∧ i = .int .i64 k ∧ v = .int .u16 (shN k x : Nat)) (fun _ _ i => 8 - (intOf i).toNat)
  case atStart => exact ⟨0, by omega, rfl, rfl⟩
  case round =>
    obtain ⟨k, hk, rfl, rfl⟩ := hrel
    have hlt := shN_lt k x h0
    by_cases h8 : k < 8
    · have HS := Lib.hid (show shN (k + 1) x = sh (shN k x) from rfl)
      generalize shN k x = n at *
      have hw := wrap_u16 n
      have ht := and_top n hlt
      unfold sh at HS
      have hm : 2 * n % 65536 < 65536 := Nat.mod_lt _ (by decide)
      generalize 2 * n % 65536 = m at *
      cases hb : n.testBit 15 with
      | true =>
        rw [hb, if_pos rfl] at HS ht
        have hxp := xor_poly m hm
        generalize m ^^^ 4129 = p at *
        clear hb
        go_wp2
        exact ⟨⟨k + 1, by omega, by go_num, by rw [HS.out]⟩, by simp only [intOf]; omega⟩
      | false =>
        rw [hb, if_neg (by decide), Nat.xor_zero] at HS
        rw [hb, if_neg (by decide)] at ht
        clear hb
        go_wp2
        exact ⟨⟨k + 1, by omega, by go_num, by rw [HS.out]⟩, by simp only [intOf]; omega⟩
    · obtain rfl : k = 8 := by omega
      go_wp2
      go_ret
      exact ⟨rfl, rfl⟩

/-- The register in its variable. -/
def RegAt (w : World) (g : Nat) (n : Nat) : Prop := IsObj w g 106 [.int .u16 (n : Int)]
theorem fedc_any (g n : Nat) (i : Int) (b : UInt8) (w : World) (h : RegAt w g n) (hn : n < 65536) : Calls Tryd.prog 49 #[.int .i64 i, .int .u8 (b.toNat : Int), .pointer (some ⟨g, 0, none⟩)] w fun e w' => e = .returned (.tuple #[]) ∧ RegAt w' g (fedN n b.toNat) ∧ Only g w w' := by
  have c0 : w.cell? ⟨g, 0, none⟩ = some (.int .u16 (n : Int)) := IsObj.cell h 0
  have f0 := IsObj.free h 0
  have H := Lib.hid h
  clear h
  go_enter Tryd.func49, Tryd.ntmps49
  go_wp2_with (go_at_call 50; (with_reducible refine (fed_any _ _ _ hn).mono ?_); rintro e w' ⟨rfl, rfl⟩)
  go_end0
  exact ⟨rfl, IsObj.set H.out 0 (.int .u16 (fedN n b.toNat : Nat)), (Only.refl _ _).setCell (.inl rfl) _⟩
set_option maxRecDepth 100000 in
theorem each_any (s : ByteArray) (g n : Nat) (w : World) (hs : s.size ≤ 2147483648) (h : RegAt w g n) (hn : n < 65536) : Calls Tryd.prog 48 #[.string s, .func (.func 49) #[] #[.pointer (some ⟨g, 0, none⟩)]] w fun e w' => e = .returned (.tuple #[]) ∧ RegAt w' g (moreN n (bl s)) ∧ Only g w w' := by
  have H := Lib.hid h
  clear h
  go_enter Tryd.func48, Tryd.ntmps48
  go_wp2
  go_loopw [7] (fun i wr => ∃ k : Nat, k ≤ s.size ∧ i = .int .i64 k ∧ RegAt wr g (moreN n ((bl s).take k)) ∧ Only g w wr) (fun i _ => s.size - (intOf i).toNat)
  case atStart => exact ⟨0, Nat.zero_le _, rfl, H.out, Only.refl _ _⟩
  case round =>
    obtain ⟨k, hk, rfl, hR, hO⟩ := hrel
    have HR := Lib.hid hR
    have HO := Lib.hid hO
    clear hR hO H
    by_cases hlt : k < s.size
    · have hM : moreN n ((bl s).take (k + 1)) = fedN (moreN n ((bl s).take k)) s[k].toNat := by
        rw [List.take_add_one, at_bl s k hlt]
        simp only [Option.toList]
        rw [moreN_snoc]
      have hm := moreN_lt ((bl s).take k) n hn
      have HM := Lib.hid hM
      have i1 : (0 : Int) ≤ (k : Int) := by omega
      have i2 : (k : Int) < (s.size : Int) := by omega
      clear hM
      generalize moreN n ((bl s).take k) = m at *
      go_wp2_with (go_at_call 49; (with_reducible refine (fedc_any _ _ _ _ _ HR.out hm).mono ?_); rintro e w1 ⟨rfl, hR1, hO1⟩)
      exact ⟨⟨k + 1, by omega, by go_num, by rw [HM.out]; exact hR1, HO.out.trans hO1⟩, by simp only [intOf]; omega⟩
    · have hT : (bl s).take k = bl s := List.take_of_length_le (by rw [bl_len]; omega)
      rw [hT] at HR
      clear hT
      go_wp2
      go_end0
      exact ⟨rfl, HR.out, HO.out⟩

/-- The register that a number gives. -/
def r16 (x : Int) : Nat := (x % 65536).toNat
theorem r16_lt (x : Int) : r16 x < 65536 := by unfold r16; omega
theorem r16_cast (x : Int) : ((r16 x : Nat) : Int) = x % 65536 := by unfold r16; omega
set_option maxRecDepth 100000 in
theorem more_any (x : Int) (s : ByteArray) (w : World) (hs : s.size ≤ 2147483648) : Calls Tryd.prog 38 #[.int .i64 x, .string s] w fun e w' => e = .returned (.int .i64 (moreN (r16 x) (bl s) : Nat)) ∧ Below w.heap.size w w' := by
  have hr := r16_lt x
  have hm := moreN_lt (bl s) _ hr
  have hw : IntKind.u16.wrap x = ((r16 x : Nat) : Int) := by rw [IntKind.wrap_u16, r16_cast]
  obtain ⟨m, hM⟩ : ∃ m, m = moreN (r16 x) (bl s) := ⟨_, rfl⟩
  rw [← hM] at hm ⊢
  have HM := Lib.hid hM
  clear hM
  go_enter Tryd.func38, Tryd.ntmps38
  go_wp2_with fail
  first | rw [hw] | skip
  refine (each_any s _ (r16 x) _ hs (IsObj.new w 106 [.int .u16 (r16 x : Nat)]) hr).mono ?_
  rw [← HM.out]
  rintro e w1 ⟨rfl, hR, hO⟩
  have c0 : w1.cell? ⟨w.heap.size, 0, none⟩ = some (.int .u16 (m : Nat)) := IsObj.cell hR 0
  have hB := (((Below.refl w.heap.size w).alloc (Nat.le_refl _) (.cells #[.int .u16 (r16 x : Nat)] 106)).trans (hO.below (Nat.le_refl _) (by simp)))
  have HB := Lib.hid hB
  clear hR hO hB
  go_wp2
  go_ret
  exact ⟨rfl, HB.out⟩
theorem r16_start : r16 65535 = 65535 := rfl
theorem csum_any (s : ByteArray) (w : World) (hs : s.size ≤ 2147483648) : Calls Tryd.prog 24 #[.string s] w fun e w' => e = .returned (.int .i64 (moreN 65535 (bl s) : Nat)) ∧ Below w.heap.size w w' := by
  have K := more_any 65535 s w hs
  rw [r16_start] at K
  have HK := Lib.hid K
  clear K
  go_enter Tryd.func24, Tryd.ntmps24
  go_wp2_with (go_at_call 38; refine HK.out.mono ?_; rintro e w1 ⟨rfl, hb⟩)
  go_ret
  exact ⟨rfl, hb⟩

/-! ### The document's sums -/
theorem i64_and16 (n : Int) : bits .and .i64 n 65535 = n % 65536 := by
  have h127 : (BitVec.ofInt 64 65535).toNat = 2 ^ 16 - 1 := by decide
  have key : (BitVec.ofInt 64 n &&& BitVec.ofInt 64 65535).toNat = (n % ((2 ^ 64 : Nat) : Int)).toNat % 2 ^ 16 := by
    rw [BitVec.toNat_and, BitVec.toNat_ofInt, h127, Nat.and_two_pow_sub_one_eq_mod]
  show IntKind.i64.wrap ((BitVec.ofInt 64 n &&& BitVec.ofInt 64 65535).toNat : Nat) = n % 65536
  rw [key, IntKind.wrap_i64]
  omega
theorem i64_xor_nat (a b : Nat) (ha : a < 65536) (hb : b < 65536) : bits .xor .i64 (a : Int) (b : Int) = ((a ^^^ b : Nat) : Int) := by
  have hx : a ^^^ b < 2 ^ 16 := Nat.xor_lt_two_pow (by omega) (by omega)
  show IntKind.i64.wrap ((BitVec.ofInt 64 (a : Int) ^^^ BitVec.ofInt 64 (b : Int)).toNat : Int) = _
  rw [BitVec.toNat_xor, BitVec.ofInt_natCast, BitVec.ofInt_natCast, BitVec.toNat_ofNat, BitVec.toNat_ofNat, Nat.mod_eq_of_lt (by omega), Nat.mod_eq_of_lt (by omega), IntKind.wrap_i64]
  omega
/-- Bit i of a text. -/
def tbit (s : ByteArray) (i : Nat) : Nat := bitN ((bl s).getD (i / 8) 0).toNat (i % 8)
/-- The document's register behind k bits. -/
def bitsN (x : Nat) (s : ByteArray) : Nat → Nat
  | 0 => x
  | k + 1 => bitStep (bitsN x s k) (tbit s k)
theorem bitsN_lt (x : Nat) (s : ByteArray) (h : x < 65536) : ∀ k, bitsN x s k < 65536
  | 0 => h
  | k + 1 => sh_lt _
theorem bitsN_byte (x : Nat) (s : ByteArray) (q : Nat) (hq : q < s.size) : ∀ k, k ≤ 8 → bitsN x s (8 * q + k) = bits8 (bitsN x s (8 * q)) (s[q].toNat) k
  | 0, _ => rfl
  | k + 1, h => by
    have e : 8 * q + (k + 1) = (8 * q + k) + 1 := by omega
    have d1 : (8 * q + k) / 8 = q := by omega
    have d2 : (8 * q + k) % 8 = k := by omega
    rw [e, bitsN, bitsN_byte x s q hq k (by omega), bits8, tbit, d1, d2, List.getD_eq_getElem?_getD, at_bl s q hq]
    rfl
theorem bitsN_all (x : Nat) (s : ByteArray) : ∀ q, q ≤ s.size → bitsN x s (8 * q) = moreN x ((bl s).take q)
  | 0, _ => rfl
  | q + 1, h => by
    have e : 8 * (q + 1) = 8 * q + 8 := by omega
    rw [e, bitsN_byte x s q (by omega) 8 (Nat.le_refl _), bitsN_all x s q (by omega), bits8_fed _ _ s[q].toNat_lt, List.take_add_one, at_bl s q (by omega)]
    simp only [Option.toList]
    rw [moreN_snoc]
theorem bitStep_eq (n d : Nat) (hn : n < 65536) (hd : d < 2) : bitStep n d = if n / 32768 = d then 2 * n % 65536 else (2 * n % 65536) ^^^ 4129 := by
  have ht : n.testBit 15 = decide (n / 32768 = 1) := by
    rw [Nat.testBit_eq_decide_div_mod_eq]
    have : n / 2 ^ 15 % 2 = n / 32768 := by
      show n / 32768 % 2 = n / 32768
      omega
    rw [this]
  unfold bitStep sh
  have h2 : 2 * (n ^^^ d * 32768) % 65536 = 2 * n % 65536 := by
    rw [two_mul_xor]
    have hm : (2 * n ^^^ 2 * (d * 32768)) % 65536 = (2 * n % 65536) ^^^ (2 * (d * 32768) % 65536) := Nat.xor_mod_two_pow (n := 16)
    rw [hm]
    have : 2 * (d * 32768) % 65536 = 0 := by omega
    rw [this, Nat.xor_zero]
  have h3 : (n ^^^ d * 32768).testBit 15 = !decide (n / 32768 = d) := by
    rw [Nat.testBit_xor, ht]
    have hq : n / 32768 < 2 := by omega
    have : d = 0 ∨ d = 1 := by omega
    rcases this with rfl | rfl
    · rcases (show n / 32768 = 0 ∨ n / 32768 = 1 by omega) with h | h <;> simp [h]
    · have h4 : (1 * 32768).testBit 15 = true := by decide
      rw [h4]
      simp
  rw [h2, h3]
  by_cases h : n / 32768 = d
  · simp [h]
  · simp [h]
end Go.Proofs.YtobcjbpgeohbgaaDoor
