/-
  Layer 3 (crc): fed, More, Sum; and the document's Bit, More, Sum.
-/
import Derived.Test.YtobcjbpgeohbgaaGreatDoorCrcLaw
import Derived.Handy
namespace Go.Proofs.YtobcjbpgeohbgaaGreatDoor
open Go.RowKit
set_option linter.unusedVariables false

set_option maxRecDepth 100000 in
theorem fed_any (s : Nat) (b : UInt8) (w : World) (hs : s < 65536) : Calls Tryz.prog 95 #[.int .u16 s, .int .u8 (b.toNat : Int)] w fun e w' => e = .returned (.int .u16 (fedN s b.toNat : Nat)) ∧ w = w' := by
  have hb : b.toNat < 256 := b.toNat_lt
  have hx : bits .xor .u16 (s : Int) ((b.toNat : Int) * 256) = ((s ^^^ (b.toNat * 256) : Nat) : Int) := by
    have := u16_xor_nat s (b.toNat * 256) hs (by omega)
    rw [Int.natCast_mul] at this
    exact this
  have q0 : (0 : Int) ≤ (b.toNat : Int) := by omega
  have q1 : (b.toNat : Int) < 256 := by omega
  have h0 : s ^^^ (b.toNat * 256) < 65536 := xor_lt16 hs (by omega)
  unfold fedN
  generalize s ^^^ (b.toNat * 256) = x at *
  go_enter Tryz.func95, Tryz.ntmps95
  go_wp2
  go_loop [0, 5, 11] (fun v q i => ∃ k : Nat, k ≤ 8 ∧ i = .int .i64 k ∧ v = .int .u16 (shN k x : Nat)) (fun _ _ i => 8 - (intOf i).toNat)
  case atStart => exact ⟨0, by omega, rfl, rfl⟩
  case round =>
    obtain ⟨k, hk, rfl, rfl⟩ := hrel
    have hlt := shN_lt k x h0
    by_cases h8 : k < 8
    · have HS := Lib.hid (show shN (k + 1) x = sh (shN k x) from rfl)
      generalize shN k x = n at *
      have hw := wrap_u16 n
      have ht := and_top n hlt
      unfold sh at HS
      have hm : 2 * n % 65536 < 65536 := Nat.mod_lt _ (by decide)
      generalize 2 * n % 65536 = m at *
      cases hb : n.testBit 15 with
      | true =>
        rw [hb, if_pos rfl] at HS ht
        have hxp := xor_poly m hm
        generalize m ^^^ 4129 = p at *
        clear hb
        go_wp2
        exact ⟨⟨k + 1, by omega, by go_num, by rw [HS.out]⟩, by simp only [intOf]; omega⟩
      | false =>
        rw [hb, if_neg (by decide), Nat.xor_zero] at HS
        rw [hb, if_neg (by decide)] at ht
        clear hb
        go_wp2
        exact ⟨⟨k + 1, by omega, by go_num, by rw [HS.out]⟩, by simp only [intOf]; omega⟩
    · obtain rfl : k = 8 := by omega
      go_wp2
      go_ret
      exact ⟨rfl, rfl⟩

/-- The register in its variable. -/
def RegAt (w : World) (g : Nat) (n : Nat) : Prop := IsObj w g 131 [.int .u16 (n : Int)]
theorem fedc_any (g n : Nat) (i : Int) (b : UInt8) (w : World) (h : RegAt w g n) (hn : n < 65536) : Calls Tryz.prog 94 #[.int .i64 i, .int .u8 (b.toNat : Int), .pointer (some ⟨g, 0, none⟩)] w fun e w' => e = .returned (.tuple #[]) ∧ RegAt w' g (fedN n b.toNat) ∧ Only g w w' := by
  have c0 : w.cell? ⟨g, 0, none⟩ = some (.int .u16 (n : Int)) := IsObj.cell h 0
  have f0 := IsObj.free h 0
  have H := Lib.hid h
  clear h
  go_enter Tryz.func94, Tryz.ntmps94
  go_wp2_with (go_at_call 95; (with_reducible refine (fed_any _ _ _ hn).mono ?_); rintro e w' ⟨rfl, rfl⟩)
  go_end0
  exact ⟨rfl, IsObj.set H.out 0 (.int .u16 (fedN n b.toNat : Nat)), (Only.refl _ _).setCell (.inl rfl) _⟩
set_option maxRecDepth 100000 in
theorem each_any (s : ByteArray) (g n : Nat) (w : World) (hs : s.size ≤ 2147483648) (h : RegAt w g n) (hn : n < 65536) : Calls Tryz.prog 93 #[.string s, .func (.func 94) #[] #[.pointer (some ⟨g, 0, none⟩)]] w fun e w' => e = .returned (.tuple #[]) ∧ RegAt w' g (moreN n (bl s)) ∧ Only g w w' := by
  have H := Lib.hid h
  clear h
  go_enter Tryz.func93, Tryz.ntmps93
  go_wp2
  go_loopw [7] (fun i wr => ∃ k : Nat, k ≤ s.size ∧ i = .int .i64 k ∧ RegAt wr g (moreN n ((bl s).take k)) ∧ Only g w wr) (fun i _ => s.size - (intOf i).toNat)
  case atStart => exact ⟨0, Nat.zero_le _, rfl, H.out, Only.refl _ _⟩
  case round =>
    obtain ⟨k, hk, rfl, hR, hO⟩ := hrel
    have HR := Lib.hid hR
    have HO := Lib.hid hO
    clear hR hO H
    by_cases hlt : k < s.size
    · have hM : moreN n ((bl s).take (k + 1)) = fedN (moreN n ((bl s).take k)) s[k].toNat := by
        rw [List.take_add_one, at_bl s k hlt]
        simp only [Option.toList]
        rw [moreN_snoc]
      have hm := moreN_lt ((bl s).take k) n hn
      have HM := Lib.hid hM
      have i1 : (0 : Int) ≤ (k : Int) := by omega
      have i2 : (k : Int) < (s.size : Int) := by omega
      clear hM
      generalize moreN n ((bl s).take k) = m at *
      go_wp2_with (go_at_call 94; (with_reducible refine (fedc_any _ _ _ _ _ HR.out hm).mono ?_); rintro e w1 ⟨rfl, hR1, hO1⟩)
      exact ⟨⟨k + 1, by omega, by go_num, by rw [HM.out]; exact hR1, HO.out.trans hO1⟩, by simp only [intOf]; omega⟩
    · have hT : (bl s).take k = bl s := List.take_of_length_le (by rw [bl_len]; omega)
      rw [hT] at HR
      clear hT
      go_wp2
      go_end0
      exact ⟨rfl, HR.out, HO.out⟩

/-- The register that a number gives. -/
def r16 (x : Int) : Nat := (x % 65536).toNat
theorem r16_lt (x : Int) : r16 x < 65536 := by unfold r16; omega
theorem r16_cast (x : Int) : ((r16 x : Nat) : Int) = x % 65536 := by unfold r16; omega
set_option maxRecDepth 100000 in
theorem more_any (x : Int) (s : ByteArray) (w : World) (hs : s.size ≤ 2147483648) : Calls Tryz.prog 90 #[.int .i64 x, .string s] w fun e w' => e = .returned (.int .i64 (moreN (r16 x) (bl s) : Nat)) ∧ Below w.heap.size w w' := by
  have hr := r16_lt x
  have hm := moreN_lt (bl s) _ hr
  have hw : IntKind.u16.wrap x = ((r16 x : Nat) : Int) := by rw [IntKind.wrap_u16, r16_cast]
  obtain ⟨m, hM⟩ : ∃ m, m = moreN (r16 x) (bl s) := ⟨_, rfl⟩
  rw [← hM] at hm ⊢
  have HM := Lib.hid hM
  clear hM
  go_enter Tryz.func90, Tryz.ntmps90
  go_wp2_with fail
  first | rw [hw] | skip
  refine (each_any s _ (r16 x) _ hs (IsObj.new w 131 [.int .u16 (r16 x : Nat)]) hr).mono ?_
  rw [← HM.out]
  rintro e w1 ⟨rfl, hR, hO⟩
  have c0 : w1.cell? ⟨w.heap.size, 0, none⟩ = some (.int .u16 (m : Nat)) := IsObj.cell hR 0
  have hB := (((Below.refl w.heap.size w).alloc (Nat.le_refl _) (.cells #[.int .u16 (r16 x : Nat)] 131)).trans (hO.below (Nat.le_refl _) (by simp)))
  have HB := Lib.hid hB
  clear hR hO hB
  go_wp2
  go_ret
  exact ⟨rfl, HB.out⟩
theorem r16_start : r16 65535 = 65535 := rfl
theorem csum_any (s : ByteArray) (w : World) (hs : s.size ≤ 2147483648) : Calls Tryz.prog 75 #[.string s] w fun e w' => e = .returned (.int .i64 (moreN 65535 (bl s) : Nat)) ∧ Below w.heap.size w w' := by
  have K := more_any 65535 s w hs
  rw [r16_start] at K
  have HK := Lib.hid K
  clear K
  go_enter Tryz.func75, Tryz.ntmps75
  go_wp2_with (go_at_call 90; refine HK.out.mono ?_; rintro e w1 ⟨rfl, hb⟩)
  go_ret
  exact ⟨rfl, hb⟩

/-! ### The document's sums -/
theorem i64_and16 (n : Int) : bits .and .i64 n 65535 = n % 65536 := by
  have h127 : (BitVec.ofInt 64 65535).toNat = 2 ^ 16 - 1 := by decide
  have key : (BitVec.ofInt 64 n &&& BitVec.ofInt 64 65535).toNat = (n % ((2 ^ 64 : Nat) : Int)).toNat % 2 ^ 16 := by
    rw [BitVec.toNat_and, BitVec.toNat_ofInt, h127, Nat.and_two_pow_sub_one_eq_mod]
  show IntKind.i64.wrap ((BitVec.ofInt 64 n &&& BitVec.ofInt 64 65535).toNat : Nat) = n % 65536
  rw [key, IntKind.wrap_i64]
  omega
theorem i64_xor_nat (a b : Nat) (ha : a < 65536) (hb : b < 65536) : bits .xor .i64 (a : Int) (b : Int) = ((a ^^^ b : Nat) : Int) := by
  have hx : a ^^^ b < 2 ^ 16 := Nat.xor_lt_two_pow (by omega) (by omega)
  show IntKind.i64.wrap ((BitVec.ofInt 64 (a : Int) ^^^ BitVec.ofInt 64 (b : Int)).toNat : Int) = _
  rw [BitVec.toNat_xor, BitVec.ofInt_natCast, BitVec.ofInt_natCast, BitVec.toNat_ofNat, BitVec.toNat_ofNat, Nat.mod_eq_of_lt (by omega), Nat.mod_eq_of_lt (by omega), IntKind.wrap_i64]
  omega
/-- Bit i of a text. -/
def tbit (s : ByteArray) (i : Nat) : Nat := bitN ((bl s).getD (i / 8) 0).toNat (i % 8)
theorem rbit_any (s : ByteArray) (i : Nat) (w : World) (hs : s.size ≤ 2147483648) (hi : i < 8 * s.size) : Calls Tryz.prog 96 #[.string s, .int .i64 i] w fun e w' => e = .returned (.int .i64 (tbit s i : Nat)) ∧ w = w' := by
  have h8 : i / 8 < s.size := by omega
  have hd : (i : Int) / 8 = ((i / 8 : Nat) : Int) := by omega
  have hb := at_bl s (i / 8) h8
  unfold tbit bitN
  rw [List.getD_eq_getElem?_getD, hb, Option.getD_some]
  have hlt := s[i / 8].toNat_lt
  have hr : i = 8 * (i / 8) + i % 8 := by omega
  have hr8 : i % 8 < 8 := Nat.mod_lt _ (by decide)
  generalize i % 8 = r at *
  generalize hq : i / 8 = q at *
  have hir : (i : Int) - (q : Int) * 8 = (r : Int) := by omega
  obtain ⟨B, hB⟩ : ∃ B, B = s[q].toNat := ⟨_, rfl⟩
  have hlt2 := hlt
  rw [← hB] at hlt ⊢
  have HBq := Lib.hid hB
  have i2 : (q : Int) < (s.size : Int) := by omega
  clear hB hq hr hb
  go_enter Tryz.func96, Tryz.ntmps96
  go_wp2
  rw [← HBq.out]
  go_loop [5, 6] (fun v k => ∃ j : Nat, r + j ≤ 7 ∧ k = .int .i64 ((r + j : Nat) : Int) ∧ v = .int .i64 ((B / 2 ^ j : Nat) : Int)) (fun _ k => 7 - (intOf k).toNat)
  case atStart => exact ⟨0, by omega, by first | rfl | (rw [hir]; rfl) | go_num, by simp⟩
  case round =>
    obtain ⟨j, hj, rfl, rfl⟩ := hrel
    have hle : B / 2 ^ j ≤ B := Nat.div_le_self _ _
    by_cases h7 : r + j < 7
    · have hd2 := Lib.hid (show B / 2 ^ (j + 1) = B / 2 ^ j / 2 by rw [Nat.pow_succ, Nat.div_div_eq_div_mul])
      generalize B / 2 ^ j = m at *
      go_wp2
      exact ⟨⟨j + 1, by omega, by go_num, by rw [hd2.out]; rfl⟩, by simp only [intOf]; omega⟩
    · obtain rfl : j = 7 - r := by omega
      obtain ⟨m, hm⟩ : ∃ m, m = B / 2 ^ (7 - r) := ⟨_, rfl⟩
      rw [← hm] at hle ⊢
      have HM := Lib.hid hm
      clear hm
      have HC2 := Lib.hid (show ((B / 2 ^ (7 - r) : Nat) : Int) = (B : Int) / 2 ^ (7 - r) by simp)
      go_wp2
      go_ret
      exact ⟨ret_int (by rw [← HC2.out, ← HM.out]; omega), rfl⟩

/-- The document's register behind k bits. -/
def bitsN (x : Nat) (s : ByteArray) : Nat → Nat
  | 0 => x
  | k + 1 => bitStep (bitsN x s k) (tbit s k)
theorem bitsN_lt (x : Nat) (s : ByteArray) (h : x < 65536) : ∀ k, bitsN x s k < 65536
  | 0 => h
  | k + 1 => sh_lt _
theorem bitsN_byte (x : Nat) (s : ByteArray) (q : Nat) (hq : q < s.size) : ∀ k, k ≤ 8 → bitsN x s (8 * q + k) = bits8 (bitsN x s (8 * q)) (s[q].toNat) k
  | 0, _ => rfl
  | k + 1, h => by
    have e : 8 * q + (k + 1) = (8 * q + k) + 1 := by omega
    have d1 : (8 * q + k) / 8 = q := by omega
    have d2 : (8 * q + k) % 8 = k := by omega
    rw [e, bitsN, bitsN_byte x s q hq k (by omega), bits8, tbit, d1, d2, List.getD_eq_getElem?_getD, at_bl s q hq]
    rfl
theorem bitsN_all (x : Nat) (s : ByteArray) : ∀ q, q ≤ s.size → bitsN x s (8 * q) = moreN x ((bl s).take q)
  | 0, _ => rfl
  | q + 1, h => by
    have e : 8 * (q + 1) = 8 * q + 8 := by omega
    rw [e, bitsN_byte x s q (by omega) 8 (Nat.le_refl _), bitsN_all x s q (by omega), bits8_fed _ _ s[q].toNat_lt, List.take_add_one, at_bl s q (by omega)]
    simp only [Option.toList]
    rw [moreN_snoc]
theorem bitStep_eq (n d : Nat) (hn : n < 65536) (hd : d < 2) : bitStep n d = if n / 32768 = d then 2 * n % 65536 else (2 * n % 65536) ^^^ 4129 := by
  have ht : n.testBit 15 = decide (n / 32768 = 1) := by
    rw [Nat.testBit_eq_decide_div_mod_eq]
    have : n / 2 ^ 15 % 2 = n / 32768 := by
      show n / 32768 % 2 = n / 32768
      omega
    rw [this]
  unfold bitStep sh
  have h2 : 2 * (n ^^^ d * 32768) % 65536 = 2 * n % 65536 := by
    rw [two_mul_xor]
    have hm : (2 * n ^^^ 2 * (d * 32768)) % 65536 = (2 * n % 65536) ^^^ (2 * (d * 32768) % 65536) := Nat.xor_mod_two_pow (n := 16)
    rw [hm]
    have : 2 * (d * 32768) % 65536 = 0 := by omega
    rw [this, Nat.xor_zero]
  have h3 : (n ^^^ d * 32768).testBit 15 = !decide (n / 32768 = d) := by
    rw [Nat.testBit_xor, ht]
    have hq : n / 32768 < 2 := by omega
    have : d = 0 ∨ d = 1 := by omega
    rcases this with rfl | rfl
    · rcases (show n / 32768 = 0 ∨ n / 32768 = 1 by omega) with h | h <;> simp [h]
    · have h4 : (1 * 32768).testBit 15 = true := by decide
      rw [h4]
      simp
  rw [h2, h3]
  by_cases h : n / 32768 = d
  · simp [h]
  · simp [h]
set_option maxRecDepth 100000 in
theorem rmore_any (x : Int) (s : ByteArray) (w : World) (hs : s.size ≤ 2147483648) : Calls Tryz.prog 91 #[.int .i64 x, .string s] w fun e w' => e = .returned (.int .i64 (moreN (r16 x) (bl s) : Nat)) ∧ w = w' := by
  have h0 : bits .and .i64 x 65535 = ((r16 x : Nat) : Int) := by rw [i64_and16, r16_cast]
  have hr := r16_lt x
  have hE := bitsN_all (r16 x) s s.size (Nat.le_refl _)
  rw [List.take_of_length_le (by rw [bl_len]; exact Nat.le_refl _)] at hE
  generalize r16 x = y at *
  rw [← hE]
  clear hE
  go_enter Tryz.func91, Tryz.ntmps91
  go_wp2
  go_loop [0, 5] (fun v i => ∃ k : Nat, k ≤ 8 * s.size ∧ i = .int .i64 k ∧ v = .int .i64 (bitsN y s k : Nat)) (fun _ i => 8 * s.size - (intOf i).toNat)
  case atStart => exact ⟨0, Nat.zero_le _, rfl, rfl⟩
  case round =>
    obtain ⟨k, hk, rfl, rfl⟩ := hrel
    by_cases hlt : k < 8 * s.size
    · have hn := bitsN_lt y s hr k
      have hd : tbit s k < 2 := Nat.mod_lt _ (by decide)
      have hS := bitStep_eq (bitsN y s k) (tbit s k) hn hd
      have HS := Lib.hid (show bitsN y s (k + 1) = _ from hS)
      clear hS
      have HBit := Lib.hid (fun w => rbit_any s k w hs hlt)
      generalize bitsN y s k = n at *
      generalize tbit s k = d at *
      have i1 : (0 : Int) ≤ (k : Int) := by omega
      by_cases h15 : n < 32768
      · have e1 : n / 32768 = 0 := by omega
        have e2 : 2 * n % 65536 = 2 * n := by omega
        rw [e1, e2] at HS
        have e3 : (n : Int) / 32768 = 0 := by omega
        by_cases h : 0 = d
        · rw [if_pos h] at HS
          subst h
          clear hd e1 e2
          go_wp2_with (go_at_call 96; (with_reducible refine (HBit.out _).mono ?_); rintro e w' ⟨rfl, rfl⟩)
          exact ⟨⟨k + 1, by omega, by go_num, by rw [HS.out]; first | rfl | (simp; omega)⟩, by simp only [intOf]; omega⟩
        · rw [if_neg h] at HS
          obtain rfl : d = 1 := by omega
          have hx := i64_xor_nat (2 * n) 4129 (by omega) (by decide)
          have hc : ((2 * n : Nat) : Int) = (n : Int) * 2 := by omega
          rw [hc] at hx
          generalize 2 * n ^^^ 4129 = p at *
          clear hd e1 e2 h hc
          go_wp2_with (go_at_call 96; (with_reducible refine (HBit.out _).mono ?_); rintro e w' ⟨rfl, rfl⟩)
          exact ⟨⟨k + 1, by omega, by go_num, by rw [HS.out]; exact congrArg (Value.int .i64) hx⟩, by simp only [intOf]; omega⟩
      · have e1 : n / 32768 = 1 := by omega
        have e2 : 2 * n % 65536 = 2 * n - 65536 := by omega
        rw [e1, e2] at HS
        have e3 : (n : Int) / 32768 = 1 := by omega
        have hc : ((2 * n - 65536 : Nat) : Int) = (n : Int) * 2 - 65536 := by omega
        by_cases h : 1 = d
        · rw [if_pos h] at HS
          subst h
          have HC := Lib.hid hc
          clear hd e1 e2 hc
          go_wp2_with (go_at_call 96; (with_reducible refine (HBit.out _).mono ?_); rintro e w' ⟨rfl, rfl⟩)
          exact ⟨⟨k + 1, by omega, by go_num, by rw [HS.out, HC.out]⟩, by simp only [intOf]; omega⟩
        · rw [if_neg h] at HS
          obtain rfl : d = 0 := by omega
          have hx := i64_xor_nat (2 * n - 65536) 4129 (by omega) (by decide)
          rw [hc] at hx
          generalize (2 * n - 65536) ^^^ 4129 = p at *
          clear hd e1 e2 h hc
          go_wp2_with (go_at_call 96; (with_reducible refine (HBit.out _).mono ?_); rintro e w' ⟨rfl, rfl⟩)
          exact ⟨⟨k + 1, by omega, by go_num, by rw [HS.out]; exact congrArg (Value.int .i64) hx⟩, by simp only [intOf]; omega⟩
    · obtain rfl : k = 8 * s.size := by omega
      go_wp2
      go_ret
      exact ⟨rfl, rfl⟩
theorem rsum_any (s : ByteArray) (w : World) (hs : s.size ≤ 2147483648) : Calls Tryz.prog 78 #[.string s] w fun e w' => e = .returned (.int .i64 (moreN 65535 (bl s) : Nat)) ∧ w = w' := by
  have K := rmore_any 65535 s w hs
  rw [r16_start] at K
  have HK := Lib.hid K
  clear K
  go_enter Tryz.func78, Tryz.ntmps78
  go_wp2_with (go_at_call 91; refine HK.out.mono ?_; rintro e w1 ⟨rfl, rfl⟩)
  go_ret
  exact ⟨rfl, rfl⟩
end Go.Proofs.YtobcjbpgeohbgaaGreatDoor
