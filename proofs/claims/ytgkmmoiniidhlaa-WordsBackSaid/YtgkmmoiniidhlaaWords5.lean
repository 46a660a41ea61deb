/-
  words.Cut, Plain, Find, Join; and the document's.
-/
import Derived.Test.YtgkmmoiniidhlaaWords4
import Derived.Test.YtgkmmoiniidhlaaLaid
namespace Go.Proofs.Ytgkmmoiniidhlaa
open Go.RowKit
set_option linter.unusedVariables false
set_option linter.unusedSimpArgs false

/-! ### Cut -/
theorem at_list (s : ByteArray) (j : Nat) (h : j < s.size) : s.data.toList[j]? = some (s[j]'h) := by
  rw [Array.getElem?_toList]
  exact Array.getElem?_eq_getElem h
theorem at_byte (s : ByteArray) (j : Nat) (c : UInt8) (h : j < s.size) : s.data.toList[j]? = some c ↔ sbyte s j = c.toNat := by
  rw [at_list s j h, ← sbyte_at s j h]
  constructor
  · intro e; rw [Option.some.inj e]
  · intro e; rw [UInt8.toNat_inj.1 e]
theorem index_first (s : ByteArray) (c : UInt8) (n : Int) (hn : (c.toNat : Int) = n) : (Lib.indexByte s.data.toList c = -1 ∧ firstAt (eqB n) s = s.size) ∨ (∃ k : Nat, k < s.size ∧ Lib.indexByte s.data.toList c = (k : Int) ∧ firstAt (eqB n) s = k) := by
  subst hn
  have hge := Lib.indexByte_ge s.data.toList c
  by_cases h : Lib.indexByte s.data.toList c = -1
  · refine .inl ⟨h, first_none _ s fun j hj => ?_⟩
    have := Lib.indexByte_none h j
    rw [ne_eq, at_byte s j c hj] at this
    simp [eqB]; omega
  · obtain ⟨k, hk⟩ : ∃ k : Nat, Lib.indexByte s.data.toList c = k := ⟨(Lib.indexByte s.data.toList c).toNat, by omega⟩
    obtain ⟨h1, h2⟩ := Lib.indexByte_some hk
    have hks : k < s.size := by
      have := (List.getElem?_eq_some_iff.1 h1).1
      rwa [size_list] at this
    refine .inr ⟨k, hks, hk, first_eq _ s k hks (fun j hj => ?_) ?_⟩
    · have := h2 j hj
      rw [ne_eq, at_byte s j c (by omega)] at this
      simp [eqB]; omega
    · have := (at_byte s k c hks).1 h1
      simp [eqB, this]
/-- What a text is cut into. -/
def cutA (s : ByteArray) : ByteArray := if firstAt (eqB 61) s < s.size then s.extract 0 (firstAt (eqB 61) s) else ⟨#[]⟩
def cutB (s : ByteArray) : ByteArray := if firstAt (eqB 61) s < s.size then s.extract (firstAt (eqB 61) s + 1) s.size else ⟨#[]⟩
def cutOk (s : ByteArray) : Bool := decide (firstAt (eqB 61) s < s.size)
theorem slcut_no (s : ByteArray) (w : World) (hk : Lib.indexByte s.data.toList 61 = -1) :
    Calls Try.prog 127 #[.string s, .string ⟨#[61]⟩] w fun e w' => e = .returned (.tuple #[.string s, .string ⟨#[]⟩, .bool false]) ∧ Below w.heap.size w w' := by
  have K := Lib.hid (stringslite_Index_one s 61 w)
  go_enter Try.func127, Try.ntmps127
  go_wp2_with fail
  refine K.out.mono ?_
  rw [hk]
  rintro e w' ⟨rfl, rfl⟩
  go_wp2
  go_returns
  exact ⟨rfl, Below.refl _ _⟩
theorem slcut_yes (s : ByteArray) (k : Nat) (w : World) (hs : s.size ≤ 10000) (hk : Lib.indexByte s.data.toList 61 = (k : Int)) (hlt : k < s.size) :
    Calls Try.prog 127 #[.string s, .string ⟨#[61]⟩] w fun e w' => e = .returned (.tuple #[.string (s.extract 0 k), .string (s.extract (k + 1) s.size), .bool true]) ∧ Below w.heap.size w w' := by
  have K := Lib.hid (stringslite_Index_one s 61 w)
  have i1 : (0 : Int) ≤ (k : Int) := by omega
  have i2 : (k : Int) ≤ (s.size : Int) := by omega
  have i3 : (0 : Int) ≤ (k : Int) + 1 := by omega
  have i4 : (k : Int) + 1 ≤ (s.size : Int) := by omega
  go_enter Try.func127, Try.ntmps127
  go_wp2_with fail
  refine K.out.mono ?_
  rw [hk]
  rintro e w' ⟨rfl, rfl⟩
  go_wp2_with fail
  go_quiet (fail)
  go_wp2
  go_returns
  exact ⟨rfl, below_drewN (Below.refl _ _) _⟩
theorem wcut_any (s : ByteArray) (w : World) (hs : s.size ≤ 10000) : Calls Try.prog 44 #[.string s] w fun e w' => e = .returned (.tuple #[.string (cutA s), .string (cutB s), .bool (cutOk s)]) ∧ Below w.heap.size w w' := by
  rcases index_first s 61 61 rfl with ⟨h1, h2⟩ | ⟨k, hk, h1, h2⟩
  · have e1 : cutA s = ⟨#[]⟩ := by unfold cutA; rw [h2, if_neg (by omega)]
    have e2 : cutB s = ⟨#[]⟩ := by unfold cutB; rw [h2, if_neg (by omega)]
    have e3 : cutOk s = false := by unfold cutOk; rw [h2]; simp
    rw [e1, e2, e3]
    have K := Lib.hid (slcut_no s w h1)
    clear e1 e2 e3 h1 h2
    go_enter Try.func44, Try.ntmps44
    go_wp2_with (first | (go_at_call 92; go_in) | (go_at_call 127; refine K.out.mono ?_; rintro e w1 ⟨rfl, hb⟩))
    go_returns
    exact ⟨rfl, hb⟩
  · have e1 : cutA s = s.extract 0 k := by unfold cutA; rw [h2, if_pos hk]
    have e2 : cutB s = s.extract (k + 1) s.size := by unfold cutB; rw [h2, if_pos hk]
    have e3 : cutOk s = true := by unfold cutOk; rw [h2]; simpa using hk
    rw [e1, e2, e3]
    have K := Lib.hid (slcut_yes s k w hs h1 hk)
    clear e1 e2 e3 h1 h2
    go_enter Try.func44, Try.ntmps44
    go_wp2_with (first | (go_at_call 92; go_in) | (go_at_call 127; refine K.out.mono ?_; rintro e w1 ⟨rfl, hb⟩))
    go_returns
    exact ⟨rfl, hb⟩
set_option maxHeartbeats 1000000 in
theorem rcut_any (s : ByteArray) (w : World) (hs : s.size ≤ 10000) : Calls Try.prog 45 #[.string s] w fun e w' => e = .returned (.tuple #[.string (cutA s), .string (cutB s), .bool (cutOk s)]) ∧ Below w.heap.size w w' := by
  go_enter Try.func45, Try.ntmps45
  go_wp2
  go_loop [5] (fun i => ∃ k : Nat, k ≤ s.size ∧ i = .int .i64 k ∧ ∀ j, j < k → eqB 61 (sbyte s j) = false) (fun i => s.size - (intOf i).toNat)
  case atStart => exact ⟨0, Nat.zero_le _, rfl, fun j hj => by omega⟩
  case round =>
    obtain ⟨k, hk, rfl, hno⟩ := hrel
    have HN := Lib.hid hno
    clear hno
    by_cases hlt : k < s.size
    · have hbyte := sbyte_at s k hlt
      have hb256 := sbyte_lt s k
      have HF := Lib.hid (show (eqB 61 (sbyte s k) = true → firstAt (eqB 61) s = k) from first_eq _ s k hlt HN.out)
      have HM := Lib.hid (show (eqB 61 (sbyte s k) = false → ∀ j, j < k + 1 → eqB 61 (sbyte s j) = false) from fun h j hj => by
        by_cases hjk : j = k
        · rw [hjk]; exact h
        · exact HN.out j (by omega))
      generalize sbyte s k = y at hbyte hb256 HF HM
      by_cases hy : y = 61
      · subst hy
        have hf := HF.out rfl
        have e1 : cutA s = s.extract 0 k := by unfold cutA; rw [hf, if_pos hlt]
        have e2 : cutB s = s.extract (k + 1) s.size := by unfold cutB; rw [hf, if_pos hlt]
        have e3 : cutOk s = true := by unfold cutOk; rw [hf]; simpa using hlt
        have E1 := Lib.hid e1
        have E2 := Lib.hid e2
        have E3 := Lib.hid e3
        clear e1 e2 e3 hf
        have i1 : (0 : Int) ≤ (k : Int) := by omega
        have i2 : (k : Int) ≤ (s.size : Int) := by omega
        have i3 : (0 : Int) ≤ (k : Int) + 1 := by omega
        have i4 : (k : Int) + 1 ≤ (s.size : Int) := by omega
        go_wp2_with fail
        go_quiet (fail)
        go_wp2
        go_returns
        exact ⟨by rw [E1.out, E2.out, E3.out]; rfl, below_drewN (Below.refl _ _) _⟩
      · have hy1 : ((y : Int) == 61) = false := by simp; omega
        have HM2 := Lib.hid (HM.out (by simp [eqB]; omega))
        go_wp2
        go_round
        case rel => exact ⟨k + 1, by omega, by go_num, HM2.out⟩
        case measure => simp [intOf]; omega
    · obtain rfl : k = s.size := by omega
      have hf := first_none (eqB 61) s HN.out
      have e1 : cutA s = ⟨#[]⟩ := by unfold cutA; rw [hf, if_neg (by omega)]
      have e2 : cutB s = ⟨#[]⟩ := by unfold cutB; rw [hf, if_neg (by omega)]
      have e3 : cutOk s = false := by unfold cutOk; rw [hf]; simp
      have E1 := Lib.hid e1
      have E2 := Lib.hid e2
      have E3 := Lib.hid e3
      clear e1 e2 e3 hf
      go_wp2
      go_returns
      exact ⟨by rw [E1.out, E2.out, E3.out]; rfl, Below.refl _ _⟩

/-! ### Plain -/
theorem letter2 {s : ByteArray} {pos c wd : Nat} (h : pos < s.size) (hcw : Utf8.decode s pos = (c, wd)) : (c = sbyte s pos ∧ c < 128 ∧ wd = 1) ∨ (128 ≤ c ∧ 128 ≤ sbyte s pos) := by
  by_cases ha : sbyte s pos < 128
  · rw [decode_low s pos h ha] at hcw
    injection hcw with e1 e2
    exact .inl ⟨e1.symm, by omega, e2.symm⟩
  · have := decode_up s pos h (by omega)
    rw [hcw] at this
    exact .inr ⟨this, by omega⟩
def bad (b : Nat) : Bool := decide (b < 32) || decide (126 < b)
def plainOf (s : ByteArray) : Bool := decide (firstAt bad s = s.size)
theorem plain_no {s : ByteArray} {k : Nat} (hk : k < s.size) (hn : ∀ j, j < k → bad (sbyte s j) = false) (hb : bad (sbyte s k) = true) : plainOf s = false := by
  unfold plainOf
  rw [first_eq bad s k hk hn hb]
  simp; omega
theorem plain_yes {s : ByteArray} (hn : ∀ j, j < s.size → bad (sbyte s j) = false) : plainOf s = true := by
  unfold plainOf
  rw [first_none bad s hn]
  simp
set_option maxHeartbeats 1000000 in
theorem plain_any (s : ByteArray) (w : World) (hs : s.size ≤ 10000) : Calls Try.prog 51 #[.string s] w fun e w' => e = .returned (.bool (plainOf s)) ∧ Below w.heap.size w w' := by
  go_enter Try.func51, Try.ntmps51
  go_wp2
  go_loopw [4] (fun c wr => ∃ (pos : Nat), pos ≤ s.size ∧ (∀ j, j < pos → bad (sbyte s j) = false) ∧ wr.heap[w.heap.size]? = some (.stringIter s pos) ∧ Below w.heap.size w wr) (fun _ wr => s.size - wr.iterPos w.heap.size)
  case atStart =>
    refine ⟨0, Nat.zero_le _, fun j h => by omega, ?_, (Below.refl _ w).alloc (Nat.le_refl _) _⟩
    simpa using World.iter_heap w s 0
  case round =>
    obtain ⟨pos, hpos, hno, hit, hb⟩ := hrel
    have hsz : w.heap.size + 1 ≤ wr.heap.size := (Array.getElem?_eq_some_iff.1 hit).1
    have HI := Lib.hid hit
    have HB := Lib.hid hb
    have HN := Lib.hid hno
    clear hb hno
    by_cases hp' : pos < s.size
    · obtain ⟨c, wd, hcw⟩ : ∃ c wd, Utf8.decode s pos = (c, wd) := ⟨_, _, rfl⟩
      have hwd := decode_width s pos hp'
      have hnx : ∀ ty, (Instr.next (.pointer (some ⟨w.heap.size, 0, none⟩)) true ty).run Try.prog wr = _ := fun ty => Lib.run_next_any_at wr w.heap.size s pos ty hit hp'
      have HL := Lib.hid (letter2 hp' hcw)
      rw [hcw] at hnx hwd
      dsimp only at hnx hwd
      have hI2 := Lib.hid (Lib.iterAt_heap wr w.heap.size s pos (pos + wd) hit)
      have hB2 := Lib.hid (Lib.below_iterAt HB.out (k := w.heap.size) (Nat.le_refl _) s (pos + wd))
      have HP := Lib.hid (show (bad (sbyte s pos) = true → plainOf s = false) from plain_no hp' HN.out)
      have HM := Lib.hid (show (bad (sbyte s pos) = false → ∀ j, j < pos + 1 → bad (sbyte s j) = false) from fun h j hj => by
        by_cases hjk : j = pos
        · rw [hjk]; exact h
        · exact HN.out j (by omega))
      clear hit
      generalize sbyte s pos = y at HL HP HM
      by_cases h1 : c < 32
      · have hf := Lib.hid (HP.out (by rcases HL.out with ⟨e, _⟩ | ⟨e, _⟩ <;> simp [bad] <;> omega))
        have i1 : (c : Int) < 32 := by omega
        go_wp2
        go_ret
        exact ⟨by rw [hf.out]; rfl, hB2.out⟩
      · by_cases h2 : 126 < c
        · have hf := Lib.hid (HP.out (by rcases HL.out with ⟨e, _⟩ | ⟨_, e⟩ <;> simp [bad] <;> omega))
          have i1 : (32 : Int) ≤ (c : Int) := by omega
          have i2 : (126 : Int) < (c : Int) := by omega
          go_wp2
          go_ret
          exact ⟨by rw [hf.out]; rfl, hB2.out⟩
        · rcases HL.out with ⟨rfl, h3, rfl⟩ | ⟨h3, _⟩
          · have HM2 := Lib.hid (HM.out (by simp [bad]; omega))
            have i1 : (32 : Int) ≤ (c : Int) := by omega
            have i2 : (c : Int) ≤ 126 := by omega
            go_wp2
            go_roundw
            case rel => exact ⟨pos + 1, by omega, HM2.out, hI2.out, hB2.out⟩
            case measure =>
              simp only [World.iterPos, hI2.out, HI.out]
              omega
          · omega
    · obtain rfl : pos = s.size := by omega
      have hnx : ∀ ty, (Instr.next (.pointer (some ⟨w.heap.size, 0, none⟩)) true ty).run Try.prog wr = _ := fun ty => Lib.run_next_end_at wr w.heap.size s s.size ty HI.out hp'
      have hf := Lib.hid (plain_yes HN.out)
      clear hit
      go_wp2
      go_ret
      exact ⟨by rw [hf.out]; rfl, HB.out⟩
set_option maxHeartbeats 1000000 in
theorem rplain_any (s : ByteArray) (w : World) (hs : s.size ≤ 10000) : Calls Try.prog 52 #[.string s] w fun e w' => e = .returned (.bool (plainOf s)) ∧ w = w' := by
  go_enter Try.func52, Try.ntmps52
  go_wp2
  go_loop [3] (fun i => ∃ k : Nat, k ≤ s.size ∧ i = .int .i64 k ∧ ∀ j, j < k → bad (sbyte s j) = false) (fun i => s.size - (intOf i).toNat)
  case atStart => exact ⟨0, Nat.zero_le _, rfl, fun j hj => by omega⟩
  case round =>
    obtain ⟨k, hk, rfl, hno⟩ := hrel
    have HN := Lib.hid hno
    clear hno
    by_cases hlt : k < s.size
    · have hbyte := sbyte_at s k hlt
      have hb256 := sbyte_lt s k
      have HP := Lib.hid (show (bad (sbyte s k) = true → plainOf s = false) from plain_no hlt HN.out)
      have HM := Lib.hid (show (bad (sbyte s k) = false → ∀ j, j < k + 1 → bad (sbyte s j) = false) from fun h j hj => by
        by_cases hjk : j = k
        · rw [hjk]; exact h
        · exact HN.out j (by omega))
      generalize sbyte s k = y at hbyte hb256 HP HM
      by_cases h1 : y < 32
      · have hf := Lib.hid (HP.out (by simp [bad]; omega))
        have i1 : (y : Int) < 32 := by omega
        go_wp2
        go_ret
        exact ⟨by rw [hf.out]; rfl, rfl⟩
      · by_cases h2 : 126 < y
        · have hf := Lib.hid (HP.out (by simp [bad]; omega))
          have i1 : (32 : Int) ≤ (y : Int) := by omega
          have i2 : (126 : Int) < (y : Int) := by omega
          go_wp2
          go_ret
          exact ⟨by rw [hf.out]; rfl, rfl⟩
        · have HM2 := Lib.hid (HM.out (by simp [bad]; omega))
          have i1 : (32 : Int) ≤ (y : Int) := by omega
          have i2 : (y : Int) ≤ 126 := by omega
          go_wp2
          go_round
          case rel => exact ⟨k + 1, by omega, by go_num, HM2.out⟩
          case measure => simp [intOf]; omega
    · obtain rfl : k = s.size := by omega
      have hf := Lib.hid (plain_yes HN.out)
      go_wp2
      go_ret
      exact ⟨by rw [hf.out]; rfl, rfl⟩
end Go.Proofs.Ytgkmmoiniidhlaa
