/-
  Layer 2 (octet): numbers as bytes, and bytes read one behind the other. Put, Read, Take, Bytes, Left, Rest; and the document's.
-/
import Derived.Test.YtobcjbpgeohbgaaGreatDoorBytes
import Derived.Laws.BitsLemmas
import Derived.Handy
import Derived.Lib.Hide
namespace Go.Proofs.YtobcjbpgeohbgaaGreatDoor
open Go.RowKit
set_option linter.unusedVariables false

theorem ret_bool {a b : Bool} (h : a = b) : Ending.returned (Value.bool a) = Ending.returned (Value.bool b) := by rw [h]
theorem ret_int {k : IntKind} {a b : Int} (h : a = b) : Ending.returned (Value.int k a) = Ending.returned (Value.int k b) := by rw [h]
/-! ### The number of bytes -/
def numOf (l : List UInt8) : Int := l.foldl (fun n b => n * 256 + (b.toNat : Int)) 0
theorem numOf_snoc (l : List UInt8) (b : UInt8) : numOf (l ++ [b]) = numOf l * 256 + (b.toNat : Int) := by
  unfold numOf
  rw [List.foldl_append]
  rfl
theorem byte_rng (b : UInt8) : 0 ≤ (b.toNat : Int) ∧ (b.toNat : Int) < 256 := by
  have := b.toNat_lt
  omega
theorem snoc_ind {P : List UInt8 → Prop} (h0 : P []) (h1 : ∀ l b, P l → P (l ++ [b])) : ∀ l, P l := by
  intro l
  have : ∀ n (l : List UInt8), l.length = n → P l := by
    intro n
    induction n with
    | zero =>
      intro l hl
      rw [List.eq_nil_of_length_eq_zero hl]
      exact h0
    | succ n ih =>
      intro l hl
      have hne : l ≠ [] := by intro h; rw [h] at hl; cases hl
      rw [← List.dropLast_concat_getLast hne]
      exact h1 _ _ (ih _ (by simp [hl]))
  exact this l.length l rfl
theorem numOf_nn (l : List UInt8) : 0 ≤ numOf l := by
  refine snoc_ind (P := fun l => 0 ≤ numOf l) (Int.le_refl _) (fun l b h => ?_) l
  show 0 ≤ numOf (l ++ [b])
  rw [numOf_snoc]
  have := byte_rng b
  omega
theorem numOf_lt (l : List UInt8) : numOf l < 256 ^ l.length := by
  refine snoc_ind (P := fun l => numOf l < 256 ^ l.length) (by decide) (fun l b h => ?_) l
  show numOf (l ++ [b]) < 256 ^ (l ++ [b]).length
  rw [numOf_snoc]
  have := byte_rng b
  simp only [List.length_append, List.length_cons, List.length_nil, Nat.zero_add]
  rw [pow_succ256]
  have h2 : numOf l < 256 ^ l.length := h
  omega
theorem beB_numOf (l : List UInt8) : beB (numOf l) l.length = l := by
  refine snoc_ind (P := fun l => beB (numOf l) l.length = l) rfl (fun l b h => ?_) l
  show beB (numOf (l ++ [b])) (l ++ [b]).length = l ++ [b]
  have hb := byte_rng b
  have e1 : (numOf l * 256 + (b.toNat : Int)) / 256 = numOf l := by omega
  have e2 : byteOf (numOf l * 256 + (b.toNat : Int)) = b := by
    unfold byteOf
    have : (numOf l * 256 + (b.toNat : Int)) % 256 = (b.toNat : Int) := by omega
    rw [this]
    simp
  simp only [List.length_append, List.length_cons, List.length_nil, Nat.zero_add]
  rw [numOf_snoc, beB, e1, e2]
  have h2 : beB (numOf l) l.length = l := h
  rw [h2]
theorem numOf_beB (w : Nat) : ∀ n : Int, 0 ≤ n → n < 256 ^ w → numOf (beB n w) = n := by
  induction w with
  | zero => intro n h0 h1; simp at h1; have : n = 0 := by omega
            subst this; rfl
  | succ k ih =>
    intro n h0 h1
    rw [pow_succ256] at h1
    rw [beB, numOf_snoc, ih (n / 256) (by omega) (by omega), byteOf_toNat]
    omega

/-! ### Strings as lists of bytes -/
abbrev bl (s : ByteArray) : List UInt8 := s.data.toList
abbrev ofL (l : List UInt8) : ByteArray := ⟨l.toArray⟩
theorem bl_ofL (l : List UInt8) : bl (ofL l) = l := by simp
theorem ofL_bl (s : ByteArray) : ofL (bl s) = s := by
  apply ByteArray.ext
  simp
theorem bl_len (s : ByteArray) : (bl s).length = s.size := by simp
theorem bl_extract (s : ByteArray) (a b : Nat) : bl (s.extract a b) = ((bl s).drop a).take (b - a) := by
  conv => lhs; rw [← ofL_bl s]
  rw [ByteArray.extract_mk]
theorem append_ofL (s : ByteArray) (l : List UInt8) : s ++ ofL l = ofL (bl s ++ l) := by
  conv => lhs; rw [← ofL_bl s]
  rw [ByteArray.mk_append_mk]

/-! ### Which numbers may be put -/
def numOk (n width : Int) : Bool := decide ((1 ≤ width ∧ width ≤ 6) ∧ 0 ≤ n ∧ n < 256 ^ width.toNat)
theorem wide_cases {width : Int} (h : 1 ≤ width ∧ width ≤ 6) : width = 1 ∨ width = 2 ∨ width = 3 ∨ width = 4 ∨ width = 5 ∨ width = 6 := by omega

theorem wide_any (n : Int) (w : World) : Calls Tryz.prog 84 #[.int .i64 n] w fun e w' => e = .returned (.bool (decide (1 ≤ n ∧ n ≤ 6))) ∧ w = w' := by
  go_enter Tryz.func84, Tryz.ntmps84
  go_wp2
  all_goals
    go_ret
    exact ⟨ret_bool (by simp; omega), rfl⟩

theorem info_byte : (Tryz.prog.info? 5).map (fun i => (i.zero, i.size, i.bytes)) = some (some (.int .u8 0), 1, 1) := by kernel_rfl

/-- Put refuses. -/
theorem put_bad (s : ByteArray) (n width : Int) (w : World) (h : numOk n width = false) : Calls Tryz.prog 74 #[.string s, .int .i64 n, .int .i64 width] w fun e w' => e = .returned (.tuple #[.string ⟨#[]⟩, .int .i64 1]) ∧ w = w' := by
  by_cases hw : 1 ≤ width ∧ width ≤ 6
  · have hd : decide (1 ≤ width ∧ width ≤ 6) = true := by simpa using hw
    by_cases h0 : n < 0
    · go_enter Tryz.func74, Tryz.ntmps74
      go_wp2_with (go_at_call 84; (with_reducible refine (wide_any _ _).mono ?_); rintro e w' ⟨rfl, rfl⟩)
      go_returns
      exact ⟨rfl, rfl⟩
    · have hn : 256 ^ width.toNat ≤ n := by
        have h2 : ¬ ((1 ≤ width ∧ width ≤ 6) ∧ 0 ≤ n ∧ n < 256 ^ width.toNat) := by simpa [numOk] using h
        omega
      clear h hw
      rcases wide_cases (by simpa using hd) with rfl | rfl | rfl | rfl | rfl | rfl
      all_goals
        simp at hn
        go_enter Tryz.func74, Tryz.ntmps74
        go_wp2_with (go_at_call 84; (with_reducible refine (wide_any _ _).mono ?_); rintro e w' ⟨rfl, rfl⟩)
        go_returns
        exact ⟨rfl, rfl⟩
  · have hd : decide (1 ≤ width ∧ width ≤ 6) = false := by simpa using hw
    go_enter Tryz.func74, Tryz.ntmps74
    go_wp2_with (go_at_call 84; (with_reducible refine (wide_any _ _).mono ?_); rintro e w' ⟨rfl, rfl⟩)
    go_returns
    exact ⟨rfl, rfl⟩

theorem pow8 (k : Nat) : (2 : Int) ^ (8 * k) = 256 ^ k := by
  rw [Int.pow_mul]
  rfl
set_option maxRecDepth 100000 in
/-- Put puts. -/
theorem put_ok (s : ByteArray) (n : Int) (W : Nat) (w : World) (hs : s.size ≤ 2147483648) (h1 : 1 ≤ W) (h6 : W ≤ 6) (h0 : 0 ≤ n) (hn : n < 256 ^ W) :
    Calls Tryz.prog 74 #[.string s, .int .i64 n, .int .i64 W] w fun e w' => e = .returned (.tuple #[.string (ofL (bl s ++ beB n W)), .int .i64 0]) ∧ Below w.heap.size w w' := by
  obtain ⟨i0, hi, hz0, hz1, hz2⟩ := info_parts info_byte
  have hd : decide (1 ≤ (W : Int) ∧ (W : Int) ≤ 6) = true := by simp; omega
  have hg : n / 2 ^ (8 * W) = 0 := by
    rw [pow8]
    exact Int.ediv_eq_zero_of_lt h0 hn
  have hconv := run_bytes_of_string (P := Tryz.prog) w 9 93 5 s Tryz.underlying9 Tryz.underlying93 Tryz.underlying5
  go_enter Tryz.func74, Tryz.ntmps74
  go_wp2_with (go_at_call 84; (with_reducible refine (wide_any _ _).mono ?_); rintro e w' ⟨rfl, rfl⟩)
  go_loopw [8, 9, 27] (fun v q i wr => ∃ k : Nat, k ≤ W ∧ i = .int .i64 k ∧ BRow wr w.heap.size 5 v (bl s ++ (beB n W).take k) ∧ Below w.heap.size w wr) (fun _ _ i _ => W - (intOf i).toNat)
  case atStart => exact ⟨0, Nat.zero_le _, rfl, by rw [List.take_zero, List.append_nil]; exact brow_of_string (w := w) 5 s (by unfold maxLen; omega) (Nat.le_refl _), ((Below.refl _ _).alloc (Nat.le_refl _) _).drew⟩
  case round =>
    obtain ⟨k, hk, rfl, hB, hb⟩ := hrel
    have HO := Lib.hid hB
    have HB := Lib.hid hb
    have hsz := hb.size
    have hlen : (bl s ++ (beB n W).take k).length < 4294967296 := by
      simp [beB_len]
      omega
    have HLen := Lib.hid hlen
    clear hB hb hlen hconv
    by_cases hlt : k < W
    · have HT := Lib.hid (beB_take W n k hlt)
      go_wp2_with (at_builtin; refine wpList_append_byte (by rfl) _ _ 93 (by rfl) w.heap.size 5 i0 Tryz.underlying93 hi hz0 hz1 hz2 _ _ (byteOf (n / 256 ^ (W - 1 - k))) _ (by rfl) (by rfl) (by rw [pow8, byteOf_toNat]) HO.out HLen.out hsz ?_; intro v' w1 hown1 hb1)
      go_roundw
      case rel => exact ⟨k + 1, by omega, by go_num, by rw [HT.out, ← List.append_assoc]; exact hown1, HB.out.trans hb1⟩
      case measure => simp [intOf]; omega
    · obtain rfl : k = W := by omega
      have hstr := brow_string (P := Tryz.prog) (src := 93) (dst := 9) HO.out Tryz.underlying93 Tryz.underlying5 Tryz.underlying9
      rw [List.take_of_length_le (by simp [beB_len])] at hstr
      go_wp2
      go_returns
      exact ⟨rfl, HB.out⟩

/-! ### The document's Number and Of -/
theorem rnum_bad (n width : Int) (w : World) (h : ¬ (1 ≤ width ∧ width ≤ 6) ∨ n < 0) : Calls Tryz.prog 77 #[.int .i64 n, .int .i64 width] w fun e w' => e = .returned (.tuple #[.string ⟨#[]⟩, .bool false]) ∧ w = w' := by
  go_enter Tryz.func77, Tryz.ntmps77
  go_wp2
  all_goals first
    | (go_returns
       exact ⟨rfl, rfl⟩)
    | (exfalso; simp at *; omega)
def byV (b : UInt8) : Value := .int .u8 (b.toNat : Int)
theorem make_bytes (W : Nat) (w : World) (h6 : W ≤ 4096) : ∃ w1, (Instr.makeSlice 93 (.int .i64 (W : Int)) (.int .i64 (W : Int))).run Tryz.prog w = .ok (.slice (some ⟨w.heap.size, 0, none⟩) W W) w1 ∧ IsObj w1 w.heap.size 5 (List.replicate W (.int .u8 0)) ∧ Below w.heap.size w w1 ∧ w.heap.size < w1.heap.size := by
  obtain ⟨i0, hi, hz0, hz1, hz2⟩ := info_parts info_byte
  have hr := run_make (P := Tryz.prog) w 93 5 i0 (.int .u8 0) Tryz.underlying93 hi hz0 .i64 .i64 W W (by omega) (Int.le_refl _) (by rw [hz2]; omega) (by omega)
  simp only [Int.toNat_natCast, hz1, Nat.mul_one] at hr
  refine ⟨_, hr, ?_, (Below.refl _ _).alloc (Nat.le_refl _) _, by simp⟩
  have h1 := IsObj.new w 5 (madeCells #[.int .u8 0] W).toList
  rw [toList_madeCells_one, ← toList_madeCells_one] at h1
  rw [← toList_madeCells_one]
  simpa [Value.cells] using h1
theorem set_back (j : Nat) (v z : Value) (L : List Value) : (List.replicate (j + 1) z ++ L).set j v = List.replicate j z ++ v :: L := by
  rw [List.replicate_succ', List.append_assoc, List.set_append_right _ _ (by simp)]
  simp
theorem isobj_string {w : World} {g n : Nat} {e src dst : TypeId} (l : List UInt8) (h : IsObj w g e (l.map byV)) (hn : n = l.length) (hs : (Tryz.prog).underlying src = some (.slice e)) (he : (Tryz.prog).underlying e = some (.int .u8)) (hd : (Tryz.prog).underlying dst = some .string) :
    (convert src dst (.slice (some ⟨g, 0, none⟩) n n)).run Tryz.prog w = .ok (.string (ofL l)) w := by
  subst hn
  refine run_convert_bytes_back (P := Tryz.prog) w src dst e ⟨g, 0, none⟩ l.length l hs he hd ?_
  intro j hj
  rw [addr_add, Nat.zero_add, IsObj.cell h]
  simp [byV, hj]
set_option maxRecDepth 100000 in
theorem rnum_any (n : Int) (W : Nat) (w : World) (h1 : 1 ≤ W) (h6 : W ≤ 6) (h0 : 0 ≤ n) (hn63 : n ≤ 9223372036854775807) :
    Calls Tryz.prog 77 #[.int .i64 n, .int .i64 W] w fun e w' => e = .returned (.tuple #[.string (ofL (beB n W)), .bool (decide (n < 256 ^ W))]) ∧ Below w.heap.size w w' := by
  obtain ⟨w1, hmk, hO, hB, hs⟩ := make_bytes W w (by omega)
  have HO0 := Lib.hid hO
  have HB0 := Lib.hid hB
  clear hO hB
  go_enter Tryz.func77, Tryz.ntmps77
  go_wp2
  clear hmk
  go_loopw [0, 7] (fun a i wr => ∃ j k : Nat, j + k = W ∧ a = .int .i64 (n / 256 ^ k) ∧ i = .int .i64 ((j : Int) - 1) ∧ IsObj wr w.heap.size 5 (List.replicate j (.int .u8 0) ++ (beB n k).map byV) ∧ Below w.heap.size w wr) (fun _ i _ => (intOf i + 1).toNat)
  case atStart => exact ⟨W, 0, by omega, by simp, rfl, by simpa [beB] using HO0.out, HB0.out⟩
  case round =>
    obtain ⟨j, k, hjk, rfl, rfl, hO, hb⟩ := hrel
    have HB := Lib.hid hb
    have HO := Lib.hid hO
    have q0 : 0 ≤ n / 256 ^ k := Int.ediv_nonneg h0 (Int.pow_nonneg (by decide))
    have q1 : n / 256 ^ k ≤ 9223372036854775807 := Int.le_trans (Int.ediv_le_self _ h0) hn63
    cases j with
    | zero =>
      obtain rfl : k = W := by omega
      rw [List.replicate_zero, List.nil_append] at hO
      have hstr := isobj_string (src := 93) (dst := 9) (n := k) (beB n k) hO (by rw [beB_len]) Tryz.underlying93 Tryz.underlying5 Tryz.underlying9
      clear hO hb
      have hz : (n / 256 ^ k == 0) = decide (n < 256 ^ k) := by
        have hp : (0 : Int) < 256 ^ k := Int.pow_pos (by decide)
        rw [Bool.eq_iff_iff]
        simp only [beq_iff_eq, decide_eq_true_eq]
        constructor
        · intro h
          have := Int.lt_ediv_add_one_mul_self n hp
          rw [h] at this
          omega
        · intro h
          exact Int.ediv_eq_zero_of_lt h0 h
      go_wp2
      go_returns
      exact ⟨by simp, HB.out⟩
    | succ j =>
      have e1 : (((j + 1 : Nat) : Int) - 1) = (j : Int) := by omega
      rw [e1]
      have c0 : wr.cell? ⟨w.heap.size, j, none⟩ = some (.int .u8 0) := by
        rw [IsObj.cell hO, List.getElem?_append_left (by simp)]
        simp
      have f0 := IsObj.free hO j
      have i1 : (0 : Int) ≤ (j : Int) := by omega
      have i2 : (j : Int) < (W : Int) := by omega
      have hset := hO.set j (byV (byteOf (n / 256 ^ k)))
      rw [set_back, show byV (byteOf (n / 256 ^ k)) :: (beB n k).map byV = (beB n (k + 1)).map byV by rw [beB_cons]; rfl] at hset
      rw [show byV (byteOf (n / 256 ^ k)) = .int .u8 (n / 256 ^ k % 256) by unfold byV; rw [byteOf_toNat]] at hset
      have HS := Lib.hid hset
      have e2 := Lib.hid (show n / 256 ^ k / 256 = n / 256 ^ (k + 1) by rw [Int.ediv_ediv_of_nonneg (Int.pow_nonneg (by decide)), ← Int.pow_succ])
      clear hO hb hset e1
      go_wp2
      exact ⟨⟨j, k + 1, by omega, by rw [e2.out], rfl, HS.out, HB.out.setCell (Nat.le_refl _) _⟩, by simp only [intOf]; omega⟩

/-! ### Of -/
theorem at_bl (s : ByteArray) (i : Nat) (h : i < s.size) : (bl s)[i]? = some s[i] := by
  show s.data.toList[i]? = some s[i]
  rw [Array.getElem?_toList]
  exact Array.getElem?_eq_getElem h
theorem numOf_take (s : ByteArray) (i : Nat) (h : i < s.size) : numOf ((bl s).take (i + 1)) = numOf ((bl s).take i) * 256 + (s[i].toNat : Int) := by
  rw [List.take_add_one, at_bl s i h]
  simp only [Option.toList]
  rw [numOf_snoc]
theorem numOf_take_lt (l : List UInt8) (i : Nat) (h : i ≤ 5) : numOf (l.take i) < 1099511627776 := by
  have h1 := numOf_lt (l.take i)
  have h2 : (l.take i).length ≤ 5 := by simp; omega
  obtain ⟨m, hm⟩ : ∃ m, m = (l.take i).length := ⟨_, rfl⟩
  rw [← hm] at h1 h2
  have : m = 0 ∨ m = 1 ∨ m = 2 ∨ m = 3 ∨ m = 4 ∨ m = 5 := by omega
  rcases this with rfl | rfl | rfl | rfl | rfl | rfl <;> simp at h1 <;> omega
theorem rof_any (s : ByteArray) (w : World) (hs : s.size ≤ 6) : Calls Tryz.prog 73 #[.string s] w fun e w' => e = .returned (.int .i64 (numOf (bl s))) ∧ w = w' := by
  go_enter Tryz.func73, Tryz.ntmps73
  go_wp2
  go_loop [3, 4] (fun a i => ∃ k : Nat, k ≤ s.size ∧ i = .int .i64 k ∧ a = .int .i64 (numOf ((bl s).take k))) (fun _ i => s.size - (intOf i).toNat)
  case atStart => exact ⟨0, Nat.zero_le _, rfl, rfl⟩
  case round =>
    obtain ⟨k, hk, rfl, rfl⟩ := hrel
    by_cases hlt : k < s.size
    · have hN := Lib.hid (numOf_take s k hlt)
      have q0 := numOf_nn ((bl s).take k)
      have q1 := numOf_take_lt (bl s) k (by omega)
      have q2 := byte_rng s[k]
      have i2 : (k : Int) < (s.size : Int) := by omega
      generalize numOf ((bl s).take k) = m at *
      go_wp2
      exact ⟨⟨k + 1, by omega, by go_num, by rw [hN.out, Int.mul_comm]⟩, by simp only [intOf]; omega⟩
    · have hT : (bl s).take k = bl s := List.take_of_length_le (by rw [bl_len]; omega)
      rw [hT]
      clear hT
      go_wp2
      go_ret
      exact ⟨rfl, rfl⟩
end Go.Proofs.YtobcjbpgeohbgaaGreatDoor
