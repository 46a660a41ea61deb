/-
  The statement CrcBursts of layer 3 (crc). No condition.
-/
import Derived.Test.YtfkceochmhelaaaLaw03c
import Derived.Laws.IdiomStrings
import Derived.Lib.SlicesS
import Derived.Deep.DeepCutAuto
namespace Go.Proofs.Ytfkceochmhelaaa
open Go.RowKit
set_option linter.unusedVariables false
set_option linter.unusedSimpArgs false

/-! ### The document's Turn -/
def tbL (L : List UInt8) (i : Nat) : Nat := bitN (L.getD (i / 8) 0).toNat (i % 8)
/-- Block B holds the bytes L, and they may be written. -/
def BufAt (w : World) (B : Nat) (L : List UInt8) : Prop := ∀ j (hj : j < L.length), w.cell? ⟨B, j, none⟩ = some (.int .u8 (L[j].toNat : Int)) ∧ w.frozen? ⟨B, j, none⟩ = false
def flipL (L : List UInt8) (i : Nat) : List UInt8 := L.set (i / 8) (UInt8.ofNat ((L.getD (i / 8) 0).toNat ^^^ 2 ^ (7 - i % 8)))
theorem xor_lt8 {a b : Nat} (ha : a < 256) (hb : b < 256) : a ^^^ b < 256 := Nat.xor_lt_two_pow (n := 8) ha hb
theorem pow_lt8 (i : Nat) : 2 ^ (7 - i % 8) < 256 := Nat.lt_of_le_of_lt (Nat.pow_le_pow_right (by decide) (show 7 - i % 8 ≤ 7 by omega)) (by decide)
theorem flip_other (L : List UInt8) (i i' : Nat) (h : i' ≠ i) : tbL (flipL L i) i' = tbL L i' := by
  unfold tbL flipL
  rw [List.getD_eq_getElem?_getD, List.getD_eq_getElem?_getD (l := L) (i := i' / 8), List.getElem?_set]
  by_cases h8 : i / 8 = i' / 8
  · rw [if_pos h8]
    by_cases hl : i / 8 < L.length
    · rw [if_pos hl, Option.getD_some, bitN_test, bitN_test, UInt8.toNat_ofNat', Nat.mod_eq_of_lt (xor_lt8 (UInt8.toNat_lt _) (pow_lt8 i)), Nat.testBit_xor, Nat.testBit_two_pow, List.getD_eq_getElem?_getD, h8]
      have : decide (7 - i % 8 = 7 - i' % 8) = false := by simp; omega
      rw [this, Bool.xor_false]
    · have e : L[i' / 8]? = none := List.getElem?_eq_none (by omega)
      rw [if_neg hl, e]
  · rw [if_neg h8]
theorem BufAt.flip {w : World} {B : Nat} {L : List UInt8} (h : BufAt w B L) (i : Nat) (hi : i / 8 < L.length) : BufAt (w.setCell ⟨B, i / 8, none⟩ (.int .u8 (((L.getD (i / 8) 0).toNat ^^^ 2 ^ (7 - i % 8) : Nat) : Int))) B (flipL L i) := by
  intro j hj
  have hl : (flipL L i).length = L.length := by unfold flipL; rw [List.length_set]
  obtain ⟨h1, h2⟩ := h j (by omega)
  obtain ⟨h3, h4⟩ := h (i / 8) hi
  refine ⟨?_, by rw [World.frozen?_setCell]; exact h2⟩
  by_cases hji : j = i / 8
  · subst hji
    rw [World.cell?_setCell_same _ _ _ (by rw [h3])]
    simp only [flipL, List.getElem_set_self, UInt8.toNat_ofNat']
    rw [Nat.mod_eq_of_lt (xor_lt8 (UInt8.toNat_lt _) (pow_lt8 i))]
  · rw [World.cell?_setCell_other _ _ _ _ (by simp [hji]), h1]
    simp only [flipL]
    rw [List.getElem_set_ne (fun e => hji e.symm)]
theorem buf_of_row {w : World} {base g n cap : Nat} {e : TypeId} {L : List UInt8} (h : BRow w base e (.slice (some ⟨g, 0, none⟩) n cap) L) : BufAt w g L := by
  obtain ⟨g', cap', cur, lo, hi, h1, h2, h3, h4, h5, h6, h7, h8⟩ := h
  have hg := (Value.slice.inj h1).1
  have hgg : g = g' := by simpa using hg
  subst hgg
  intro j hj
  exact ⟨(brow_cell (cap := cap') h3 j).trans (h8 j hj), (brow_free (cap := cap') h3 j).trans (h4 j (by omega))⟩
structure TurnB (w : World) (s : ByteArray) (at_ : Nat) (B : Nat) (L : List UInt8) (wr : World) : Prop where
  buf : BufAt wr B L
  len : L.length = s.size
  out : ∀ i, ¬ (at_ ≤ i ∧ i < at_ + 16) → tbL L i = tbit s i
  b : Below w.heap.size w wr
set_option maxRecDepth 100000 in
set_option maxHeartbeats 4000000 in
theorem rturn_any (s : ByteArray) (at_ t : Nat) (w : World) (hs : s.size ≤ 2147483648) (ha : at_ < 65536) (ht : t < 65536) : Calls Try.prog 13 #[.string s, .int .i64 at_, .int .u16 t] w fun e w' => ∃ c, e = .returned (.string c) ∧ Turned at_ s c ∧ Below w.heap.size w w' := by
  have hcv := run_bytes_of_string (P := Try.prog) w 9 46 5 s Try.underlying9 Try.underlying46 Try.underlying5
  obtain ⟨B, hB⟩ : ∃ B, B = w.heap.size := ⟨_, rfl⟩
  have hr := brow_of_string (w := w) (base := w.heap.size) 5 s (by unfold maxLen; omega) (Nat.le_refl _)
  have h0 := buf_of_row hr
  have b0 : Below w.heap.size w ((w.alloc (.cells (bytesRow s (grownCap w s.size 0 5)) 5 ((bytesRow s (grownCap w s.size 0 5)).size, (bytesRow s (grownCap w s.size 0 5)).size + 1))).drew) := ((Below.refl _ _).alloc (Nat.le_refl _) _).drew
  have HP := Lib.hid (show TurnB w s at_ w.heap.size (bl s) ((w.alloc (.cells (bytesRow s (grownCap w s.size 0 5)) 5 ((bytesRow s (grownCap w s.size 0 5)).size, (bytesRow s (grownCap w s.size 0 5)).size + 1))).drew) from ⟨h0, by simp, fun i _ => rfl, b0⟩)
  rw [← hB] at HP
  have HHs := Lib.hid hB
  clear hr h0 b0 hB
  go_enter Try.func13, Try.ntmps13
  go_wp2
  rw [← HHs.out]
  clear hcv
  generalize ((w.alloc (.cells (bytesRow s (grownCap w s.size 0 5)) 5 ((bytesRow s (grownCap w s.size 0 5)).size, (bytesRow s (grownCap w s.size 0 5)).size + 1))).drew) = W0 at *
  generalize grownCap w s.size 0 5 = gc at *
  go_loopw [2, 8] (fun tv kv wr => ∃ (k : Nat) (x : Nat) (L : List UInt8), k ≤ 16 ∧ x < 65536 ∧ kv = .int .i64 k ∧ tv = .int .u16 x ∧ TurnB w s at_ B L wr) (fun _ kv _ => 16 - (intOf kv).toNat)
  case atStart => exact ⟨0, t, bl s, by omega, ht, rfl, rfl, HP.out⟩
  case round =>
    obtain ⟨k, x, L, hk, hx, rfl, rfl, hP⟩ := hrel
    have HR := Lib.hid hP
    have hL : L.length = s.size := hP.len
    clear hP
    by_cases hlt : k < 16
    · have i1 : (k : Int) < 16 := by omega
      have HX := Lib.hid (wrap_u16 x)
      by_cases hdo : x / 32768 = 1 ∧ at_ + k < 8 * s.size
      · obtain ⟨q, hq⟩ : ∃ q, q = (at_ + k) / 8 := ⟨_, rfl⟩
        obtain ⟨r, hr⟩ : ∃ r, r = (at_ + k) % 8 := ⟨_, rfl⟩
        have e8 : ((at_ : Int) + (k : Int)) / 8 = (q : Int) := by omega
        have hqr : (at_ : Int) + k = q * 8 + r := by omega
        have hr8 : r < 8 := by omega
        have hqL : q < L.length := by omega
        have HQ := Lib.hid (show (at_ + k) / 8 = q ∧ (at_ + k) % 8 = r from ⟨hq.symm, hr.symm⟩)
        have HD := Lib.hid hqr
        have hx1 := hdo.1
        have hx2 : (at_ : Int) + k < 8 * s.size := by omega
        clear hq hr hdo hqr
        go_wp2
        go_loop [10, 11] (fun one j => ∃ m : Nat, m ≤ r ∧ j = .int .i64 ((q : Int) * 8 + m) ∧ one = .int .u8 ((2 ^ (7 - m) : Nat) : Int)) (fun _ j => ((q : Int) * 8 + r - intOf j).toNat)
        case atStart => exact ⟨0, Nat.zero_le _, by simp, rfl⟩
        case round =>
          obtain ⟨m, hm, rfl, rfl⟩ := hrel
          by_cases hlm : m < r
          · have i5 : (q : Int) * 8 + m < at_ + k := by have := HD.out; omega
            have hp : (2 ^ (7 - m) : Nat) = 2 * 2 ^ (7 - (m + 1)) := by rw [← Nat.pow_succ']; congr 1; omega
            have hp2 : (2 ^ (7 - m) : Nat) ≤ 128 := Nat.pow_le_pow_right (n := 2) (by decide) (show 7 - m ≤ 7 by omega)
            have HPp := Lib.hid hp
            clear hp
            generalize (2 ^ (7 - m) : Nat) = p at *
            go_wp2
            go_round
            case rel => exact ⟨m + 1, by omega, by go_num, by have := HPp.out; rw [this]; congr 1; omega⟩
            case measure => simp [intOf]; omega
          · obtain rfl : m = r := by omega
            have i5 : (at_ : Int) + k ≤ (q : Int) * 8 + m := by have := HD.out; omega
            have hb := HR.out.buf q hqL
            have c0 : wr.cell? ⟨B, q, none⟩ = some (.int .u8 ((L.getD q 0).toNat : Int)) := by rw [List.getD_eq_getElem?_getD, List.getElem?_eq_getElem hqL]; exact hb.1
            have f0 := hb.2
            have hp2 : (2 ^ (7 - m) : Nat) < 256 := by have := pow_lt8 m; rwa [Nat.mod_eq_of_lt hr8] at this
            have ex := u8_xor_n (L.getD q 0).toNat (2 ^ (7 - m)) (UInt8.toNat_lt _) hp2
            have HF := Lib.hid (HR.out.buf.flip (at_ + k) (by rw [HQ.out.1]; exact hqL))
            rw [HQ.out.1, HQ.out.2] at HF
            clear hb hp2
            generalize (2 ^ (7 - m) : Nat) = p at *
            generalize (L.getD q 0).toNat = b0 at *
            go_wp2
            refine ⟨⟨k + 1, 2 * x % 65536, flipL L (at_ + k), by omega, Nat.mod_lt _ (by decide), by go_num, by rw [HX.out], ⟨HF.out, ?_, ?_, ?_⟩⟩, by simp [intOf]; omega⟩
            · unfold flipL; rw [List.length_set]; exact hL
            · intro i hi
              rw [flip_other L (at_ + k) i (by omega)]
              exact HR.out.out i hi
            · exact HR.out.b.setCell (p := ⟨B, q, none⟩) (by simp; have := HHs.out; omega) _
      · by_cases hx1 : x / 32768 = 1
        · have hx2 : 8 * (s.size : Int) ≤ (at_ : Int) + k := by omega
          clear hdo
          go_wp2
          refine ⟨⟨k + 1, 2 * x % 65536, L, by omega, Nat.mod_lt _ (by decide), by go_num, by first | rw [HX.out] | (congr 1; omega), HR.out⟩, by simp [intOf]; omega⟩
        · have hx0 : x / 32768 = 0 := by omega
          clear hdo hx1
          go_wp2
          refine ⟨⟨k + 1, 2 * x % 65536, L, by omega, Nat.mod_lt _ (by decide), by go_num, by first | rw [HX.out] | (congr 1; omega), HR.out⟩, by simp [intOf]; omega⟩
    · obtain rfl : k = 16 := by omega
      have hcb := run_convert_bytes_back (P := Try.prog) wr 46 9 5 ⟨B, 0, none⟩ gc L Try.underlying46 Try.underlying5 Try.underlying9 (fun j hj => by rw [addr_add, Nat.zero_add]; exact (HR.out.buf j hj).1)
      rw [hL] at hcb
      go_wp2
      go_ret
      refine ⟨ofL L, rfl, ⟨?_, ?_⟩, HR.out.b⟩
      · rw [← bl_len, bl_ofL, hL]
      · intro i _ hi
        have := HR.out.out i hi
        rw [← this]
        unfold tbit tbL
        rw [bl_ofL]

/-! ### CrcBursts -/
set_option maxRecDepth 100000 in
set_option maxHeartbeats 4000000 in
theorem bursts_walk (a : ByteArray) (at_ t : Nat) (w : World) (ha : at_ < 65536) (ht : t < 65536) : Calls Try.prog 4 #[.string a, .int .u16 at_, .int .u16 t] w fun e w' => e = .returned (.bool true) ∧ Below w.heap.size w w' := by
  have HZ := Lib.hid (awake03)
  by_cases hl : 300 < a.size
  · have hd : decide ((300 : Int) < (a.size : Int)) = true := by simp; omega
    go_enter Try.func4, Try.ntmps4
    go_wp2_with (go_at_call 5; refine (HZ.out _).mono ?_; rintro e w1 ⟨rfl, hb⟩)
    go_ret
    exact ⟨rfl, hb⟩
  · have hd : decide ((300 : Int) < (a.size : Int)) = false := by simp; omega
    have hsa : a.size ≤ 2147483648 := by omega
    have hss : (ofL (sealL (bl a))).size ≤ 2147483648 := by rw [seal_size]; omega
    have S1 := Lib.hid (fun w => seal_any a w hsa)
    have T1 := Lib.hid (fun w => rturn_any a at_ t w hsa ha ht)
    have T2 := Lib.hid (fun w => rturn_any (ofL (sealL (bl a))) at_ t w hss ha ht)
    have TO := Lib.hid (fun c (h : Turned at_ (ofL (sealL (bl a))) c) => turned_open h)
    have hs2 := seal_size a
    generalize ofL (sealL (bl a)) = s at *
    clear hl hs2
    go_enter Try.func4, Try.ntmps4
    go_wp2_with fail
    refine (T1.out _).mono ?_
    rintro e w1 ⟨b, rfl, hT1, hb1⟩
    have B1 := Lib.hid hb1
    have HT1 := Lib.hid hT1
    have hbs : b.size ≤ 2147483648 := by rw [hT1.size]; omega
    clear hb1 hT1
    go_wp2_with fail
    refine (S1.out _).mono ?_
    rintro e w2 ⟨rfl, hb2⟩
    have B2 := Lib.hid (B1.out.trans (hb2.mono B1.out.size))
    clear hb2
    go_wp2_with fail
    refine (T2.out _).mono ?_
    rintro e w3 ⟨c, rfl, hT2, hb3⟩
    have B3 := Lib.hid (B2.out.trans (hb3.mono B2.out.size))
    have HT2 := Lib.hid hT2
    have hcs : c.size ≤ 2147483648 := by rw [hT2.size]; exact hss
    have hc := Lib.hid (turned_crc HT1.out)
    have hap := ap_turned hT2
    have hop := Lib.hid (TO.out c hT2)
    have A1 := Lib.hid (fun w => apart_any s c w hcs hss)
    have O1 := Lib.hid (fun w => open_any c w hcs)
    have C1 := Lib.hid (fun w => csumN_any a w hsa)
    have C2 := Lib.hid (fun w => csumN_any b w hbs)
    generalize apB s c = ap at *
    generalize openB c = op at *
    generalize crcN (bl a) = ca at *
    generalize crcN (bl b) = cb at *
    obtain ⟨n, ok⟩ := ap
    obtain ⟨y, er⟩ := op
    obtain ⟨ho, hn, hz⟩ := hap
    simp only at ho hn hz
    subst ho
    have HZ2 := Lib.hid hz
    clear hb3 hT2 hcs hbs hss hsa hz B1 B2 TO T1 T2
    by_cases hab : a = b
    · have e1 : ca = cb := hc.out.2 hab
      subst e1
      subst hab
      by_cases hsc : s = c
      · have e2 : er = 0 := hop.out.2 hsc
        have e3 : n = 0 := HZ2.out.2 hsc
        subst e2
        subst e3
        subst hsc
        go_wp2_with (first | (go_at_call 9; (with_reducible refine (A1.out _).mono ?_); rintro e w' ⟨rfl, hx⟩; obtain ⟨ux, rfl⟩ := ext_of hx; clear hx) | (go_at_call 7; (with_reducible refine (O1.out _).mono ?_); rintro e w' ⟨rfl, hx⟩; obtain ⟨ux, rfl⟩ := ext_of hx; clear hx) | (go_at_call 12; (with_reducible refine (C1.out _).mono ?_); rintro e w' ⟨rfl, hx⟩; obtain ⟨ux, rfl⟩ := ext_of hx; clear hx) | (go_at_call 12; (with_reducible refine (C2.out _).mono ?_); rintro e w' ⟨rfl, hx⟩; obtain ⟨ux, rfl⟩ := ext_of hx; clear hx) | (go_at_call 5; (with_reducible refine (HZ.out _).mono ?_); rintro e w' ⟨rfl, hx⟩; obtain ⟨ux, rfl⟩ := ext_of hx; clear hx))
        go_ret
        exact ⟨rfl, below_ext _ B3.out B3.out.size⟩
      · have e2 : (er == 0) = false := by simp; intro h; exact hsc (hop.out.1 h)
        have e3 : (n == 0) = false := by simp; intro h; exact hsc (HZ2.out.1 h)
        have e4 : (s.toList == c.toList) = false := (Lib.bytes_beq_false_iff _ _).2 hsc
        clear hsc
        go_wp2_with (first | (go_at_call 9; (with_reducible refine (A1.out _).mono ?_); rintro e w' ⟨rfl, hx⟩; obtain ⟨ux, rfl⟩ := ext_of hx; clear hx) | (go_at_call 7; (with_reducible refine (O1.out _).mono ?_); rintro e w' ⟨rfl, hx⟩; obtain ⟨ux, rfl⟩ := ext_of hx; clear hx) | (go_at_call 12; (with_reducible refine (C1.out _).mono ?_); rintro e w' ⟨rfl, hx⟩; obtain ⟨ux, rfl⟩ := ext_of hx; clear hx) | (go_at_call 12; (with_reducible refine (C2.out _).mono ?_); rintro e w' ⟨rfl, hx⟩; obtain ⟨ux, rfl⟩ := ext_of hx; clear hx) | (go_at_call 5; (with_reducible refine (HZ.out _).mono ?_); rintro e w' ⟨rfl, hx⟩; obtain ⟨ux, rfl⟩ := ext_of hx; clear hx))
        go_ret
        exact ⟨rfl, below_ext _ B3.out B3.out.size⟩
    · have e5 : ((ca : Int) == (cb : Int)) = false := by simp; intro h; exact hab (hc.out.1 (by exact_mod_cast h))
      have e6 : (a.toList == b.toList) = false := (Lib.bytes_beq_false_iff _ _).2 hab
      clear hab
      by_cases hsc : s = c
      · have e2 : er = 0 := hop.out.2 hsc
        have e3 : n = 0 := HZ2.out.2 hsc
        subst e2
        subst e3
        subst hsc
        go_wp2_with (first | (go_at_call 9; (with_reducible refine (A1.out _).mono ?_); rintro e w' ⟨rfl, hx⟩; obtain ⟨ux, rfl⟩ := ext_of hx; clear hx) | (go_at_call 7; (with_reducible refine (O1.out _).mono ?_); rintro e w' ⟨rfl, hx⟩; obtain ⟨ux, rfl⟩ := ext_of hx; clear hx) | (go_at_call 12; (with_reducible refine (C1.out _).mono ?_); rintro e w' ⟨rfl, hx⟩; obtain ⟨ux, rfl⟩ := ext_of hx; clear hx) | (go_at_call 12; (with_reducible refine (C2.out _).mono ?_); rintro e w' ⟨rfl, hx⟩; obtain ⟨ux, rfl⟩ := ext_of hx; clear hx) | (go_at_call 5; (with_reducible refine (HZ.out _).mono ?_); rintro e w' ⟨rfl, hx⟩; obtain ⟨ux, rfl⟩ := ext_of hx; clear hx))
        go_ret
        exact ⟨rfl, below_ext _ B3.out B3.out.size⟩
      · have e2 : (er == 0) = false := by simp; intro h; exact hsc (hop.out.1 h)
        have e3 : (n == 0) = false := by simp; intro h; exact hsc (HZ2.out.1 h)
        have e4 : (s.toList == c.toList) = false := (Lib.bytes_beq_false_iff _ _).2 hsc
        clear hsc
        go_wp2_with (first | (go_at_call 9; (with_reducible refine (A1.out _).mono ?_); rintro e w' ⟨rfl, hx⟩; obtain ⟨ux, rfl⟩ := ext_of hx; clear hx) | (go_at_call 7; (with_reducible refine (O1.out _).mono ?_); rintro e w' ⟨rfl, hx⟩; obtain ⟨ux, rfl⟩ := ext_of hx; clear hx) | (go_at_call 12; (with_reducible refine (C1.out _).mono ?_); rintro e w' ⟨rfl, hx⟩; obtain ⟨ux, rfl⟩ := ext_of hx; clear hx) | (go_at_call 12; (with_reducible refine (C2.out _).mono ?_); rintro e w' ⟨rfl, hx⟩; obtain ⟨ux, rfl⟩ := ext_of hx; clear hx) | (go_at_call 5; (with_reducible refine (HZ.out _).mono ?_); rintro e w' ⟨rfl, hx⟩; obtain ⟨ux, rfl⟩ := ext_of hx; clear hx))
        go_ret
        exact ⟨rfl, below_ext _ B3.out B3.out.size⟩
theorem wf_u16 (x : Int) (h : (Lit.int .u16 x).wf = true) : ∃ n : Nat, x = n ∧ n < 65536 := by
  have := bounds_u16 h
  exact ⟨x.toNat, by omega, by omega⟩
theorem bursts_done : Walk 4 Try.f4 := by
  intro W args hs hc
  rw [Try.params4] at hs hc
  obtain ⟨l⟩ := args
  match l, hs with
  | [v0, v1, v2], _ =>
    obtain ⟨a, rfl, _⟩ := came_string Try.underlying9 (hc 0 9 v0 rfl rfl)
    obtain ⟨x, rfl, wx⟩ := came_int Try.underlying31 (hc 1 31 v1 rfl rfl)
    obtain ⟨y, rfl, wy⟩ := came_int Try.underlying31 (hc 2 31 v2 rfl rfl)
    obtain ⟨x, rfl, hx⟩ := wf_u16 x wx
    obtain ⟨y, rfl, hy⟩ := wf_u16 y wy
    exact bursts_walk a x y W hx hy
end Go.Proofs.Ytfkceochmhelaaa
