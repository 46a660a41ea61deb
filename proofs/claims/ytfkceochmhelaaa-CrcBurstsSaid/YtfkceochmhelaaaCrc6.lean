/-
  Layer 3 (crc): Apart, and the document's Apart.
-/
import Derived.Test.YtfkceochmhelaaaCrc5
namespace Go.Proofs.Ytfkceochmhelaaa
open Go.RowKit
set_option linter.unusedVariables false

theorem alloc_sz (w : World) (o : Obj) : (w.alloc o).heap.size = w.heap.size + 1 := by simp
theorem FLAt.below0 {w w' : World} {B F L : Nat} {b : ByteArray} {p : Int × Int} (h : FLAt w B F L b p) (hb : Below w.heap.size w w') : FLAt w' B F L b p :=
  ⟨IsObj.below h.b hb h.b.lt, IsObj.below h.f hb h.f.lt, IsObj.below h.l hb h.l.lt⟩
set_option maxRecDepth 100000 in
set_option maxHeartbeats 1000000 in
theorem each2_any (a b : ByteArray) (B F L : Nat) (w : World) (hab : a.size = b.size) (hs : b.size ≤ 2147483648) (hB : B < F) (hF : F < L) (h : FLAt w B F L b (bst a b 0)) :
    Calls Try.prog 19 #[.string a, .func (.func 20) #[] #[.pointer (some ⟨B, 0, none⟩), .pointer (some ⟨F, 0, none⟩), .pointer (some ⟨L, 0, none⟩)]] w fun e w' => e = .returned (.tuple #[]) ∧ FLAt w' B F L b (bst a b a.size) ∧ Below B w w' := by
  have H := Lib.hid h
  have hsa : a.size ≤ 2147483648 := by omega
  clear h
  go_enter Try.func19, Try.ntmps19
  go_wp2
  go_loopw [7] (fun i wr => ∃ k : Nat, k ≤ a.size ∧ i = .int .i64 k ∧ FLAt wr B F L b (bst a b k) ∧ Below B w wr) (fun i _ => a.size - (intOf i).toNat)
  case atStart => exact ⟨0, Nat.zero_le _, rfl, H.out, Below.refl _ _⟩
  case round =>
    obtain ⟨k, hk, rfl, hR, hb⟩ := hrel
    have HR := Lib.hid hR
    have HB := Lib.hid hb
    clear hR hb H
    by_cases hlt : k < a.size
    · have i1 : (0 : Int) ≤ (k : Int) := by omega
      have i2 : (k : Int) < (a.size : Int) := by omega
      have hkb : k < b.size := by omega
      go_wp2_with (go_at_call 20; (with_reducible refine (apc_any a b k B F L _ hkb hlt hs hB hF HR.out).mono ?_); rintro e w1 ⟨rfl, hR1, hb1⟩)
      exact ⟨⟨k + 1, by omega, by go_num, hR1, HB.out.trans hb1⟩, by simp only [intOf]; omega⟩
    · obtain rfl : k = a.size := by omega
      go_wp2
      go_end0
      exact ⟨rfl, HR.out, HB.out⟩
theorem bst_rng (a b : ByteArray) (k : Nat) : -1 ≤ (bst a b k).1 ∧ (bst a b k).1 < 8 * (k : Int) ∨ k = 0 := by
  rcases Nat.eq_zero_or_pos k with h | h
  · exact .inr h
  · have := stp_rng a b (-1) (.inl rfl) (8 * k)
    rw [stp_bst] at this
    omega
set_option maxRecDepth 100000 in
set_option maxHeartbeats 1000000 in
theorem apart_any (a b : ByteArray) (w : World) (hs : b.size ≤ 2147483648) (hsa : a.size ≤ 2147483648) : Calls Try.prog 9 #[.string a, .string b] w fun e w' => e = .returned (.tuple #[.int .i64 (apB a b).n, .bool (apB a b).ok]) ∧ Below w.heap.size w w' := by
  unfold apB
  by_cases hab : a.size = b.size
  · rw [if_pos hab]
    have hi : (a.size : Int) = (b.size : Int) := by omega
    have hr := stp_rng a b (-1) (.inl rfl) (8 * a.size)
    rw [stp_bst] at hr
    obtain ⟨W3, hW3⟩ : ∃ W3, W3 = ((w.alloc (.cells #[.string b] 9)).alloc (.cells #[.int .i64 (-1)] 3)).alloc (.cells #[.int .i64 (-1)] 3) := ⟨_, rfl⟩
    have hF : FLAt W3 w.heap.size (w.heap.size + 1) (w.heap.size + 1 + 1) b (bst a b 0) := by
      rw [hW3]
      have x2 := IsObj.new (w.alloc (.cells #[.string b] 9)) 3 [.int .i64 (-1)]
      have x3 := IsObj.new ((w.alloc (.cells #[.string b] 9)).alloc (.cells #[.int .i64 (-1)] 3)) 3 [.int .i64 (-1)]
      rw [alloc_sz] at x2
      rw [alloc_sz, alloc_sz] at x3
      exact ⟨((IsObj.new w 9 [.string b]).alloc _).alloc _, x2.alloc _, x3⟩
    have hb : Below w.heap.size w W3 := by rw [hW3]; exact (((Below.refl _ _).alloc (Nat.le_refl _) _).alloc (by simp) _).alloc (by simp; omega) _
    have HE := Lib.hid (each2_any a b w.heap.size (w.heap.size + 1) (w.heap.size + 1 + 1) W3 hab hs (by omega) (by omega) hF)
    have HB := Lib.hid hb
    clear hF hb
    generalize bst a b a.size = p at *
    obtain ⟨f, l⟩ := p
    simp only at hr
    obtain ⟨⟨r1, r2⟩, r3, r4⟩ := hr
    by_cases hf : f < 0
    all_goals
      first | rw [if_pos hf] | rw [if_neg hf]
      go_enter Try.func9, Try.ntmps9
      go_wp2_with fail
      rw [← hW3]
      clear hW3
      refine HE.out.mono ?_
      rintro e w1 ⟨rfl, hF1, hb1⟩
      have e1 : w1.cell? ⟨w.heap.size + 1, 0, none⟩ = some (.int .i64 f) := IsObj.cell hF1.f 0
      have e2 : w1.cell? ⟨w.heap.size + 1 + 1, 0, none⟩ = some (.int .i64 l) := IsObj.cell hF1.l 0
      have HB1 := Lib.hid (HB.out.trans hb1)
      clear hF1 hb1 HE HB
      go_wp2
      go_returns
      exact ⟨rfl, HB1.out⟩
  · rw [if_neg hab]
    have hi : ((a.size : Int) != (b.size : Int)) = true := by simp; omega
    go_enter Try.func9, Try.ntmps9
    go_wp2
    go_returns
    exact ⟨rfl, (Below.refl _ _).alloc (Nat.le_refl _) _⟩
set_option maxRecDepth 100000 in
set_option maxHeartbeats 1000000 in
theorem rapart_any (a b : ByteArray) (w : World) (hs : b.size ≤ 2147483648) (hsa : a.size ≤ 2147483648) : Calls Try.prog 10 #[.string a, .string b] w fun e w' => e = .returned (.tuple #[.int .i64 (apB a b).n, .bool (apB a b).ok]) ∧ w = w' := by
  by_cases hab : a.size = b.size
  · rw [apB_ref a b hab]
    generalize hp0 : stp a b (-2) (8 * a.size) = p0
    obtain ⟨f0, l0⟩ := p0
    have HP0 := Lib.hid hp0
    clear hp0
    have hi : ((a.size : Int) != (b.size : Int)) = false := by simp; omega
    go_enter Try.func10, Try.ntmps10
    go_wp2_with fail
    go_loop [6, 7, 8] (fun f l i => ∃ k : Nat, k ≤ 8 * a.size ∧ i = .int .i64 k ∧ f = .int .i64 (stp a b (-2) k).1 ∧ l = .int .i64 (stp a b (-2) k).2) (fun _ _ i => 8 * a.size - (intOf i).toNat)
    case atStart => exact ⟨0, Nat.zero_le _, rfl, rfl, rfl⟩
    case round =>
      obtain ⟨k, hk, rfl, rfl, rfl⟩ := hrel
      obtain ⟨⟨r1, r2⟩, r3, r4⟩ := stp_rng a b (-2) (.inr rfl) k
      by_cases hlt : k < 8 * a.size
      · have HS := Lib.hid (show stp a b (-2) (k + 1) = if tbit a k = tbit b k then stp a b (-2) k else (if (stp a b (-2) k).1 < 0 then (k : Int) else (stp a b (-2) k).1, (k : Int)) from rfl)
        have HA := Lib.hid (fun w => rbit_any a k w hsa hlt)
        have HB := Lib.hid (fun w => rbit_any b k w hs (by omega))
        have hta : tbit a k < 2 := Nat.mod_lt _ (by decide)
        have htb : tbit b k < 2 := Nat.mod_lt _ (by decide)
        have i1 : (0 : Int) ≤ (k : Int) := by omega
        generalize stp a b (-2) k = p at *
        generalize tbit a k = x at *
        generalize tbit b k = y at *
        obtain ⟨f, l⟩ := p
        simp only at r1 r2 r3 r4
        by_cases hxy : x = y
        · rw [if_pos hxy] at HS
          subst hxy
          go_wp2_with (first | (go_at_call 23; (with_reducible refine (HA.out _).mono ?_); rintro e w' ⟨rfl, rfl⟩) | (go_at_call 23; (with_reducible refine (HB.out _).mono ?_); rintro e w' ⟨rfl, rfl⟩))
          exact ⟨⟨k + 1, by omega, by go_num, by rw [HS.out], by rw [HS.out]⟩, by simp only [intOf]; omega⟩
        · rw [if_neg hxy] at HS
          have hb1 : ((x : Int) != (y : Int)) = true := by simp; omega
          by_cases hf : f < 0
          all_goals
            first | rw [if_pos hf] at HS | rw [if_neg hf] at HS
            go_wp2_with (first | (go_at_call 23; (with_reducible refine (HA.out _).mono ?_); rintro e w' ⟨rfl, rfl⟩) | (go_at_call 23; (with_reducible refine (HB.out _).mono ?_); rintro e w' ⟨rfl, rfl⟩))
            exact ⟨⟨k + 1, by omega, by go_num, by rw [HS.out], by rw [HS.out]⟩, by simp only [intOf]; omega⟩
      · obtain rfl : k = 8 * a.size := by omega
        rw [HP0.out] at r1 r2 r3 r4 ⊢
        simp only at r1 r2 r3 r4
        go_wp2
        go_returns
        exact ⟨rfl, rfl⟩
  · unfold apB
    rw [if_neg hab]
    have hi : ((a.size : Int) != (b.size : Int)) = true := by simp; omega
    go_enter Try.func10, Try.ntmps10
    go_wp2
    go_returns
    exact ⟨rfl, rfl⟩
end Go.Proofs.Ytfkceochmhelaaa
