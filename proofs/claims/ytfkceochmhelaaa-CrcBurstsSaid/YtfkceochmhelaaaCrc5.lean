/-
  Layer 3 (crc): Apart, walked.
-/
import Derived.Test.YtfkceochmhelaaaCrc4
namespace Go.Proofs.Ytfkceochmhelaaa
open Go.RowKit
set_option linter.unusedVariables false

set_option maxRecDepth 100000 in
theorem len8_any (d : Nat) (hd : d < 256) (w : World) : Calls Try.prog 29 #[.int .u8 d] w fun e w' => e = .returned (.int .i64 ((8 - clzN d : Nat) : Int)) ∧ w = w' := by
  have q0 : (0 : Int) ≤ (d : Int) := by omega
  have q1 : (d : Int) < 256 := by omega
  go_enter Try.func29, Try.ntmps29
  go_wp2
  go_ret
  refine ⟨ret_int ?_, rfl⟩
  clear w
  revert q1
  revert q0
  revert hd
  revert d
  decide +kernel
set_option maxRecDepth 100000 in
theorem ctz8_any (d : Nat) (hd : d < 256) (w : World) : Calls Try.prog 22 #[.int .u8 d] w fun e w' => e = .returned (.int .i64 ((ctzN d : Nat) : Int)) ∧ w = w' := by
  have q0 : (0 : Int) ≤ (d : Int) := by omega
  have q1 : (d : Int) < 256 := by omega
  go_enter Try.func22, Try.ntmps22
  go_wp2
  go_ret
  refine ⟨ret_int ?_, rfl⟩
  clear w
  revert q1
  revert q0
  revert hd
  revert d
  decide +kernel
theorem clz8_any (d : Nat) (hd : d < 256) (w : World) : Calls Try.prog 21 #[.int .u8 d] w fun e w' => e = .returned (.int .i64 ((clzN d : Nat) : Int)) ∧ w = w' := by
  have h : clzN d ≤ 8 := by unfold clzN; split <;> omega
  go_enter Try.func21, Try.ntmps21
  go_wp2_with (go_at_call 29; (with_reducible refine (len8_any d hd _).mono ?_); rintro e w' ⟨rfl, rfl⟩)
  go_ret
  exact ⟨ret_int (by omega), rfl⟩
theorem u8_xor_n (a b : Nat) (ha : a < 256) (hb : b < 256) : bits .xor .u8 (a : Int) (b : Int) = ((a ^^^ b : Nat) : Int) := by
  rw [u8_xor _ _ (by omega) (by omega) (by omega) (by omega)]
  rfl
/-- The two numbers in their variables. -/
structure FLAt (w : World) (B F L : Nat) (b : ByteArray) (p : Int × Int) : Prop where
  b : IsObj w B 9 [.string b]
  f : IsObj w F 3 [.int .i64 p.1]
  l : IsObj w L 3 [.int .i64 p.2]
theorem FLAt.set {w : World} {B F L : Nat} {b : ByteArray} {p : Int × Int} (h : FLAt w B F L b p) (h1 : B ≠ F) (h2 : F ≠ L) (h3 : B ≠ L) (f l : Int) : FLAt ((w.setCell ⟨F, 0, none⟩ (.int .i64 f)).setCell ⟨L, 0, none⟩ (.int .i64 l)) B F L b (f, l) :=
  ⟨IsObj.setOther (IsObj.setOther h.b ⟨F, 0, none⟩ _ h1) ⟨L, 0, none⟩ _ h3, IsObj.setOther (IsObj.set h.f 0 (.int .i64 f)) ⟨L, 0, none⟩ _ h2, IsObj.set (IsObj.setOther h.l ⟨F, 0, none⟩ _ (Ne.symm h2)) 0 (.int .i64 l)⟩
theorem FLAt.setL {w : World} {B F L : Nat} {b : ByteArray} {p : Int × Int} (h : FLAt w B F L b p) (h2 : F ≠ L) (h3 : B ≠ L) (l : Int) : FLAt (w.setCell ⟨L, 0, none⟩ (.int .i64 l)) B F L b (p.1, l) :=
  ⟨IsObj.setOther h.b ⟨L, 0, none⟩ _ h3, IsObj.setOther h.f ⟨L, 0, none⟩ _ h2, IsObj.set h.l 0 (.int .i64 l)⟩
set_option maxRecDepth 100000 in
set_option maxHeartbeats 1000000 in
theorem apc_any (a b : ByteArray) (k B F L : Nat) (w : World) (hk : k < b.size) (hka : k < a.size) (hs : b.size ≤ 2147483648) (hB : B < F) (hF : F < L) (h : FLAt w B F L b (bst a b k)) :
    Calls Try.prog 20 #[.int .i64 k, .int .u8 (a[k].toNat : Int), .pointer (some ⟨B, 0, none⟩), .pointer (some ⟨F, 0, none⟩), .pointer (some ⟨L, 0, none⟩)] w fun e w' => e = .returned (.tuple #[]) ∧ FLAt w' B F L b (bst a b (k + 1)) ∧ Below B w w' := by
  have hd : dN a b k = a[k].toNat ^^^ b[k].toNat := by
    unfold dN
    rw [List.getD_eq_getElem?_getD, List.getD_eq_getElem?_getD, at_bl a k hka, at_bl b k hk]
    rfl
  have hdl := dN_lt a b k
  have hx := u8_xor_n a[k].toNat b[k].toNat a[k].toNat_lt b[k].toNat_lt
  rw [← hd] at hx
  have hS := Lib.hid (show bst a b (k + 1) = if dN a b k = 0 then bst a b k else (if (bst a b k).1 < 0 then 8 * (k : Int) + (clzN (dN a b k) : Int) else (bst a b k).1, 8 * (k : Int) + 8 - 1 - (ctzN (dN a b k) : Int)) from rfl)
  have hc1 : dN a b k ≠ 0 → clzN (dN a b k) ≤ 7 ∧ ctzN (dN a b k) ≤ 7 := fun h0 => ⟨(byte_ends _ hdl h0).2.2.1, (byte_ends _ hdl h0).2.2.2⟩
  have H1 := Lib.hid (fun w => clz8_any (dN a b k) hdl w)
  have H2 := Lib.hid (fun w => ctz8_any (dN a b k) hdl w)
  have e0 : w.cell? ⟨B, 0, none⟩ = some (.string b) := IsObj.cell h.b 0
  have e1 : w.cell? ⟨F, 0, none⟩ = some (.int .i64 (bst a b k).1) := IsObj.cell h.f 0
  have e2 : w.cell? ⟨L, 0, none⟩ = some (.int .i64 (bst a b k).2) := IsObj.cell h.l 0
  have f1 := IsObj.free h.f 0
  have f2 := IsObj.free h.l 0
  have HH := Lib.hid h
  have nFL : F ≠ L := by omega
  have i1 : (0 : Int) ≤ (k : Int) := by omega
  have i2 : (k : Int) < (b.size : Int) := by omega
  clear hd h
  generalize bst a b (k + 1) = nx at *
  generalize bst a b k = p at *
  generalize dN a b k = d at *
  generalize clzN d = cl at *
  generalize ctzN d = ct at *
  generalize a[k].toNat = x at *
  by_cases h0 : d = 0
  · subst h0
    rw [if_pos rfl] at hS
    have hS2 := hS.out
    subst hS2
    clear hc1 hS
    go_enter Try.func20, Try.ntmps20
    go_wp2
    go_returns
    exact ⟨rfl, HH.out, Below.refl _ _⟩
  · rw [if_neg h0] at hS
    obtain ⟨c1, c2⟩ := hc1 h0
    have hz : ((d : Int) == 0) = false := by simp; omega
    clear hc1
    by_cases hp : p.1 < 0
    · rw [if_pos hp] at hS
      have hS2 := hS.out
      subst hS2
      clear hS
      go_enter Try.func20, Try.ntmps20
      go_wp2_with (first | (go_at_call 21; (with_reducible refine (H1.out _).mono ?_); rintro e w' ⟨rfl, rfl⟩) | (go_at_call 22; (with_reducible refine (H2.out _).mono ?_); rintro e w' ⟨rfl, rfl⟩))
      go_end0
      exact ⟨rfl, HH.out.set (by omega) nFL (by omega) _ _, ((Below.refl B w).setCell (p := ⟨F, 0, none⟩) (by simp; omega) _).setCell (p := ⟨L, 0, none⟩) (by simp; omega) _⟩
    · rw [if_neg hp] at hS
      have hS2 := hS.out
      subst hS2
      clear hS
      go_enter Try.func20, Try.ntmps20
      go_wp2_with (first | (go_at_call 21; (with_reducible refine (H1.out _).mono ?_); rintro e w' ⟨rfl, rfl⟩) | (go_at_call 22; (with_reducible refine (H2.out _).mono ?_); rintro e w' ⟨rfl, rfl⟩))
      go_end0
      exact ⟨rfl, HH.out.setL nFL (by omega) _, (Below.refl B w).setCell (p := ⟨L, 0, none⟩) (by simp; omega) _⟩
end Go.Proofs.Ytfkceochmhelaaa
