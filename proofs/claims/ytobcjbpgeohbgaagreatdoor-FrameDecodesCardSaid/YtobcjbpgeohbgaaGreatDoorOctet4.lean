/-
  Layer 2 (octet): Put, Number and Take, in the forms that callers take.
-/
import Derived.Test.YtobcjbpgeohbgaaGreatDoorOctet3
namespace Go.Proofs.YtobcjbpgeohbgaaGreatDoor
open Go.RowKit
set_option linter.unusedVariables false

theorem put_yes (s : ByteArray) (n width : Int) (w : World) (hs : s.size ≤ 2147483648) (h : numOk n width = true) : Calls Tryz.prog 74 #[.string s, .int .i64 n, .int .i64 width] w fun e w' => e = .returned (.tuple #[.string (ofL (bl s ++ beB n width.toNat)), .int .i64 0]) ∧ Below w.heap.size w w' := by
  have := put_any s n width w hs
  unfold putV at this
  rwa [h, if_pos rfl] at this
theorem put_no (s : ByteArray) (n width : Int) (w : World) (hs : s.size ≤ 2147483648) (h : numOk n width = false) : Calls Tryz.prog 74 #[.string s, .int .i64 n, .int .i64 width] w fun e w' => e = .returned (.tuple #[.string ⟨#[]⟩, .int .i64 1]) ∧ Below w.heap.size w w' := by
  have := put_any s n width w hs
  unfold putV at this
  rwa [h, if_neg (by decide)] at this
def numS (n width : Int) : ByteArray := if ¬ (1 ≤ width ∧ width ≤ 6) ∨ n < 0 then ⟨#[]⟩ else ofL (beB n width.toNat)
theorem rnum_all (n width : Int) (w : World) (hn : n ≤ 9223372036854775807) : Calls Tryz.prog 77 #[.int .i64 n, .int .i64 width] w fun e w' => e = .returned (.tuple #[.string (numS n width), .bool (numOk n width)]) ∧ Below w.heap.size w w' := by
  unfold numS
  by_cases hr : ¬ (1 ≤ width ∧ width ≤ 6) ∨ n < 0
  · rw [if_pos hr]
    have hk : numOk n width = false := by
      simp only [numOk, decide_eq_false_iff_not]
      omega
    rw [hk]
    refine (rnum_bad n width w hr).mono ?_
    rintro e w' ⟨rfl, rfl⟩
    exact ⟨rfl, Below.refl _ _⟩
  · rw [if_neg hr]
    obtain ⟨W, rfl⟩ := Int.eq_ofNat_of_zero_le (show 0 ≤ width by omega)
    have hk : numOk n (W : Int) = decide (n < 256 ^ W) := by
      rw [Bool.eq_iff_iff]
      simp only [numOk, decide_eq_true_eq, Int.toNat_natCast]
      omega
    rw [hk]
    simp only [Int.toNat_natCast]
    exact rnum_any n W w (by omega) (by omega) (by omega) hn
theorem rnum_is (n width : Int) (w : World) (r : Bool) (hn : n ≤ 9223372036854775807) (h : numOk n width = r) : Calls Tryz.prog 77 #[.int .i64 n, .int .i64 width] w fun e w' => e = .returned (.tuple #[.string (numS n width), .bool r]) ∧ Below w.heap.size w w' := by
  subst h
  exact rnum_all n width w hn
theorem take_enc {n width : Int} (L : List UInt8) (h : numOk n width = true) : takeB (ofL (beB n width.toNat ++ L)) width = ⟨n, 0, ofL L⟩ := by
  obtain ⟨W, rfl, h1, h6, h0, hn⟩ := numOk_ok h
  have hsz : (ofL (beB n W ++ L)).size = W + L.length := by rw [← bl_len, bl_ofL, List.length_append, beB_len]
  simp only [Int.toNat_natCast]
  unfold takeB
  rw [if_pos ⟨by omega, by omega⟩, if_neg (by rw [hsz]; omega)]
  simp only [Int.toNat_natCast]
  have e1 : (ofL (beB n W ++ L)).extract 0 W = ofL (beB n W) := by
    rw [ByteArray.extract_mk]
    simp [beB_len]
  have e2 : (ofL (beB n W ++ L)).extract W (ofL (beB n W ++ L)).size = ofL L := by
    rw [hsz, ByteArray.extract_mk]
    simp [beB_len]
  rw [e1, e2, bl_ofL, numOf_beB W n h0 hn]

end Go.Proofs.YtobcjbpgeohbgaaGreatDoor
