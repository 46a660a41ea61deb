
/-
  Layer 2 (octet): Put, Number and Take, in the forms that callers take.
-/
import Derived.Test.YtobcjbpgeohbgaaDoorOctet3
namespace Go.Proofs.YtobcjbpgeohbgaaDoor
open Go.RowKit
set_option linter.unusedVariables false

theorem put_yes (s : ByteArray) (n width : Int) (w : World) (hs : s.size ≤ 2147483648) (h : numOk n width = true) : Calls Tryd.prog 23 #[.string s, .int .i64 n, .int .i64 width] w fun e w' => e = .returned (.tuple #[.string (ofL (bl s ++ beB n width.toNat)), .int .i64 0]) ∧ Below w.heap.size w w' := by
  have := put_any s n width w hs
  unfold putV at this
  rwa [h, if_pos rfl] at this
theorem put_no (s : ByteArray) (n width : Int) (w : World) (hs : s.size ≤ 2147483648) (h : numOk n width = false) : Calls Tryd.prog 23 #[.string s, .int .i64 n, .int .i64 width] w fun e w' => e = .returned (.tuple #[.string ⟨#[]⟩, .int .i64 1]) ∧ Below w.heap.size w w' := by
  have := put_any s n width w hs
  unfold putV at this
  rwa [h, if_neg (by decide)] at this
def numS (n width : Int) : ByteArray := if ¬ (1 ≤ width ∧ width ≤ 6) ∨ n < 0 then ⟨#[]⟩ else ofL (beB n width.toNat)
theorem take_enc {n width : Int} (L : List UInt8) (h : numOk n width = true) : takeB (ofL (beB n width.toNat ++ L)) width = ⟨n, 0, ofL L⟩ := by
  obtain ⟨W, rfl, h1, h6, h0, hn⟩ := numOk_ok h
  have hsz : (ofL (beB n W ++ L)).size = W + L.length := by rw [← bl_len, bl_ofL, List.length_append, beB_len]
  simp only [Int.toNat_natCast]
  unfold takeB
  rw [if_pos ⟨by omega, by omega⟩, if_neg (by rw [hsz]; omega)]
  simp only [Int.toNat_natCast]
  have e1 : (ofL (beB n W ++ L)).extract 0 W = ofL (beB n W) := by
    rw [ByteArray.extract_mk]
    simp [beB_len]
  have e2 : (ofL (beB n W ++ L)).extract W (ofL (beB n W ++ L)).size = ofL L := by
    rw [hsz, ByteArray.extract_mk]
    simp [beB_len]
  rw [e1, e2, bl_ofL, numOf_beB W n h0 hn]

end Go.Proofs.YtobcjbpgeohbgaaDoor
