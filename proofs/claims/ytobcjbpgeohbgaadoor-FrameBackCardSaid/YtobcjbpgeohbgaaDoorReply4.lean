
/-
  Layer 25 (reply): the document's Get; codes and names; what comes back.
-/
import Derived.Test.YtobcjbpgeohbgaaDoorReply3
namespace Go.Proofs.YtobcjbpgeohbgaaDoor
open Go.RowKit
set_option linter.unusedVariables false

/-! ### What comes back -/
theorem rec7 {s : ByteArray} {x : Rp} (h : ∀ k, k < 7 → decN rw7 s k = rv x k) : decR s = x := by
  unfold decR
  rw [h 0 (by omega), h 1 (by omega), h 2 (by omega), h 3 (by omega), h 4 (by omega), h 5 (by omega), h 6 (by omega)]
  show (⟨x.id, x.frm, x.tto + 1 - 1, x.cod, x.thr, x.epo, x.tie⟩ : Rp) = x
  rw [Int.add_sub_cancel]
theorem get_putR {x : Rp} (h : rpOk x = true) : getR (ofL (encN rw7 (rv x) 7)) = ⟨x, 0⟩ ∧ (ofL (encN rw7 (rv x) 7)).size = 15 := by
  have hsz : (ofL (encN rw7 (rv x) 7)).size = 15 := by rw [← bl_len, bl_ofL, encN_len, pos7]
  have hd : decR (ofL (encN rw7 (rv x) 7)) = x := rec7 fun k hk => decN_encN rw7 (rv x) 7 k hk (rp_num h k hk).1 (rp_num h k hk).2
  refine ⟨?_, hsz⟩
  rw [getR, if_neg (by rw [hsz]; omega), hd, if_neg (by rw [hsz, h]; simp)]
theorem rv_dec (s : ByteArray) (k : Nat) (h : k < 7) : rv (decR s) k = decN rw7 s k := by
  rcases lt7R h with rfl | rfl | rfl | rfl | rfl | rfl | rfl
  · rfl
  · rfl
  · show decN rw7 s 2 - 1 + 1 = decN rw7 s 2; omega
  · rfl
  · rfl
  · rfl
  · rfl
theorem put_getR {s : ByteArray} {y : Rp} (h : getR s = ⟨y, 0⟩) : rpOk y = true ∧ ofL (encN rw7 (rv y) 7) = s := by
  unfold getR at h
  by_cases h1 : s.size < 15
  · rw [if_pos h1] at h
    exact absurd (show (3 : Int) = 0 from congrArg Gr.err h) (by decide)
  · rw [if_neg h1] at h
    by_cases h2 : 15 < s.size ∨ rpOk (decR s) = false
    · rw [if_pos h2] at h
      exact absurd (show (2 : Int) = 0 from congrArg Gr.err h) (by decide)
    · rw [if_neg h2] at h
      have hy : decR s = y := congrArg Gr.r h
      have hs : s.size = 15 := by omega
      have hk : rpOk (decR s) = true := by
        cases hb : rpOk (decR s) with
        | true => rfl
        | false => exact absurd (.inr hb) h2
      rw [← hy]
      refine ⟨hk, ?_⟩
      rw [encN_congr rw7 (rv (decR s)) (decN rw7 s) 7 (fun k hk => rv_dec s k hk), encN_decN rw7 s 7 (by rw [pos7]; omega), pos7, List.take_of_length_le (by rw [bl_len, hs]; decide), ofL_bl]
theorem getR_err (s : ByteArray) : (getR s).err = 0 ∨ (getR s).err = 2 ∨ (getR s).err = 3 := by
  unfold getR
  split
  · exact .inr (.inr rfl)
  · split
    · exact .inr (.inl rfl)
    · exact .inl rfl
theorem putR_le (x : Rp) : (putR x).size ≤ 2147483648 := by
  unfold putR
  split
  · rw [← bl_len, bl_ofL, encN_len, pos7]; decide
  · decide
theorem back_factsR (body : ByteArray) : (getR body).err = 0 ∧ errR (getR body).r = 0 ∧ putR (getR body).r = body ∨ ((getR body).err != 0) = true := by
  rcases getR_err body with h | h | h
  · refine .inl ⟨h, ?_⟩
    have e : getR body = ⟨(getR body).r, 0⟩ := by
      rw [← h]
    obtain ⟨h1, h2⟩ := put_getR e
    exact ⟨errR_yes h1, by unfold putR; rw [if_pos h1]; exact h2⟩
  · exact .inr (by rw [h]; rfl)
  · exact .inr (by rw [h]; rfl)
end Go.Proofs.YtobcjbpgeohbgaaDoor
