
/-
  Layer 26 (push): what comes back; Later; awake.
-/
import Derived.Test.YtobcjbpgeohbgaaGreatDoorPush5
namespace Go.Proofs.YtobcjbpgeohbgaaGreatDoor
open Go.RowKit
set_option linter.unusedVariables false

theorem pw256 (x : Ps) (h : psOk x = true) (k : Nat) (hk : k < 9) : 0 ≤ pf x k ∧ pf x k < 256 ^ pw k := by
  have := ((psOk_iff x).1 h).2 k hk
  simp only [numOk, decide_eq_true_eq, Int.toNat_natCast] at this
  exact ⟨this.2.1, this.2.2⟩
theorem get_putP {x : Ps} (h : psOk x = true) : getP (ofL (encN pw (pf x) 9)) = ⟨x, 0⟩ ∧ (ofL (encN pw (pf x) 9)).size = 14 := by
  have hsz : (ofL (encN pw (pf x) 9)).size = 14 := by rw [← bl_len, bl_ofL, encN_len, pos9]
  have hk := fun k hk => decN_encN pw (pf x) 9 k hk (pw256 x h k hk).1 (pw256 x h k hk).2
  have hd : decP (ofL (encN pw (pf x) 9)) 9 = x := by
    unfold decP
    rw [hk 0 (by omega), hk 1 (by omega), hk 2 (by omega), hk 3 (by omega), hk 4 (by omega), hk 5 (by omega), hk 6 (by omega), hk 7 (by omega), hk 8 (by omega)]
    rfl
  refine ⟨?_, hsz⟩
  rw [getP, if_neg (by rw [hsz]; omega), hd, if_neg (by rw [hsz, h]; simp)]
theorem put_getP {s : ByteArray} {y : Ps} (h : getP s = ⟨y, 0⟩) : psOk y = true ∧ ofL (encN pw (pf y) 9) = s := by
  unfold getP at h
  by_cases h1 : s.size < 14
  · rw [if_pos h1] at h
    exact absurd (show (3 : Int) = 0 from congrArg Gp.err h) (by decide)
  · rw [if_neg h1] at h
    by_cases h2 : 14 < s.size ∨ psOk (decP s 9) = false
    · rw [if_pos h2] at h
      exact absurd (show (2 : Int) = 0 from congrArg Gp.err h) (by decide)
    · rw [if_neg h2] at h
      have hy : decP s 9 = y := congrArg Gp.r h
      have hs : s.size = 14 := by omega
      have hk : psOk (decP s 9) = true := by
        cases hb : psOk (decP s 9) with
        | true => rfl
        | false => exact absurd (.inr hb) h2
      rw [← hy]
      refine ⟨hk, ?_⟩
      rw [encN_congr pw (pf (decP s 9)) (decN pw s) 9 (fun k hk => decP_fld s k hk), encN_decN pw s 9 (by rw [pos9]; omega), pos9, List.take_of_length_le (by rw [bl_len, hs]; decide), ofL_bl]
theorem getP_err (s : ByteArray) : (getP s).err = 0 ∨ (getP s).err = 2 ∨ (getP s).err = 3 := by
  unfold getP
  split
  · exact .inr (.inr rfl)
  · split
    · exact .inr (.inl rfl)
    · exact .inl rfl
theorem putP_le (x : Ps) : (putP x).size ≤ 2147483648 := by
  unfold putP
  split
  · rw [← bl_len, bl_ofL, encN_len, pos9]; decide
  · decide
/-- The second half of the law: what of the body comes. -/
theorem back_factsP (body : ByteArray) : (getP body).err = 0 ∧ errP (getP body).r = 0 ∧ putP (getP body).r = body ∨ ((getP body).err != 0) = true := by
  rcases getP_err body with h | h | h
  · refine .inl ⟨h, ?_⟩
    have e : getP body = ⟨(getP body).r, 0⟩ := by
      rw [← h]
    obtain ⟨h1, h2⟩ := put_getP e
    exact ⟨errP_yes h1, by unfold putP; rw [if_pos h1]; exact h2⟩
  · exact .inr (by rw [h]; rfl)
  · exact .inr (by rw [h]; rfl)

/-! ### awake -/
abbrev ps0 : Ps := ⟨2, 7, 1, 4, 10, 5, 1, 3, 2⟩
end Go.Proofs.YtobcjbpgeohbgaaGreatDoor
