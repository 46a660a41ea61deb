
/-
  Layer 24 (request): awake, and what comes back. The statement RequestBack. No condition.
-/
import Derived.Test.YtobcjbpgeohbgaaGreatDoorRequest4
namespace Go.Proofs.YtobcjbpgeohbgaaGreatDoor
open Go.RowKit
set_option linter.unusedVariables false

theorem rqL_pos (x : Rq) : ∀ k, k ≤ 6 → (rqL x k).length = pos k
  | 0, _ => rfl
  | k + 1, h => by
    unfold rqL
    rw [List.length_append, beB_len, rqL_pos x k (by omega), pos_succ k (by omega)]
theorem rqL_pre (x : Rq) (j : Nat) : ∀ n, ∃ t, rqL x (j + n) = rqL x j ++ t
  | 0 => ⟨[], by simp⟩
  | n + 1 => by
    obtain ⟨t, ht⟩ := rqL_pre x j n
    refine ⟨t ++ beB (fld x (j + n) + sft (j + n)) (wd (j + n)).toNat, ?_⟩
    have e : rqL x (j + (n + 1)) = rqL x (j + n) ++ beB (fld x (j + n) + sft (j + n)) (wd (j + n)).toNat := rfl
    rw [e, ht, List.append_assoc]
theorem rqL_seg (x : Rq) (k : Nat) (h : k < 6) : ((rqL x 6).drop (pos k)).take (pos (k + 1) - pos k) = beB (fld x k + sft k) (wd k).toNat := by
  obtain ⟨t, ht⟩ := rqL_pre x (k + 1) (5 - k)
  have e : k + 1 + (5 - k) = 6 := by omega
  rw [e] at ht
  have hs : rqL x (k + 1) = rqL x k ++ beB (fld x k + sft k) (wd k).toNat := rfl
  have hp := pos_succ k h
  rw [ht, hs, List.append_assoc, List.drop_append_of_le_length (by rw [rqL_pos x k (by omega)]; exact Nat.le_refl _), ← rqL_pos x k (by omega), List.drop_length, List.nil_append]
  have hw : pos (k + 1) - (rqL x k).length = (beB (fld x k + sft k) (wd k).toNat).length := by rw [rqL_pos x k (by omega), beB_len]; omega
  rw [hw, List.take_left]
theorem decF_back {x : Rq} (h : rqOk x = true) (k : Nat) (hk : k < 6) : decF (ofL (rqL x 6)) k = fld x k := by
  unfold decF
  rw [bl_extract, bl_ofL, rqL_seg x k hk]
  obtain ⟨W, e, h1, h6, h0, hn⟩ := numOk_ok (part_num h k hk)
  rw [e, Int.toNat_natCast, numOf_beB W _ h0 hn]
  omega
theorem get_put {x : Rq} (h : rqOk x = true) : getB (ofL (rqL x 6)) = ⟨x, 0⟩ ∧ (ofL (rqL x 6)).size = 17 := by
  have hsz : (ofL (rqL x 6)).size = 17 := by rw [← bl_len, bl_ofL, rqL_pos x 6 (Nat.le_refl _)]; rfl
  have hd : dec (ofL (rqL x 6)) = x := by
    unfold dec decK
    rw [decF_back h 0 (by omega), decF_back h 1 (by omega), decF_back h 2 (by omega), decF_back h 3 (by omega), decF_back h 4 (by omega), decF_back h 5 (by omega)]
    rfl
  refine ⟨?_, hsz⟩
  rw [getB, if_neg (by rw [hsz]; omega), hd, if_neg (by rw [hsz, h]; simp)]
theorem dec_fld (s : ByteArray) (k : Nat) (h : k < 6) : fld (dec s) k = decF s k := by
  rcases lt6 h with rfl | rfl | rfl | rfl | rfl | rfl <;> rfl
theorem rqL_dec (s : ByteArray) (hs : s.size = 17) : ∀ k, k ≤ 6 → rqL (dec s) k = (bl s).take (pos k)
  | 0, _ => rfl
  | k + 1, h => by
    have hp := pos_succ k (by omega)
    have hl := pos_le k (by omega)
    unfold rqL
    rw [rqL_dec s hs k (by omega), dec_fld s k (by omega)]
    have e1 : decF s k + sft k = numOf (bl (s.extract (pos k) (pos (k + 1)))) := by unfold decF; omega
    have e2 : (bl (s.extract (pos k) (pos (k + 1)))).length = (wd k).toNat := by rw [bl_len, ByteArray.size_extract]; omega
    rw [e1, ← e2, beB_numOf, bl_extract, hp, Nat.add_sub_cancel_left, List.take_add]
theorem put_get {s : ByteArray} {y : Rq} (h : getB s = ⟨y, 0⟩) : rqOk y = true ∧ ofL (rqL y 6) = s := by
  unfold getB at h
  by_cases h1 : s.size < 17
  · rw [if_pos h1] at h
    exact absurd (show (3 : Int) = 0 from congrArg Gt.err h) (by decide)
  · rw [if_neg h1] at h
    by_cases h2 : 17 < s.size ∨ rqOk (dec s) = false
    · rw [if_pos h2] at h
      exact absurd (show (2 : Int) = 0 from congrArg Gt.err h) (by decide)
    · rw [if_neg h2] at h
      have hy : dec s = y := congrArg Gt.r h
      have hs : s.size = 17 := by omega
      have hk : rqOk (dec s) = true := by
        cases hb : rqOk (dec s) with
        | true => rfl
        | false => exact absurd (.inr hb) h2
      rw [← hy]
      refine ⟨hk, ?_⟩
      rw [rqL_dec s hs 6 (Nat.le_refl _), List.take_of_length_le (by rw [bl_len, hs]; decide), ofL_bl]
theorem getB_err (s : ByteArray) : (getB s).err = 0 ∨ (getB s).err = 2 ∨ (getB s).err = 3 := by
  unfold getB
  split
  · exact .inr (.inr rfl)
  · split
    · exact .inr (.inl rfl)
    · exact .inl rfl

/-! ### awake -/
abbrev rq0 : Rq := ⟨5, -1, 2, 3, 40, 7⟩
end Go.Proofs.YtobcjbpgeohbgaaGreatDoor
