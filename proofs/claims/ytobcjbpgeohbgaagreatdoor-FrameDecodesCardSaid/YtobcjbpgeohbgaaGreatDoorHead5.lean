
/-
  Layer 23 (head): a frame comes back; awake; the statements HeadPuts and HeadGets. No condition.
-/
import Derived.Test.YtobcjbpgeohbgaaGreatDoorHead4
namespace Go.Proofs.YtobcjbpgeohbgaaGreatDoor
open Go.RowKit
set_option linter.unusedVariables false

theorem bl_app (a b : ByteArray) : bl (a ++ b) = bl a ++ bl b := by
  have h := append_ofL a (bl b)
  rw [ofL_bl] at h
  rw [h, bl_ofL]
theorem hdL_len (k : Int) (body : ByteArray) : (hdL k body).length = 4 + body.size := by
  unfold hdL
  rw [List.length_append, bl_len]
  rfl
theorem sealL_len (l : List UInt8) : (sealL l).length = l.length + 2 := by
  unfold sealL
  rw [List.length_append, beB_len]
theorem frS_size (k : Int) (body : ByteArray) : (frS k body).size = 6 + body.size := by
  unfold frS
  rw [← bl_len, bl_ofL, sealL_len, hdL_len]
  omega
theorem fr_bl (k : Int) (body more : ByteArray) : bl (frS k body ++ more) = 183 :: 1 :: byteOf k :: byteOf (body.size : Int) :: (bl body ++ (beB (crcN (hdL k body) : Nat) 2 ++ bl more)) := by
  rw [bl_app]
  unfold frS
  rw [bl_ofL]
  unfold sealL hdL
  simp
theorem first_back (k : Int) (body more : ByteArray) (hk : 1 ≤ k ∧ k ≤ 3) (hb : body.size ≤ 200) : firstB (frS k body ++ more) = ⟨k, body, ((frS k body).size : Int), 0⟩ := by
  have hbl := fr_bl k body more
  have hsz : (frS k body ++ more).size = 6 + body.size + more.size := by
    rw [← bl_len, bl_app, List.length_append, bl_len, bl_len, frS_size]
  have c0 : sb (frS k body ++ more) 0 = 183 := by unfold sb; rw [hbl]; rfl
  have c1 : sb (frS k body ++ more) 1 = 1 := by unfold sb; rw [hbl]; rfl
  have c2 : ((sb (frS k body ++ more) 2 : Nat) : Int) = k := by
    unfold sb
    rw [hbl]
    show ((byteOf k).toNat : Int) = k
    rw [byteOf_toNat]
    omega
  have c3 : sb (frS k body ++ more) 3 = body.size := by
    unfold sb
    rw [hbl]
    have : ((byteOf (body.size : Int)).toNat : Int) = (body.size : Int) := by rw [byteOf_toNat]; omega
    show (byteOf (body.size : Int)).toNat = body.size
    omega
  have e1 : (frS k body ++ more).extract 0 (6 + body.size) = frS k body := by
    rw [← ofL_bl ((frS k body ++ more).extract 0 (6 + body.size)), bl_extract, bl_app, List.drop_zero, Nat.sub_zero, ← frS_size k body, ← bl_len, List.take_left, ofL_bl]
  have e2 : (frS k body ++ more).extract 4 (4 + body.size) = body := by
    rw [← ofL_bl ((frS k body ++ more).extract 4 (4 + body.size)), bl_extract, hbl, Nat.add_sub_cancel_left]
    show ofL ((bl body ++ (beB (crcN (hdL k body) : Nat) 2 ++ bl more)).take body.size) = body
    rw [← bl_len body, List.take_left, ofL_bl]
  have ho : (openB (frS k body)).err = 0 := by
    have := open_seal (ofL (hdL k body))
    rw [bl_ofL] at this
    unfold frS
    rw [this]
  have hw : wrongN (frS k body ++ more) = 0 := by
    rcases wrong_cases (frS k body ++ more) with ⟨⟨k0, k1⟩, h⟩ | ⟨⟨k0, k1, k2⟩, h⟩ | ⟨⟨k0, k1, k2, k3⟩, h⟩ | ⟨⟨k0, k1, k2, k3, k4, k5⟩, h⟩ | ⟨⟨k0, k1⟩, h⟩ | ⟨_, h⟩
    · exact absurd c0 k1
    · exact absurd c1 k2
    · omega
    · omega
    · omega
    · exact h
  unfold firstB
  rw [if_neg (fun c => c hw), c3, if_neg (by omega), e1, e2, c2, frS_size]
  rw [if_neg (by rw [ho]; decide)]
theorem get_back (k : Int) (body : ByteArray) (hk : 1 ≤ k ∧ k ≤ 3) (hb : body.size ≤ 200) : getH (frS k body) = ⟨k, body, 0⟩ := by
  have h := first_back k body ⟨#[]⟩ hk hb
  have e : frS k body ++ ⟨#[]⟩ = frS k body := by
    rw [← ofL_bl (frS k body ++ ⟨#[]⟩), bl_app]
    show ofL (bl (frS k body) ++ []) = _
    rw [List.append_nil, ofL_bl]
  rw [e] at h
  unfold getH
  rw [h]
  simp
theorem hg_eq (x y : Hg) (h : x.kind = y.kind ∧ x.body = y.body ∧ x.err = y.err) : x = y := by
  obtain ⟨a, b, c⟩ := x
  obtain ⟨d, e, f⟩ := y
  obtain ⟨rfl, rfl, rfl⟩ := h
  rfl
theorem getH_short : getH ⟨#[183, 1]⟩ = ⟨0, ⟨#[]⟩, 3⟩ := hg_eq _ _ (by decide +kernel)
theorem getH_form : getH ⟨#[183, 2]⟩ = ⟨0, ⟨#[]⟩, 2⟩ := hg_eq _ _ (by decide +kernel)
theorem ab_put : hpE 2 ⟨#[97, 98]⟩ = 0 ∧ hpS 2 ⟨#[97, 98]⟩ = frS 2 ⟨#[97, 98]⟩ := ⟨by decide, by unfold hpS; rw [if_pos (by decide)]⟩
theorem ab_size : ((frS 2 ⟨#[97, 98]⟩).size : Int) = 8 := by rw [frS_size]; rfl
end Go.Proofs.YtobcjbpgeohbgaaGreatDoor
