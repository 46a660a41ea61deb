/-
  Layer 23 (head): frames, in plain; Len, isKind, Put, and the document's Put.
-/
import Derived.Test.YtobcjbpgeohbgaaGreatDoorCrc3
namespace Go.Proofs.YtobcjbpgeohbgaaGreatDoor
open Go.RowKit
set_option linter.unusedVariables false

theorem len_any (n : Int) (w : World) : Calls Tryz.prog 61 #[.int .i64 n] w fun e w' => e = .returned (.int .i64 (if n < 0 ∨ 200 < n then 0 else 6 + n)) ∧ w = w' := by
  by_cases h : n < 0
  · rw [if_pos (.inl h)]
    go_enter Tryz.func61, Tryz.ntmps61
    go_wp2
    go_ret
    exact ⟨rfl, rfl⟩
  · by_cases h2 : 200 < n
    · rw [if_pos (.inr h2)]
      go_enter Tryz.func61, Tryz.ntmps61
      go_wp2
      go_ret
      exact ⟨rfl, rfl⟩
    · rw [if_neg (by omega)]
      go_enter Tryz.func61, Tryz.ntmps61
      go_wp2
      go_ret
      exact ⟨ret_int (by omega), rfl⟩
theorem len_is (n r : Int) (h : (if n < 0 ∨ 200 < n then 0 else 6 + n) = r) (w : World) : Calls Tryz.prog 61 #[.int .i64 n] w fun e w' => e = .returned (.int .i64 r) ∧ w = w' := by
  subst h
  exact len_any n w
theorem kind_any (k : Int) (w : World) : Calls Tryz.prog 51 #[.int .i64 k] w fun e w' => e = .returned (.bool (decide (1 ≤ k ∧ k ≤ 3))) ∧ w = w' := by
  go_enter Tryz.func51, Tryz.ntmps51
  go_wp2
  all_goals
    go_ret
    exact ⟨ret_bool (by simp; try omega), rfl⟩
theorem kind_is (k : Int) (r : Bool) (h : decide (1 ≤ k ∧ k ≤ 3) = r) (w : World) : Calls Tryz.prog 51 #[.int .i64 k] w fun e w' => e = .returned (.bool r) ∧ w = w' := by
  subst h
  exact kind_any k w
/-- The first bytes of a frame, and its body. -/
def hdL (k : Int) (body : ByteArray) : List UInt8 := [183, 1, byteOf k, byteOf (body.size : Int)] ++ bl body
def frS (k : Int) (body : ByteArray) : ByteArray := ofL (sealL (hdL k body))
/-- What Put comes to. -/
def hpE (k : Int) (body : ByteArray) : Int := if ¬ (1 ≤ k ∧ k ≤ 3) then 5 else if 200 < body.size then 9 else 0
def hpS (k : Int) (body : ByteArray) : ByteArray := if hpE k body = 0 then frS k body else ⟨#[]⟩
set_option maxRecDepth 100000 in
set_option maxHeartbeats 1000000 in
theorem hput_any (k : Int) (body : ByteArray) (w : World) (hs : body.size ≤ 2147483000) : Calls Tryz.prog 28 #[.int .i64 k, .string body] w fun e w' => e = .returned (.tuple #[.string (hpS k body), .int .i64 (hpE k body)]) ∧ Below w.heap.size w w' := by
  by_cases hk : 1 ≤ k ∧ k ≤ 3
  · by_cases hl : 200 < body.size
    · have e1 : hpE k body = 9 := by unfold hpE; rw [if_neg (fun c => c hk), if_pos hl]
      have e2 : hpS k body = ⟨#[]⟩ := by unfold hpS; rw [e1]; rfl
      rw [e1, e2]
      have hi : (200 : Int) < (body.size : Int) := by omega
      have HK := Lib.hid (fun w => kind_is k true (by simpa using hk) w)
      go_enter Tryz.func28, Tryz.ntmps28
      go_wp2_with (go_at_call 51; (with_reducible refine (HK.out _).mono ?_); rintro e w' ⟨rfl, rfl⟩)
      go_returns
      exact ⟨rfl, Below.refl _ _⟩
    · have e1 : hpE k body = 0 := by unfold hpE; rw [if_neg (fun c => c hk), if_neg hl]
      have e2 : hpS k body = frS k body := by unfold hpS; rw [e1]; rfl
      rw [e1, e2]
      have hi : ¬ (200 : Int) < (body.size : Int) := by omega
      have HK := Lib.hid (fun w => kind_is k true (by simpa using hk) w)
      have b1 := byteOf_toNat k
      have b2 := byteOf_toNat (body.size : Int)
      rw [show k % 256 = k by omega] at b1
      rw [show (body.size : Int) % 256 = (body.size : Int) by omega] at b2
      have hO := IsObj.new w 5 ([183, 1, byteOf k, byteOf (body.size : Int)].map byV)
      have hstr := isobj_string (src := 93) (dst := 9) (n := 4) [183, 1, byteOf k, byteOf (body.size : Int)] hO rfl Tryz.underlying93 Tryz.underlying5 Tryz.underlying9
      have happ := append_ofL (ofL [183, 1, byteOf k, byteOf (body.size : Int)]) (bl body)
      rw [bl_ofL, ofL_bl] at happ
      have S := fun w => seal_any (ofL (hdL k body)) w (by rw [← bl_len, bl_ofL]; unfold hdL; rw [List.length_append, bl_len]; simp; omega)
      rw [bl_ofL] at S
      have HS := Lib.hid S
      have HA := Lib.hid (show ofL [183, 1, byteOf k, byteOf (body.size : Int)] ++ body = ofL (hdL k body) from happ)
      have hsz : (ofL [183, 1, byteOf k, byteOf (body.size : Int)]).size = 4 := by rw [← bl_len, bl_ofL]; rfl
      unfold frS
      have n1 : (((183 : UInt8).toNat : Nat) : Int) = 183 := rfl
      have n2 : (((1 : UInt8).toNat : Nat) : Int) = 1 := rfl
      simp only [List.map_cons, List.map_nil, byV, b1, b2, n1, n2] at hstr
      clear b1 b2 n1 n2
      clear S happ hO
      generalize hq : ofL [183, 1, byteOf k, byteOf (body.size : Int)] = pre at *
      generalize ofL (hdL k body) = whole at *
      generalize ofL (sealL (hdL k body)) = sealed at *
      clear hq
      go_enter Tryz.func28, Tryz.ntmps28
      go_wp2_with (first | (go_at_call 51; (with_reducible refine (HK.out _).mono ?_); rintro e w' ⟨rfl, rfl⟩) | (go_at_call 52; rw [HA.out]; refine (HS.out _).mono ?_; rintro e w1 ⟨rfl, hb1⟩))
      go_returns
      exact ⟨rfl, ((Below.refl _ _).alloc (Nat.le_refl _) _).trans (hb1.mono (by simp))⟩
  · have e1 : hpE k body = 5 := by unfold hpE; rw [if_pos hk]
    have e2 : hpS k body = ⟨#[]⟩ := by unfold hpS; rw [e1]; rfl
    rw [e1, e2]
    have HK := Lib.hid (fun w => kind_is k false (by simpa using hk) w)
    go_enter Tryz.func28, Tryz.ntmps28
    go_wp2_with (go_at_call 51; (with_reducible refine (HK.out _).mono ?_); rintro e w' ⟨rfl, rfl⟩)
    go_returns
    exact ⟨rfl, Below.refl _ _⟩
set_option maxRecDepth 100000 in
set_option maxHeartbeats 1000000 in
theorem rhput_any (k : Int) (body : ByteArray) (w : World) (hs : body.size ≤ 2147483000) : Calls Tryz.prog 31 #[.int .i64 k, .string body] w fun e w' => e = .returned (.tuple #[.string (hpS k body), .int .i64 (hpE k body)]) ∧ Below w.heap.size w w' := by
  by_cases hk : 1 ≤ k ∧ k ≤ 3
  · by_cases hl : 200 < body.size
    · have e1 : hpE k body = 9 := by unfold hpE; rw [if_neg (fun c => c hk), if_pos hl]
      have e2 : hpS k body = ⟨#[]⟩ := by unfold hpS; rw [e1]; rfl
      rw [e1, e2]
      have hi : (200 : Int) < (body.size : Int) := by omega
      obtain ⟨k1, k3⟩ := hk
      go_enter Tryz.func31, Tryz.ntmps31
      go_wp2
      go_returns
      exact ⟨rfl, Below.refl _ _⟩
    · have e1 : hpE k body = 0 := by unfold hpE; rw [if_neg (fun c => c hk), if_neg hl]
      have e2 : hpS k body = frS k body := by unfold hpS; rw [e1]; rfl
      rw [e1, e2]
      have hi : ¬ (200 : Int) < (body.size : Int) := by omega
      obtain ⟨k1, k3⟩ := hk
      have b1 := byteOf_toNat k
      have b2 := byteOf_toNat (body.size : Int)
      rw [show k % 256 = k by omega] at b1
      rw [show (body.size : Int) % 256 = (body.size : Int) by omega] at b2
      have hO := IsObj.new w 5 ([183, 1, byteOf k, byteOf (body.size : Int)].map byV)
      have hstr := isobj_string (src := 93) (dst := 9) (n := 4) [183, 1, byteOf k, byteOf (body.size : Int)] hO rfl Tryz.underlying93 Tryz.underlying5 Tryz.underlying9
      have happ := append_ofL (ofL [183, 1, byteOf k, byteOf (body.size : Int)]) (bl body)
      rw [bl_ofL, ofL_bl] at happ
      have S := fun w => rseal_any (ofL (hdL k body)) w (by rw [← bl_len, bl_ofL]; unfold hdL; rw [List.length_append, bl_len]; simp; omega)
      rw [bl_ofL] at S
      have HS := Lib.hid S
      have HA := Lib.hid (show ofL [183, 1, byteOf k, byteOf (body.size : Int)] ++ body = ofL (hdL k body) from happ)
      have hsz : (ofL [183, 1, byteOf k, byteOf (body.size : Int)]).size = 4 := by rw [← bl_len, bl_ofL]; rfl
      unfold frS
      have n1 : (((183 : UInt8).toNat : Nat) : Int) = 183 := rfl
      have n2 : (((1 : UInt8).toNat : Nat) : Int) = 1 := rfl
      simp only [List.map_cons, List.map_nil, byV, b1, b2, n1, n2] at hstr
      clear b1 b2 n1 n2
      clear S happ hO
      generalize hq : ofL [183, 1, byteOf k, byteOf (body.size : Int)] = pre at *
      generalize ofL (hdL k body) = whole at *
      generalize ofL (sealL (hdL k body)) = sealed at *
      clear hq
      go_enter Tryz.func31, Tryz.ntmps31
      go_wp2_with ((go_at_call 56; rw [HA.out]; refine (HS.out _).mono ?_; rintro e w1 ⟨rfl, hb1⟩))
      go_returns
      exact ⟨rfl, ((Below.refl _ _).alloc (Nat.le_refl _) _).trans (hb1.mono (by simp))⟩
  · have e1 : hpE k body = 5 := by unfold hpE; rw [if_pos hk]
    have e2 : hpS k body = ⟨#[]⟩ := by unfold hpS; rw [e1]; rfl
    rw [e1, e2]
    have hk2 : k < 1 ∨ (1 ≤ k ∧ 3 < k) := by omega
    clear hk
    rcases hk2 with k1 | ⟨k1, k3⟩
    all_goals
      go_enter Tryz.func31, Tryz.ntmps31
      go_wp2
      go_returns
      exact ⟨rfl, Below.refl _ _⟩
end Go.Proofs.YtobcjbpgeohbgaaGreatDoor
