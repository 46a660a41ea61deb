/-
  Layer 26 (push): what comes back; Later; awake.
-/
import Derived.Test.YtmohgbnfhpffjaaDoorPush5
namespace Go.Proofs.YtmohgbnfhpffjaaDoor
open Go.RowKit
set_option linter.unusedVariables false

theorem pw256 (x : Ps) (h : psOk x = true) (k : Nat) (hk : k < 9) : 0 ≤ pf x k ∧ pf x k < 256 ^ pw k := by
  have := ((psOk_iff x).1 h).2 k hk
  simp only [numOk, decide_eq_true_eq, Int.toNat_natCast] at this
  exact ⟨this.2.1, this.2.2⟩
theorem get_putP {x : Ps} (h : psOk x = true) : getP (ofL (encN pw (pf x) 9)) = ⟨x, 0⟩ ∧ (ofL (encN pw (pf x) 9)).size = 14 := by
  have hsz : (ofL (encN pw (pf x) 9)).size = 14 := by rw [← bl_len, bl_ofL, encN_len, pos9]
  have hk := fun k hk => decN_encN pw (pf x) 9 k hk (pw256 x h k hk).1 (pw256 x h k hk).2
  have hd : decP (ofL (encN pw (pf x) 9)) 9 = x := by
    unfold decP
    rw [hk 0 (by omega), hk 1 (by omega), hk 2 (by omega), hk 3 (by omega), hk 4 (by omega), hk 5 (by omega), hk 6 (by omega), hk 7 (by omega), hk 8 (by omega)]
    rfl
  refine ⟨?_, hsz⟩
  rw [getP, if_neg (by rw [hsz]; omega), hd, if_neg (by rw [hsz, h]; simp)]
theorem put_getP {s : ByteArray} {y : Ps} (h : getP s = ⟨y, 0⟩) : psOk y = true ∧ ofL (encN pw (pf y) 9) = s := by
  unfold getP at h
  by_cases h1 : s.size < 14
  · rw [if_pos h1] at h
    exact absurd (show (3 : Int) = 0 from congrArg Gp.err h) (by decide)
  · rw [if_neg h1] at h
    by_cases h2 : 14 < s.size ∨ psOk (decP s 9) = false
    · rw [if_pos h2] at h
      exact absurd (show (2 : Int) = 0 from congrArg Gp.err h) (by decide)
    · rw [if_neg h2] at h
      have hy : decP s 9 = y := congrArg Gp.r h
      have hs : s.size = 14 := by omega
      have hk : psOk (decP s 9) = true := by
        cases hb : psOk (decP s 9) with
        | true => rfl
        | false => exact absurd (.inr hb) h2
      rw [← hy]
      refine ⟨hk, ?_⟩
      rw [encN_congr pw (pf (decP s 9)) (decN pw s) 9 (fun k hk => decP_fld s k hk), encN_decN pw s 9 (by rw [pos9]; omega), pos9, List.take_of_length_le (by rw [bl_len, hs]; decide), ofL_bl]
theorem getP_err (s : ByteArray) : (getP s).err = 0 ∨ (getP s).err = 2 ∨ (getP s).err = 3 := by
  unfold getP
  split
  · exact .inr (.inr rfl)
  · split
    · exact .inr (.inl rfl)
    · exact .inl rfl
theorem putP_le (x : Ps) : (putP x).size ≤ 2147483648 := by
  unfold putP
  split
  · rw [← bl_len, bl_ofL, encN_len, pos9]; decide
  · decide
/-- The second half of the law: what of the body comes. -/
theorem back_factsP (body : ByteArray) : (getP body).err = 0 ∧ errP (getP body).r = 0 ∧ putP (getP body).r = body ∨ ((getP body).err != 0) = true := by
  rcases getP_err body with h | h | h
  · refine .inl ⟨h, ?_⟩
    have e : getP body = ⟨(getP body).r, 0⟩ := by
      rw [← h]
    obtain ⟨h1, h2⟩ := put_getP e
    exact ⟨errP_yes h1, by unfold putP; rw [if_pos h1]; exact h2⟩
  · exact .inr (by rw [h]; rfl)
  · exact .inr (by rw [h]; rfl)

theorem later_any (x : Ps) (v : Int) (w : World) : Calls Tryd.prog 10 #[psV x, .int .i64 v] w fun e w' => e = .returned (.bool (decide (v < x.p1))) ∧ Below w.heap.size w w' := by
  go_enter Tryd.func10, Tryd.ntmps10
  go_wp2
  go_ret
  exact ⟨by simp, (Below.refl _ _).alloc (Nat.le_refl _) _⟩
theorem later_is (x : Ps) (v : Int) (r : Bool) (hr : decide (v < x.p1) = r) (w : World) : Calls Tryd.prog 10 #[psV x, .int .i64 v] w fun e w' => e = .returned (.bool r) ∧ Below w.heap.size w w' := by
  subst hr
  exact later_any x v w

/-! ### awake -/
abbrev ps0 : Ps := ⟨2, 7, 1, 4, 10, 5, 1, 3, 2⟩
set_option maxRecDepth 100000 in
set_option maxHeartbeats 1000000 in
theorem awake26 (w : World) (hW : WdAt w) : Calls Tryd.prog 11 #[] w fun e w' => e = .returned (.bool true) ∧ Below w.heap.size w w' := by
  have k0 : psOk ps0 = true := by decide
  have l0 : encN pw (pf ps0) 9 = [2, 0, 0, 0, 7, 0, 1, 0, 4, 10, 5, 1, 3, 2] := by decide +kernel
  have g0 := (get_putP k0).1
  have P := fun w h => pput_ok ps0 w h k0
  have G := fun w h => pget_any (ofL (encN pw (pf ps0) 9)) w (by rw [l0]; decide) h
  rw [g0] at G
  rw [l0] at P G
  have HP := Lib.hid P
  have HG := Lib.hid G
  have hb0 : Below w.heap.size w (w.alloc (.cells (psCells ps0).toArray 25)) := (Below.refl _ _).alloc (Nat.le_refl _) _
  have HW0 := Lib.hid (hW.same hb0)
  have hB : PsAt (w.alloc (.cells (psCells ps0).toArray 25)) w.heap.size ps0 := IsObj.new w _ (psCells ps0)
  have HR0 := Lib.hid hB
  have HB0 := Lib.hid hb0
  clear k0 l0 g0 P G hW hB hb0
  go_enter Tryd.func11, Tryd.ntmps11
  go_wp2_with fail
  refine (HP.out _ HW0.out).mono ?_
  rintro e w1 ⟨rfl, hb1⟩
  have HR1 := Lib.hid (HR0.out.same hb1)
  have HW1 := Lib.hid (HW0.out.same hb1)
  have HB1 := Lib.hid (HB0.out.trans (hb1.mono HB0.out.size))
  clear hb1 HR0 HW0 HB0 HP
  go_wp2_with fail
  refine (HG.out _ HW1.out).mono ?_
  rintro e w2 ⟨rfl, hb2⟩
  have hR2 := HR1.out.same hb2
  have HB2 := Lib.hid (HB1.out.trans (hb2.mono HB1.out.size))
  have hsz := HB2.out.size
  obtain ⟨a0, a1, a2, a3, a4, a5, a6, a7, a8⟩ := hR2.nine
  have hA := cell_lt a0
  simp only at hA
  clear hb2 hR2 HR1 HW1 HB1 HG
  go_wp2_with (first | (go_at_call 10; (with_reducible refine (later_is ps0 6 true (by decide) _).mono ?_); rintro e w' ⟨rfl, hx⟩; obtain ⟨ux, rfl⟩ := ext_of hx; clear hx) | (go_at_call 10; (with_reducible refine (later_is ps0 7 false (by decide) _).mono ?_); rintro e w' ⟨rfl, hx⟩; obtain ⟨ux, rfl⟩ := ext_of hx; clear hx))
  go_ret
  exact ⟨rfl, below_ext _ (HB2.out.alloc hsz _) (by rw [alloc_size]; omega)⟩
end Go.Proofs.YtmohgbnfhpffjaaDoor
