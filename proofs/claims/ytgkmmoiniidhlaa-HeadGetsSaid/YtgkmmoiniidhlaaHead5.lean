/-
  Layer 23 (head): a frame comes back; awake; the statements HeadPuts and HeadGets. No condition.
-/
import Derived.Test.YtgkmmoiniidhlaaHead4
namespace Go.Proofs.Ytgkmmoiniidhlaa
open Go.RowKit
set_option linter.unusedVariables false

theorem bl_app (a b : ByteArray) : bl (a ++ b) = bl a ++ bl b := by
  have h := append_ofL a (bl b)
  rw [ofL_bl] at h
  rw [h, bl_ofL]
theorem hdL_len (k : Int) (body : ByteArray) : (hdL k body).length = 4 + body.size := by
  unfold hdL
  rw [List.length_append, bl_len]
  rfl
theorem sealL_len (l : List UInt8) : (sealL l).length = l.length + 2 := by
  unfold sealL
  rw [List.length_append, beB_len]
theorem frS_size (k : Int) (body : ByteArray) : (frS k body).size = 6 + body.size := by
  unfold frS
  rw [← bl_len, bl_ofL, sealL_len, hdL_len]
  omega
theorem fr_bl (k : Int) (body more : ByteArray) : bl (frS k body ++ more) = 183 :: 1 :: byteOf k :: byteOf (body.size : Int) :: (bl body ++ (beB (crcN (hdL k body) : Nat) 2 ++ bl more)) := by
  rw [bl_app]
  unfold frS
  rw [bl_ofL]
  unfold sealL hdL
  simp
theorem first_back (k : Int) (body more : ByteArray) (hk : 1 ≤ k ∧ k ≤ 3) (hb : body.size ≤ 200) : firstB (frS k body ++ more) = ⟨k, body, ((frS k body).size : Int), 0⟩ := by
  have hbl := fr_bl k body more
  have hsz : (frS k body ++ more).size = 6 + body.size + more.size := by
    rw [← bl_len, bl_app, List.length_append, bl_len, bl_len, frS_size]
  have c0 : sb (frS k body ++ more) 0 = 183 := by unfold sb; rw [hbl]; rfl
  have c1 : sb (frS k body ++ more) 1 = 1 := by unfold sb; rw [hbl]; rfl
  have c2 : ((sb (frS k body ++ more) 2 : Nat) : Int) = k := by
    unfold sb
    rw [hbl]
    show ((byteOf k).toNat : Int) = k
    rw [byteOf_toNat]
    omega
  have c3 : sb (frS k body ++ more) 3 = body.size := by
    unfold sb
    rw [hbl]
    have : ((byteOf (body.size : Int)).toNat : Int) = (body.size : Int) := by rw [byteOf_toNat]; omega
    show (byteOf (body.size : Int)).toNat = body.size
    omega
  have e1 : (frS k body ++ more).extract 0 (6 + body.size) = frS k body := by
    rw [← ofL_bl ((frS k body ++ more).extract 0 (6 + body.size)), bl_extract, bl_app, List.drop_zero, Nat.sub_zero, ← frS_size k body, ← bl_len, List.take_left, ofL_bl]
  have e2 : (frS k body ++ more).extract 4 (4 + body.size) = body := by
    rw [← ofL_bl ((frS k body ++ more).extract 4 (4 + body.size)), bl_extract, hbl, Nat.add_sub_cancel_left]
    show ofL ((bl body ++ (beB (crcN (hdL k body) : Nat) 2 ++ bl more)).take body.size) = body
    rw [← bl_len body, List.take_left, ofL_bl]
  have ho : (openB (frS k body)).err = 0 := by
    have := open_seal (ofL (hdL k body))
    rw [bl_ofL] at this
    unfold frS
    rw [this]
  have hw : wrongN (frS k body ++ more) = 0 := by
    rcases wrong_cases (frS k body ++ more) with ⟨⟨k0, k1⟩, h⟩ | ⟨⟨k0, k1, k2⟩, h⟩ | ⟨⟨k0, k1, k2, k3⟩, h⟩ | ⟨⟨k0, k1, k2, k3, k4, k5⟩, h⟩ | ⟨⟨k0, k1⟩, h⟩ | ⟨_, h⟩
    · exact absurd c0 k1
    · exact absurd c1 k2
    · omega
    · omega
    · omega
    · exact h
  unfold firstB
  rw [if_neg (fun c => c hw), c3, if_neg (by omega), e1, e2, c2, frS_size]
  rw [if_neg (by rw [ho]; decide)]
theorem get_back (k : Int) (body : ByteArray) (hk : 1 ≤ k ∧ k ≤ 3) (hb : body.size ≤ 200) : getH (frS k body) = ⟨k, body, 0⟩ := by
  have h := first_back k body ⟨#[]⟩ hk hb
  have e : frS k body ++ ⟨#[]⟩ = frS k body := by
    rw [← ofL_bl (frS k body ++ ⟨#[]⟩), bl_app]
    show ofL (bl (frS k body) ++ []) = _
    rw [List.append_nil, ofL_bl]
  rw [e] at h
  unfold getH
  rw [h]
  simp
theorem hg_eq (x y : Hg) (h : x.kind = y.kind ∧ x.body = y.body ∧ x.err = y.err) : x = y := by
  obtain ⟨a, b, c⟩ := x
  obtain ⟨d, e, f⟩ := y
  obtain ⟨rfl, rfl, rfl⟩ := h
  rfl
theorem getH_short : getH ⟨#[183, 1]⟩ = ⟨0, ⟨#[]⟩, 3⟩ := hg_eq _ _ (by decide +kernel)
theorem getH_form : getH ⟨#[183, 2]⟩ = ⟨0, ⟨#[]⟩, 2⟩ := hg_eq _ _ (by decide +kernel)
theorem ab_put : hpE 2 ⟨#[97, 98]⟩ = 0 ∧ hpS 2 ⟨#[97, 98]⟩ = frS 2 ⟨#[97, 98]⟩ := ⟨by decide, by unfold hpS; rw [if_pos (by decide)]⟩
theorem ab_size : ((frS 2 ⟨#[97, 98]⟩).size : Int) = 8 := by rw [frS_size]; rfl
set_option maxRecDepth 100000 in
set_option maxHeartbeats 1000000 in
theorem awake23 (w : World) : Calls Try.prog 29 #[] w fun e w' => e = .returned (.bool true) ∧ Below w.heap.size w w' := by
  have P := fun w => hput_any 2 ⟨#[97, 98]⟩ w (by decide)
  rw [ab_put.1, ab_put.2] at P
  have hsz := ab_size
  have G := fun w => hget_any (frS 2 ⟨#[97, 98]⟩) w (by rw [frS_size]; decide)
  rw [get_back 2 ⟨#[97, 98]⟩ (by omega) (by decide)] at G
  have G1 := fun w => hget_any ⟨#[183, 1]⟩ w (by decide)
  rw [getH_short] at G1
  have G2 := fun w => hget_any ⟨#[183, 2]⟩ w (by decide)
  rw [getH_form] at G2
  generalize frS 2 ⟨#[97, 98]⟩ = s at *
  have HP := Lib.hid P
  have HG := Lib.hid G
  have HG1 := Lib.hid G1
  have HG2 := Lib.hid G2
  have HL := Lib.hid (fun w => len_is 2 8 (by decide) w)
  clear P G G1 G2
  go_enter Try.func29, Try.ntmps29
  go_wp2_with (first | (go_at_call 30; (with_reducible refine (HP.out _).mono ?_); rintro e w' ⟨rfl, hx⟩; obtain ⟨ux, rfl⟩ := ext_of hx; clear hx) | (go_at_call 35; (with_reducible refine (HG.out _).mono ?_); rintro e w' ⟨rfl, hx⟩; obtain ⟨ux, rfl⟩ := ext_of hx; clear hx) | (go_at_call 35; (with_reducible refine (HG1.out _).mono ?_); rintro e w' ⟨rfl, hx⟩; obtain ⟨ux, rfl⟩ := ext_of hx; clear hx) | (go_at_call 35; (with_reducible refine (HG2.out _).mono ?_); rintro e w' ⟨rfl, hx⟩; obtain ⟨ux, rfl⟩ := ext_of hx; clear hx) | (go_at_call 32; (with_reducible refine (HL.out _).mono ?_); rintro e w' ⟨rfl, rfl⟩))
  go_ret
  exact ⟨rfl, below_ext _ (Below.refl _ _) (Nat.le_refl _)⟩

set_option maxRecDepth 100000 in
set_option maxHeartbeats 1000000 in
theorem hgets_walk (s : ByteArray) (w : World) : Calls Try.prog 7 #[.string s] w fun e w' => e = .returned (.bool true) ∧ Below w.heap.size w w' := by
  have HZ := Lib.hid awake23
  by_cases hl : 400 < s.size
  · have hd : decide ((400 : Int) < (s.size : Int)) = true := by simp; omega
    go_enter Try.func7, Try.ntmps7
    go_wp2_with (go_at_call 29; refine (HZ.out _).mono ?_; rintro e w1 ⟨rfl, hb⟩)
    go_ret
    exact ⟨rfl, hb⟩
  · have hd : decide ((400 : Int) < (s.size : Int)) = false := by simp; omega
    have F1 := fun w => hfirst_any s w (by omega)
    have F2 := fun w => rfirst_any s w (by omega)
    have F3 := fun w => hget_any s w (by omega)
    have F4 := fun w => rhget_any s w (by omega)
    generalize firstB s = f at *
    generalize getH s = g at *
    obtain ⟨f1, f2, f3, f4⟩ := f
    obtain ⟨g1, g2, g3⟩ := g
    have H1 := Lib.hid F1
    have H2 := Lib.hid F2
    have H3 := Lib.hid F3
    have H4 := Lib.hid F4
    clear F1 F2 F3 F4 hl
    go_enter Try.func7, Try.ntmps7
    go_wp2_with (first | (go_at_call 33; (with_reducible refine (H1.out _).mono ?_); rintro e w' ⟨rfl, hx⟩; obtain ⟨ux, rfl⟩ := ext_of hx; clear hx) | (go_at_call 34; (with_reducible refine (H2.out _).mono ?_); rintro e w' ⟨rfl, hx⟩; obtain ⟨ux, rfl⟩ := ext_of hx; clear hx) | (go_at_call 35; (with_reducible refine (H3.out _).mono ?_); rintro e w' ⟨rfl, hx⟩; obtain ⟨ux, rfl⟩ := ext_of hx; clear hx) | (go_at_call 36; (with_reducible refine (H4.out _).mono ?_); rintro e w' ⟨rfl, hx⟩; obtain ⟨ux, rfl⟩ := ext_of hx; clear hx) | (go_at_call 29; (with_reducible refine (HZ.out _).mono ?_); rintro e w' ⟨rfl, hx⟩; obtain ⟨ux, rfl⟩ := ext_of hx; clear hx))
    go_ret
    exact ⟨rfl, below_ext _ (Below.refl _ _) (Nat.le_refl _)⟩
set_option maxRecDepth 100000 in
set_option maxHeartbeats 1000000 in
theorem hputs_walk (k : Int) (body more : ByteArray) (w : World) : Calls Try.prog 6 #[.int .i64 k, .string body, .string more] w fun e w' => e = .returned (.bool true) ∧ Below w.heap.size w w' := by
  have HZ := Lib.hid awake23
  by_cases hl : 300 < body.size ∨ 100 < more.size
  · have hd : decide ((300 : Int) < (body.size : Int)) = true ∨ (decide ((300 : Int) < (body.size : Int)) = false ∧ decide ((100 : Int) < (more.size : Int)) = true) := by
      simp; omega
    rcases hd with hd | ⟨hd, hd2⟩
    all_goals
      go_enter Try.func6, Try.ntmps6
      go_wp2_with (go_at_call 29; refine (HZ.out _).mono ?_; rintro e w1 ⟨rfl, hb⟩)
      go_ret
      exact ⟨rfl, hb⟩
  · have hd : decide ((300 : Int) < (body.size : Int)) = false := by simp; omega
    have hd2 : decide ((100 : Int) < (more.size : Int)) = false := by simp; omega
    have HP1 := Lib.hid (fun w => hput_any k body w (by omega))
    have HP2 := Lib.hid (fun w => rhput_any k body w (by omega))
    by_cases hk : 1 ≤ k ∧ k ≤ 3
    · by_cases hb : 200 < body.size
      · have e1 : hpE k body = 9 := by unfold hpE; rw [if_neg (fun c => c hk), if_pos hb]
        have e2 : hpS k body = ⟨#[]⟩ := by unfold hpS; rw [e1]; rfl
        rw [e1, e2] at HP1 HP2
        have HL := Lib.hid (fun w => len_is (body.size : Int) 0 (by rw [if_pos (.inr (by omega))]) w)
        have i1 : ¬ (body.size : Int) ≤ 200 := by omega
        go_enter Try.func6, Try.ntmps6
        go_wp2_with (first | (go_at_call 30; (with_reducible refine (HP1.out _).mono ?_); rintro e w' ⟨rfl, hx⟩; obtain ⟨ux, rfl⟩ := ext_of hx; clear hx) | (go_at_call 31; (with_reducible refine (HP2.out _).mono ?_); rintro e w' ⟨rfl, hx⟩; obtain ⟨ux, rfl⟩ := ext_of hx; clear hx) | (go_at_call 32; (with_reducible refine (HL.out _).mono ?_); rintro e w' ⟨rfl, rfl⟩) | (go_at_call 29; (with_reducible refine (HZ.out _).mono ?_); rintro e w' ⟨rfl, hx⟩; obtain ⟨ux, rfl⟩ := ext_of hx; clear hx))
        go_ret
        exact ⟨rfl, below_ext _ (Below.refl _ _) (Nat.le_refl _)⟩
      · have e1 : hpE k body = 0 := by unfold hpE; rw [if_neg (fun c => c hk), if_neg hb]
        have e2 : hpS k body = frS k body := by unfold hpS; rw [e1]; rfl
        rw [e1, e2] at HP1 HP2
        have hsz := frS_size k body
        have HL := Lib.hid (fun w => len_is (body.size : Int) ((frS k body).size : Int) (by rw [if_neg (by omega), hsz]; omega) w)
        have F := fun w => hfirst_any (frS k body ++ more) w (by rw [← bl_len, bl_app, List.length_append, bl_len, bl_len, hsz]; omega)
        rw [first_back k body more hk (by omega)] at F
        have HF := Lib.hid F
        clear F
        generalize frS k body = s at *
        go_enter Try.func6, Try.ntmps6
        go_wp2_with (first | (go_at_call 30; (with_reducible refine (HP1.out _).mono ?_); rintro e w' ⟨rfl, hx⟩; obtain ⟨ux, rfl⟩ := ext_of hx; clear hx) | (go_at_call 31; (with_reducible refine (HP2.out _).mono ?_); rintro e w' ⟨rfl, hx⟩; obtain ⟨ux, rfl⟩ := ext_of hx; clear hx) | (go_at_call 32; (with_reducible refine (HL.out _).mono ?_); rintro e w' ⟨rfl, rfl⟩) | (go_at_call 33; (with_reducible refine (HF.out _).mono ?_); rintro e w' ⟨rfl, hx⟩; obtain ⟨ux, rfl⟩ := ext_of hx; clear hx) | (go_at_call 29; (with_reducible refine (HZ.out _).mono ?_); rintro e w' ⟨rfl, hx⟩; obtain ⟨ux, rfl⟩ := ext_of hx; clear hx))
        go_ret
        exact ⟨rfl, below_ext _ (Below.refl _ _) (Nat.le_refl _)⟩
    · have e1 : hpE k body = 5 := by unfold hpE; rw [if_pos hk]
      have e2 : hpS k body = ⟨#[]⟩ := by unfold hpS; rw [e1]; rfl
      rw [e1, e2] at HP1 HP2
      by_cases hb : 200 < body.size
      · have HL := Lib.hid (fun w => len_is (body.size : Int) 0 (by rw [if_pos (.inr (by omega))]) w)
        have i1 : ¬ (body.size : Int) ≤ 200 := by omega
        go_enter Try.func6, Try.ntmps6
        go_wp2_with (first | (go_at_call 30; (with_reducible refine (HP1.out _).mono ?_); rintro e w' ⟨rfl, hx⟩; obtain ⟨ux, rfl⟩ := ext_of hx; clear hx) | (go_at_call 31; (with_reducible refine (HP2.out _).mono ?_); rintro e w' ⟨rfl, hx⟩; obtain ⟨ux, rfl⟩ := ext_of hx; clear hx) | (go_at_call 32; (with_reducible refine (HL.out _).mono ?_); rintro e w' ⟨rfl, rfl⟩) | (go_at_call 29; (with_reducible refine (HZ.out _).mono ?_); rintro e w' ⟨rfl, hx⟩; obtain ⟨ux, rfl⟩ := ext_of hx; clear hx))
        go_ret
        exact ⟨rfl, below_ext _ (Below.refl _ _) (Nat.le_refl _)⟩
      · have i1 : (body.size : Int) ≤ 200 := by omega
        go_enter Try.func6, Try.ntmps6
        go_wp2_with (first | (go_at_call 30; (with_reducible refine (HP1.out _).mono ?_); rintro e w' ⟨rfl, hx⟩; obtain ⟨ux, rfl⟩ := ext_of hx; clear hx) | (go_at_call 31; (with_reducible refine (HP2.out _).mono ?_); rintro e w' ⟨rfl, hx⟩; obtain ⟨ux, rfl⟩ := ext_of hx; clear hx) | (go_at_call 29; (with_reducible refine (HZ.out _).mono ?_); rintro e w' ⟨rfl, hx⟩; obtain ⟨ux, rfl⟩ := ext_of hx; clear hx))
        go_ret
        exact ⟨rfl, below_ext _ (Below.refl _ _) (Nat.le_refl _)⟩
theorem hgets_done : Walk 7 Try.f7 := by
  intro W args hs hc
  rw [Try.params7] at hs hc
  obtain ⟨l⟩ := args
  match l, hs with
  | [v0], _ =>
    obtain ⟨s, rfl, _⟩ := came_string Try.underlying9 (hc 0 9 v0 rfl rfl)
    exact hgets_walk s W
theorem hputs_done : Walk 6 Try.f6 := by
  intro W args hs hc
  rw [Try.params6] at hs hc
  obtain ⟨l⟩ := args
  match l, hs with
  | [v0, v1, v2], _ =>
    obtain ⟨k, rfl, _⟩ := came_int Try.underlying3 (hc 0 3 v0 rfl rfl)
    obtain ⟨a, rfl, _⟩ := came_string Try.underlying9 (hc 1 9 v1 rfl rfl)
    obtain ⟨b, rfl, _⟩ := came_string Try.underlying9 (hc 2 9 v2 rfl rfl)
    exact hputs_walk k a b W
end Go.Proofs.Ytgkmmoiniidhlaa
