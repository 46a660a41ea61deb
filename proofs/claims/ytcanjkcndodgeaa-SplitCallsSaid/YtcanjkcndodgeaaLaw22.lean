/-
  The statements of layer 22 (split): SplitCalls, SplitWithin, SplitChains. No condition.
-/
import Derived.Test.YtcanjkcndodgeaaChain
namespace Go.Proofs.Ytcanjkcndodgeaa
open Go.RowKit

set_option maxHeartbeats 1000000 in
theorem calls_walk (x y a b : Int) (w : World) : Calls Try.prog 7 #[.agg #[.int .i64 x, .int .i64 y], .int .i64 a, .int .i64 b] w fun e w' => e = .returned (.bool true) ∧ Below w.heap.size w w' := by
  go_enter Try.func7, Try.ntmps7
  go_wp2_with (first | (go_at_call 37; (with_reducible refine (scall_any _ _ _ _ _).mono ?_); rintro e w' ⟨rfl, rfl⟩) | (go_at_call 38; (with_reducible refine (rscall_any _ _ _ _ _).mono ?_); rintro e w' ⟨rfl, rfl⟩))
  (refine region_tail 36 (by kernel_rfl) (by kernel_rfl) ?_; simp only [List.take_succ_cons, List.take_zero, List.drop_succ_cons, List.drop_zero]; (repeat (refine wpStill_step (fun K hK => ?_); go_simp; (first | (refine hK _ ?_) | (with_reducible refine ⟨_, still_left (spart_any _ _ _), hK _ ?_⟩) | (with_reducible refine ⟨_, still_left (rspart_any _ _ _), hK _ ?_⟩) | (with_reducible refine ⟨_, still_left (shop_any _ _ _), hK _ ?_⟩) | (with_reducible refine ⟨_, still_left (rshop_any _ _ _), hK _ ?_⟩)); clear hK K)); refine wpStill_nil ?_)
  go_wp2_with fail
  refine (awake22 _).mono ?_
  rintro e w1 ⟨rfl, hb⟩
  go_wp2_with fail
  go_ret
  exact ⟨rfl, (((Below.refl _ _).alloc (Nat.le_refl _) _).drew).trans (hb.mono (by simp))⟩

theorem part_le (n k : Int) (h0 : 0 ≤ n) (h1 : 0 ≤ k) (h2 : k ≤ 8) : n * k / 8 ≤ n ∧ 0 ≤ n * k / 8 := by
  have a1 := Int.mul_le_mul_of_nonneg_left h2 h0
  have a2 := Int.mul_nonneg h0 h1
  omega
theorem part_mono (n k m : Int) (h0 : 0 ≤ n) (h : k ≤ m) : n * k / 8 ≤ n * m / 8 := by
  have a1 := Int.mul_le_mul_of_nonneg_left h h0
  omega

theorem within (now dl wt most : Int) (n0 : 0 ≤ now) (n1 : now ≤ 1099511627776) (e0 : 0 ≤ dl) (e1 : dl ≤ 1099511627776) (h : spOk now dl wt most = true) :
    spD now dl wt most = now + spP now dl wt ∧ now + spP now dl wt ≤ dl ∧ 2 * spW now dl wt most ≤ spP now dl wt ∧ 1 ≤ spW now dl wt most ∧ spW now dl wt most ≤ keep most 65535 := by
  have hw : spW now dl wt most ≠ 0 := by simpa [spOk] using h
  obtain ⟨hp1, hp2⟩ := part_le (tck (bLeft dl now)) (keep wt 8) (tck_nn _) (keep_nn _ _) (keep_le _ _ (by omega))
  have hl : bLeft dl now = tck (dl - now) := by unfold bLeft; rw [tck_id now n0 n1, tck_id dl e0 e1]
  have ht : tck (bLeft dl now) = tck (dl - now) := by rw [hl, tck_id _ (tck_nn _) (tck_le _)]
  rw [ht] at hp1 hp2
  have hP : spP now dl wt = tck (dl - now) * keep wt 8 / 8 := by unfold spP spPart; rw [ht]
  rw [← hP] at hp1 hp2
  have hd : tck (dl - now) = max (min (dl - now) 1099511627776) 0 := rfl
  have hW : spW now dl wt most = min (spP now dl wt / 2) (keep most 65535) := by
    unfold spW spHop
    rw [tck_id (spP now dl wt) hp2 (by omega)]
  have hk := keep_nn most 65535
  have hD : spD now dl wt most = bLater now (spP now dl wt) := by unfold spD; rw [if_pos h]
  have hD2 : spD now dl wt most = now + spP now dl wt := by
    rw [hD]
    unfold bLater
    rw [tck_id now n0 n1, tck_id (spP now dl wt) hp2 (by omega), tck_id _ (by omega) (by omega)]
  refine ⟨hD2, ?_, ?_, ?_, ?_⟩ <;> omega

theorem within_mono (now dl a b most : Int) (n0 : 0 ≤ now) (n1 : now ≤ 1099511627776) (e0 : 0 ≤ dl) (e1 : dl ≤ 1099511627776) (h : spOk now dl a most = true) (hab : a ≤ b) :
    spOk now dl b most = true ∧ spD now dl a most ≤ spD now dl b most ∧ spW now dl a most ≤ spW now dl b most := by
  obtain ⟨a1, a2, a3, a4, a5⟩ := within now dl a most n0 n1 e0 e1 h
  have hm : spP now dl a ≤ spP now dl b := part_mono _ _ _ (tck_nn _) (keep_mono a b 8 hab)
  have hW : spW now dl a most ≤ spW now dl b most := by
    unfold spW spHop
    have := keep_mono (spP now dl a) (spP now dl b) 1099511627776 hm
    have h1 : tck (spP now dl a) ≤ tck (spP now dl b) := this
    omega
  have hB : spOk now dl b most = true := by
    unfold spOk
    simp
    omega
  obtain ⟨b1, b2, b3, b4, b5⟩ := within now dl b most n0 n1 e0 e1 hB
  exact ⟨hB, by omega, hW⟩

set_option maxHeartbeats 2000000 in
theorem within_walk (x y a b m : Int) (w : World) : Calls Try.prog 8 #[.agg #[.int .i64 x, .int .i64 y], .agg #[.int .i64 a, .int .i64 b], .int .i64 m] w fun e w' => e = .returned (.bool true) ∧ Below w.heap.size w w' := by
  have n0 := tck_nn x
  have n1 := tck_le x
  have e0 := tck_nn y
  have e1 := tck_le y
  cases hA : spOk (tck x) (tck y) a m with
  | false =>
    have d0 : spD (tck x) (tck y) a m = 0 := by unfold spD; rw [if_neg (by simp [hA])]
    have w0 : spW (tck x) (tck y) a m = 0 := by simpa [spOk] using hA
    go_enter Try.func8, Try.ntmps8
    go_wp2_with fail
    go_quiet ((first | (go_at_call 44; first | (with_reducible exact quiet_left (rtick_any _ _)) | (with_reducible exact quiet_add_left (rtick_any _ _)))))
    go_wp2_with (first | (go_at_call 37; (with_reducible refine (scall_any _ _ _ _ _).mono ?_); rintro e w' ⟨rfl, rfl⟩) | (go_at_call 16; (with_reducible refine (rkeep_any _ _ _).mono ?_); rintro e w' ⟨rfl, rfl⟩) | (go_at_call 43; refine (awake22 _).mono ?_; rintro e w1 ⟨rfl, hb⟩))
    all_goals
      go_ret
      exact ⟨rfl, (below_drewN (((Below.refl _ _).alloc (Nat.le_refl _) _).alloc (by simp) _) _).trans (hb.mono (by simp; omega))⟩
  | true =>
    obtain ⟨a1, a2, a3, a4, a5⟩ := within (tck x) (tck y) a m n0 n1 e0 e1 hA
    by_cases hab : b < a
    · have l1 : spD (tck x) (tck y) a m ≤ tck y := by omega
      have l2 : tck x < spD (tck x) (tck y) a m := by omega
      have l3 : spW (tck x) (tck y) a m < spD (tck x) (tck y) a m - tck x := by omega
      clear a1 a2 a3
      go_enter Try.func8, Try.ntmps8
      go_wp2_with fail
      go_quiet ((first | (go_at_call 44; first | (with_reducible exact quiet_left (rtick_any _ _)) | (with_reducible exact quiet_add_left (rtick_any _ _)))))
      go_wp2_with (first | (go_at_call 37; (with_reducible refine (scall_any _ _ _ _ _).mono ?_); rintro e w' ⟨rfl, rfl⟩) | (go_at_call 16; (with_reducible refine (rkeep_any _ _ _).mono ?_); rintro e w' ⟨rfl, rfl⟩) | (go_at_call 43; refine (awake22 _).mono ?_; rintro e w1 ⟨rfl, hb⟩))
      all_goals
        go_ret
        exact ⟨rfl, (below_drewN (((Below.refl _ _).alloc (Nat.le_refl _) _).alloc (by simp) _) _).trans (hb.mono (by simp; omega))⟩
    · obtain ⟨hB, m1, m2⟩ := within_mono (tck x) (tck y) a b m n0 n1 e0 e1 hA (by omega)
      have l1 : spD (tck x) (tck y) a m ≤ tck y := by omega
      have l2 : tck x < spD (tck x) (tck y) a m := by omega
      have l3 : spW (tck x) (tck y) a m < spD (tck x) (tck y) a m - tck x := by omega
      clear a1 a2 a3
      go_enter Try.func8, Try.ntmps8
      go_wp2_with fail
      go_quiet ((first | (go_at_call 44; first | (with_reducible exact quiet_left (rtick_any _ _)) | (with_reducible exact quiet_add_left (rtick_any _ _)))))
      go_wp2_with (first | (go_at_call 37; (with_reducible refine (scall_any _ _ _ _ _).mono ?_); rintro e w' ⟨rfl, rfl⟩) | (go_at_call 16; (with_reducible refine (rkeep_any _ _ _).mono ?_); rintro e w' ⟨rfl, rfl⟩) | (go_at_call 43; refine (awake22 _).mono ?_; rintro e w1 ⟨rfl, hb⟩))
      all_goals
        go_ret
        exact ⟨rfl, (below_drewN (((Below.refl _ _).alloc (Nat.le_refl _) _).alloc (by simp) _) _).trans (hb.mono (by simp; omega))⟩
theorem spP_norm (now dl wt : Int) : spP (tck now) (tck dl) wt = spP now dl wt := by
  have h1 := tck_id (tck now) (tck_nn _) (tck_le _)
  have h2 := tck_id (tck dl) (tck_nn _) (tck_le _)
  unfold spP bLeft
  rw [h1, h2]
theorem spD_norm (now dl wt m : Int) : spD (tck now) (tck dl) wt m = spD now dl wt m := by
  have h1 := tck_id (tck now) (tck_nn _) (tck_le _)
  unfold spD spOk spW
  rw [spP_norm]
  unfold bLater
  rw [h1]
theorem spOk_norm (now dl wt m : Int) : spOk (tck now) (tck dl) wt m = spOk now dl wt m := by
  unfold spOk spW
  rw [spP_norm]

/-- The deadline ahead of the i-th. -/
def lastAt (dl : Int) (c : List Int) (i : Nat) : Int := if i = 0 then tck dl else nth c (i - 1)
theorem lastAt_succ (dl : Int) (c : List Int) (i : Nat) : lastAt dl c (i + 1) = nth c i := by simp [lastAt]
theorem nth_cons_zero (x : Int) (l : List Int) : nth (x :: l) 0 = x := rfl
theorem nth_cons_succ (x : Int) (l : List Int) (i : Nat) : nth (x :: l) (i + 1) = nth l i := rfl
theorem chain_falls (now : Int) : ∀ (l : List Int) (dl : Int) (i : Nat), i < (spChain now dl l).length → tck now < nth (spChain now dl l) i ∧ nth (spChain now dl l) i ≤ lastAt dl (spChain now dl l) i ∧ nth (spChain now dl l) i ≤ 1099511627776 := by
  intro l
  induction l with
  | nil => intro dl i hi; simp [spChain] at hi
  | cons x l ih =>
    intro dl i hi
    unfold spChain at hi ⊢
    by_cases h : spOk now dl x 65535 = true
    · rw [if_pos h] at hi ⊢
      have hw := within (tck now) (tck dl) x 65535 (tck_nn _) (tck_le _) (tck_nn _) (tck_le _) (by rw [spOk_norm]; exact h)
      rw [spD_norm] at hw
      obtain ⟨w1, w2, w3, w4, _⟩ := hw
      have t0 := tck_nn now
      have t1 := tck_le dl
      cases i with
      | zero =>
        simp only [nth_cons_zero, lastAt, if_pos]
        refine ⟨?_, ?_, ?_⟩ <;> omega
      | succ i =>
        rw [nth_cons_succ, lastAt_succ]
        have hi' : i < (spChain now (spD now dl x 65535) l).length := by simpa using hi
        obtain ⟨a1, a2, a3⟩ := ih (spD now dl x 65535) i hi'
        refine ⟨a1, ?_, a3⟩
        cases i with
        | zero =>
          simp only [lastAt, if_pos] at a2
          rw [tck_id _ (by omega) (by omega)] at a2
          exact a2
        | succ i =>
          rw [lastAt_succ] at a2
          rw [nth_cons_succ]
          exact a2
    · rw [if_neg h] at hi
      simp at hi

theorem chain_len (now : Int) : ∀ (l : List Int) (dl : Int), (spChain now dl l).length ≤ l.length := by
  intro l
  induction l with
  | nil => intro dl; simp [spChain]
  | cons x l ih =>
    intro dl
    unfold spChain
    split
    · have := ih (spD now dl x 65535)
      simp
      omega
    · simp

set_option maxHeartbeats 1000000 in
theorem chains_walk (now dl : Int) (v : Value) (l : List Int) (w : World) (hv : Ints w v l) : Calls Try.prog 9 #[.int .i64 now, .int .i64 dl, v] w fun e w' => e = .returned (.bool true) ∧ Below w.heap.size w w' := by
  obtain ⟨a, c, rfl, h1, h2, h3⟩ := hv
  by_cases h : 60 < l.length
  · go_enter Try.func9, Try.ntmps9
    go_wp2_with (go_at_call 43; refine (awake22 _).mono ?_; rintro e w1 ⟨rfl, hb⟩)
    go_ret
    exact ⟨rfl, hb⟩
  · have H3 := Lib.hid h3
    clear h3
    obtain ⟨C, hC⟩ : ∃ C, C = spChain now dl l := ⟨_, rfl⟩
    have HF : Hid (∀ i, i < C.length → tck now < nth C i ∧ nth C i ≤ lastAt dl C i ∧ nth C i ≤ 1099511627776) := by rw [hC]; exact chain_falls now l dl
    have hCl : C.length ≤ 60 := by rw [hC]; have := chain_len now l dl; omega
    have K1 : ∀ W : World, IntsAt W a l → Calls Try.prog 45 #[.int .i64 now, .int .i64 dl, .slice a l.length c] W (GivesInts W C) := fun W hh => by rw [hC]; exact chain_any now dl _ _ l _ rfl (by omega) hh
    have K2 : ∀ W : World, IntsAt W a l → Calls Try.prog 47 #[.int .i64 now, .int .i64 dl, .slice a l.length c] W (GivesInts W C) := fun W hh => by rw [hC]; exact rchain_any now dl _ _ l _ rfl (by omega) hh
    have HK1 := Lib.hid K1
    have HK2 := Lib.hid K2
    clear K1 K2 hC
    go_enter Try.func9, Try.ntmps9
    go_wp2_with fail
    refine (HK1.out _ H3.out).mono ?_
    rintro e w1 ⟨v1, rfl, hI, hb⟩
    obtain ⟨a1, c1, rfl, g1, g2, g3⟩ := hI
    have G3 := Lib.hid g3
    have HB := Lib.hid hb
    clear g3 hb
    go_wp2_with (go_at_call 44; (with_reducible refine (rtick_any _ _).mono ?_); rintro e w' ⟨rfl, rfl⟩)
    go_loopw [8, 9] (fun last i wr => ∃ k n : Nat, k ≤ C.length ∧ i = .int .i64 k ∧ last = .int .i64 (lastAt dl C k) ∧ wr = w1.drewN n) (fun _ i _ => C.length - (intOf i).toNat)
    case atStart => exact ⟨0, 0, Nat.zero_le _, rfl, rfl, rfl⟩
    case round =>
      obtain ⟨k, n, hk, rfl, rfl, rfl⟩ := hrel
      by_cases hlt : k < C.length
      · obtain ⟨b, off, rfl, hc⟩ : ∃ b off, a1 = some ⟨b, off, none⟩ ∧ w1.cell? ⟨b, off + k, none⟩ = some (.int .i64 (nth C k)) := by
          rcases G3.out with rfl | ⟨b, off, rfl, hc⟩
          · simp at hlt
          · exact ⟨b, off, rfl, hc k hlt⟩
        obtain ⟨f1, f2, f3⟩ := HF.out k hlt
        have i1 : (0 : Int) ≤ (k : Int) := by omega
        have i2 : (k : Int) < (C.length : Int) := by omega
        have b1 : decide (lastAt dl C k < nth C k) = false := by simp; omega
        have b2 : decide (nth C k ≤ tck now) = false := by simp; omega
        have HS := Lib.hid (lastAt_succ dl C k)
        go_wp2_with fail
        go_quiet ((first | (go_at_call 44; first | (with_reducible exact quiet_left (rtick_any _ _)) | (with_reducible exact quiet_add_left (rtick_any _ _)))))
        go_wp2
        go_roundw
        case rel => exact ⟨k + 1, _, by omega, by go_num, by rw [HS.out], rfl⟩
        case measure => simp [intOf]; omega
      · go_wp2_with fail
        refine (HK2.out _ ((H3.out.same HB.out).drewN n)).mono ?_
        rintro e w2 ⟨v2, rfl, hI2, hb2⟩
        obtain ⟨a2, c2, rfl, r1, r2, r3⟩ := hI2
        have HB2 := Lib.hid hb2
        have R3 := Lib.hid r3
        clear hb2 r3
        go_wp2_with fail
        refine (same_call _ _ _ _ C C _ rfl rfl (by omega) (by omega) ((G3.out.drewN n).same HB2.out) R3.out).mono ?_
        rintro e w3 ⟨rfl, hd⟩
        have HD := Lib.hid hd
        clear hd
        go_wp2_with (go_at_call 43; refine (awake22 _).mono ?_; rintro e w4 ⟨rfl, hb4⟩)
        go_ret
        have q1 : Below w.heap.size w w1 := HB.out
        have s1 := q1.size
        have q2 : Below w.heap.size w1 w2 := (below_drewN (Below.refl _ _) n).trans (HB2.out.mono (by simpa using s1))
        have s2 := q2.size
        have q3 : Below w.heap.size w2 w3 := HD.out.below
        have s3 := q3.size
        exact ⟨rfl, ((q1.trans q2).trans q3).trans (hb4.mono (by omega))⟩

theorem calls_done : Walk 7 Try.f7 := by
  intro W args hs hc
  rw [Try.params7] at hs hc
  obtain ⟨l⟩ := args
  match l, hs with
  | [v0, v1, v2], _ =>
    obtain ⟨l0, rfl, f0⟩ := came_array Try.underlying31 (opens_array (s := [IsI .i64]) Try.underlying31 (by kernel_rfl) (by kernel_rfl) (opens_int Try.underlying3)) (hc 0 31 v0 rfl rfl)
    obtain ⟨_, _, rfl, ⟨x, rfl, _⟩, f0a⟩ := fits_cons f0
    obtain ⟨_, _, rfl, ⟨y, rfl, _⟩, f0b⟩ := fits_cons f0a
    obtain rfl := fits_nil f0b
    obtain ⟨a, rfl, _⟩ := came_int Try.underlying3 (hc 1 3 v1 rfl rfl)
    obtain ⟨b, rfl, _⟩ := came_int Try.underlying3 (hc 2 3 v2 rfl rfl)
    exact calls_walk x y a b W

theorem within_done : Walk 8 Try.f8 := by
  intro W args hs hc
  rw [Try.params8] at hs hc
  obtain ⟨l⟩ := args
  match l, hs with
  | [v0, v1, v2], _ =>
    obtain ⟨l0, rfl, f0⟩ := came_array Try.underlying31 (opens_array (s := [IsI .i64]) Try.underlying31 (by kernel_rfl) (by kernel_rfl) (opens_int Try.underlying3)) (hc 0 31 v0 rfl rfl)
    obtain ⟨_, _, rfl, ⟨x, rfl, _⟩, f0a⟩ := fits_cons f0
    obtain ⟨_, _, rfl, ⟨y, rfl, _⟩, f0b⟩ := fits_cons f0a
    obtain rfl := fits_nil f0b
    obtain ⟨l1, rfl, f1⟩ := came_array Try.underlying31 (opens_array (s := [IsI .i64]) Try.underlying31 (by kernel_rfl) (by kernel_rfl) (opens_int Try.underlying3)) (hc 1 31 v1 rfl rfl)
    obtain ⟨_, _, rfl, ⟨a, rfl, _⟩, f1a⟩ := fits_cons f1
    obtain ⟨_, _, rfl, ⟨b, rfl, _⟩, f1b⟩ := fits_cons f1a
    obtain rfl := fits_nil f1b
    obtain ⟨m, rfl, _⟩ := came_int Try.underlying3 (hc 2 3 v2 rfl rfl)
    exact within_walk x y a b m W

theorem chains_done : Walk 9 Try.f9 := by
  intro W args hs hc
  rw [Try.params9] at hs hc
  obtain ⟨l⟩ := args
  match l, hs with
  | [v0, v1, v2], _ =>
    obtain ⟨a, rfl, _⟩ := came_int Try.underlying3 (hc 0 3 v0 rfl rfl)
    obtain ⟨b, rfl, _⟩ := came_int Try.underlying3 (hc 1 3 v1 rfl rfl)
    obtain ⟨l, hl⟩ := ints_of_sl (came_slice Try.underlying27 (ps := [IsI .i64]) (by kernel_rfl) (opens_int Try.underlying3) (hc 2 27 v2 rfl rfl))
    exact chains_walk a b v2 l W hl
end Go.Proofs.Ytcanjkcndodgeaa
