/-
  Layer 26 (push): Check and Put.
-/
import Derived.Test.YtobcjbpgeohbgaaGreatDoorPush
namespace Go.Proofs.YtobcjbpgeohbgaaGreatDoor
open Go.RowKit
set_option linter.unusedVariables false

def psOk (x : Ps) : Bool := decide ((0 ≤ x.p0 ∧ x.p0 ≤ 7) ∧ (0 ≤ x.p1 ∧ x.p1 ≤ 4294967295) ∧ (0 ≤ x.p2 ∧ x.p2 ≤ 65535) ∧ (0 ≤ x.p3 ∧ x.p3 ≤ 65535) ∧ (0 ≤ x.p4 ∧ x.p4 ≤ 255) ∧ (0 ≤ x.p5 ∧ x.p5 ≤ 255) ∧ (0 ≤ x.p6 ∧ x.p6 ≤ 255) ∧ (0 ≤ x.p7 ∧ x.p7 ≤ 255) ∧ (0 ≤ x.p8 ∧ x.p8 ≤ 255))
theorem pnum_iff (x : Ps) : (∀ k, k < 9 → numOk (pf x k) (pw k : Int) = true) ↔ ((0 ≤ x.p0 ∧ x.p0 ≤ 255) ∧ (0 ≤ x.p1 ∧ x.p1 ≤ 4294967295) ∧ (0 ≤ x.p2 ∧ x.p2 ≤ 65535) ∧ (0 ≤ x.p3 ∧ x.p3 ≤ 65535) ∧ (0 ≤ x.p4 ∧ x.p4 ≤ 255) ∧ (0 ≤ x.p5 ∧ x.p5 ≤ 255) ∧ (0 ≤ x.p6 ∧ x.p6 ≤ 255) ∧ (0 ≤ x.p7 ∧ x.p7 ≤ 255) ∧ (0 ≤ x.p8 ∧ x.p8 ≤ 255)) := by
  have num : ∀ (n : Int) (W : Nat), 1 ≤ W → W ≤ 6 → (numOk n (W : Int) = true ↔ 0 ≤ n ∧ n < 256 ^ W) := by
    intro n W h1 h6
    simp only [numOk, decide_eq_true_eq, Int.toNat_natCast]
    omega
  constructor
  · intro h
    have g := fun k hk => (num (pf x k) (pw k) (pw_rng k hk).1 (pw_rng k hk).2).1 (h k hk)
    have g0 : 0 ≤ x.p0 ∧ x.p0 < 256 := g 0 (by omega)
    have g1 : 0 ≤ x.p1 ∧ x.p1 < 4294967296 := g 1 (by omega)
    have g2 : 0 ≤ x.p2 ∧ x.p2 < 65536 := g 2 (by omega)
    have g3 : 0 ≤ x.p3 ∧ x.p3 < 65536 := g 3 (by omega)
    have g4 : 0 ≤ x.p4 ∧ x.p4 < 256 := g 4 (by omega)
    have g5 : 0 ≤ x.p5 ∧ x.p5 < 256 := g 5 (by omega)
    have g6 : 0 ≤ x.p6 ∧ x.p6 < 256 := g 6 (by omega)
    have g7 : 0 ≤ x.p7 ∧ x.p7 < 256 := g 7 (by omega)
    have g8 : 0 ≤ x.p8 ∧ x.p8 < 256 := g 8 (by omega)
    clear g h
    omega
  · intro h k hk
    refine (num (pf x k) (pw k) (pw_rng k hk).1 (pw_rng k hk).2).2 ?_
    rcases lt9 hk with rfl | rfl | rfl | rfl | rfl | rfl | rfl | rfl | rfl
    · show 0 ≤ x.p0 ∧ x.p0 < 256; omega
    · show 0 ≤ x.p1 ∧ x.p1 < 4294967296; omega
    · show 0 ≤ x.p2 ∧ x.p2 < 65536; omega
    · show 0 ≤ x.p3 ∧ x.p3 < 65536; omega
    · show 0 ≤ x.p4 ∧ x.p4 < 256; omega
    · show 0 ≤ x.p5 ∧ x.p5 < 256; omega
    · show 0 ≤ x.p6 ∧ x.p6 < 256; omega
    · show 0 ≤ x.p7 ∧ x.p7 < 256; omega
    · show 0 ≤ x.p8 ∧ x.p8 < 256; omega
theorem psOk_iff (x : Ps) : psOk x = true ↔ x.p0 < 8 ∧ ∀ k, k < 9 → numOk (pf x k) (pw k : Int) = true := by
  rw [pnum_iff]
  simp only [psOk, decide_eq_true_eq]
  omega
def errP (x : Ps) : Int := if psOk x = true then 0 else 1
theorem errP_no {x : Ps} (h : psOk x = false) : errP x = 1 := by unfold errP; rw [if_neg (by rw [h]; decide)]
theorem errP_yes {x : Ps} (h : psOk x = true) : errP x = 0 := by unfold errP; rw [if_pos h]
theorem psOk_num {x : Ps} {k : Nat} (hk : k < 9) (h : numOk (pf x k) (pw k : Int) = false) : psOk x = false := by
  cases hc : psOk x with
  | false => rfl
  | true => rw [((psOk_iff x).1 hc).2 k hk] at h; cases h
/-- Each number put behind no text. -/
theorem put0_any (n width : Int) (w : World) (r : Bool) (hr : numOk n width = r) : Calls Tryz.prog 74 #[.string ⟨#[]⟩, .int .i64 n, .int .i64 width] w fun e w' => (∃ s, e = .returned (.tuple #[.string s, .int .i64 (if r = true then 0 else 1)])) ∧ Below w.heap.size w w' := by
  subst hr
  refine (put_any ⟨#[]⟩ n width w (by decide)).mono ?_
  rintro e w' ⟨rfl, hb⟩
  refine ⟨?_, hb⟩
  unfold putV
  cases numOk n width
  · exact ⟨_, rfl⟩
  · exact ⟨_, rfl⟩

set_option maxRecDepth 100000 in
set_option maxHeartbeats 1000000 in
theorem pcheck_any (x : Ps) (w : World) (hW : WdAt w) : Calls Tryz.prog 71 #[psV x] w fun e w' => e = .returned (.int .i64 (errP x)) ∧ Below w.heap.size w w' := by
  obtain ⟨er, hE⟩ : ∃ er, er = errP x := ⟨_, rfl⟩
  rw [← hE]
  have HE := Lib.hid hE
  clear hE
  by_cases h8 : 8 ≤ x.p0
  · have he : er = 1 := by
      rw [HE.out]
      refine errP_no ?_
      cases hc : psOk x with
      | false => rfl
      | true => have := ((psOk_iff x).1 hc).1; omega
    subst he
    go_enter Tryz.func71, Tryz.ntmps71
    go_wp2
    go_ret
    exact ⟨rfl, (Below.refl _ _).alloc (Nat.le_refl _) _⟩
  · have hb0 : Below w.heap.size w (w.alloc (.cells (psCells x).toArray 30)) := (Below.refl _ _).alloc (Nat.le_refl _) _
    have HW := Lib.hid (hW.same hb0)
    have HB0 := Lib.hid hb0
    clear hW hb0
    go_enter Tryz.func71, Tryz.ntmps71
    go_wp2_with fail
    refine (pnumbers_any x _).mono ?_
    rintro e w1 ⟨rfl, hb1⟩
    have HW1 := Lib.hid (WdAt.same HW.out hb1)
    have HB1 := Lib.hid (HB0.out.trans (hb1.mono HB0.out.size))
    clear hb1 HW HB0
    go_wp2_with fail
    go_loopw [12] (fun i wr => ∃ k : Nat, k ≤ 9 ∧ i = .int .i64 k ∧ (∀ j, j < k → numOk (pf x j) (pw j : Int) = true) ∧ Below w1.heap.size w1 wr) (fun i _ => 9 - (intOf i).toNat)
    case atStart => exact ⟨0, by omega, rfl, fun j hj => by omega, Below.refl _ _⟩
    case round =>
      obtain ⟨k, hk, rfl, hok, hb⟩ := hrel
      have HOk := Lib.hid hok
      have HB := Lib.hid hb
      have hsz := hb.size
      have hW := WdAt.same HW1.out hb
      clear hok hb
      by_cases hlt : k < 9
      · have c0 := hW k hlt
        have i1 : (0 : Int) ≤ (k : Int) := by omega
        have i2 : (k : Int) < 9 := by omega
        have hidx := fun w => idx9 x k hlt w
        have hN := psOk_num (x := x) hlt
        have HNk := Lib.hid (show numOk (pf x k) (pw k : Int) = numOk (pf x k) (pw k : Int) from rfl)
        clear hW
        cases hq : numOk (pf x k) (pw k : Int) with
        | true =>
          have HP := Lib.hid (fun w => put0_any (pf x k) (pw k : Int) w true hq)
          have HNew := Lib.hid (show ∀ j, j < k + 1 → numOk (pf x j) (pw j : Int) = true from fun j hj => by
            by_cases hjk : j = k
            · rw [hjk]; exact hq
            · exact HOk.out j (by omega))
          clear hN HNk hq
          generalize pf x k = v at *
          generalize (pw k : Int) = p at *
          go_wp2_with (go_at_call 74; refine (HP.out _).mono ?_; rintro e w2 ⟨⟨s, rfl⟩, hb2⟩)
          exact ⟨⟨k + 1, by omega, by go_num, HNew.out, HB.out.trans (hb2.mono hsz)⟩, by simp only [intOf]; omega⟩
        | false =>
          have he : er = 1 := by rw [HE.out]; exact errP_no (hN hq)
          subst he
          have HP := Lib.hid (fun w => put0_any (pf x k) (pw k : Int) w false hq)
          clear hN HNk hq
          generalize pf x k = v at *
          generalize (pw k : Int) = p at *
          go_wp2_with (go_at_call 74; refine (HP.out _).mono ?_; rintro e w2 ⟨⟨s, rfl⟩, hb2⟩)
          go_ret
          exact ⟨rfl, HB1.out.trans ((HB.out.trans (hb2.mono hsz)).mono HB1.out.size)⟩
      · obtain rfl : k = 9 := by omega
        have he : er = 0 := by rw [HE.out]; exact errP_yes ((psOk_iff x).2 ⟨by omega, HOk.out⟩)
        subst he
        go_wp2
        go_ret
        exact ⟨rfl, HB1.out.trans (HB.out.mono HB1.out.size)⟩
theorem pput_bad (x : Ps) (w : World) (hW : WdAt w) (h : psOk x = false) : Calls Tryz.prog 145 #[psV x] w fun e w' => e = .returned (.tuple #[.string ⟨#[]⟩, .int .i64 1]) ∧ Below w.heap.size w w' := by
  have hb0 : Below w.heap.size w (w.alloc (.cells (psCells x).toArray 30)) := (Below.refl _ _).alloc (Nat.le_refl _) _
  have HC := Lib.hid (pcheck_any x _ (hW.same hb0))
  rw [errP_no h] at HC
  have HB0 := Lib.hid hb0
  clear hb0 hW
  go_enter Tryz.func145, Tryz.ntmps145
  go_wp2_with fail
  refine HC.out.mono ?_
  rintro e w1 ⟨rfl, hb⟩
  go_wp2
  go_returns
  exact ⟨rfl, HB0.out.trans (hb.mono HB0.out.size)⟩
set_option maxRecDepth 100000 in
set_option maxHeartbeats 1000000 in
theorem pput_ok (x : Ps) (w : World) (hW : WdAt w) (h : psOk x = true) : Calls Tryz.prog 145 #[psV x] w fun e w' => e = .returned (.tuple #[.string (ofL (encN pw (pf x) 9)), .int .i64 0]) ∧ Below w.heap.size w w' := by
  have hb0 : Below w.heap.size w (w.alloc (.cells (psCells x).toArray 30)) := (Below.refl _ _).alloc (Nat.le_refl _) _
  have hW0 := hW.same hb0
  have HC := Lib.hid (pcheck_any x _ hW0)
  rw [errP_yes h] at HC
  have HR0 := Lib.hid (show PsAt (w.alloc (.cells (psCells x).toArray 30)) w.heap.size x from IsObj.new w _ (psCells x))
  have HW0 := Lib.hid hW0
  have HB0 := Lib.hid hb0
  have HN := Lib.hid ((psOk_iff x).1 h).2
  clear hb0 hW hW0 h
  go_enter Tryz.func145, Tryz.ntmps145
  go_wp2_with fail
  refine HC.out.mono ?_
  rintro e w1 ⟨rfl, hb1⟩
  obtain ⟨a0, a1, a2, a3, a4, a5, a6, a7, a8⟩ := (PsAt.same HR0.out hb1).nine
  have HW1 := Lib.hid (WdAt.same HW0.out hb1)
  have HB1 := Lib.hid (HB0.out.trans (hb1.mono HB0.out.size))
  clear hb1 HR0 HW0 HB0 HC
  go_wp2_with fail
  refine (pnumbers_any x _).mono ?_
  rintro e w2 ⟨rfl, hb2⟩
  have HW2 := Lib.hid (WdAt.same HW1.out hb2)
  have HB2 := Lib.hid (HB1.out.trans (hb2.mono HB1.out.size))
  clear hb2 HW1 HB1 a0 a1 a2 a3 a4 a5 a6 a7 a8
  go_wp2_with fail
  go_loopw [5, 15] (fun sv i wr => ∃ k : Nat, k ≤ 9 ∧ i = .int .i64 k ∧ sv = .string (ofL (encN pw (pf x) k)) ∧ Below w2.heap.size w2 wr) (fun _ i _ => 9 - (intOf i).toNat)
  case atStart => exact ⟨0, by omega, rfl, rfl, Below.refl _ _⟩
  case round =>
    obtain ⟨k, hk, rfl, rfl, hb⟩ := hrel
    have HB := Lib.hid hb
    have hsz := hb.size
    have hWr := WdAt.same HW2.out hb
    clear hb
    by_cases hlt : k < 9
    · have c0 := hWr k hlt
      have i1 : (0 : Int) ≤ (k : Int) := by omega
      have i2 : (k : Int) < 9 := by omega
      have hidx := fun w => idx9 x k hlt w
      have hs : (ofL (encN pw (pf x) k)).size ≤ 2147483648 := by
        rw [← bl_len, bl_ofL, encN_len]
        have h1 := posN_le pw (show k ≤ 9 by omega)
        have h2 : posN pw 9 = 14 := by decide
        omega
      have hp := fun w => put_yes (ofL (encN pw (pf x) k)) (pf x k) (pw k : Int) w hs (HN.out k hlt)
      rw [bl_ofL, Int.toNat_natCast, show encN pw (pf x) k ++ beB (pf x k) (pw k) = encN pw (pf x) (k + 1) from rfl] at hp
      generalize hq : ofL (encN pw (pf x) (k + 1)) = s2 at *
      have HQ := Lib.hid hq
      generalize ofL (encN pw (pf x) k) = s1 at *
      generalize pf x k = v at *
      generalize (pw k : Int) = p at *
      have HP := Lib.hid hp
      clear hp hs hq hWr
      go_wp2_with (go_at_call 74; refine (HP.out _).mono ?_; rintro e w3 ⟨rfl, hb3⟩)
      exact ⟨⟨k + 1, by omega, by go_num, by rw [HQ.out], HB.out.trans (hb3.mono hsz)⟩, by simp only [intOf]; omega⟩
    · obtain rfl : k = 9 := by omega
      clear hWr
      go_wp2
      go_returns
      exact ⟨rfl, HB2.out.trans (HB.out.mono HB2.out.size)⟩
end Go.Proofs.YtobcjbpgeohbgaaGreatDoor
