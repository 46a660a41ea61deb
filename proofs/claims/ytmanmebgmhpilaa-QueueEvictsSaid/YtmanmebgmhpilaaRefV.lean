/-
  lockkeeperref11.Same of one row told twice; lockkeeperref11.Victim.
-/
import Derived.Test.YtmanmebgmhpilaaRefT
namespace Go.Proofs.Ytmanmebgmhpilaa
open Go.RowKit
set_option linter.unusedVariables false

theorem own_row {w : World} {base n : Nat} {e : TypeId} {v : Value} {T : List It} (h : w.ownsRow base e 7 v n (T.flatMap itCells)) : ∃ (a : Option Addr) (c : Nat), v = .slice a T.length c ∧ RowOf itCells 7 w a T := by
  have hl := h.1
  rw [itF_len] at hl
  have hn : n = T.length := by omega
  subst hn
  rcases h.2 with ⟨rfl, h0⟩ | ⟨g, cap, cur, rfl, hb, hg, h3⟩
  · have : T = [] := List.eq_nil_of_length_eq_zero h0
    subst this
    exact ⟨none, 0, rfl, .inl rfl⟩
  · exact ⟨_, cap, rfl, .inr ⟨g, 0, rfl, own_rowOf h rfl⟩⟩

set_option maxRecDepth 100000 in
set_option maxHeartbeats 1000000 in
theorem isame_eq (a1 a2 : Option Addr) (c1 c2 : Nat) (l : List It) (w : World) (m1 : l.length ≤ 1000) (h1 : RowOf itCells 7 w a1 l) (h2 : RowOf itCells 7 w a2 l) :
    Calls Try.prog 20 #[.slice a1 l.length c1, .slice a2 l.length c2] w fun e w' => e = .returned (.bool true) ∧ Below w.heap.size w w' := by
  rcases h1 with rfl | ⟨b1, o1, rfl, hc1⟩
  · go_enter Try.func20, Try.ntmps20
    go_wp2
    go_loop [5] (fun i => i = .int .i64 0) (fun _ => 0)
    case atStart => rfl
    case round =>
      subst hrel
      go_wp2
      go_ret
      exact ⟨rfl, Below.refl _ _⟩
  · rcases h2 with rfl | ⟨b2, o2, rfl, hc2⟩
    · go_enter Try.func20, Try.ntmps20
      go_wp2
      go_loop [5] (fun i => i = .int .i64 0) (fun _ => 0)
      case atStart => rfl
      case round =>
        subst hrel
        go_wp2
        go_ret
        exact ⟨rfl, Below.refl _ _⟩
    · have HC1 := Lib.hid hc1
      have HC2 := Lib.hid hc2
      clear hc1 hc2
      go_enter Try.func20, Try.ntmps20
      go_wp2
      go_loopw [5] (fun i wr => ∃ k n : Nat, k ≤ l.length ∧ i = .int .i64 k ∧ wr = w.drewN n) (fun i _ => l.length - (intOf i).toNat)
      case atStart => exact ⟨0, 0, Nat.zero_le _, rfl, rfl⟩
      case round =>
        obtain ⟨k, n, hk, rfl, rfl⟩ := hrel
        by_cases hlt : k < l.length
        · obtain ⟨g0, g1, g2, g3, g4, g5, g6⟩ := item_cells HC1.out k hlt
          obtain ⟨d0, d1, d2, d3, d4, d5, d6⟩ := item_cells HC2.out k hlt
          have i1 : (0 : Int) ≤ (k : Int) := by omega
          have i2 : (k : Int) < (l.length : Int) := by omega
          generalize nth l k = x at *
          go_wp2_with fail
          go_quiet (fail)
          go_wp2
          exact ⟨⟨k + 1, _, by omega, by go_num, rfl⟩, by simp only [intOf]; omega⟩
        · obtain rfl : k = l.length := by omega
          go_wp2
          go_ret
          exact ⟨rfl, below_drewN (Below.refl _ _) _⟩

set_option maxRecDepth 100000 in
set_option maxHeartbeats 2000000 in
theorem rvict_any (a : Option Addr) (c : Nat) (l : List It) (w : World) (hm : l.length ≤ 1000) (hA : RowOf itCells 7 w a l) :
    Calls Try.prog 19 #[.slice a l.length c] w fun e w' => e = .returned (.tuple #[.int .i64 (vict l l.length), .bool (decide (0 < l.length))]) ∧ Below w.heap.size w w' := by
  have HA := Lib.hid hA
  clear hA
  go_enter Try.func19, Try.ntmps19
  go_wp2
  go_loopg [4] l.length (fun kx s4 wr => ∃ i : Nat, i ≤ l.length ∧ l.length - i ≤ kx ∧ s4 = .int .i64 i ∧ Aside (Below w.heap.size w wr) ∧ Hid (∀ j, j < i → isWn l j l.length = false))
  case atStart => exact ⟨0, Nat.zero_le _, Nat.le_refl _, rfl, Below.refl _ _, (fun j hj => by omega : ∀ j, j < 0 → isWn l j l.length = false)⟩
  case round =>
    obtain ⟨i, hil, hkx, rfl, HB, HJ⟩ := hrel
    by_cases hlt : i < l.length
    · have hiz : (0 : Int) ≤ (i : Int) := by omega
      have hltz : (i : Int) < (l.length : Int) := by omega
      generalize wr = w1 at *
      obtain ⟨b, off, rfl, hc⟩ : ∃ b off, a = some ⟨b, off, none⟩ ∧ ∀ i, i < l.length → ∀ j, j < 7 → w1.cell? ⟨b, off + i * 7 + j, none⟩ = (itCells (nth l i))[j]? := by
        rcases HA.out.same itCells_len HB.out with rfl | ⟨b, off, rfl, hc⟩
        · simp at hlt
        · exact ⟨b, off, rfl, hc⟩
      have HC := Lib.hid hc
      clear hc
      go_wp2
      go_loopg [5, 6] l.length (fun kx s5 s6 wr => ∃ k : Nat, k ≤ l.length ∧ l.length - k ≤ kx ∧ s6 = .int .i64 k ∧ s5 = .bool (isWn l i k) ∧ Aside (Below w1.heap.size w1 wr))
      case atStart => exact ⟨0, Nat.zero_le _, Nat.le_refl _, rfl, rfl, Below.refl _ _⟩
      case round =>
        obtain ⟨k, hkl, hkx2, rfl, rfl, HB2⟩ := hrel
        have hkz : (0 : Int) ≤ (k : Int) := by omega
        by_cases hlt2 : k < l.length
        · have hltz2 : (k : Int) < (l.length : Int) := by omega
          have hsucc := isWn_succ l i k
          cases hw : isWn l i k with
          | true =>
            rw [hw, Bool.true_and] at hsucc
            have hc2 := RowOf.same (l := l) (a := some ⟨b, off, none⟩) (.inr ⟨b, off, rfl, HC.out⟩) itCells_len HB2.out
            obtain ⟨x0, x1, x2, x3, x4, x5, x6⟩ := item_cells HC.out i hlt
            obtain ⟨y0, y1, y2, y3, y4, y5, y6⟩ := item_cells HC.out k hlt2
            have z0 := cell_keep HB2.out x0
            have z1 := cell_keep HB2.out x1
            have z2 := cell_keep HB2.out x2
            have z3 := cell_keep HB2.out x3
            have z4 := cell_keep HB2.out x4
            have z5 := cell_keep HB2.out x5
            have z6 := cell_keep HB2.out x6
            have u0 := cell_keep HB2.out y0
            have u1 := cell_keep HB2.out y1
            have u2 := cell_keep HB2.out y2
            have u3 := cell_keep HB2.out y3
            have u4 := cell_keep HB2.out y4
            have u5 := cell_keep HB2.out y5
            have u6 := cell_keep HB2.out y6
            have t1 := cell_lt z0
            simp only at t1
            have HS := Lib.hid hsucc
            clear hsucc hc2 x0 x1 x2 x3 x4 x5 x6 y0 y1 y2 y3 y4 y5 y6 hw
            generalize hx : nth l i = x at *
            generalize hy : nth l k = y at *
            have HXY := Lib.hid (And.intro hx hy)
            clear hx hy
            go_wp2_with fail
            ((first | (with_reducible refine region_ext2 (by kernel_rfl) (by kernel_rfl) ?_) | (refine region_ext (by kernel_rfl) (by kernel_rfl) ?_)); (repeat ((with_reducible refine wpQuiet_step (fun K hK => ?_)); go_simp; (first | ((refine hK _ ?_); clear hK K) | ((apply Exists.intro); (refine ⟨fun _ => ?_, hK _ ?_⟩); (first | (go_at_call 35; with_reducible exact ext_below (rworse_any _ _ _))); clear hK K)))); refine wpQuiet_nil ?_; rintro _ ⟨uq, rfl⟩)
            have HB3 : Aside (Below w1.heap.size w1 (ext wr uq)) := below_ext _ HB2.out HB2.out.size
            generalize hr : wrs y x = r at *
            cases r with
            | true =>
              go_wp2
              go_roundg (l.length - (k + 1))
              case measure => omega
              case rel => exact ⟨k + 1, by omega, Nat.le_refl _, by first | rfl | go_num | (congr 1; omega), by rw [HS.out], HB3⟩
            | false =>
              go_wp2
              go_roundg (l.length - (k + 1))
              case measure => omega
              case rel => exact ⟨k + 1, by omega, Nat.le_refl _, by first | rfl | go_num | (congr 1; omega), by rw [HS.out], HB3⟩
          | false =>
            rw [hw, Bool.false_and] at hsucc
            have HS := Lib.hid hsucc
            clear hsucc hw
            go_wp2_with fail
            go_quiet (fail)
            go_wp2
            go_roundg (l.length - (k + 1))
            case measure => omega
            case rel => exact ⟨k + 1, by omega, Nat.le_refl _, by first | rfl | go_num | (congr 1; omega), by rw [HS.out], below_drewN HB2.out _⟩
        · obtain rfl : k = l.length := by omega
          have hbb : Below w.heap.size w wr := HB.out.trans (HB2.out.mono HB.out.size)
          have HBB := Lib.hid hbb
          clear hbb
          cases hw : isWn l i l.length with
          | true =>
            have hi : i = vict l l.length := by
              obtain ⟨h1, h2⟩ := isW_vict l (by omega)
              rcases Nat.lt_trichotomy i (vict l l.length) with h | h | h
              · rw [h2 i h] at hw; cases hw
              · exact h
              · rw [HJ.out _ h] at h1; cases h1
            have hd : decide (0 < l.length) = true := decide_eq_true (by omega)
            have HI := Lib.hid (And.intro hi hd)
            clear hi hd hw
            go_wp2
            go_returns
            exact ⟨by rw [← HI.out.1, HI.out.2]; rfl, HBB.out⟩
          | false =>
            have HJ2 : Hid (∀ j, j < i + 1 → isWn l j l.length = false) := show ∀ j, j < i + 1 → isWn l j l.length = false from fun j hj => by
              by_cases h : j = i
              · rw [h]; exact hw
              · exact HJ.out j (by omega)
            clear hw
            go_wp2
            go_roundg (l.length - (i + 1))
            case measure => omega
            case rel => exact ⟨i + 1, by omega, Nat.le_refl _, by first | rfl | go_num | (congr 1; omega), HBB.out, HJ2⟩
    · obtain rfl : i = l.length := by omega
      have h0 : l.length = 0 := by
        rcases Nat.eq_zero_or_pos l.length with h | h
        · exact h
        · have h1 := vict_worst l l.length h
          have h2 := isW_vict l h
          rw [HJ.out _ h1.1] at h2
          cases h2.1
      have hl : l = [] := List.eq_nil_of_length_eq_zero h0
      subst hl
      go_wp2
      go_returns
      exact ⟨rfl, HB.out⟩
end Go.Proofs.Ytmanmebgmhpilaa
