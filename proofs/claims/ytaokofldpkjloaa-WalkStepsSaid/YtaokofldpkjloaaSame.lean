/-
  lockkeeperref01.Same: are two lists of ints the same?
-/
import Derived.Test.YtaokofldpkjloaaFrame
import Derived.Test.YtaokofldpkjloaaBound
namespace Go.Proofs.Ytaokofldpkjloaa
open Go.RowKit
set_option linter.unusedVariables false

def Drawn (w w' : World) : Prop := ∃ n, w' = w.drewN n
theorem Drawn.refl (w : World) : Drawn w w := ⟨0, rfl⟩
theorem Drawn.below {w w' : World} {B : Nat} (h : Drawn w w') : Below B w w' := by
  obtain ⟨n, rfl⟩ := h
  exact below_drewN (Below.refl _ _) n

theorem Drawn.two (w : World) (n m : Nat) : Drawn w ((w.drewN n).drewN m) := ⟨n + m, by rw [World.drewN_drewN]⟩
theorem Drawn.trans {a b c : World} (h : Drawn a b) (k : Drawn b c) : Drawn a c := by
  obtain ⟨n, rfl⟩ := h
  obtain ⟨m, rfl⟩ := k
  exact Drawn.two _ _ _

theorem take_step {α : Type} [Inhabited α] (l1 l2 : List α) (k : Nat) (h1 : k < l1.length) (h2 : k < l2.length) (e : l1.take k = l2.take k) (h : nth l1 k = nth l2 k) : l1.take (k + 1) = l2.take (k + 1) := by
  rw [take_nth l1 k h1, take_nth l2 k h2, e, h]

theorem nth_ne {α : Type} [Inhabited α] (l1 l2 : List α) (k : Nat) (h : nth l1 k ≠ nth l2 k) : l1 ≠ l2 := fun e => h (by rw [e])

theorem same_any (a1 a2 : Option Addr) (c1 c2 : Nat) (l1 l2 : List Int) (w : World) (m1 : l1.length ≤ 9223372036854775807) (m2 : l2.length ≤ 9223372036854775807) (h1 : IntsAt w a1 l1) (h2 : IntsAt w a2 l2) :
    Calls Try.prog 22 #[.slice a1 l1.length c1, .slice a2 l2.length c2] w fun e w' => e = .returned (.bool (decide (l1 = l2))) ∧ Drawn w w' := by
  by_cases hl : l1.length = l2.length
  · have hb : ((l1.length : Int) != l2.length) = false := by simp [hl]
    rcases h1 with rfl | ⟨b1, o1, rfl, hc1⟩
    · obtain rfl : l2 = [] := List.eq_nil_of_length_eq_zero hl.symm
      clear hl hb
      go_enter Try.func22, Try.ntmps22
      go_wp2
      go_loop [5] (fun i => i = .int .i64 0) (fun _ => 0)
      case atStart => rfl
      case round =>
        subst hrel
        go_wp2
        go_ret
        exact ⟨rfl, Drawn.refl _⟩
    · rcases h2 with rfl | ⟨b2, o2, rfl, hc2⟩
      · obtain rfl : l1 = [] := List.eq_nil_of_length_eq_zero hl
        clear hl hb hc1
        go_enter Try.func22, Try.ntmps22
        go_wp2
        go_loop [5] (fun i => i = .int .i64 0) (fun _ => 0)
        case atStart => rfl
        case round =>
          subst hrel
          go_wp2
          go_ret
          exact ⟨rfl, Drawn.refl _⟩
      · have HL := Lib.hid hl
        have hl1 : l1.length ≤ l2.length := by omega
        have hl2 : l2.length ≤ l1.length := by omega
        clear hl
        have HC1 := Lib.hid hc1
        have HC2 := Lib.hid hc2
        clear hc1 hc2
        go_enter Try.func22, Try.ntmps22
        go_wp2
        go_loopw [5] (fun i wr => ∃ k n : Nat, k ≤ l1.length ∧ i = .int .i64 k ∧ wr = w.drewN n ∧ l1.take k = l2.take k) (fun i _ => l1.length - (intOf i).toNat)
        case atStart => exact ⟨0, 0, Nat.zero_le _, rfl, rfl, rfl⟩
        case round =>
          obtain ⟨k, n, hk, rfl, rfl, hT⟩ := hrel
          have HT := Lib.hid hT
          clear hT
          by_cases hlt : k < l1.length
          · have hlt2 : k < l2.length := by omega
            have g1 : w.cell? ⟨b1, o1 + k, none⟩ = some (.int .i64 (nth l1 k)) := HC1.out k hlt
            have g2 : w.cell? ⟨b2, o2 + k, none⟩ = some (.int .i64 (nth l2 k)) := HC2.out k hlt2
            have i1 : (0 : Int) ≤ (k : Int) := by omega
            have i2 : (k : Int) < (l1.length : Int) := by omega
            have i3 : (k : Int) < (l2.length : Int) := by omega
            by_cases he : nth l1 k = nth l2 k
            · have hb2 : (nth l1 k != nth l2 k) = false := by simp [he]
              have HE := Lib.hid (take_step l1 l2 k hlt hlt2 HT.out he)
              clear he
              go_wp2_with fail
              go_quiet (fail)
              go_wp2
              go_roundw
              case rel => exact ⟨k + 1, _, by omega, by go_num, rfl, HE.out⟩
              case measure => simp [intOf]; omega
            · have hb2 : (nth l1 k != nth l2 k) = true := by simp [he]
              have HE := Lib.hid (nth_ne l1 l2 k he)
              clear he
              go_wp2_with fail
              go_quiet (fail)
              go_wp2
              go_ret
              exact ⟨ret_bool (by simp [HE.out]), Drawn.two _ _ _⟩
          · go_wp2
            go_ret
            refine ⟨ret_bool ?_, _, rfl⟩
            have := HT.out
            rw [List.take_of_length_le (by omega), List.take_of_length_le (by omega)] at this
            simp [this]
  · have hb : ((l1.length : Int) != l2.length) = true := by simp; omega
    have HN := Lib.hid (show decide (l1 = l2) = false by simp; intro e; exact hl (by rw [e]))
    clear hl
    go_enter Try.func22, Try.ntmps22
    go_wp2
    go_ret
    exact ⟨ret_bool HN.out.symm, Drawn.refl _⟩
end Go.Proofs.Ytaokofldpkjloaa
