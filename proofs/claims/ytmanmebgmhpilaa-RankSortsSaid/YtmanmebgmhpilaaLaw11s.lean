/-
  The statement RankSorts of layer 11 (rank). No condition.
-/
import Derived.Test.YtmanmebgmhpilaaRefV
import Derived.Test.YtmanmebgmhpilaaLaw11
namespace Go.Proofs.Ytmanmebgmhpilaa
open Go.RowKit
set_option linter.unusedVariables false

set_option maxRecDepth 100000 in
set_option maxHeartbeats 2000000 in
theorem rsorts_walk (a : Option Addr) (c : Nat) (l : List It) (w : World) (hm : l.length ≤ 9223372036854775807) (hA : RowOf itCells 7 w a l) :
    Calls Try.prog 4 #[.slice a l.length c] w fun e w' => e = .returned (.bool true) ∧ Below w.heap.size w w' := by
  by_cases h60 : 60 < l.length
  · have hz : (60 : Int) < (l.length : Int) := by omega
    clear hA
    go_enter Try.func4, Try.ntmps4
    go_wp2_with (go_at_call 17; refine (awake11 _).mono ?_; rintro e w1 ⟨rfl, hb⟩)
    go_ret
    exact ⟨rfl, hb⟩
  · have hz : ¬ (60 : Int) < (l.length : Int) := by omega
    have HA := Lib.hid hA
    clear hA
    go_enter Try.func4, Try.ntmps4
    go_wp2_with fail
    refine (victim_any _ _ l _ hm HA.out).mono ?_
    rintro e w1 ⟨rfl, hb1⟩
    have HA1 := Lib.hid (HA.out.same itCells_len hb1)
    have HB1 := Lib.hid hb1
    clear hb1 HA
    generalize hd : decide (0 < l.length) = d
    have HD := Lib.hid hd
    clear hd
    go_wp2_with fail
    refine (rvict_any _ _ l _ (by omega) HA1.out).mono ?_
    rintro e w2 ⟨rfl, hb2⟩
    have HA2 := Lib.hid (HA1.out.same itCells_len hb2)
    have HB2 := Lib.hid (HB1.out.trans (hb2.mono HB1.out.size))
    rw [HD.out]
    clear hb2 HA1 HB1
    go_wp2_with fail
    refine (sort_any _ _ l _ (by omega) HA2.out).mono ?_
    rintro e w3 ⟨g, cap, rfl, hown3, hb3⟩
    have HA3 := Lib.hid (HA2.out.same itCells_len hb3)
    have HB3 := Lib.hid (HB2.out.trans (hb3.mono HB2.out.size))
    have HO3 := Lib.hid hown3
    clear hb3 HA2 HB2 hown3
    go_wp2_with fail
    refine (rsort_any _ _ l _ (by omega) HA3.out).mono ?_
    rintro e w4 ⟨v, rfl, hown4, _, hb4⟩
    have HB4 := Lib.hid (HB3.out.trans (hb4.mono HB3.out.size))
    have HO4 := Lib.hid (own_below HO3.out hb4)
    obtain ⟨a4, c4, rfl, hr4⟩ := own_row hown4
    rw [rsort_eq] at hr4
    obtain ⟨a3, c3, hv3, hr3⟩ := own_row HO4.out
    have hsl := ssort_len l
    rw [hsl] at hv3
    rw [rsort_eq, hsl]
    have HR := Lib.hid (And.intro hr3 hr4)
    rw [hv3]
    clear hb4 HB3 HO3 hown4 hr3 hr4 hv3 HO4
    go_wp2_with fail
    have hcon := isame_eq a3 a4 c3 c4 (ssort l) w4 (by omega) HR.out.1 HR.out.2
    rw [hsl] at hcon
    refine hcon.mono ?_
    rintro e w5 ⟨rfl, hb5⟩
    have HB5 := Lib.hid (HB4.out.trans (hb5.mono HB4.out.size))
    clear hb5 HB4 hcon HR
    go_wp2_with (go_at_call 17; refine (awake11 _).mono ?_; rintro e w1 ⟨rfl, hb⟩)
    go_ret
    exact ⟨rfl, HB5.out.trans (hb.mono HB5.out.size)⟩
theorem rsorts_done : Walk 4 Try.f4 := by
  intro W args hs hc
  rw [Try.params4] at hs hc
  obtain ⟨l⟩ := args
  match l, hs with
  | [v0], _ =>
    obtain ⟨a, c, l, rfl, g1, g2, _, hl⟩ := row_of_sl (k := 7) (cells := itCells) (fun x => True) (by omega) it_of (came_slice Try.underlying22 (ps := itShape) (by kernel_rfl) opens_item (hc 0 22 v0 rfl rfl))
    exact rsorts_walk a c l W (by omega) hl
end Go.Proofs.Ytmanmebgmhpilaa
