/-
  Layer 6 (words): few; the statement WordsJoins.
-/
import Derived.Test.YtgkmmoiniidhlaaWords7
namespace Go.Proofs.Ytgkmmoiniidhlaa
open Go.RowKit
set_option linter.unusedVariables false
set_option linter.unusedSimpArgs false

theorem str_of (cs : List Value) (h : Fits [IsS] cs) : ∃ x : ByteArray, cs = strCells x ∧ x.size ≤ maxLen := by
  obtain ⟨c, l', rfl, ⟨s, rfl, hs⟩, h1⟩ := fits_cons h
  obtain rfl := fits_nil h1
  exact ⟨s, rfl, hs⟩
def fewB (l : List ByteArray) : Bool := decide (l.length ≤ 40) && (l.take 40).all fun x => decide (x.size ≤ 100)
theorem few_no {l : List ByteArray} {k : Nat} (h : k < l.length) (h40 : k < 40) (hx : ¬ (nth l k).size ≤ 100) : fewB l = false := by
  unfold fewB
  have : nth l k ∈ l.take 40 := by
    rw [nth_lt l k h]
    exact List.mem_take_iff_getElem.2 ⟨k, by omega, rfl⟩
  have h2 : (l.take 40).all (fun x => decide (x.size ≤ 100)) = false := by
    rw [List.all_eq_false]
    exact ⟨_, this, by simpa using hx⟩
  rw [h2, Bool.and_false]
theorem few_yes {l : List ByteArray} {k : Nat} (h : ∀ x, x ∈ l.take k → x.size ≤ 100) (hk : k = l.length ∨ 40 ≤ k) : fewB l = decide (l.length ≤ 40) := by
  unfold fewB
  have h2 : (l.take 40).all (fun x => decide (x.size ≤ 100)) = true := by
    rw [List.all_eq_true]
    intro x hx
    simp only [decide_eq_true_eq]
    rcases hk with rfl | hk
    · rw [List.take_of_length_le (Nat.le_refl _)] at h
      exact h x (List.mem_of_mem_take hx)
    · refine h x ?_
      have e : l.take 40 = (l.take k).take 40 := by rw [List.take_take]; congr 1; omega
      rw [e] at hx
      exact List.mem_of_mem_take hx
  rw [h2, Bool.and_true]
theorem few_all {l : List ByteArray} (h : fewB l = true) : l.length ≤ 40 ∧ ∀ x, x ∈ l → x.size ≤ 100 := by
  unfold fewB at h
  simp only [Bool.and_eq_true, decide_eq_true_eq, List.all_eq_true] at h
  refine ⟨h.1, fun x hx => h.2 x ?_⟩
  rwa [List.take_of_length_le h.1]
set_option maxHeartbeats 1000000 in
theorem few_any (a : Option Addr) (c : Nat) (l : List ByteArray) (w : World) (hm : l.length ≤ 9223372036854775807) (hA : RowOf strCells 1 w a l) :
    Calls Try.prog 53 #[.slice a l.length c] w fun e w' => e = .returned (.bool (fewB l)) ∧ w = w' := by
  have HA := Lib.hid hA
  clear hA
  go_enter Try.func53, Try.ntmps53
  go_wp2
  go_loop [3] (fun i => ∃ k : Nat, k ≤ l.length ∧ k ≤ 40 ∧ i = .int .i64 k ∧ ∀ x, x ∈ l.take k → x.size ≤ 100) (fun i => 40 - (intOf i).toNat)
  case atStart => exact ⟨0, Nat.zero_le _, by omega, rfl, fun x h => by simp at h⟩
  case round =>
    obtain ⟨k, hk, hk40, rfl, hall⟩ := hrel
    have HX := Lib.hid hall
    clear hall
    by_cases hlt : k < l.length ∧ k < 40
    · obtain ⟨hlt, h40⟩ := hlt
      obtain ⟨b, off, rfl, hc⟩ : ∃ b off, a = some ⟨b, off, none⟩ ∧ ∀ i, i < l.length → ∀ j, j < 1 → w.cell? ⟨b, off + i * 1 + j, none⟩ = (strCells (nth l i))[j]? := by
        rcases HA.out with rfl | ⟨b, off, rfl, hc⟩
        · simp at hlt
        · exact ⟨b, off, rfl, hc⟩
      have c0 := str_cell hc k hlt
      have HF := Lib.hid (show ¬ (nth l k).size ≤ 100 → fewB l = false from few_no hlt h40)
      have HT := Lib.hid (show (nth l k).size ≤ 100 → ∀ x, x ∈ l.take (k + 1) → x.size ≤ 100 from fun h x hx => by
        rw [take_nth l k hlt] at hx
        rcases List.mem_append.1 hx with h1 | h1
        · exact HX.out x h1
        · rw [List.mem_singleton.1 h1]; exact h)
      clear hc
      have i1 : (k : Int) < 40 := by omega
      have i2 : (k : Int) < (l.length : Int) := by omega
      generalize nth l k = y at *
      by_cases hy : y.size ≤ 100
      · have HT2 := Lib.hid (HT.out hy)
        have i3 : (y.size : Int) ≤ 100 := by omega
        go_wp2
        go_round
        case rel => exact ⟨k + 1, by omega, by omega, by go_num, HT2.out⟩
        case measure => simp [intOf]; omega
      · have hF := Lib.hid (HF.out hy)
        have i3 : (100 : Int) < (y.size : Int) := by omega
        go_wp2
        go_ret
        exact ⟨by rw [hF.out]; rfl, rfl⟩
    · have hF := few_yes HX.out (by omega)
      by_cases h40 : k < 40
      · obtain rfl : k = l.length := by omega
        have e : fewB l = true := by rw [hF]; simpa using hk40
        have E := Lib.hid e
        have i1 : (l.length : Int) < 40 := by omega
        have i2 : (l.length : Int) ≤ 40 := by omega
        clear hF e
        go_wp2
        go_ret
        exact ⟨by rw [E.out]; rfl, rfl⟩
      · obtain rfl : k = 40 := by omega
        by_cases hl : l.length ≤ 40
        · have e : fewB l = true := by rw [hF]; simpa using hl
          have E := Lib.hid e
          have i2 : (l.length : Int) ≤ 40 := by omega
          have i3 : (l.length : Int) = 40 := by omega
          clear hF e
          go_wp2
          go_ret
          exact ⟨by rw [E.out]; rfl, rfl⟩
        · have e : fewB l = false := by rw [hF]; simpa using hl
          have E := Lib.hid e
          have i2 : (40 : Int) < (l.length : Int) := by omega
          clear hF e
          go_wp2
          go_ret
          exact ⟨by rw [E.out]; exact ret_bool (by simp; omega), rfl⟩

/-! ### WordsJoins -/
set_option maxHeartbeats 2000000 in
theorem joins_walk (a : Option Addr) (c : Nat) (l : List ByteArray) (x : ByteArray) (w : World) (g1 : l.length ≤ c) (g2 : c ≤ 9223372036854775807) (hs : x.size ≤ maxLen) (hA : RowOf strCells 1 w a l) :
    Calls Try.prog 10 #[.slice a l.length c, .string x] w fun e w' => e = .returned (.bool true) ∧ Below w.heap.size w w' := by
  unfold maxLen at hs
  have F := Lib.hid (few_any a c l w (by omega) hA)
  cases hf : fewB l with
  | false =>
    rw [hf] at F
    clear hA hf
    go_enter Try.func10, Try.ntmps10
    go_wp2_with fail
    refine F.out.mono ?_
    rintro e w1 ⟨rfl, rfl⟩
    go_wp2_with fail
    refine (wawake_any _).mono ?_
    rintro e w1 ⟨rfl, b1⟩
    go_wp2_with fail
    go_ret
    exact ⟨rfl, b1⟩
  | true =>
    obtain ⟨hm, hx⟩ := few_all hf
    rw [hf] at F
    clear hf
    by_cases h1 : 100 < x.size
    · have i1 : (100 : Int) < (x.size : Int) := by omega
      clear hA hx
      go_enter Try.func10, Try.ntmps10
      go_wp2_with fail
      refine F.out.mono ?_
      rintro e w1 ⟨rfl, rfl⟩
      go_wp2_with fail
      refine (wawake_any _).mono ?_
      rintro e w1 ⟨rfl, b1⟩
      go_wp2_with fail
      go_ret
      exact ⟨rfl, b1⟩
    · have i1 : (x.size : Int) ≤ 100 := by omega
      have FI := Lib.hid (find_any x a c l w (by omega) hA)
      have RF := Lib.hid (wrfind_any x a c l w (by omega) hA)
      have JO := Lib.hid (join_any a c l w hm g1 hx hA)
      have RJ := Lib.hid (fun W (hb : Below w.heap.size w W) => rjoin_any a c l W hm hx (hA.same strCells_len hb))
      generalize findW x l 0 = fr at *
      obtain ⟨n, ok⟩ := fr
      generalize jn l = z at *
      clear hA hx
      go_enter Try.func10, Try.ntmps10
      go_wp2_with fail
      refine F.out.mono ?_
      rintro e w1 ⟨rfl, rfl⟩
      go_wp2_with fail
      refine FI.out.mono ?_
      rintro e w1 ⟨rfl, rfl⟩
      go_wp2_with fail
      refine RF.out.mono ?_
      rintro e w1 ⟨rfl, rfl⟩
      go_wp2_with fail
      refine JO.out.mono ?_
      rintro e w1 ⟨rfl, b1⟩
      have RJ2 := Lib.hid (RJ.out w1 b1)
      have B1 := Lib.hid b1
      clear b1
      go_wp2_with fail
      refine RJ2.out.mono ?_
      rintro e w2 ⟨rfl, rfl⟩
      go_wp2_with fail
      refine (wawake_any _).mono ?_
      rintro e w3 ⟨rfl, b3⟩
      have B3 := Lib.hid (stp B1.out b3)
      clear b3
      go_wp2_with fail
      go_ret
      exact ⟨rfl, B3.out⟩
theorem opens_str {w : World} : Opens Try.prog w 9 [IsS] := opens_string Try.underlying9
theorem joins_done : Walk 10 Try.f10 := by
  intro W args hs hc
  rw [Try.params10] at hs hc
  obtain ⟨l⟩ := args
  match l, hs with
  | [v0, v1], _ =>
    obtain ⟨a, c, l, rfl, g1, g2, _, hl⟩ := row_of_sl (k := 1) (cells := strCells) (fun x => x.size ≤ maxLen) (by omega) str_of (came_slice Try.underlying89 (ps := [IsS]) (by kernel_rfl) opens_str (hc 0 89 v0 rfl rfl))
    obtain ⟨s, rfl, h⟩ := came_string Try.underlying9 (hc 1 9 v1 rfl rfl)
    exact joins_walk a c l s W g1 g2 h hl
end Go.Proofs.Ytgkmmoiniidhlaa
