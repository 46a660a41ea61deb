/-
  Two plans that are the same: the document's Same, the code's, and slices.Equal over steps.
-/
import Derived.Test.YtgkmmoiniidhlaaFan4
namespace Go.Proofs.Ytgkmmoiniidhlaa
open Go.RowKit
set_option linter.unusedVariables false
set_option linter.unusedSimpArgs false

theorem stp_cells {w : World} {b off : Nat} {l : List Stp} (h : ∀ i, i < l.length → ∀ j, j < 5 → w.cell? ⟨b, off + i * 5 + j, none⟩ = (stpCells (nth l i))[j]?) (i : Nat) (hi : i < l.length) :
    w.cell? ⟨b, off + i * 5, none⟩ = some (.int .i64 (nth l i).to) ∧ w.cell? ⟨b, off + i * 5 + 1, none⟩ = some (.int .i64 (nth l i).code) ∧ w.cell? ⟨b, off + i * 5 + 2, none⟩ = some (.int .i64 (nth l i).dl) ∧ w.cell? ⟨b, off + i * 5 + 3, none⟩ = some (.int .i64 (nth l i).bud) ∧ w.cell? ⟨b, off + i * 5 + 4, none⟩ = some (.bool (nth l i).req) :=
  ⟨h i hi 0 (by omega), h i hi 1 (by omega), h i hi 2 (by omega), h i hi 3 (by omega), h i hi 4 (by omega)⟩
set_option maxRecDepth 100000 in
set_option maxHeartbeats 1000000 in
theorem equal_eq (a1 a2 : Option Addr) (c1 c2 : Nat) (l : List Stp) (w : World) (m1 : l.length ≤ 1000) (h1 : RowOf stpCells 5 w a1 l) (h2 : RowOf stpCells 5 w a2 l) :
    Calls Try.prog 65 #[.slice a1 l.length c1, .slice a2 l.length c2] w fun e w' => e = .returned (.bool true) ∧ Below w.heap.size w w' := by
  have H1 := Lib.hid h1
  have H2 := Lib.hid h2
  clear h1 h2
  go_enter Try.func65, Try.ntmps65
  go_wp2
  go_loopw [13] (fun i wr => ∃ k n : Nat, k ≤ l.length ∧ i = .int .i64 k ∧ wr = w.drewN n) (fun i _ => l.length - (intOf i).toNat)
  case atStart => exact ⟨0, 0, Nat.zero_le _, rfl, rfl⟩
  case round =>
    obtain ⟨k, n, hk, rfl, rfl⟩ := hrel
    by_cases hlt : k < l.length
    · obtain ⟨b1, o1, rfl, hc1⟩ : ∃ b off, a1 = some ⟨b, off, none⟩ ∧ ∀ i, i < l.length → ∀ j, j < 5 → w.cell? ⟨b, off + i * 5 + j, none⟩ = (stpCells (nth l i))[j]? := by
        rcases H1.out with rfl | ⟨b, off, rfl, hc⟩
        · simp at hlt
        · exact ⟨b, off, rfl, hc⟩
      obtain ⟨b2, o2, rfl, hc2⟩ : ∃ b off, a2 = some ⟨b, off, none⟩ ∧ ∀ i, i < l.length → ∀ j, j < 5 → w.cell? ⟨b, off + i * 5 + j, none⟩ = (stpCells (nth l i))[j]? := by
        rcases H2.out with rfl | ⟨b, off, rfl, hc⟩
        · simp at hlt
        · exact ⟨b, off, rfl, hc⟩
      obtain ⟨g0, g1, g2, g3, g4⟩ := stp_cells hc1 k hlt
      obtain ⟨d0, d1, d2, d3, d4⟩ := stp_cells hc2 k hlt
      have i1 : (0 : Int) ≤ (k : Int) := by omega
      have i2 : (k : Int) < (l.length : Int) := by omega
      clear hc1 hc2
      generalize nth l k = x at *
      go_wp2_with fail
      go_quiet (fail)
      go_wp2
      exact ⟨⟨k + 1, _, by omega, by go_num, rfl⟩, by simp only [intOf]; omega⟩
    · obtain rfl : k = l.length := by omega
      go_wp2
      go_ret
      exact ⟨rfl, below_drewN (Below.refl _ _) _⟩

theorem fsame_eq (code : Int) (a1 a2 : Option Addr) (c1 c2 : Nat) (l : List Stp) (w : World) (m1 : l.length ≤ 1000) (h1 : RowOf stpCells 5 w a1 l) (h2 : RowOf stpCells 5 w a2 l) :
    Calls Try.prog 19 #[.agg #[.int .i64 code, .slice a1 l.length c1], .agg #[.int .i64 code, .slice a2 l.length c2]] w fun e w' => e = .returned (.bool true) ∧ Below w.heap.size w w' := by
  have HC := Lib.hid (fun (W : World) (hb : Below w.heap.size w W) => equal_eq a1 a2 c1 c2 l W m1 (h1.same stpCells_len hb) (h2.same stpCells_len hb))
  clear h1 h2
  go_enter Try.func19, Try.ntmps19
  go_wp2_with (go_at_call 65; (with_reducible refine (HC.out _ (((Below.refl _ _).alloc (Nat.le_refl _) _).alloc (by simp) _)).mono ?_); rintro e w' ⟨rfl, hb⟩)
  go_ret
  exact ⟨rfl, (((Below.refl _ _).alloc (Nat.le_refl _) _).alloc (by simp) _).trans (hb.mono (by simp; omega))⟩
theorem fsame_ne (code code2 : Int) (v1 v2 : Value) (w : World) (h : code ≠ code2) :
    Calls Try.prog 19 #[.agg #[.int .i64 code, v1], .agg #[.int .i64 code2, v2]] w fun e w' => e = .returned (.bool false) ∧ Below w.heap.size w w' := by
  have hb : (code == code2) = false := by simpa using h
  clear h
  go_enter Try.func19, Try.ntmps19
  go_wp2_with fail
  go_ret
  exact ⟨rfl, ((Below.refl _ _).alloc (Nat.le_refl _) _).alloc (by simp) _⟩

set_option maxRecDepth 100000 in
set_option maxHeartbeats 1000000 in
theorem rsame33_eq (code : Int) (a1 a2 : Option Addr) (c1 c2 : Nat) (l : List Stp) (w : World) (m1 : l.length ≤ 1000) (h1 : RowOf stpCells 5 w a1 l) (h2 : RowOf stpCells 5 w a2 l) :
    Calls Try.prog 18 #[.agg #[.int .i64 code, .slice a1 l.length c1], .agg #[.int .i64 code, .slice a2 l.length c2]] w fun e w' => e = .returned (.bool true) ∧ Below w.heap.size w w' := by
  have H1 := Lib.hid h1
  have H2 := Lib.hid h2
  clear h1 h2
  go_enter Try.func18, Try.ntmps18
  go_wp2_with fail
  have hw2 : Below w.heap.size w ((w.alloc (.cells #[.int .i64 code, .slice a1 l.length c1] 35)).alloc (.cells #[.int .i64 code, .slice a2 l.length c2] 35)) := ((Below.refl _ _).alloc (Nat.le_refl _) _).alloc (by simp) _
  have H1 := Lib.hid (H1.out.same stpCells_len hw2)
  have H2 := Lib.hid (H2.out.same stpCells_len hw2)
  have hp1 : IsObj ((w.alloc (.cells #[.int .i64 code, .slice a1 l.length c1] 35)).alloc (.cells #[.int .i64 code, .slice a2 l.length c2] 35)) w.heap.size 35 [.int .i64 code, .slice a1 l.length c1] := (IsObj.new _ _ _).alloc _
  have hp2 : IsObj ((w.alloc (.cells #[.int .i64 code, .slice a1 l.length c1] 35)).alloc (.cells #[.int .i64 code, .slice a2 l.length c2] 35)) (w.heap.size + 1) 35 [.int .i64 code, .slice a2 l.length c2] := IsObj.newAt _ _ _ (by simp)
  have HW := Lib.hid hw2
  generalize (w.alloc (.cells #[.int .i64 code, .slice a1 l.length c1] 35)).alloc (.cells #[.int .i64 code, .slice a2 l.length c2] 35) = w2 at *
  have r0 := hp1.cell 1
  have s0 := hp2.cell 1
  simp only [List.getElem?_cons_succ, List.getElem?_cons_zero] at r0 s0
  clear hp1 hp2 hw2
  go_loopw [5] (fun i wr => ∃ k n : Nat, k ≤ l.length ∧ i = .int .i64 k ∧ wr = w2.drewN n) (fun i _ => l.length - (intOf i).toNat)
  case atStart => exact ⟨0, 0, Nat.zero_le _, rfl, rfl⟩
  case round =>
    obtain ⟨k, n, hk, rfl, rfl⟩ := hrel
    by_cases hlt : k < l.length
    · obtain ⟨b1, o1, rfl, hc1⟩ : ∃ b off, a1 = some ⟨b, off, none⟩ ∧ ∀ i, i < l.length → ∀ j, j < 5 → w2.cell? ⟨b, off + i * 5 + j, none⟩ = (stpCells (nth l i))[j]? := by
        rcases H1.out with rfl | ⟨b, off, rfl, hc⟩
        · simp at hlt
        · exact ⟨b, off, rfl, hc⟩
      obtain ⟨b2, o2, rfl, hc2⟩ : ∃ b off, a2 = some ⟨b, off, none⟩ ∧ ∀ i, i < l.length → ∀ j, j < 5 → w2.cell? ⟨b, off + i * 5 + j, none⟩ = (stpCells (nth l i))[j]? := by
        rcases H2.out with rfl | ⟨b, off, rfl, hc⟩
        · simp at hlt
        · exact ⟨b, off, rfl, hc⟩
      obtain ⟨g0, g1, g2, g3, g4⟩ := stp_cells hc1 k hlt
      obtain ⟨d0, d1, d2, d3, d4⟩ := stp_cells hc2 k hlt
      have i1 : (0 : Int) ≤ (k : Int) := by omega
      have i2 : (k : Int) < (l.length : Int) := by omega
      clear hc1 hc2
      generalize nth l k = x at *
      go_wp2_with fail
      go_quiet (fail)
      go_wp2
      exact ⟨⟨k + 1, _, by omega, by go_num, rfl⟩, by simp only [intOf]; omega⟩
    · obtain rfl : k = l.length := by omega
      go_wp2
      go_ret
      exact ⟨rfl, below_drewN HW.out _⟩
end Go.Proofs.Ytgkmmoiniidhlaa
