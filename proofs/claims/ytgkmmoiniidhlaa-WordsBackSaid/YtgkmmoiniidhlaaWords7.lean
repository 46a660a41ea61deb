/-
  Layer 6 (words): awake, few; the statement WordsTells.
-/
import Derived.Test.YtgkmmoiniidhlaaWords6
namespace Go.Proofs.Ytgkmmoiniidhlaa
open Go.RowKit
set_option linter.unusedVariables false
set_option linter.unusedSimpArgs false

theorem strs_new (w : World) (l : List ByteArray) (cs : Array Value) (hcs : cs.toList = l.flatMap strCells) (t : TypeId) : RowOf strCells 1 (w.alloc (.cells cs t)) (some ⟨w.heap.size, 0, none⟩) l := by
  refine .inr ⟨_, 0, rfl, fun i hi j hj => ?_⟩
  obtain rfl : j = 0 := by omega
  rw [Nat.zero_add, Nat.mul_one, Nat.add_zero, cell_new, ← Array.getElem?_toList, hcs, flatS_at l i hi]
  rfl
theorem stp {w W W1 : World} (h : Below w.heap.size w W) (hb : Below W.heap.size W W1) : Below w.heap.size w W1 := h.trans (hb.mono h.size)
theorem stp_alloc {w W : World} (h : Below w.heap.size w W) (o : Obj) : Below w.heap.size w (W.alloc o) := h.alloc h.size o

/-! ### awake -/
theorem cut_lit (w : World) : Calls Try.prog 44 #[.string ⟨#[120, 61, 49, 61, 50]⟩] w fun e w' => e = .returned (.tuple #[.string ⟨#[120]⟩, .string ⟨#[49, 61, 50]⟩, .bool true]) ∧ Below w.heap.size w w' := by
  have K := wcut_any ⟨#[120, 61, 49, 61, 50]⟩ w (by decide)
  rwa [show cutA ⟨#[120, 61, 49, 61, 50]⟩ = ⟨#[120]⟩ from rfl, show cutB ⟨#[120, 61, 49, 61, 50]⟩ = ⟨#[49, 61, 50]⟩ from rfl, show cutOk ⟨#[120, 61, 49, 61, 50]⟩ = true from rfl] at K
theorem find_lit (w : World) (a : Option Addr) (hA : RowOf strCells 1 w a [⟨#[97]⟩, ⟨#[98]⟩, ⟨#[98]⟩]) : Calls Try.prog 54 #[.string ⟨#[98]⟩, .slice a 3 3] w fun e w' => e = .returned (.tuple #[.int .i64 1, .bool true]) ∧ w = w' :=
  find_any ⟨#[98]⟩ a 3 [⟨#[97]⟩, ⟨#[98]⟩, ⟨#[98]⟩] w (by decide) hA
theorem words_lit (w : World) : Calls Try.prog 49 #[.string ⟨#[97, 32, 32, 98, 35, 99]⟩] w (GivesStrs w [⟨#[97]⟩, ⟨#[98]⟩]) :=
  words_any ⟨#[97, 32, 32, 98, 35, 99]⟩ w (by decide)
theorem lines_lit (w : World) : Calls Try.prog 47 #[.string ⟨#[10, 10]⟩] w (GivesStrs w [⟨#[]⟩, ⟨#[]⟩]) :=
  lines_any ⟨#[10, 10]⟩ w (by decide)
theorem plain_lit (w : World) : Calls Try.prog 51 #[.string ⟨#[97, 32, 126]⟩] w fun e w' => e = .returned (.bool true) ∧ Below w.heap.size w w' :=
  plain_any ⟨#[97, 32, 126]⟩ w (by decide)
theorem plain_lit2 (w : World) : Calls Try.prog 51 #[.string ⟨#[10]⟩] w fun e w' => e = .returned (.bool false) ∧ Below w.heap.size w w' :=
  plain_any ⟨#[10]⟩ w (by decide)
theorem join_lit (w : World) (a : Option Addr) (hA : RowOf strCells 1 w a [⟨#[97]⟩, ⟨#[98]⟩]) : Calls Try.prog 56 #[.slice a 2 2] w fun e w' => e = .returned (.string ⟨#[97, 32, 98]⟩) ∧ Below w.heap.size w w' :=
  join_any a 2 [⟨#[97]⟩, ⟨#[98]⟩] w (by decide) (by decide) (by decide) hA
theorem same_lit (w : World) (a1 a2 : Option Addr) (c1 c2 : Nat) (h1 : RowOf strCells 1 w a1 [⟨#[97]⟩, ⟨#[98]⟩]) (h2 : RowOf strCells 1 w a2 [⟨#[97]⟩, ⟨#[98]⟩]) : Calls Try.prog 46 #[.slice a1 2 c1, .slice a2 2 c2] w fun e w' => e = .returned (.bool true) ∧ Below w.heap.size w w' :=
  wsame_eq a1 a2 c1 c2 [⟨#[97]⟩, ⟨#[98]⟩] w (by decide) h1 h2

set_option maxHeartbeats 1000000 in
theorem wawake_any (w : World) : Calls Try.prog 43 #[] w fun e w' => e = .returned (.bool true) ∧ Below w.heap.size w w' := by
  go_enter Try.func43, Try.ntmps43
  go_wp2_with fail
  refine (cut_lit _).mono ?_
  rintro e w1 ⟨rfl, b1⟩
  have B1 := Lib.hid b1
  clear b1
  go_wp2_with fail
  refine (find_lit _ _ (strs_new w1 [⟨#[97]⟩, ⟨#[98]⟩, ⟨#[98]⟩] _ rfl _)).mono ?_
  rintro e w2 ⟨rfl, rfl⟩
  go_wp2_with fail
  refine (words_lit _).mono ?_
  rintro e w3 ⟨v, rfl, ⟨a, c, rfl, hc1, hc2, hR⟩, b3⟩
  have B3 := Lib.hid (stp (stp_alloc B1.out _) b3)
  have HR := Lib.hid hR
  clear b3 hR
  go_wp2_with fail
  refine (same_lit _ a _ c _ (HR.out.same strCells_len ((Below.refl _ _).alloc (Nat.le_refl _) _)) (strs_new w3 [⟨#[97]⟩, ⟨#[98]⟩] _ rfl _)).mono ?_
  rintro e w4 ⟨rfl, b4⟩
  have B4 := Lib.hid (stp (stp_alloc B3.out _) b4)
  clear b4
  go_wp2_with fail
  refine (lines_lit _).mono ?_
  rintro e w5 ⟨v, rfl, ⟨a5, c5, rfl, _, _, _⟩, b5⟩
  have B5 := Lib.hid (stp B4.out b5)
  clear b5
  go_wp2_with fail
  refine (plain_lit _).mono ?_
  rintro e w6 ⟨rfl, b6⟩
  have B6 := Lib.hid (stp B5.out b6)
  clear b6
  go_wp2_with fail
  refine (plain_lit2 _).mono ?_
  rintro e w7 ⟨rfl, b7⟩
  have B7 := Lib.hid (stp B6.out b7)
  clear b7
  go_wp2_with fail
  refine (join_lit _ _ (strs_new w7 [⟨#[97]⟩, ⟨#[98]⟩] _ rfl _)).mono ?_
  rintro e w8 ⟨rfl, b8⟩
  have B8 := Lib.hid (stp (stp_alloc B7.out _) b8)
  clear b8
  go_wp2_with fail
  go_ret
  exact ⟨rfl, B8.out⟩

/-! ### WordsTells -/
theorem same_any' (w : World) (v1 v2 : Value) (l : List ByteArray) (m1 : l.length ≤ 20000) (h1 : StrsAt w v1 l) (h2 : StrsAt w v2 l) : Calls Try.prog 46 #[v1, v2] w fun e w' => e = .returned (.bool true) ∧ Below w.heap.size w w' := by
  obtain ⟨a1, c1, rfl, _, _, r1⟩ := h1
  obtain ⟨a2, c2, rfl, _, _, r2⟩ := h2
  exact wsame_eq a1 a2 c1 c2 l w m1 r1 r2
theorem lines_len (s : ByteArray) (hs : s.size ≤ 10000) : (linesOf s).length ≤ 20000 := by
  have h := parts_len isFeed s s.size
  unfold linesOf
  rw [List.length_append]
  split <;> simp <;> omega
theorem words_len (s : ByteArray) (hs : s.size ≤ 10000) : (wordsOf s).length ≤ 20000 := by
  have h1 := parts_len isGap s (firstAt (eqB 35) s)
  have h2 := first_le (eqB 35) s
  have h3 := List.length_filter_le some? (partsOf isGap 35 s)
  unfold wordsOf
  simp only [partsOf, List.length_append, List.length_cons, List.length_nil] at h3
  unfold partsOf
  omega
set_option maxHeartbeats 2000000 in
theorem tells_walk (s : ByteArray) (w : World) (hs : s.size ≤ maxLen) : Calls Try.prog 9 #[.string s] w fun e w' => e = .returned (.bool true) ∧ Below w.heap.size w w' := by
  unfold maxLen at hs
  by_cases h5 : 500 < s.size
  · have i1 : (500 : Int) < (s.size : Int) := by omega
    go_enter Try.func9, Try.ntmps9
    go_wp2_with fail
    refine (wawake_any _).mono ?_
    rintro e w1 ⟨rfl, b1⟩
    go_wp2_with fail
    go_ret
    exact ⟨rfl, b1⟩
  · have h10 : s.size ≤ 10000 := by omega
    have i1 : (s.size : Int) ≤ 500 := by omega
    have C := Lib.hid (fun W => wcut_any s W h10)
    have RC := Lib.hid (fun W => rcut_any s W h10)
    have L := Lib.hid (fun W => lines_any s W h10)
    have RL := Lib.hid (fun W => rlines_any s W h10)
    have WO := Lib.hid (fun W => words_any s W h10)
    have RW := Lib.hid (fun W => rwords_any s W h10)
    have PL := Lib.hid (fun W => plain_any s W h10)
    have RP := Lib.hid (fun W => rplain_any s W h10)
    have nl := Lib.hid (lines_len s h10)
    have nw := Lib.hid (words_len s h10)
    generalize cutA s = ca at *
    generalize cutB s = cb at *
    generalize cutOk s = ck at *
    generalize plainOf s = pl at *
    generalize linesOf s = ll at *
    generalize wordsOf s = lw at *
    go_enter Try.func9, Try.ntmps9
    go_wp2_with fail
    refine (C.out _).mono ?_
    rintro e w1 ⟨rfl, b1⟩
    have B1 := Lib.hid b1
    clear b1
    go_wp2_with fail
    refine (RC.out _).mono ?_
    rintro e w2 ⟨rfl, b2⟩
    have B2 := Lib.hid (stp B1.out b2)
    clear b2
    go_wp2_with fail
    refine (L.out _).mono ?_
    rintro e w3 ⟨v3, rfl, hv3, b3⟩
    have B3 := Lib.hid (stp B2.out b3)
    have V3 := Lib.hid hv3
    clear b3 hv3
    go_wp2_with fail
    refine (RL.out _).mono ?_
    rintro e w4 ⟨v4, rfl, hv4, b4⟩
    have B4 := Lib.hid (stp B3.out b4)
    have V3 := Lib.hid (V3.out.same b4)
    have V4 := Lib.hid hv4
    clear b4 hv4
    go_wp2_with fail
    refine (same_any' _ _ _ ll nl.out V3.out V4.out).mono ?_
    rintro e w5 ⟨rfl, b5⟩
    have B5 := Lib.hid (stp B4.out b5)
    clear b5
    go_wp2_with fail
    refine (WO.out _).mono ?_
    rintro e w6 ⟨v6, rfl, hv6, b6⟩
    have B6 := Lib.hid (stp B5.out b6)
    have V6 := Lib.hid hv6
    clear b6 hv6
    go_wp2_with fail
    refine (RW.out _).mono ?_
    rintro e w7 ⟨v7, rfl, hv7, b7⟩
    have B7 := Lib.hid (stp B6.out b7)
    have V6 := Lib.hid (V6.out.same b7)
    have V7 := Lib.hid hv7
    clear b7 hv7
    go_wp2_with fail
    refine (same_any' _ _ _ lw nw.out V6.out V7.out).mono ?_
    rintro e w8 ⟨rfl, b8⟩
    have B8 := Lib.hid (stp B7.out b8)
    clear b8
    go_wp2_with fail
    refine (PL.out _).mono ?_
    rintro e w9 ⟨rfl, b9⟩
    have B9 := Lib.hid (stp B8.out b9)
    clear b9
    go_wp2_with fail
    refine (RP.out _).mono ?_
    rintro e w10 ⟨rfl, rfl⟩
    go_wp2_with fail
    refine (wawake_any _).mono ?_
    rintro e w11 ⟨rfl, b11⟩
    have B11 := Lib.hid (stp B9.out b11)
    clear b11
    go_wp2_with fail
    go_ret
    exact ⟨rfl, B11.out⟩
theorem tells_done : Walk 9 Try.f9 := by
  intro W args hs hc
  rw [Try.params9] at hs hc
  obtain ⟨l⟩ := args
  match l, hs with
  | [v0], _ =>
    obtain ⟨s, rfl, h⟩ := came_string Try.underlying9 (hc 0 9 v0 rfl rfl)
    exact tells_walk s W h
end Go.Proofs.Ytgkmmoiniidhlaa
