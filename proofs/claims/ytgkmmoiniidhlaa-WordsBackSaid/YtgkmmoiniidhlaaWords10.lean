/-
  Layer 6 (words): the statement WordsBack.
-/
import Derived.Test.YtgkmmoiniidhlaaWords9
import Derived.Test.YtgkmmoiniidhlaaTwoRows
import Derived.WalkMore
namespace Go.Proofs.Ytgkmmoiniidhlaa
open Go.RowKit
set_option linter.unusedVariables false
set_option linter.unusedSimpArgs false

def okW (b : Nat) : Bool := !(b == 32) && !(b == 9) && !(b == 35)
def okL (b : Nat) : Bool := !(b == 10)
def flagW (x : ByteArray) (j : Nat) : Bool := decide (0 < x.size) && (List.range j).all fun i => okW (sbyte x i)
def flagL (x : ByteArray) (j : Nat) : Bool := (List.range j).all fun i => okL (sbyte x i)
theorem flagW_succ (x : ByteArray) (j : Nat) : flagW x (j + 1) = (flagW x j && okW (sbyte x j)) := by
  unfold flagW
  rw [List.range_succ, List.all_append, Bool.and_assoc]
  simp
theorem flagL_succ (x : ByteArray) (j : Nat) : flagL x (j + 1) = (flagL x j && okL (sbyte x j)) := by
  unfold flagL
  rw [List.range_succ, List.all_append]
  simp
def isW (x : ByteArray) : Bool := flagW x x.size
def isL (x : ByteArray) : Bool := flagL x x.size
theorem isW_at {x : ByteArray} (h : isW x = true) : ¬ x.size = 0 ∧ ∀ i, i < x.size → isGap (sbyte x i) = false ∧ eqB 35 (sbyte x i) = false := by
  unfold isW flagW at h
  simp only [Bool.and_eq_true, decide_eq_true_eq, List.all_eq_true, List.mem_range] at h
  refine ⟨by omega, fun i hi => ?_⟩
  have := h.2 i hi
  simp [okW] at this
  simp [isGap, eqB]
  omega
theorem isL_at {x : ByteArray} (h : isL x = true) : ∀ i, i < x.size → isFeed (sbyte x i) = false := by
  unfold isL flagL at h
  simp only [List.all_eq_true, List.mem_range] at h
  intro i hi
  have := h i hi
  simp [okL] at this
  simp [isFeed]
  exact this
theorem filter_takeP (p : ByteArray → Bool) (l : List ByteArray) (k : Nat) (h : k < l.length) : (l.take (k + 1)).filter p = (l.take k).filter p ++ (if p (nth l k) = true then [nth l k] else []) := by
  rw [take_nth l k h, List.filter_append]
  congr 1
  simp only [List.filter_cons, List.filter_nil]

/-- What the loop holds. -/
structure BackAt (H : Nat) (w : World) (lw ll : List ByteArray) (v3 v4 : Value) (wr : World) : Prop where
  o3 : wr.ownsRow H 9 1 v3 lw.length (lw.flatMap strCells)
  o4 : wr.ownsRow H 9 1 v4 ll.length (ll.flatMap strCells)
  ap : Apart2 v4 v3
  b : Below H w wr

set_option maxRecDepth 100000 in
set_option maxHeartbeats 4000000 in
theorem back_walk6 (a : Option Addr) (c : Nat) (l : List ByteArray) (w : World) (g1 : l.length ≤ c) (g2 : c ≤ 9223372036854775807) (hA : RowOf strCells 1 w a l) :
    Calls Try.prog 11 #[.slice a l.length c] w fun e w' => e = .returned (.bool true) ∧ Below w.heap.size w w' := by
  obtain ⟨i0, hi, hz0, hz1, hz2⟩ := info_parts info_str
  have F := Lib.hid (few_any a c l w (by omega) hA)
  cases hf : fewB l with
  | false =>
    rw [hf] at F
    clear hA hf
    go_enter Try.func11, Try.ntmps11
    go_wp2_with fail
    refine F.out.mono ?_
    rintro e w1 ⟨rfl, rfl⟩
    go_wp2_with fail
    refine (wawake_any _).mono ?_
    rintro e w1 ⟨rfl, b1⟩
    go_wp2_with fail
    go_ret
    exact ⟨rfl, b1⟩
  | true =>
    obtain ⟨hm, hx⟩ := few_all hf
    have HA := Lib.hid hA
    rw [hf] at F
    clear hA hf
    go_enter Try.func11, Try.ntmps11
    go_wp2_with fail
    refine F.out.mono ?_
    rintro e w1 ⟨rfl, rfl⟩
    go_wp2_with fail
    go_loopw [3, 4, 5, 6, 7, 8, 9, 10] (fun v3 v4 t i q7 q8 q9 q10 wr => ∃ (k : Nat) (T : ByteArray), k ≤ l.length ∧ i = .int .i64 k ∧ t = .string T ∧ T = textOf ((l.take k).filter isL) ∧ T.size ≤ 101 * k ∧ ((l.take k).filter isW).length ≤ k ∧ ((l.take k).filter isL).length ≤ k ∧ BackAt w.heap.size w ((l.take k).filter isW) ((l.take k).filter isL) v3 v4 wr) (fun _ _ _ i _ _ _ _ _ => l.length - (intOf i).toNat)
    case atStart => exact ⟨0, ⟨#[]⟩, Nat.zero_le _, rfl, rfl, rfl, Nat.le_refl _, Nat.le_refl _, Nat.le_refl _, World.ownsRow_nil _ _ _ _, World.ownsRow_nil _ _ _ _, .inl rfl, Below.refl _ _⟩
    case round =>
      obtain ⟨k, T, hk, rfl, rfl, hT, hTs, hlw, hll, hB⟩ := hrel
      have HB := Lib.hid hB
      have hsz := hB.b.size
      clear hB
      by_cases hlt : k < l.length
      · obtain ⟨b, off, rfl, hc⟩ : ∃ b off, a = some ⟨b, off, none⟩ ∧ ∀ i, i < l.length → ∀ j, j < 1 → w.cell? ⟨b, off + i * 1 + j, none⟩ = (strCells (nth l i))[j]? := by
          rcases HA.out with rfl | ⟨b, off, rfl, hc⟩
          · simp at hlt
          · exact ⟨b, off, rfl, hc⟩
        have cw := str_cell hc k hlt
        have hbw := cell_lt cw
        have c0 := (HB.out.b.cell (p := ⟨b, off + k, none⟩) hbw).trans cw
        have hxs := hx _ (nth_mem' l k hlt)
        have HFW := Lib.hid (filter_takeP isW l k hlt)
        have HFL := Lib.hid (filter_takeP isL l k hlt)
        have HT := Lib.hid hT
        clear hc cw hT
        generalize nth l k = x at *
        generalize (l.take k).filter isW = lw at *
        generalize (l.take k).filter isL = ll at *
        go_wp2_with fail
        go_hide hQ
        go_loop [7, 8, 9, 10] (fun wd ln kk cc => ∃ j, j ≤ x.size ∧ kk = .int .i64 (j : Nat) ∧ wd = .bool (flagW x j) ∧ ln = .bool (flagL x j)) (fun _ _ kk _ => x.size - (intOf kk).toNat)
        case atStart => exact ⟨0, Nat.zero_le _, rfl, by simp [flagW], rfl⟩
        case round =>
          obtain ⟨j, hj, rfl, rfl, rfl⟩ := hrel
          by_cases hlj : j < x.size
          · have hbyte := sbyte_at x j hlj
            have hb256 := sbyte_lt x j
            have HW := Lib.hid (flagW_succ x j)
            have HL := Lib.hid (flagL_succ x j)
            generalize sbyte x j = y at hbyte hb256 HW HL
            generalize flagW x j = W0 at *
            generalize flagL x j = L0 at *
            obtain rfl | rfl | rfl | rfl | hy : y = 32 ∨ y = 9 ∨ y = 35 ∨ y = 10 ∨ (y ≠ 32 ∧ y ≠ 9 ∧ y ≠ 35 ∧ y ≠ 10) := by omega
            case inr.inr.inr.inr =>
              have n1 : ((y : Int) != 32) = true := by simp; omega
              have n2 : ((y : Int) != 9) = true := by simp; omega
              have n3 : ((y : Int) != 35) = true := by simp; omega
              have n4 : ((y : Int) != 10) = true := by simp; omega
              have HO := Lib.hid (show okW y = true by simp [okW]; omega)
              have HO2 := Lib.hid (show okL y = true by simp [okL]; omega)
              cases W0 <;> cases L0
              all_goals
                go_wp2
                go_round
                case rel => exact ⟨j + 1, by omega, by go_num, by rw [HW.out, HO.out]; rfl, by rw [HL.out, HO2.out]; rfl⟩
                case measure => simp [intOf]; omega
            all_goals
              cases W0 <;> cases L0
              all_goals
                go_wp2
                go_round
                case rel => exact ⟨j + 1, by omega, by go_num, by rw [HW.out]; rfl, by rw [HL.out]; rfl⟩
                case measure => simp [intOf]; omega
          · obtain rfl : j = x.size := by omega
            cases hW : flagW x x.size <;> cases hL : flagL x x.size
            · have EW := Lib.hid (show (l.take (k + 1)).filter isW = lw by rw [HFW.out, isW, hW]; simp)
              have EL := Lib.hid (show (l.take (k + 1)).filter isL = ll by rw [HFL.out, isL, hL]; simp)
              clear hW hL
              go_wp2
              subst hQ
              go_wp2
              go_roundw
              case rel => exact ⟨k + 1, T, by omega, by go_num, rfl, by rw [EL.out]; exact HT.out, by omega, by rw [EW.out]; omega, by rw [EL.out]; omega, by rw [EW.out, EL.out]; exact HB.out⟩
              case measure => simp [intOf]; omega
            · have EW := Lib.hid (show (l.take (k + 1)).filter isW = lw by rw [HFW.out, isW, hW]; simp)
              have EL := Lib.hid (show (l.take (k + 1)).filter isL = ll ++ [x] by rw [HFL.out, isL, hL]; simp)
              clear hW hL
              go_wp2
              subst hQ
              go_wp2_with (at_builtin; refine wpList_append_two (by rfl) _ _ 89 (by rfl) w.heap.size 9 i0 (.string ⟨#[]⟩) 1 16 Try.underlying89 hi hz0 hz1 hz2 rfl (by decide) _ _ _ _ (by rfl) HB.out.o4 _ _ _ _ _ HB.out.o3 HB.out.ap.symm (by rfl) (by rfl) (by rfl) (by omega) (by omega) hsz ?_; intro v4' w1 n4 n3 na nb; have c1 := (nb.cell (p := ⟨b, off + k, none⟩) hbw).trans c0; have hs1 := nb.size)
              go_roundw
              case rel => exact ⟨k + 1, T ++ x ++ ⟨#[10]⟩, by omega, by go_num, rfl, by rw [EL.out, textOf_snoc, ← HT.out], by rw [ByteArray.size_append, ByteArray.size_append]; show T.size + x.size + 1 ≤ _; omega, by rw [EW.out]; omega, by rw [EL.out]; simp; omega, by rw [EW.out, EL.out]; exact ⟨n3, by simpa [strCells] using n4, na.symm, HB.out.b.trans nb⟩⟩
              case measure => simp [intOf]; omega
            · have EW := Lib.hid (show (l.take (k + 1)).filter isW = lw ++ [x] by rw [HFW.out, isW, hW]; simp)
              have EL := Lib.hid (show (l.take (k + 1)).filter isL = ll by rw [HFL.out, isL, hL]; simp)
              clear hW hL
              go_wp2
              subst hQ
              go_wp2_with (at_builtin; refine wpList_append_two (by rfl) _ _ 89 (by rfl) w.heap.size 9 i0 (.string ⟨#[]⟩) 1 16 Try.underlying89 hi hz0 hz1 hz2 rfl (by decide) _ _ _ _ (by rfl) HB.out.o3 _ _ _ _ _ HB.out.o4 HB.out.ap (by rfl) (by rfl) (by rfl) (by omega) (by omega) hsz ?_; intro v3' w1 n3 n4 na nb; have c1 := (nb.cell (p := ⟨b, off + k, none⟩) hbw).trans c0; have hs1 := nb.size)
              go_roundw
              case rel => exact ⟨k + 1, T, by omega, by go_num, rfl, by rw [EL.out]; exact HT.out, by omega, by rw [EW.out]; simp; omega, by rw [EL.out]; omega, by rw [EW.out, EL.out]; exact ⟨by simpa [strCells] using n3, n4, na, HB.out.b.trans nb⟩⟩
              case measure => simp [intOf]; omega
            · have EW := Lib.hid (show (l.take (k + 1)).filter isW = lw ++ [x] by rw [HFW.out, isW, hW]; simp)
              have EL := Lib.hid (show (l.take (k + 1)).filter isL = ll ++ [x] by rw [HFL.out, isL, hL]; simp)
              clear hW hL
              go_wp2
              subst hQ
              go_wp2_with (first | (at_builtin; refine wpList_append_two (by rfl) _ _ 89 (by rfl) w.heap.size 9 i0 (.string ⟨#[]⟩) 1 16 Try.underlying89 hi hz0 hz1 hz2 rfl (by decide) _ _ _ _ (by rfl) HB.out.o3 _ _ _ _ _ HB.out.o4 HB.out.ap (by rfl) (by rfl) (by rfl) (by omega) (by omega) hsz ?_; intro v3' w1 n3 n4 na nb; have c1 := (nb.cell (p := ⟨b, off + k, none⟩) hbw).trans c0; have hs1 := nb.size) | (at_builtin; refine wpList_append_two (by rfl) _ _ 89 (by rfl) w.heap.size 9 i0 (.string ⟨#[]⟩) 1 16 Try.underlying89 hi hz0 hz1 hz2 rfl (by decide) _ _ _ _ (by rfl) n4 _ _ _ _ _ n3 na.symm (by rfl) (by rfl) (by rfl) (by omega) (by omega) (by omega) ?_; intro v4' w2 m4 m3 ma mb; have c2 := (mb.cell (p := ⟨b, off + k, none⟩) hbw).trans c1; have hs2 := mb.size))
              go_roundw
              case rel => exact ⟨k + 1, T ++ x ++ ⟨#[10]⟩, by omega, by go_num, rfl, by rw [EL.out, textOf_snoc, ← HT.out], by rw [ByteArray.size_append, ByteArray.size_append]; show T.size + x.size + 1 ≤ _; omega, by rw [EW.out]; simp; omega, by rw [EL.out]; simp; omega, by rw [EW.out, EL.out]; exact ⟨by simpa [strCells] using m3, by simpa [strCells] using m4, ma.symm, (HB.out.b.trans nb).trans mb⟩⟩
              case measure => simp [intOf]; omega
      · obtain rfl : k = l.length := by omega
        rw [List.take_of_length_le (Nat.le_refl _)] at HB hT hlw hll
        have hW1 : ∀ x, x ∈ l.filter isW → ¬ x.size = 0 ∧ ∀ i, i < x.size → isGap (sbyte x i) = false ∧ eqB 35 (sbyte x i) = false := fun x hx => isW_at (List.mem_filter.1 hx).2
        have hL1 : ∀ x, x ∈ l.filter isL → ∀ i, i < x.size → isFeed (sbyte x i) = false := fun x hx => isL_at (List.mem_filter.1 hx).2
        have eW := words_back (l.filter isW) (fun x h => (hW1 x h).1) (fun x h => (hW1 x h).2)
        have eL := lines_text (l.filter isL) hL1
        have hxW : ∀ x, x ∈ l.filter isW → x.size ≤ 100 := fun x h => hx x (List.mem_filter.1 h).1
        have hjn := jn_len (l.filter isW) hxW
        rw [← hT] at eL
        have HXW := Lib.hid hxW
        clear hT hW1 hL1 hx hxW
        obtain ⟨a3, c3, e3, hc3, hc3', hr3⟩ := str_of_own HB.out.o3 rfl
        have V4 := str_of_own HB.out.o4 rfl
        have EW := Lib.hid eW
        have EL := Lib.hid eL
        have R3 := Lib.hid hr3
        have V4 := Lib.hid V4
        have hb := Lib.hid HB.out.b
        clear HB eW eL hr3
        subst e3
        have JO := Lib.hid (join_any a3 c3 (l.filter isW) wr (by omega) hc3 HXW.out R3.out)
        have WO := Lib.hid (fun W => words_any (jn (l.filter isW)) W (by omega))
        have LI := Lib.hid (fun W => lines_any T W (by omega))
        rw [EW.out] at WO
        rw [EL.out] at LI
        clear EW EL
        generalize l.filter isW = lw at *
        generalize l.filter isL = ll at *
        generalize jn lw = z at *
        go_wp2_with fail
        refine JO.out.mono ?_
        rintro e w1 ⟨rfl, b1⟩
        have B1 := Lib.hid (stp hb.out b1)
        have D1 := Lib.hid b1
        clear b1
        go_wp2_with fail
        refine (WO.out _).mono ?_
        rintro e w2 ⟨v2, rfl, hv2, b2⟩
        have B2 := Lib.hid (stp B1.out b2)
        have D2 := Lib.hid (D1.out.trans (b2.mono D1.out.size))
        have V2 := Lib.hid hv2
        clear b2 hv2
        go_wp2_with fail
        refine (same_any' _ _ _ lw (by omega) V2.out ⟨a3, c3, rfl, hc3, hc3', R3.out.same strCells_len D2.out⟩).mono ?_
        rintro e w3 ⟨rfl, b3⟩
        have B3 := Lib.hid (stp B2.out b3)
        have D3 := Lib.hid (D2.out.trans (b3.mono D2.out.size))
        clear b3
        go_wp2_with fail
        refine (LI.out _).mono ?_
        rintro e w4 ⟨v5, rfl, hv4, b4⟩
        have B4 := Lib.hid (stp B3.out b4)
        have D4 := Lib.hid (D3.out.trans (b4.mono D3.out.size))
        have V5 := Lib.hid hv4
        clear b4 hv4
        go_wp2_with fail
        refine (same_any' _ _ _ ll (by omega) V5.out (V4.out.same D4.out)).mono ?_
        rintro e w5 ⟨rfl, b5⟩
        have B5 := Lib.hid (stp B4.out b5)
        clear b5
        go_wp2_with fail
        refine (wawake_any _).mono ?_
        rintro e w6 ⟨rfl, b6⟩
        have B6 := Lib.hid (stp B5.out b6)
        clear b6
        go_wp2_with fail
        go_ret
        exact ⟨rfl, B6.out⟩
theorem back_done : Walk 11 Try.f11 := by
  intro W args hs hc
  rw [Try.params11] at hs hc
  obtain ⟨l⟩ := args
  match l, hs with
  | [v0], _ =>
    obtain ⟨a, c, l, rfl, g1, g2, _, hl⟩ := row_of_sl (k := 1) (cells := strCells) (fun x => x.size ≤ maxLen) (by omega) str_of (came_slice Try.underlying89 (ps := [IsS]) (by kernel_rfl) opens_str (hc 0 89 v0 rfl rfl))
    exact back_walk6 a c l W g1 g2 hl
end Go.Proofs.Ytgkmmoiniidhlaa
