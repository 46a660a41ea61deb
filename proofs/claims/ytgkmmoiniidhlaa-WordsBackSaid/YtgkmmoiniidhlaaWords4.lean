/-
  words.Words; the document's Words and Same.
-/
import Derived.Test.YtgkmmoiniidhlaaWords3
namespace Go.Proofs.Ytgkmmoiniidhlaa
open Go.RowKit
set_option linter.unusedVariables false
set_option linter.unusedSimpArgs false

/-- Not the empty text. -/
def some? (x : ByteArray) : Bool := decide (¬ x.size = 0)
/-- The words of a text. -/
def wordsOf (s : ByteArray) : List ByteArray := (partsOf isGap 35 s).filter some?
theorem filter_none : [(⟨#[]⟩ : ByteArray)].filter some? = [] := rfl
theorem filter_takeS (l : List ByteArray) (k : Nat) (h : k < l.length) : (l.take (k + 1)).filter some? = (l.take k).filter some? ++ (if some? (nth l k) = true then [nth l k] else []) := by
  rw [take_nth l k h, List.filter_append]
  congr 1
  simp only [List.filter_cons, List.filter_nil]

set_option maxRecDepth 100000 in
set_option maxHeartbeats 1000000 in
theorem words_any (s : ByteArray) (w : World) (hs : s.size ≤ 10000) : Calls Try.prog 49 #[.string s] w (GivesStrs w (wordsOf s)) := by
  obtain ⟨i0, hi, hz0, hz1, hz2⟩ := info_parts info_str
  have K := Lib.hid (parted_any 95 (enters_of Try.func95 (by kernel_rfl) rfl) isGap (fun c h => by simp [isGap]; omega) gap_any s 35 (by decide) w hs)
  have hL : (partsOf isGap 35 s).length ≤ 10001 := by
    have h1 := parts_len isGap s (firstAt (eqB 35) s)
    have h2 := first_le (eqB 35) s
    simp only [partsOf, List.length_append, List.length_cons, List.length_nil]
    omega
  have HW := Lib.hid (show wordsOf s = (partsOf isGap 35 s).filter some? from rfl)
  go_enter Try.func49, Try.ntmps49
  go_wp2_with fail
  refine K.out.mono ?_
  rintro e w1 ⟨v, rfl, hv, hb⟩
  obtain ⟨a, c, rfl, hc1, hc2, hR⟩ := hv
  generalize partsOf isGap 35 s = l at *
  have HR := Lib.hid hR
  have hB := Lib.hid hb
  have hsz0 := hb.size
  clear hb K hR
  go_wp2
  go_loopw [3, 5, 9] (fun v x i wr => ∃ (k : Nat) (out : List ByteArray), k ≤ l.length ∧ i = .int .i64 k ∧ out = (l.take k).filter some? ∧ out.length ≤ k ∧ wr.ownsRow w1.heap.size 9 1 v out.length (out.flatMap strCells) ∧ Below w1.heap.size w1 wr) (fun _ _ i _ => l.length - (intOf i).toNat)
  case atStart => exact ⟨0, [], Nat.zero_le _, rfl, rfl, Nat.le_refl _, World.ownsRow_nil _ _ _ _, Below.refl _ _⟩
  case round =>
    obtain ⟨k, out, hk, rfl, ho, hlen, hown, hb⟩ := hrel
    have hsz := hb.size
    have HO := Lib.hid hown
    have HB := Lib.hid hb
    clear hown hb
    by_cases hlt : k < l.length
    · obtain ⟨b, off, rfl, hc⟩ : ∃ b off, a = some ⟨b, off, none⟩ ∧ ∀ i, i < l.length → ∀ j, j < 1 → wr.cell? ⟨b, off + i * 1 + j, none⟩ = (strCells (nth l i))[j]? := by
        rcases HR.out.same strCells_len HB.out with rfl | ⟨b, off, rfl, hc⟩
        · simp at hlt
        · exact ⟨b, off, rfl, hc⟩
      have c0 := str_cell hc k hlt
      have hF := filter_takeS l k hlt
      rw [← ho] at hF
      clear hc ho
      obtain ⟨x, hx⟩ : ∃ x, x = nth l k := ⟨_, rfl⟩
      rw [← hx] at hF c0
      clear hx
      by_cases hp : x.size = 0
      · obtain rfl := (empty_iff x).2 hp
        rw [if_neg (by decide), List.append_nil] at hF
        have HF := Lib.hid hF
        clear hF
        go_wp2
        go_roundw
        case rel => exact ⟨k + 1, out, by omega, by go_num, HF.out.symm, by omega, HO.out, HB.out⟩
        case measure => simp [intOf]; omega
      · have hx1 : x.toList.isEmpty = false := text_some x hp
        rw [if_pos (by simp [some?, hp])] at hF
        have HF := Lib.hid hF
        clear hF
        go_wp2_with (at_builtin; refine wpList_append_one (by rfl) _ _ 89 (by rfl) w1.heap.size 9 i0 (.string ⟨#[]⟩) 1 16 Try.underlying89 hi hz0 hz1 hz2 rfl (by decide) _ _ _ _ (by rfl) HO.out (by rfl) (by rfl) (by rfl) (by omega) (by omega) hsz ?_; intro v' w2 hown1 hb1)
        go_roundw
        case rel => exact ⟨k + 1, out ++ [x], by omega, by go_num, HF.out.symm, by simp; omega, by simpa [strCells] using hown1, HB.out.trans hb1⟩
        case measure => simp [intOf]; omega
    · obtain rfl : k = l.length := by omega
      rw [List.take_of_length_le (Nat.le_refl _)] at ho
      have HE := Lib.hid ho
      clear ho
      go_wp2
      go_ret
      exact ⟨_, rfl, by rw [HW.out, ← HE.out]; exact str_of_own HO.out rfl, hB.out.trans (HB.out.mono hsz0)⟩

set_option maxRecDepth 100000 in
set_option maxHeartbeats 1000000 in
theorem rwords_any (s : ByteArray) (w : World) (hs : s.size ≤ 10000) : Calls Try.prog 50 #[.string s] w (GivesStrs w (wordsOf s)) := by
  obtain ⟨i0, hi, hz0, hz1, hz2⟩ := info_parts info_str
  have hfs := first_le (eqB 35) s
  go_enter Try.func50, Try.ntmps50
  go_wp2
  go_loopw [3, 4, 5] (fun v x i wr => ∃ (k : Nat) (out : List ByteArray), k ≤ firstAt (eqB 35) s ∧ i = .int .i64 k ∧ x = .string (s.extract (parts isGap s k).2 k) ∧ out = (parts isGap s k).1.filter some? ∧ out.length ≤ k ∧ wr.ownsRow w.heap.size 9 1 v out.length (out.flatMap strCells) ∧ Below w.heap.size w wr) (fun _ _ i _ => s.size - (intOf i).toNat)
  case atStart => exact ⟨0, [], Nat.zero_le _, rfl, by rw [show (parts isGap s 0).2 = 0 from rfl, extract_nil], rfl, Nat.le_refl _, World.ownsRow_nil _ _ _ _, Below.refl _ _⟩
  case round =>
    obtain ⟨k, out, hk, rfl, rfl, ho, hlen, hown, hb⟩ := hrel
    have hsz := hb.size
    have hfl := parts_le isGap s k
    have HO := Lib.hid hown
    have HB := Lib.hid hb
    clear hown hb
    by_cases hlt : k < firstAt (eqB 35) s
    · have hks : k < s.size := by omega
      have HP := Lib.hid (show (isGap (sbyte s k) = true → parts isGap s (k + 1) = ((parts isGap s k).1 ++ [s.extract (parts isGap s k).2 k], k + 1)) from parts_yes)
      have HS := Lib.hid (show (isGap (sbyte s k) = false → parts isGap s (k + 1) = parts isGap s k) from parts_no)
      have hno := first_no (eqB 35) s k hlt
      generalize hpa : parts isGap s k = pa at *
      obtain ⟨pt, fr⟩ := pa
      dsimp only at hfl ho HP HS ⊢
      have HPA := Lib.hid hpa
      have HX := Lib.hid (extract_join s fr k (k + 1) hfl (by omega))
      have hxs : (s.extract fr k).size = k - fr := size_extract' s fr k (by omega)
      have HO2 := Lib.hid ho
      clear hpa ho
      have hbyte := sbyte_at s k hks
      have hb256 := sbyte_lt s k
      generalize sbyte s k = y at *
      have hy35 : ((y : Int) == 35) = false := by simpa [eqB] using hno
      clear hno
      generalize hxx : s.extract fr k = x at *
      by_cases hy : isGap y = true
      · have HPP := Lib.hid (HP.out hy)
        have hy' : y = 32 ∨ y = 9 := by simpa [isGap] using hy
        clear hy
        by_cases hx0 : x.size = 0
        · obtain rfl := (empty_iff x).2 hx0
          rcases hy' with rfl | rfl
          all_goals
            go_wp2
            go_roundw
            case rel =>
              refine ⟨k + 1, out, by omega, by go_num, by rw [HPP.out]; exact congrArg _ (extract_nil s (k + 1)).symm, ?_, by omega, HO.out, HB.out⟩
              rw [HPP.out, List.filter_append, ← HO2.out]
              simp [some?]
              try rfl
            case measure => simp [intOf]; omega
        · have hx1 : x.toList.isEmpty = false := text_some x hx0
          rcases hy' with rfl | rfl
          all_goals
            go_wp2_with (at_builtin; refine wpList_append_one (by rfl) _ _ 89 (by rfl) w.heap.size 9 i0 (.string ⟨#[]⟩) 1 16 Try.underlying89 hi hz0 hz1 hz2 rfl (by decide) _ _ _ _ (by rfl) HO.out (by rfl) (by rfl) (by rfl) (by omega) (by omega) hsz ?_; intro v' w2 hown1 hb1)
            go_roundw
            case rel =>
              refine ⟨k + 1, out ++ [x], by omega, by go_num, by rw [HPP.out]; exact congrArg _ (extract_nil s (k + 1)).symm, ?_, by simp; omega, by simpa [strCells] using hown1, HB.out.trans hb1⟩
              rw [HPP.out, List.filter_append, ← HO2.out]
              simp [some?, hx0]
            case measure => simp [intOf]; omega
      · have hy0 : isGap y = false := by simpa using hy
        have HPP := Lib.hid (HS.out hy0)
        have hy1 : ((y : Int) != 32) = true := by
          simp [isGap] at hy0; simp; omega
        have hy2 : ((y : Int) != 9) = true := by
          simp [isGap] at hy0; simp; omega
        clear hy hy0
        go_wp2
        go_roundw
        case rel =>
          exact ⟨k + 1, out, by omega, by go_num, by rw [HPP.out, ← HX.out], by rw [HPP.out]; exact HO2.out, by omega, HO.out, HB.out⟩
        case measure => simp [intOf]; omega
    · obtain rfl : k = firstAt (eqB 35) s := by omega
      have HW := Lib.hid (show wordsOf s = ((parts isGap s (firstAt (eqB 35) s)).1 ++ [s.extract (parts isGap s (firstAt (eqB 35) s)).2 (firstAt (eqB 35) s)]).filter some? from rfl)
      have hyes := first_yes (eqB 35) s
      generalize firstAt (eqB 35) s = k at *
      generalize parts isGap s k = pa at *
      obtain ⟨pt, fr⟩ := pa
      dsimp only at hfl ho HW ⊢
      have HO2 := Lib.hid ho
      clear ho
      generalize hxx : s.extract fr k = x at *
      by_cases hks : k < s.size
      · have hy := hyes hks
        have hbyte := sbyte_at s k hks
        generalize sbyte s k = y at *
        obtain rfl : y = 35 := by simp [eqB] at hy; omega
        clear hy hyes
        by_cases hx0 : x.size = 0
        · obtain rfl := (empty_iff x).2 hx0
          go_wp2
          go_ret
          exact ⟨_, rfl, by rw [HW.out, List.filter_append, ← HO2.out, filter_none, List.append_nil]; exact str_of_own HO.out rfl, HB.out⟩
        · have hx1 : x.toList.isEmpty = false := text_some x hx0
          go_wp2_with (at_builtin; refine wpList_append_one (by rfl) _ _ 89 (by rfl) w.heap.size 9 i0 (.string ⟨#[]⟩) 1 16 Try.underlying89 hi hz0 hz1 hz2 rfl (by decide) _ _ _ _ (by rfl) HO.out (by rfl) (by rfl) (by rfl) (by omega) (by omega) hsz ?_; intro v' w2 hown1 hb1)
          go_ret
          exact ⟨v', rfl, str_own_add hown1 rfl (by rw [HW.out, List.filter_append, ← HO2.out]; simp [some?, hx0]), HB.out.trans hb1⟩
      · clear hyes
        obtain rfl : k = s.size := by omega
        by_cases hx0 : x.size = 0
        · obtain rfl := (empty_iff x).2 hx0
          go_wp2
          go_ret
          exact ⟨_, rfl, by rw [HW.out, List.filter_append, ← HO2.out, filter_none, List.append_nil]; exact str_of_own HO.out rfl, HB.out⟩
        · have hx1 : x.toList.isEmpty = false := text_some x hx0
          go_wp2_with (at_builtin; refine wpList_append_one (by rfl) _ _ 89 (by rfl) w.heap.size 9 i0 (.string ⟨#[]⟩) 1 16 Try.underlying89 hi hz0 hz1 hz2 rfl (by decide) _ _ _ _ (by rfl) HO.out (by rfl) (by rfl) (by rfl) (by omega) (by omega) hsz ?_; intro v' w2 hown1 hb1)
          go_ret
          exact ⟨v', rfl, str_own_add hown1 rfl (by rw [HW.out, List.filter_append, ← HO2.out]; simp [some?, hx0]), HB.out.trans hb1⟩

/-! ### Same -/
set_option maxRecDepth 100000 in
set_option maxHeartbeats 1000000 in
theorem wsame_eq (a1 a2 : Option Addr) (c1 c2 : Nat) (l : List ByteArray) (w : World) (m1 : l.length ≤ 20000) (h1 : RowOf strCells 1 w a1 l) (h2 : RowOf strCells 1 w a2 l) :
    Calls Try.prog 46 #[.slice a1 l.length c1, .slice a2 l.length c2] w fun e w' => e = .returned (.bool true) ∧ Below w.heap.size w w' := by
  rcases h1 with rfl | ⟨b1, o1, rfl, hc1⟩
  · go_enter Try.func46, Try.ntmps46
    go_wp2
    go_loop [5] (fun i => i = .int .i64 0) (fun _ => 0)
    case atStart => rfl
    case round =>
      subst hrel
      go_wp2
      go_ret
      exact ⟨rfl, Below.refl _ _⟩
  · rcases h2 with rfl | ⟨b2, o2, rfl, hc2⟩
    · go_enter Try.func46, Try.ntmps46
      go_wp2
      go_loop [5] (fun i => i = .int .i64 0) (fun _ => 0)
      case atStart => rfl
      case round =>
        subst hrel
        go_wp2
        go_ret
        exact ⟨rfl, Below.refl _ _⟩
    · have HC1 := Lib.hid hc1
      have HC2 := Lib.hid hc2
      clear hc1 hc2
      go_enter Try.func46, Try.ntmps46
      go_wp2
      go_loopw [5] (fun i wr => ∃ k n : Nat, k ≤ l.length ∧ i = .int .i64 k ∧ wr = w.drewN n) (fun i _ => l.length - (intOf i).toNat)
      case atStart => exact ⟨0, 0, Nat.zero_le _, rfl, rfl⟩
      case round =>
        obtain ⟨k, n, hk, rfl, rfl⟩ := hrel
        by_cases hlt : k < l.length
        · have g0 := str_cell HC1.out k hlt
          have d0 := str_cell HC2.out k hlt
          have i1 : (0 : Int) ≤ (k : Int) := by omega
          have i2 : (k : Int) < (l.length : Int) := by omega
          generalize nth l k = x at *
          go_wp2_with fail
          go_quiet (fail)
          go_wp2
          exact ⟨⟨k + 1, _, by omega, by go_num, rfl⟩, by simp only [intOf]; omega⟩
        · obtain rfl : k = l.length := by omega
          go_wp2
          go_ret
          exact ⟨rfl, below_drewN (Below.refl _ _) _⟩
end Go.Proofs.Ytgkmmoiniidhlaa
