/-
  words.Lines, words.Words; the document's Lines and Words; Same.
-/
import Derived.Test.YtgkmmoiniidhlaaWords2
import Derived.Deep.MidRow
import Derived.Shelf.Abstract
namespace Go.Proofs.Ytgkmmoiniidhlaa
open Go.RowKit
set_option linter.unusedVariables false
set_option linter.unusedSimpArgs false

theorem text_some (x : ByteArray) (h : ¬ x.size = 0) : x.toList.isEmpty = false := by
  have e1 : x.toList.length = x.size := by rw [ByteArray.toList_eq]; exact size_list x
  cases hx : x.toList with
  | nil => rw [hx] at e1; exact absurd e1.symm h
  | cons y l => rfl
/-- A call that makes a row of texts. -/
def GivesStrs (w : World) (l : List ByteArray) (e : Ending) (w' : World) : Prop := ∃ v, e = .returned v ∧ StrsAt w' v l ∧ Below w.heap.size w w'
/-- The lines of a text. -/
def linesOf (s : ByteArray) : List ByteArray := (parts isFeed s s.size).1 ++ (if (parts isFeed s s.size).2 < s.size then [s.extract (parts isFeed s s.size).2 s.size] else [])
theorem feed_parts (s : ByteArray) : partsOf isFeed (-1) s = (parts isFeed s s.size).1 ++ [s.extract (parts isFeed s s.size).2 s.size] := by
  rw [partsOf, first_none (eqB (-1)) s (fun j h => by simp [eqB])]
theorem row_take {α : Type} [Inhabited α] {cells : α → List Value} {k : Nat} {w : World} {a : Option Addr} {l : List α} (h : RowOf cells k w a l) (n : Nat) : RowOf cells k w a (l.take n) := by
  rcases h with rfl | ⟨b, off, rfl, hc⟩
  · exact .inl (by simp)
  · refine .inr ⟨b, off, rfl, fun i hi j hj => ?_⟩
    simp only [List.length_take] at hi
    rw [nth_take l n i (by omega)]
    exact hc i (by omega) j hj
theorem strsAt_front {w : World} {a : Option Addr} {c : Nat} {out : List ByteArray} {x : ByteArray} (h : RowOf strCells 1 w a (out ++ [x])) (hl : out.length + 1 ≤ c) (hc : c ≤ 9223372036854775807) : StrsAt w (.slice a out.length c) out :=
  ⟨a, c, rfl, by omega, hc, by simpa using row_take h out.length⟩

set_option maxRecDepth 100000 in
set_option maxHeartbeats 1000000 in
theorem lines_any (s : ByteArray) (w : World) (hs : s.size ≤ 10000) : Calls Try.prog 47 #[.string s] w (GivesStrs w (linesOf s)) := by
  have K := Lib.hid (parted_any 94 (enters_of Try.func94 (by kernel_rfl) rfl) isFeed (fun c h => by simp [isFeed]; omega) feed_any s (-1) (by decide) w hs)
  have hle := parts_le isFeed s s.size
  have hnl := parts_len isFeed s s.size
  go_enter Try.func47, Try.ntmps47
  go_wp2_with fail
  refine K.out.mono ?_
  rintro e w1 ⟨v, rfl, hv, hb⟩
  rw [feed_parts] at hv
  have HE := Lib.hid (show linesOf s = (parts isFeed s s.size).1 ++ (if (parts isFeed s s.size).2 < s.size then [s.extract (parts isFeed s s.size).2 s.size] else []) from rfl)
  have hsz : (s.extract (parts isFeed s s.size).2 s.size).size = s.size - (parts isFeed s s.size).2 := size_extract' _ _ _ (Nat.le_refl _)
  generalize parts isFeed s s.size = pa at *
  obtain ⟨out, fr⟩ := pa
  dsimp only at hv HE hsz hle hnl
  generalize s.extract fr s.size = x at *
  obtain ⟨a, c, rfl, hc1, hc2, hR⟩ := hv
  have HR := Lib.hid hR
  have e1 : (out ++ [x]).length = out.length + 1 := by simp
  rcases hR with h0 | ⟨b, off, rfl, hcell⟩
  · simp at h0
  · have c0 := str_cell hcell out.length (by omega)
    have e2 : nth (out ++ [x]) out.length = x := by simp [nth]
    rw [e2] at c0
    rw [e1] at hc1 ⊢
    clear hcell e1 e2
    have hB := Lib.hid hb
    clear hb K
    by_cases hx : x.size = 0
    · obtain rfl := (empty_iff x).2 hx
      rw [if_neg (by omega), List.append_nil] at HE
      go_wp2
      go_ret
      refine ⟨_, rfl, ?_, hB.out⟩
      rw [HE.out]
      exact strsAt_front HR.out hc1 hc2
    · have hx1 : x.toList.isEmpty = false := text_some x hx
      rw [if_pos (by omega)] at HE
      go_wp2
      go_ret
      refine ⟨_, rfl, ?_, hB.out⟩
      rw [HE.out]
      exact ⟨_, c, by simp, by simpa using hc1, hc2, HR.out⟩

set_option maxRecDepth 100000 in
set_option maxHeartbeats 1000000 in
theorem rlines_any (s : ByteArray) (w : World) (hs : s.size ≤ 10000) : Calls Try.prog 48 #[.string s] w (GivesStrs w (linesOf s)) := by
  obtain ⟨i0, hi, hz0, hz1, hz2⟩ := info_parts info_str
  go_enter Try.func48, Try.ntmps48
  go_wp2
  go_loopw [3, 4, 5] (fun v f i wr => ∃ (k : Nat), k ≤ s.size ∧ i = .int .i64 k ∧ f = .int .i64 ((parts isFeed s k).2 : Nat) ∧ wr.ownsRow w.heap.size 9 1 v (parts isFeed s k).1.length ((parts isFeed s k).1.flatMap strCells) ∧ Below w.heap.size w wr) (fun _ _ i _ => s.size - (intOf i).toNat)
  case atStart => exact ⟨0, Nat.zero_le _, rfl, rfl, World.ownsRow_nil _ _ _ _, Below.refl _ _⟩
  case round =>
    obtain ⟨k, hk, rfl, rfl, hown, hb⟩ := hrel
    have hsz := hb.size
    have hfl := parts_le isFeed s k
    have hol := parts_len isFeed s k
    have HO := Lib.hid hown
    have HB := Lib.hid hb
    clear hown hb
    by_cases hlt : k < s.size
    · have HP := Lib.hid (show (isFeed (sbyte s k) = true → parts isFeed s (k + 1) = ((parts isFeed s k).1 ++ [s.extract (parts isFeed s k).2 k], k + 1)) from parts_yes)
      have HS := Lib.hid (show (isFeed (sbyte s k) = false → parts isFeed s (k + 1) = parts isFeed s k) from parts_no)
      generalize hpa : parts isFeed s k = pa at *
      obtain ⟨out, fr⟩ := pa
      dsimp only at hfl hol HO HP HS ⊢
      have HPA := Lib.hid hpa
      clear hpa
      have hbyte := sbyte_at s k hlt
      have hb256 := sbyte_lt s k
      generalize sbyte s k = y at *
      by_cases hy : y = 10
      · have HPP := Lib.hid (HP.out (by simp [isFeed, hy]))
        go_wp2_with (at_builtin; refine wpList_append_one (by rfl) _ _ 89 (by rfl) w.heap.size 9 i0 (.string ⟨#[]⟩) 1 16 Try.underlying89 hi hz0 hz1 hz2 rfl (by decide) _ _ _ _ (by rfl) HO.out (by rfl) (by rfl) (by rfl) (by omega) (by omega) hsz ?_; intro v' w1 hown1 hb1)
        go_roundw
        case rel =>
          refine ⟨k + 1, by omega, by go_num, by rw [HPP.out]; go_num, ?_, HB.out.trans hb1⟩
          rw [HPP.out]
          simpa [strCells] using hown1
        case measure => simp [intOf]; omega
      · have HPP := Lib.hid (HS.out (by simp [isFeed, hy]))
        have hy1 : ((y : Int) == 10) = false := by simp; omega
        go_wp2
        go_roundw
        case rel =>
          refine ⟨k + 1, by omega, by go_num, by rw [HPP.out], ?_, HB.out⟩
          rw [HPP.out]
          exact HO.out
        case measure => simp [intOf]; omega
    · obtain rfl : k = s.size := by omega
      have HE := Lib.hid (show linesOf s = (parts isFeed s s.size).1 ++ (if (parts isFeed s s.size).2 < s.size then [s.extract (parts isFeed s s.size).2 s.size] else []) from rfl)
      generalize parts isFeed s s.size = pa at *
      obtain ⟨out, fr⟩ := pa
      dsimp only at hfl hol HO HE ⊢
      by_cases hf : fr < s.size
      · rw [if_pos hf] at HE
        go_wp2_with (at_builtin; refine wpList_append_one (by rfl) _ _ 89 (by rfl) w.heap.size 9 i0 (.string ⟨#[]⟩) 1 16 Try.underlying89 hi hz0 hz1 hz2 rfl (by decide) _ _ _ _ (by rfl) HO.out (by rfl) (by rfl) (by rfl) (by omega) (by omega) hsz ?_; intro v' w1 hown1 hb1)
        go_ret
        exact ⟨v', rfl, str_own_add hown1 rfl HE.out, HB.out.trans hb1⟩
      · rw [if_neg hf, List.append_nil] at HE
        go_wp2
        go_ret
        exact ⟨_, rfl, by rw [HE.out]; exact str_of_own HO.out rfl, HB.out⟩
end Go.Proofs.Ytgkmmoiniidhlaa
