/-
  words.Find, Join; and the document's.
-/
import Derived.Test.YtgkmmoiniidhlaaWords5
namespace Go.Proofs.Ytgkmmoiniidhlaa
open Go.RowKit
set_option linter.unusedVariables false
set_option linter.unusedSimpArgs false

/-! ### Find -/
def findW (x : ByteArray) : List ByteArray → Nat → Nat × Bool
  | [], _ => (0, false)
  | y :: l, i => if y.data.toList = x.data.toList then (i, true) else findW x l (i + 1)
theorem drop_consW (l : List ByteArray) (k : Nat) (h : k < l.length) : l.drop k = nth l k :: l.drop (k + 1) := by
  rw [nth_lt l k h, List.drop_eq_getElem_cons h]
set_option maxHeartbeats 1000000 in
theorem find_any (x : ByteArray) (a : Option Addr) (c : Nat) (l : List ByteArray) (w : World) (hm : l.length ≤ 1000) (hA : RowOf strCells 1 w a l) :
    Calls Try.prog 54 #[.string x, .slice a l.length c] w fun e w' => e = .returned (.tuple #[.int .i64 (findW x l 0).1, .bool (findW x l 0).2]) ∧ w = w' := by
  have HA := Lib.hid hA
  clear hA
  obtain ⟨F, hF⟩ : ∃ F, F = findW x l 0 := ⟨_, rfl⟩
  rw [← hF]
  go_enter Try.func54, Try.ntmps54
  go_wp2
  go_loop [6, 7, 10] (fun q r i => ∃ k : Nat, k ≤ l.length ∧ i = .int .i64 k ∧ F = findW x (l.drop k) k) (fun _ _ i => l.length - (intOf i).toNat)
  case atStart => exact ⟨0, Nat.zero_le _, rfl, hF⟩
  case round =>
    obtain ⟨k, hk, rfl, hG⟩ := hrel
    clear hF
    by_cases hlt : k < l.length
    · obtain ⟨b, off, rfl, hc⟩ : ∃ b off, a = some ⟨b, off, none⟩ ∧ ∀ i, i < l.length → ∀ j, j < 1 → w.cell? ⟨b, off + i * 1 + j, none⟩ = (strCells (nth l i))[j]? := by
        rcases HA.out with rfl | ⟨b, off, rfl, hc⟩
        · simp at hlt
        · exact ⟨b, off, rfl, hc⟩
      have c0 := str_cell hc k hlt
      rw [drop_consW l k hlt, findW] at hG
      clear hc
      generalize nth l k = y at *
      by_cases he : y.data.toList = x.data.toList
      · rw [if_pos he] at hG
        have HG := Lib.hid hG
        clear hG
        have hb : (y.toList == x.toList) = true := by rw [ByteArray.toList_eq, ByteArray.toList_eq, he]; simp
        clear he
        go_wp2
        go_returns
        exact ⟨by rw [HG.out]; rfl, rfl⟩
      · rw [if_neg he] at hG
        have HG := Lib.hid hG
        have hb : (y.toList == x.toList) = false := by rw [ByteArray.toList_eq, ByteArray.toList_eq]; simpa using he
        clear hG he
        go_wp2
        go_round
        case rel => exact ⟨k + 1, by omega, by go_num, HG.out⟩
        case measure => simp [intOf]; omega
    · have hd : l.drop k = [] := List.drop_eq_nil_of_le (by omega)
      rw [hd] at hG
      have HG := Lib.hid hG
      clear hG hd
      go_wp2
      go_returns
      exact ⟨by rw [HG.out]; rfl, rfl⟩
set_option maxHeartbeats 1000000 in
theorem wrfind_any (x : ByteArray) (a : Option Addr) (c : Nat) (l : List ByteArray) (w : World) (hm : l.length ≤ 1000) (hA : RowOf strCells 1 w a l) :
    Calls Try.prog 55 #[.string x, .slice a l.length c] w fun e w' => e = .returned (.tuple #[.int .i64 (findW x l 0).1, .bool (findW x l 0).2]) ∧ w = w' := by
  have HA := Lib.hid hA
  clear hA
  obtain ⟨F, hF⟩ : ∃ F, F = findW x l 0 := ⟨_, rfl⟩
  rw [← hF]
  go_enter Try.func55, Try.ntmps55
  go_wp2
  go_loop [6] (fun i => ∃ k : Nat, k ≤ l.length ∧ i = .int .i64 k ∧ F = findW x (l.drop k) k) (fun i => l.length - (intOf i).toNat)
  case atStart => exact ⟨0, Nat.zero_le _, rfl, hF⟩
  case round =>
    obtain ⟨k, hk, rfl, hG⟩ := hrel
    clear hF
    by_cases hlt : k < l.length
    · obtain ⟨b, off, rfl, hc⟩ : ∃ b off, a = some ⟨b, off, none⟩ ∧ ∀ i, i < l.length → ∀ j, j < 1 → w.cell? ⟨b, off + i * 1 + j, none⟩ = (strCells (nth l i))[j]? := by
        rcases HA.out with rfl | ⟨b, off, rfl, hc⟩
        · simp at hlt
        · exact ⟨b, off, rfl, hc⟩
      have c0 := str_cell hc k hlt
      rw [drop_consW l k hlt, findW] at hG
      clear hc
      generalize nth l k = y at *
      by_cases he : y.data.toList = x.data.toList
      · rw [if_pos he] at hG
        have HG := Lib.hid hG
        clear hG
        have hb : (y.toList == x.toList) = true := by rw [ByteArray.toList_eq, ByteArray.toList_eq, he]; simp
        clear he
        go_wp2
        go_returns
        exact ⟨by rw [HG.out]; rfl, rfl⟩
      · rw [if_neg he] at hG
        have HG := Lib.hid hG
        have hb : (y.toList == x.toList) = false := by rw [ByteArray.toList_eq, ByteArray.toList_eq]; simpa using he
        clear hG he
        go_wp2
        go_round
        case rel => exact ⟨k + 1, by omega, by go_num, HG.out⟩
        case measure => simp [intOf]; omega
    · have hd : l.drop k = [] := List.drop_eq_nil_of_le (by omega)
      rw [hd] at hG
      have HG := Lib.hid hG
      clear hG hd
      go_wp2
      go_returns
      exact ⟨by rw [HG.out]; rfl, rfl⟩

/-! ### Join -/
/-- Texts as a line, a blank between them. -/
def jn (l : List ByteArray) : ByteArray := ⟨(Lib.join (l.map (·.data.toList)) [32]).toArray⟩
theorem jn_list (l : List ByteArray) : (jn l).data.toList = Lib.join (l.map (·.data.toList)) [32] := rfl
theorem jn_nil : jn [] = ⟨#[]⟩ := rfl
theorem jn_snoc (l : List ByteArray) (x : ByteArray) : jn (l ++ [x]) = if l = [] then x else jn l ++ ⟨#[32]⟩ ++ x := by
  apply ext_eq
  cases l with
  | nil =>
    rw [if_pos rfl, jn_list]
    simp [Lib.join_one]
  | cons y r =>
    rw [if_neg (by simp), append_list, append_list, jn_list, jn_list, List.cons_append, List.map_cons, List.map_cons, Lib.join_cons, Lib.join_cons]
    simp [Lib.joinTail]
theorem tail_len (r : List (List UInt8)) (h : ∀ x, x ∈ r → x.length ≤ 100) : (Lib.joinTail [32] r).length ≤ 101 * r.length := by
  induction r with
  | nil => simp [Lib.joinTail]
  | cons x r ih =>
    have h1 := h x (List.mem_cons_self ..)
    have h2 := ih (fun y hy => h y (List.mem_cons_of_mem _ hy))
    simp only [Lib.joinTail, List.map_cons, List.flatten_cons, List.length_append, List.length_cons, List.length_nil] at h2 ⊢
    omega
theorem jn_len (l : List ByteArray) (h : ∀ x, x ∈ l → x.size ≤ 100) : (jn l).size ≤ 101 * l.length := by
  rw [← size_list, jn_list]
  cases l with
  | nil => simp [Lib.join_nil]
  | cons x r =>
    rw [List.map_cons, Lib.join_cons, List.length_append]
    have h1 := h x (List.mem_cons_self ..)
    rw [← size_list] at h1
    have h2 := tail_len (r.map (·.data.toList)) (fun y hy => by
      obtain ⟨z, hz, rfl⟩ := List.mem_map.1 hy
      rw [size_list]
      exact h z (List.mem_cons_of_mem _ hz))
    rw [List.length_map] at h2
    simp only [List.length_cons]
    omega
theorem nth_mem' (l : List ByteArray) (i : Nat) (h : i < l.length) : nth l i ∈ l := by rw [nth_lt l i h]; exact List.getElem_mem h
set_option maxHeartbeats 1000000 in
theorem join_any (a : Option Addr) (c : Nat) (l : List ByteArray) (w : World) (hm : l.length ≤ 40) (hc : l.length ≤ c) (hx : ∀ x, x ∈ l → x.size ≤ 100) (hA : RowOf strCells 1 w a l) :
    Calls Try.prog 56 #[.slice a l.length c] w fun e w' => e = .returned (.string (jn l)) ∧ Below w.heap.size w w' := by
  have hlen := jn_len l hx
  rcases hA with rfl | ⟨b, off, rfl, hcell⟩
  · have K := Lib.hid (strings_Join_none a c ⟨#[32]⟩ w)
    go_enter Try.func56, Try.ntmps56
    go_wp2_with fail
    refine K.out.mono ?_
    rintro e w1 ⟨rfl, rfl⟩
    go_wp2
    go_ret
    exact ⟨rfl, Below.refl _ _⟩
  · by_cases h0 : l = []
    · subst h0
      have K := Lib.hid (strings_Join_none (some ⟨b, off, none⟩) c ⟨#[32]⟩ w)
      go_enter Try.func56, Try.ntmps56
      go_wp2_with fail
      refine K.out.mono ?_
      rintro e w1 ⟨rfl, rfl⟩
      go_wp2
      go_ret
      exact ⟨rfl, Below.refl _ _⟩
    · have hpos : 0 < l.length := List.length_pos_iff.2 h0
      have c0 := str_cell hcell 0 hpos
      have K := Lib.hid (strings_Join b off c l ⟨#[32]⟩ w (fun j x hj => by
        obtain ⟨h1, h2⟩ := List.getElem?_eq_some_iff.1 hj
        rw [← h2, ← nth_lt l j h1]
        exact str_cell hcell j h1) (cell_lt c0) (by omega) hc (by
          have := size_list (jn l)
          rw [jn_list] at this
          show (Lib.join (l.map (·.data.toList)) [32]).length ≤ _
          omega))
      have hJ := Lib.hid (show (⟨(Lib.join (l.map (·.data.toList)) (⟨#[32]⟩ : ByteArray).data.toList).toArray⟩ : ByteArray) = jn l from rfl)
      clear hcell c0 hlen
      rw [hJ.out] at K
      clear hJ
      generalize jn l = z at *
      go_enter Try.func56, Try.ntmps56
      go_wp2_with fail
      refine K.out.mono ?_
      rintro e w1 ⟨rfl, hb⟩
      go_wp2
      go_ret
      exact ⟨rfl, hb⟩
set_option maxHeartbeats 1000000 in
theorem rjoin_any (a : Option Addr) (c : Nat) (l : List ByteArray) (w : World) (hm : l.length ≤ 40) (hx : ∀ x, x ∈ l → x.size ≤ 100) (hA : RowOf strCells 1 w a l) :
    Calls Try.prog 57 #[.slice a l.length c] w fun e w' => e = .returned (.string (jn l)) ∧ w = w' := by
  have HA := Lib.hid hA
  clear hA
  go_enter Try.func57, Try.ntmps57
  go_wp2
  go_loop [3, 4] (fun v i => ∃ (k : Nat) (z : ByteArray), k ≤ l.length ∧ i = .int .i64 k ∧ v = .string z ∧ z = jn (l.take k)) (fun _ i => l.length - (intOf i).toNat)
  case atStart => exact ⟨0, ⟨#[]⟩, Nat.zero_le _, rfl, rfl, rfl⟩
  case round =>
    obtain ⟨k, z, hk, rfl, rfl, hz⟩ := hrel
    by_cases hlt : k < l.length
    · obtain ⟨b, off, rfl, hc⟩ : ∃ b off, a = some ⟨b, off, none⟩ ∧ ∀ i, i < l.length → ∀ j, j < 1 → w.cell? ⟨b, off + i * 1 + j, none⟩ = (strCells (nth l i))[j]? := by
        rcases HA.out with rfl | ⟨b, off, rfl, hc⟩
        · simp at hlt
        · exact ⟨b, off, rfl, hc⟩
      have c0 := str_cell hc k hlt
      have hxs := hx _ (nth_mem' l k hlt)
      have hzs : z.size ≤ 101 * k := by
        rw [hz]
        have := jn_len (l.take k) (fun x h => hx x (List.mem_of_mem_take h))
        simp only [List.length_take] at this
        have e : min k l.length = k := by omega
        rw [e] at this
        exact this
      have hS := jn_snoc (l.take k) (nth l k)
      rw [← take_nth l k hlt, ← hz] at hS
      clear hc hz
      generalize nth l k = y at *
      by_cases h0 : k = 0
      · subst h0
        rw [List.take_zero, if_pos rfl] at hS
        have hz0 : z.size = 0 := by omega
        obtain rfl := (empty_iff z).2 hz0
        have HS := Lib.hid hS
        clear hS
        rw [Nat.add_zero] at c0
        go_wp2
        go_round
        case rel => exact ⟨1, _, by omega, rfl, rfl, by rw [HS.out]; exact ext_eq (by simp)⟩
        case measure => simp [intOf]; omega
      · rw [if_neg (by intro h; have := congrArg List.length h; rw [List.length_take, List.length_nil] at this; omega)] at hS
        have HS := Lib.hid hS
        have i1 : (0 : Int) < (k : Int) := by omega
        clear hS
        go_wp2
        go_round
        case rel => exact ⟨k + 1, _, by omega, by go_num, rfl, by rw [HS.out]⟩
        case measure => simp [intOf]; omega
    · obtain rfl : k = l.length := by omega
      rw [List.take_of_length_le (Nat.le_refl _)] at hz
      have HZ := Lib.hid hz
      clear hz
      go_wp2
      go_ret
      exact ⟨by rw [← HZ.out]; rfl, rfl⟩
end Go.Proofs.Ytgkmmoiniidhlaa
