/-
  Rows of what is known: the document's Find, All, Learn, Cuts and Same, and table.Table.All.
-/
import Derived.Test.YtgkmmoiniidhlaaTable
namespace Go.Proofs.Ytgkmmoiniidhlaa
open Go.RowKit
set_option linter.unusedVariables false

structure Kn where
  to : Int
  th : Int
  ep : Int
  tm : Int
instance : Inhabited Kn := ⟨⟨0, 0, 0, 0⟩⟩
def knCells (x : Kn) : List Value := [.int .i64 x.to, .int .i64 x.th, .int .i64 x.ep, .int .i64 x.tm]
theorem knCells_len (x : Kn) : (knCells x).length = 4 := rfl
abbrev knV (x : Kn) : Value := .agg #[.int .i64 x.to, .int .i64 x.th, .int .i64 x.ep, .int .i64 x.tm]
theorem flatK_at {α : Type} [Inhabited α] (cells : α → List Value) (k : Nat) (hk : ∀ x, (cells x).length = k) (l : List α) : ∀ i, i < l.length → ∀ j, j < k → (l.flatMap cells)[i * k + j]? = (cells (nth l i))[j]? := by
  induction l with
  | nil => intro i hi; simp at hi
  | cons x l ih =>
    intro i hi j hj
    rw [List.flatMap_cons]
    cases i with
    | zero =>
      rw [Nat.zero_mul, Nat.zero_add, List.getElem?_append_left (by rw [hk]; exact hj)]
      rfl
    | succ i =>
      have e : (i + 1) * k + j = (i * k + j) + k := by rw [Nat.add_mul, Nat.one_mul]; omega
      rw [e, List.getElem?_append_right (by rw [hk]; omega), hk, Nat.add_sub_cancel, ih i (by simpa using hi) j hj]
      rfl
/-- v is a row of what is known. -/
def KnAt (w : World) (v : Value) (l : List Kn) : Prop := ∃ a c, v = .slice a l.length c ∧ l.length ≤ c ∧ c ≤ 9223372036854775807 ∧ RowOf knCells 4 w a l
theorem KnAt.same {w w' : World} {v : Value} {l : List Kn} (h : KnAt w v l) (hb : Below w.heap.size w w') : KnAt w' v l := by
  obtain ⟨a, c, h1, h2, h3, h4⟩ := h
  exact ⟨a, c, h1, h2, h3, h4.same knCells_len hb⟩
theorem KnAt.nil (w : World) : KnAt w (.slice none 0 0) [] := ⟨none, 0, rfl, Nat.le_refl _, by omega, .inl rfl⟩
theorem kn_of_own {w : World} {base n : Nat} {e : TypeId} {v : Value} {l : List Kn} (h : w.ownsRow base e 4 v n (l.flatMap knCells)) (hn : n = l.length) : KnAt w v l := by
  subst hn
  rcases h.2 with ⟨rfl, h0⟩ | ⟨g, cap, cur, rfl, hb, hg, hnc, hcm, hcs, htake⟩
  · exact ⟨none, 0, by rw [h0], by omega, by omega, .inl (List.eq_nil_of_length_eq_zero h0)⟩
  · refine ⟨_, cap, rfl, hnc, hcm, .inr ⟨g, 0, rfl, fun i hi j hj => ?_⟩⟩
    have := World.ownsRow.cellAt h (i * 4 + j) (by omega)
    rw [Nat.zero_add, this, flatK_at knCells 4 knCells_len l i hi j hj]
theorem kn_cells {w : World} {b off : Nat} {l : List Kn} (h : ∀ i, i < l.length → ∀ j, j < 4 → w.cell? ⟨b, off + i * 4 + j, none⟩ = (knCells (nth l i))[j]?) (i : Nat) (hi : i < l.length) :
    w.cell? ⟨b, off + i * 4, none⟩ = some (.int .i64 (nth l i).to) ∧ w.cell? ⟨b, off + i * 4 + 1, none⟩ = some (.int .i64 (nth l i).th) ∧ w.cell? ⟨b, off + i * 4 + 2, none⟩ = some (.int .i64 (nth l i).ep) ∧ w.cell? ⟨b, off + i * 4 + 3, none⟩ = some (.int .i64 (nth l i).tm) :=
  ⟨h i hi 0 (by omega), h i hi 1 (by omega), h i hi 2 (by omega), h i hi 3 (by omega)⟩

/-! ### Find -/
def findF (to : Int) : List Kn → Int → Int
  | [], _ => -1
  | x :: l, i => if x.to = to then i else findF to l (i + 1)
def findK (l : List Kn) (to : Int) : Int := findF to l 0
theorem drop_cons' {α : Type} [Inhabited α] (l : List α) (k : Nat) (h : k < l.length) : l.drop k = nth l k :: l.drop (k + 1) := by
  rw [nth_lt l k h, List.drop_eq_getElem_cons h]
theorem find_spec (to : Int) (l : List Kn) : ∀ (m : Nat), (findF to l m = -1 ∧ ∀ x, x ∈ l → x.to ≠ to) ∨ (∃ i, findF to l m = ((m + i : Nat) : Int) ∧ i < l.length ∧ (nth l i).to = to) := by
  induction l with
  | nil => intro m; exact .inl ⟨rfl, fun x hx => by cases hx⟩
  | cons y l ih =>
    intro m
    unfold findF
    by_cases h : y.to = to
    · rw [if_pos h]
      exact .inr ⟨0, by simp, by simp, h⟩
    · rw [if_neg h]
      rcases ih (m + 1) with ⟨e, hx⟩ | ⟨i, e, hi, ht⟩
      · refine .inl ⟨e, fun x hm => ?_⟩
        rcases List.mem_cons.1 hm with rfl | hm
        · exact h
        · exact hx x hm
      · exact .inr ⟨i + 1, by rw [show ((m : Int) + 1) = ((m + 1 : Nat) : Int) by omega, e]; omega, by simp; omega, ht⟩
theorem rfind_any (a : Option Addr) (c : Nat) (l : List Kn) (to : Int) (w : World) (hm : l.length ≤ 9223372036854775807) (hA : RowOf knCells 4 w a l) : Calls Try.prog 99 #[.slice a l.length c, .int .i64 to] w fun e w' => e = .returned (.int .i64 (findK l to)) ∧ w = w' := by
  have HA := Lib.hid hA
  clear hA
  go_enter Try.func99, Try.ntmps99
  go_wp2
  go_loop [5] (fun i => ∃ k : Nat, k ≤ l.length ∧ i = .int .i64 k ∧ findF to (l.drop k) k = findK l to) (fun i => l.length - (intOf i).toNat)
  case atStart => exact ⟨0, Nat.zero_le _, rfl, rfl⟩
  case round =>
    obtain ⟨k, hk, rfl, hF⟩ := hrel
    by_cases hlt : k < l.length
    · obtain ⟨b, off, rfl, hc⟩ : ∃ b off, a = some ⟨b, off, none⟩ ∧ ∀ i, i < l.length → ∀ j, j < 4 → w.cell? ⟨b, off + i * 4 + j, none⟩ = (knCells (nth l i))[j]? := by
        rcases HA.out with rfl | ⟨b, off, rfl, hc⟩
        · simp at hlt
        · exact ⟨b, off, rfl, hc⟩
      obtain ⟨c0, c1, c2, c3⟩ := kn_cells hc k hlt
      rw [drop_cons' l k hlt, findF] at hF
      clear hc
      by_cases he : (nth l k).to = to
      · rw [if_pos he] at hF
        have HF := Lib.hid hF
        have hb : ((nth l k).to == to) = true := by simp [he]
        clear hF he
        go_wp2
        go_ret
        exact ⟨ret_int HF.out, rfl⟩
      · rw [if_neg he] at hF
        have HF := Lib.hid hF
        have hb : ((nth l k).to == to) = false := by simp [he]
        clear hF he
        go_wp2
        go_round
        case rel => exact ⟨k + 1, by omega, by go_num, HF.out⟩
        case measure => simp [intOf]; omega
    · have hd : l.drop k = [] := List.drop_eq_nil_of_le (by omega)
      rw [hd] at hF
      have HF := Lib.hid hF
      clear hF hd
      go_wp2
      go_ret
      exact ⟨ret_int HF.out, rfl⟩

/-! ### All -/
theorem info_kn : (Try.prog.info? 44).map (fun i => (i.zero, i.size, i.bytes)) = some (some (.agg #[.int .i64 0, .int .i64 0, .int .i64 0, .int .i64 0]), 4, 32) := by kernel_rfl
/-- A call that makes a row of what is known. -/
def GivesKn (w : World) (l : List Kn) (e : Ending) (w' : World) : Prop := ∃ v, e = .returned v ∧ KnAt w' v l ∧ Below w.heap.size w w'
def live (now ttl : Int) (x : Kn) : Bool := decide (bLeft now x.tm ≤ ttl)
theorem filter_take (p : Kn → Bool) (l : List Kn) (k : Nat) (h : k < l.length) : (l.take (k + 1)).filter p = (l.take k).filter p ++ (if p (nth l k) = true then [nth l k] else []) := by
  rw [take_nth l k h, List.filter_append]
  congr 1
  simp only [List.filter_cons, List.filter_nil]
set_option maxRecDepth 100000 in
theorem rall_any (a : Option Addr) (c : Nat) (l : List Kn) (ttl now : Int) (w : World) (hm : l.length ≤ 1000) (hA : RowOf knCells 4 w a l) : Calls Try.prog 109 #[.slice a l.length c, .int .i64 ttl, .int .i64 now] w (GivesKn w (l.filter (live now ttl))) := by
  obtain ⟨i0, hi, hz0, hz1, hz2⟩ := info_parts info_kn
  have HA := Lib.hid hA
  clear hA
  go_enter Try.func109, Try.ntmps109
  go_wp2
  go_loopw [7, 8] (fun v i wr => ∃ (k : Nat) (out : List Kn), k ≤ l.length ∧ i = .int .i64 k ∧ out = (l.take k).filter (live now ttl) ∧ out.length ≤ k ∧ wr.ownsRow w.heap.size 44 4 v out.length (out.flatMap knCells) ∧ Below w.heap.size w wr) (fun _ i _ => l.length - (intOf i).toNat)
  case atStart => exact ⟨0, [], Nat.zero_le _, rfl, rfl, Nat.le_refl _, World.ownsRow_nil _ _ _ _, Below.refl _ _⟩
  case round =>
    obtain ⟨k, out, hk, rfl, ho, hlen, hown, hb⟩ := hrel
    have hsz := hb.size
    have HO := Lib.hid hown
    have HB := Lib.hid hb
    clear hown hb
    by_cases hlt : k < l.length
    · obtain ⟨b, off, rfl, hc⟩ : ∃ b off, a = some ⟨b, off, none⟩ ∧ ∀ i, i < l.length → ∀ j, j < 4 → wr.cell? ⟨b, off + i * 4 + j, none⟩ = (knCells (nth l i))[j]? := by
        rcases HA.out.same knCells_len HB.out with rfl | ⟨b, off, rfl, hc⟩
        · simp at hlt
        · exact ⟨b, off, rfl, hc⟩
      obtain ⟨c0, c1, c2, c3⟩ := kn_cells hc k hlt
      have hF := filter_take (live now ttl) l k hlt
      rw [← ho] at hF
      have HO2 := Lib.hid ho
      clear hc ho
      obtain ⟨x, hx⟩ : ∃ x, x = nth l k := ⟨_, rfl⟩
      rw [← hx] at hF c0 c1 c2 c3
      clear hx
      by_cases hp : bLeft now x.tm ≤ ttl
      · have e : live now ttl x = true := by simp [live, hp]
        rw [e, if_pos rfl] at hF
        have HF := Lib.hid hF
        clear hF e
        go_wp2_with (first
          | (go_at_call 106; (with_reducible refine (rleft_any _ _ _).mono ?_); rintro e w' ⟨rfl, rfl⟩)
          | (at_builtin; refine wpList_append_one (by rfl) _ _ 28 (by rfl) w.heap.size 44 i0 (.agg #[.int .i64 0, .int .i64 0, .int .i64 0, .int .i64 0]) 4 32 Try.underlying28 hi hz0 hz1 hz2 rfl (by decide) _ _ _ _ (by rfl) HO.out (by rfl) (by rfl) (by rfl) (by omega) (by omega) hsz ?_; intro v' w1 hown1 hb1))
        go_roundw
        case rel => exact ⟨k + 1, out ++ [x], by omega, by go_num, HF.out.symm, by simp; omega, by simpa [knCells] using hown1, HB.out.trans hb1⟩
        case measure => simp [intOf]; omega
      · have e : live now ttl x = false := by simp [live, hp]
        rw [e, if_neg (by decide), List.append_nil] at hF
        have HF := Lib.hid hF
        clear hF e
        go_wp2_with (first
          | (go_at_call 106; (with_reducible refine (rleft_any _ _ _).mono ?_); rintro e w' ⟨rfl, rfl⟩))
        go_roundw
        case rel => exact ⟨k + 1, out, by omega, by go_num, HF.out.symm, by omega, HO.out, HB.out⟩
        case measure => simp [intOf]; omega
    · obtain rfl : k = l.length := by omega
      rw [List.take_of_length_le (Nat.le_refl _)] at ho
      have HE := Lib.hid ho
      clear ho
      go_wp2
      go_ret
      exact ⟨_, rfl, by rw [← HE.out]; exact kn_of_own HO.out rfl, HB.out⟩

/-! ### What a table knows, as a row -/
def knOf (i : Nat) (e : Ent) : Kn := ⟨i, e.th, e.ep, e.tm⟩
def knU (f : Ents) : Nat → List Kn
  | 0 => []
  | n + 1 => knU f n ++ (match f n with | none => [] | some e => [knOf n e])
abbrev knL (f : Ents) : List Kn := knU f 8
theorem knU_len (f : Ents) : ∀ n, (knU f n).length ≤ n
  | 0 => Nat.le_refl _
  | n + 1 => by
    have := knU_len f n
    unfold knU
    cases f n <;> simp <;> omega
theorem knU_mem (f : Ents) : ∀ n x, x ∈ knU f n ↔ ∃ i, i < n ∧ ∃ e, f i = some e ∧ x = knOf i e
  | 0, x => by simp [knU]
  | n + 1, x => by
    unfold knU
    rw [List.mem_append, knU_mem f n x]
    constructor
    · rintro (⟨i, hi, e, he, rfl⟩ | h)
      · exact ⟨i, by omega, e, he, rfl⟩
      · cases hf : f n with
        | none => rw [hf] at h; cases h
        | some e =>
          rw [hf] at h
          exact ⟨n, by omega, e, hf, by simpa using h⟩
    · rintro ⟨i, hi, e, he, rfl⟩
      by_cases h : i < n
      · exact .inl ⟨i, h, e, he, rfl⟩
      · obtain rfl : i = n := by omega
        rw [he]
        exact .inr (by simp)
theorem knU_congr {f g : Ents} : ∀ n, (∀ i, i < n → f i = g i) → knU f n = knU g n
  | 0, _ => rfl
  | n + 1, h => by
    unfold knU
    rw [knU_congr n (fun i hi => h i (by omega)), h n (by omega)]
theorem nth_mem {l : List Kn} {i : Nat} (h : i < l.length) : nth l i ∈ l := by
  rw [nth_lt l i h]
  exact List.getElem_mem h
/-- Of what is not known there is no place. -/
theorem find_none {f : Ents} {n : Nat} {to : Int} (h : ¬ ∃ i : Nat, i < n ∧ (i : Int) = to ∧ (f i).isSome = true) : findK (knU f n) to = -1 := by
  rcases find_spec to (knU f n) 0 with ⟨e, _⟩ | ⟨i, e, hi, ht⟩
  · exact e
  · refine absurd ?_ h
    obtain ⟨j, hj, e', he, hx⟩ := (knU_mem f n _).1 (nth_mem hi)
    refine ⟨j, hj, ?_, by rw [he]; rfl⟩
    rw [hx] at ht
    exact ht
/-- Of what is known there is one. -/
theorem find_some {f : Ents} {n i : Nat} {e : Ent} (hi : i < n) (he : f i = some e) : ∃ k : Nat, findK (knU f n) (i : Int) = (k : Int) ∧ k < (knU f n).length ∧ nth (knU f n) k = knOf i e := by
  rcases find_spec (i : Int) (knU f n) 0 with ⟨_, h⟩ | ⟨k, e', hk, ht⟩
  · exact absurd rfl (h (knOf i e) ((knU_mem f n _).2 ⟨i, hi, e, he, rfl⟩))
  · refine ⟨k, by rw [findK]; simpa using e', hk, ?_⟩
    obtain ⟨j, hj, e2, he2, hx⟩ := (knU_mem f n _).1 (nth_mem hk)
    rw [hx] at ht ⊢
    have : j = i := by
      have : (j : Int) = (i : Int) := ht
      omega
    subst this
    rw [he] at he2
    cases he2
    rfl
/-- What is known now. -/
def knNow (f : Ents) (ttl now : Int) : Ents := fun i => kn f ttl i now
theorem filter_live (f : Ents) (ttl now : Int) : ∀ n, n ≤ 8 → (knU f n).filter (live now ttl) = knU (knNow f ttl now) n
  | 0, _ => rfl
  | n + 1, h => by
    unfold knU
    rw [List.filter_append, filter_live f ttl now n (by omega)]
    congr 1
    have hr : 0 ≤ (n : Int) ∧ (n : Int) < 8 := by omega
    unfold knNow kn
    rw [if_pos hr]
    cases hf : f n with
    | none => simp [hf]
    | some e =>
      by_cases hl : ttl < bLeft now e.tm
      · have : live now ttl (knOf n e) = false := by show decide (bLeft now e.tm ≤ ttl) = false; rw [decide_eq_false_iff_not]; omega
        simp [hf, hl, this]
      · have : live now ttl (knOf n e) = true := by show decide (bLeft now e.tm ≤ ttl) = true; rw [decide_eq_true_eq]; omega
        simp [hf, hl, this]
end Go.Proofs.Ytgkmmoiniidhlaa
