/-
  Rows of texts; texts as a line.
-/
import Derived.Test.YtobcjbpgeohbgaaGreatDoorFrame
import Derived.Test.YtobcjbpgeohbgaaGreatDoorLaid
import Derived.Laws.AppendOwn
import Derived.Laws.OwnMore
namespace Go.Proofs.YtobcjbpgeohbgaaGreatDoor
open Go.RowKit
set_option linter.unusedVariables false
set_option linter.unusedSimpArgs false

theorem size_list (s : ByteArray) : s.data.toList.length = s.size := Array.length_toList
def strCells (x : ByteArray) : List Value := [.string x]
theorem strCells_len (x : ByteArray) : (strCells x).length = 1 := rfl
theorem info_str : (Tryz.prog.info? 9).map (fun i => (i.zero, i.size, i.bytes)) = some (some (.string ⟨#[]⟩), 1, 16) := by kernel_rfl
theorem flatS_at (l : List ByteArray) : ∀ i, i < l.length → (l.flatMap strCells)[i]? = some (.string (nth l i)) := by
  induction l with
  | nil => intro i hi; simp at hi
  | cons x l ih =>
    intro i hi
    rw [List.flatMap_cons]
    cases i with
    | zero => rfl
    | succ i =>
      have := ih i (by simpa using hi)
      simpa [strCells, nth] using this
def StrsAt (w : World) (v : Value) (l : List ByteArray) : Prop := ∃ a c, v = .slice a l.length c ∧ l.length ≤ c ∧ c ≤ 9223372036854775807 ∧ RowOf strCells 1 w a l
theorem str_of_own {w : World} {base n : Nat} {e : TypeId} {v : Value} {l : List ByteArray} (h : w.ownsRow base e 1 v n (l.flatMap strCells)) (hn : n = l.length) : StrsAt w v l := by
  subst hn
  rcases h.2 with ⟨rfl, h0⟩ | ⟨g, cap, cur, rfl, hb, hg, hnc, hcm, hcs, htake⟩
  · exact ⟨none, 0, by rw [h0], by omega, by omega, .inl (List.eq_nil_of_length_eq_zero h0)⟩
  · refine ⟨_, cap, rfl, hnc, hcm, .inr ⟨g, 0, rfl, fun i hi j hj => ?_⟩⟩
    obtain rfl : j = 0 := by omega
    have := World.ownsRow.cellAt h i (by omega)
    rw [Nat.mul_one, Nat.add_zero, Nat.zero_add, this, flatS_at l i hi]
    rfl
theorem str_cell {w : World} {b off : Nat} {l : List ByteArray} (h : ∀ i, i < l.length → ∀ j, j < 1 → w.cell? ⟨b, off + i * 1 + j, none⟩ = (strCells (nth l i))[j]?) (i : Nat) (hi : i < l.length) :
    w.cell? ⟨b, off + i, none⟩ = some (.string (nth l i)) := by
  have := h i hi 0 (by omega)
  simpa [strCells] using this
theorem own_below {w w' : World} {base : Nat} {e : TypeId} {size n : Nat} {v : Value} {xs : List Value} (h : w.ownsRow base e size v n xs) (hb : Below w.heap.size w w') : w'.ownsRow base e size v n xs := by
  rcases h.2 with ⟨h1, h2⟩ | ⟨g, cap, cur, h1, h2, hg, h3⟩
  · exact ⟨h.1, .inl ⟨h1, h2⟩⟩
  · exact ⟨h.1, .inr ⟨g, cap, cur, h1, h2, (hb.block g (Array.getElem?_eq_some_iff.1 hg).1).trans hg, h3⟩⟩
theorem flat_at {α : Type} [Inhabited α] (cells : α → List Value) (k : Nat) (hk : ∀ x, (cells x).length = k) (l : List α) : ∀ i, i < l.length → ∀ j, j < k → (l.flatMap cells)[i * k + j]? = (cells (nth l i))[j]? := by
  induction l with
  | nil => intro i hi; simp at hi
  | cons x l ih =>
    intro i hi j hj
    rw [List.flatMap_cons]
    cases i with
    | zero =>
      rw [Nat.zero_mul, Nat.zero_add, List.getElem?_append_left (by rw [hk]; exact hj)]
      rfl
    | succ i =>
      have e : (i + 1) * k + j = (i * k + j) + k := by rw [Nat.add_mul, Nat.one_mul]; omega
      rw [e, List.getElem?_append_right (by rw [hk]; omega), hk, Nat.add_sub_cancel, ih i (by simpa using hi) j hj]
      rfl
theorem row_new {α : Type} [Inhabited α] (cells : α → List Value) (k : Nat) (hk : ∀ x, (cells x).length = k) (l : List α) (w : World) (n : Nat) (hn : w.heap.size = n) (t : TypeId) : RowOf cells k (w.alloc (.cells (l.flatMap cells).toArray t)) (some ⟨n, 0, none⟩) l := by
  subst hn
  refine .inr ⟨_, 0, rfl, fun i hi j hj => ?_⟩
  rw [cell_new, Nat.zero_add]
  simpa using flat_at cells k hk l i hi j hj

def jn (l : List ByteArray) : ByteArray := ⟨(Lib.join (l.map (·.data.toList)) [32]).toArray⟩
theorem jn_list (l : List ByteArray) : (jn l).data.toList = Lib.join (l.map (·.data.toList)) [32] := rfl
theorem tail_len (r : List (List UInt8)) (h : ∀ x, x ∈ r → x.length ≤ 100) : (Lib.joinTail [32] r).length ≤ 101 * r.length := by
  induction r with
  | nil => simp [Lib.joinTail]
  | cons x r ih =>
    have h1 := h x (List.mem_cons_self ..)
    have h2 := ih (fun y hy => h y (List.mem_cons_of_mem _ hy))
    simp only [Lib.joinTail, List.map_cons, List.flatten_cons, List.length_append, List.length_cons, List.length_nil] at h2 ⊢
    omega
theorem jn_len (l : List ByteArray) (h : ∀ x, x ∈ l → x.size ≤ 100) : (jn l).size ≤ 101 * l.length := by
  rw [← size_list, jn_list]
  cases l with
  | nil => simp [Lib.join_nil]
  | cons x r =>
    rw [List.map_cons, Lib.join_cons, List.length_append]
    have h1 := h x (List.mem_cons_self ..)
    rw [← size_list] at h1
    have h2 := tail_len (r.map (·.data.toList)) (fun y hy => by
      obtain ⟨z, hz, rfl⟩ := List.mem_map.1 hy
      rw [size_list]
      exact h z (List.mem_cons_of_mem _ hz))
    rw [List.length_map] at h2
    simp only [List.length_cons]
    omega
set_option maxHeartbeats 1000000 in
theorem join_any (a : Option Addr) (c : Nat) (l : List ByteArray) (w : World) (hm : l.length ≤ 40) (hc : l.length ≤ c) (hx : ∀ x, x ∈ l → x.size ≤ 100) (hA : RowOf strCells 1 w a l) :
    Calls Tryz.prog 129 #[.slice a l.length c] w fun e w' => e = .returned (.string (jn l)) ∧ Below w.heap.size w w' := by
  have hlen := jn_len l hx
  rcases hA with rfl | ⟨b, off, rfl, hcell⟩
  · have K := Lib.hid (strings_Join_none a c ⟨#[32]⟩ w)
    go_enter Tryz.func129, Tryz.ntmps129
    go_wp2_with fail
    refine K.out.mono ?_
    rintro e w1 ⟨rfl, rfl⟩
    go_wp2
    go_ret
    exact ⟨rfl, Below.refl _ _⟩
  · by_cases h0 : l = []
    · subst h0
      have K := Lib.hid (strings_Join_none (some ⟨b, off, none⟩) c ⟨#[32]⟩ w)
      go_enter Tryz.func129, Tryz.ntmps129
      go_wp2_with fail
      refine K.out.mono ?_
      rintro e w1 ⟨rfl, rfl⟩
      go_wp2
      go_ret
      exact ⟨rfl, Below.refl _ _⟩
    · have hpos : 0 < l.length := List.length_pos_iff.2 h0
      have c0 := str_cell hcell 0 hpos
      have K := Lib.hid (strings_Join b off c l ⟨#[32]⟩ w (fun j x hj => by
        obtain ⟨h1, h2⟩ := List.getElem?_eq_some_iff.1 hj
        rw [← h2, ← nth_lt l j h1]
        exact str_cell hcell j h1) (cell_lt c0) (by omega) hc (by
          have := size_list (jn l)
          rw [jn_list] at this
          show (Lib.join (l.map (·.data.toList)) [32]).length ≤ _
          omega))
      have hJ := Lib.hid (show (⟨(Lib.join (l.map (·.data.toList)) (⟨#[32]⟩ : ByteArray).data.toList).toArray⟩ : ByteArray) = jn l from rfl)
      clear hcell c0 hlen
      rw [hJ.out] at K
      clear hJ
      generalize jn l = z at *
      go_enter Tryz.func129, Tryz.ntmps129
      go_wp2_with fail
      refine K.out.mono ?_
      rintro e w1 ⟨rfl, hb⟩
      go_wp2
      go_ret
      exact ⟨rfl, hb⟩
end Go.Proofs.YtobcjbpgeohbgaaGreatDoor

