/-
  rank.Sort: a new row of the items in their order. (Up to 1000 items.)
-/
import Derived.Test.YtmanmebgmhpilaaSortS
import Derived.Test.YtmanmebgmhpilaaPile10
import Derived.Deep.AppendLies
namespace Go.Proofs.Ytmanmebgmhpilaa
open Go.Shelf Go.RowKit Go.Lib Go.Sort
set_option linter.unusedVariables false

def ssort (l : List It) : List It := (stableA (ltOf gI) l.toArray).toList
theorem ssort_ok (l : List It) : SameL (ltOf gI) l (ssort l) ∧ SortedL (ltOf gI) (ssort l) := by
  exact stableA_list swo_gI l.toArray
theorem ssort_len (l : List It) : (ssort l).length = l.length := by
  have := (stableA_ok swo_gI l.toArray).1.size
  simpa [ssort] using this

theorem flatK_flat (d : Array It) : flatK itCells 7 d = (d.toList.flatMap itCells).toArray := by
  apply Array.ext
  · rw [size_flatK]
    show _ = (d.toList.flatMap itCells).length
    rw [itF_len, Array.length_toList]
  · intro t h1 h2
    rw [size_flatK] at h1
    have hq : t / 7 < d.toList.length := by simp; omega
    have e := flat_at itCells 7 itCells_len d.toList (t / 7) hq (t % 7) (by omega)
    rw [show t / 7 * 7 + t % 7 = t by omega] at e
    have g := get_flatK itCells 7 d t h1
    rw [getElem!_pos _ t (by rw [size_flatK]; exact h1)] at g
    rw [g]
    have e2 : nth d.toList (t / 7) = d[t / 7]! := by
      have hq2 : t / 7 < d.size := by simpa using hq
      rw [nth_lt _ _ hq, getElem!_pos d _ hq2]
      simp
    rw [e2] at e
    have hl : t % 7 < (itCells d[t / 7]!).length := by rw [itCells_len]; omega
    rw [getElem!_pos (itCells d[t / 7]!) (t % 7) hl]
    rw [List.getElem?_eq_getElem hl] at e
    have h2' : t < (d.toList.flatMap itCells).length := by simpa using h2
    rw [List.getElem?_eq_getElem h2'] at e
    simpa using (Option.some.inj e).symm

theorem own_rowOf0 {w : World} {base n : Nat} {e : TypeId} {v : Value} {T : List It} (h : w.ownsRow base e 7 v n (T.flatMap itCells)) {g cap : Nat} (hv : v = .slice (some ⟨g, 0, none⟩) n cap) : ∀ i, i < T.length → ∀ j, j < 7 → w.cell? ⟨g, 0 + i * 7 + j, none⟩ = (itCells (nth T i))[j]? := by
  subst hv
  intro i hi j hj
  have hl := h.1
  rw [itF_len] at hl
  rw [Nat.zero_add, World.ownsRow.cellAt h (i * 7 + j) (by omega), flat_at itCells 7 itCells_len T i hi j hj]
theorem own_holds {w : World} {base g n cap : Nat} {e : TypeId} {T : List It} (h : w.ownsRow base e 7 (.slice (some ⟨g, 0, none⟩) n cap) n (T.flatMap itCells)) : HoldsK itCells 7 w g 0 T.toArray := by
  intro j hj
  rw [flatK_flat] at hj ⊢
  have hj' : j < (T.flatMap itCells).length := by simpa using hj
  have hl := h.1
  refine ⟨?_, World.ownsRow.frozenAt h _⟩
  rw [Nat.zero_add, World.ownsRow.cellAt h j (by omega), List.getElem?_eq_getElem hj', getElem!_pos _ j hj]
  simp

theorem heap_sortedK {w : World} {g n : Nat} {os : Array Obj} {cur : Array Value} {e : TypeId} {fr : Nat × Nat} (d : Array Value) (hb : w.heap[g]? = some (.cells cur e fr)) :
    (grow (putRow id (Sort.ahead w n) g 0 d) os).heap[g]? = some (.cells (putCells id 0 d cur) e fr) := by
  have hg : g < w.heap.size := (Array.getElem?_eq_some_iff.1 hb).1
  rw [heap_grow_old _ _ (by simpa using hg)]
  simp [putRow, mapBlock, Sort.ahead, Array.getElem?_modify, hb, onCells]
theorem grownBy_sortedK {w : World} {g n : Nat} {os : Array Obj} (d : Array Value) : w.grownBy (grow (putRow id (Sort.ahead w n) g 0 d) os) (some g) := by
  refine ⟨rfl, rfl, rfl, by simp, fun k hk hne => ?_⟩
  rw [heap_grow_old _ _ (by simpa using hk)]
  have : g ≠ k := fun e => hne (by rw [e])
  simp [putRow, mapBlock, Sort.ahead, Array.getElem?_modify, this]
theorem take_putCellsK (cur : Array Value) (ts : List Value) (h : ts.length ≤ cur.size) : (putCells id 0 ts.toArray cur).toList.take ts.length = ts := by
  apply List.ext_getElem?
  intro j
  by_cases hj : j < ts.length
  · rw [List.getElem?_take_of_lt hj, Array.getElem?_toList]
    simp [putCells, hj, show j < cur.size by omega]
  · rw [List.getElem?_take_eq_none (by omega), List.getElem?_eq_none (by omega)]

/-- Behind the sort the same slice owns the sorted row. -/
theorem own_sorted {w w' : World} {base g n cap : Nat} {e : TypeId} {T : List It} {dk : Array It} (h : w.ownsRow base e 7 (.slice (some ⟨g, 0, none⟩) n cap) n (T.flatMap itCells)) (S : SWK itCells 7 w g 0 dk w') (hs : dk.size = n) :
    w'.ownsRow base e 7 (.slice (some ⟨g, 0, none⟩) n cap) n (dk.toList.flatMap itCells) ∧ w.grownBy w' (some g) := by
  obtain ⟨m, os, rfl⟩ := S
  unfold sortWorldK putRowK
  rw [flatK_flat]
  refine ⟨?_, grownBy_sortedK _⟩
  rcases h.2 with ⟨h1, _⟩ | ⟨g', cap', cur, h1, h2, h3, h4, h5, h6, h7⟩
  · cases h1
  · obtain ⟨rfl, rfl⟩ : g = g' ∧ cap = cap' := by
      simp only [Value.slice.injEq, Option.some.injEq, Addr.mk.injEq, and_true, true_and] at h1
      exact h1
    have hl : (dk.toList.flatMap itCells).length = n * 7 := by rw [itF_len]; simp [hs]
    refine ⟨hl, .inr ⟨g, cap, _, rfl, h2, heap_sortedK _ h3, h4, h5, by simp [putCells, h6], ?_⟩⟩
    rw [← hl]
    exact take_putCellsK cur _ (by rw [hl, h6]; exact Nat.mul_le_mul_right 7 h4)

theorem row_news {w : World} {b off : Nat} {l : List It} (hc : ∀ i, i < l.length → ∀ j, j < 7 → w.cell? ⟨b, off + i * 7 + j, none⟩ = (itCells (nth l i))[j]?) : ∀ j u, (l.flatMap itCells)[j]? = some u → w.cell? ((⟨b, off, none⟩ : Addr).add j) = some u := by
  intro j u hu
  have hj : j < l.length * 7 := by
    have := (List.getElem?_eq_some_iff.1 hu).1
    rwa [itF_len] at this
  have e := flat_at itCells 7 itCells_len l (j / 7) (by omega) (j % 7) (by omega)
  rw [show j / 7 * 7 + j % 7 = j by omega] at e
  rw [addr_add, show off + j = off + j / 7 * 7 + j % 7 by omega, hc (j / 7) (by omega) (j % 7) (by omega), ← e]
  exact hu
theorem row_one (l : List It) : ∀ u ∈ l.flatMap itCells, u.oneCell' = true := by
  intro u hu
  obtain ⟨x, _, hx⟩ := List.mem_flatMap.1 hu
  exact it_cells1 x u hx

set_option maxRecDepth 100000 in
set_option maxHeartbeats 2000000 in
theorem sort_any (a : Option Addr) (c : Nat) (l : List It) (w : World) (hm : l.length ≤ 1000) (hA : RowOf itCells 7 w a l) :
    Calls Try.prog 21 #[.slice a l.length c] w fun e w' => ∃ g cap, e = .returned (.slice (some ⟨g, 0, none⟩) l.length cap) ∧ w'.ownsRow w.heap.size 31 7 (.slice (some ⟨g, 0, none⟩) l.length cap) l.length ((ssort l).flatMap itCells) ∧ Below w.heap.size w w' := by
  obtain ⟨i0, hi, hz0, hz1, hz2⟩ := info_parts item_parts
  have fin : ∀ (g cap : Nat) (w1 w2 : World), w1.ownsRow w.heap.size 31 7 (.slice (some ⟨g, 0, none⟩) l.length cap) l.length (l.flatMap itCells) → Below w.heap.size w w1 → w.heap.size ≤ g → SWK itCells 7 w1 g 0 (stableA (ltOf gI) l.toArray) w2 →
      w2.ownsRow w.heap.size 31 7 (.slice (some ⟨g, 0, none⟩) l.length cap) l.length ((ssort l).flatMap itCells) ∧ Below w.heap.size w w2 := fun g cap w1 w2 h1 h2 h3 h4 => by
    have hsz : (stableA (ltOf gI) l.toArray).size = l.length := by have := ssort_len l; simpa [ssort] using this
    obtain ⟨r1, r2⟩ := own_sorted h1 h4 hsz
    exact ⟨r1, h2.grown r2 h2.size (fun k hk => by cases hk; exact h3)⟩
  have hcon := fun (g cap : Nat) (w1 : World) (h1 : w1.ownsRow w.heap.size 31 7 (.slice (some ⟨g, 0, none⟩) l.length cap) l.length (l.flatMap itCells)) (hg : g < w1.heap.size) => sortf_items g 0 cap l.toArray w1 (own_holds h1) hg (by simp; omega)
  simp only [List.size_toArray] at hcon
  have FI := Lib.hid fin
  have HC := Lib.hid hcon
  clear fin hcon
  by_cases h0 : l = []
  · subst h0
    have hown := World.ownsRow_lit (base := w.heap.size) (e := 31) (size := 7) w #[] 0 (Nat.le_refl _) (by decide) rfl
    have hs := HC.out w.heap.size 0 _ hown (by simp)
    have HO := Lib.hid hown
    clear hown HC
    go_enter Try.func21, Try.ntmps21
    cases a
    all_goals
     go_wp2_with (go_at_call 54; refine hs.mono ?_; rintro e w' ⟨rfl, hS⟩)
     go_ret
     exact ⟨_, _, rfl, FI.out _ _ _ _ HO.out ((Below.refl _ _).alloc (Nat.le_refl _) _) (Nat.le_refl _) hS⟩
  · obtain ⟨b, off, rfl, hc⟩ : ∃ b off, a = some ⟨b, off, none⟩ ∧ ∀ i, i < l.length → ∀ j, j < 7 → w.cell? ⟨b, off + i * 7 + j, none⟩ = (itCells (nth l i))[j]? := by
      rcases hA with rfl | h
      · exact absurd rfl h0
      · exact h
    have hn0 : 0 < l.length := List.length_pos_iff.2 h0
    have hnews := row_news hc
    have hb : b < w.heap.size := by
      have h1 := hc 0 hn0 0 (by omega)
      have := cell_lt (w := w) (a := ⟨b, off + 0 * 7 + 0, none⟩) (v := (itCells (nth l 0))[0]'(by rw [itCells_len]; omega)) (by rw [h1, List.getElem?_eq_getElem])
      exact this
    have hnews2 : ∀ j u, (l.flatMap itCells)[j]? = some u → (w.alloc (.cells #[] 31)).cell? ((⟨b, off, none⟩ : Addr).add j) = some u := fun j u hu => by
      have h1 := hnews j u hu
      rw [addr_add] at h1 ⊢
      exact (Below.cell ((Below.refl w.heap.size w).alloc (Nat.le_refl _) _) hb).trans h1
    have HN := Lib.hid hnews2
    clear hnews hnews2 hc hA
    go_enter Try.func21, Try.ntmps21
    go_wp2_with (refine wpList_append_lies _ (by rfl) _ _ _ (by rfl) w.heap.size 31 i0 (.agg #[.int .i64 0, .int .i64 0, .int .i64 0, .int .i64 0, .int .i64 0, .int .i64 0, .int .i64 0]) 7 56 Try.underlying22 hi hz0 hz1 hz2 rfl (by decide) (.slice (some ⟨w.heap.size, 0, none⟩) 0 0) 0 [] (by rfl) (World.ownsRow_lit w #[] 0 (Nat.le_refl _) (by decide) rfl) ⟨b, off, none⟩ l.length c _ (by rfl) (itF_len l) HN.out (row_one l) hn0 (by unfold maxLen; omega) (by omega) (by simp) (w.heap.size + 1) (by simp) ?_; intro g cap w1 hown hgrow hat hglt)
    rw [Nat.zero_add, List.nil_append] at hown
    have hbw : Below w.heap.size w w1 := Below.grown ((Below.refl w.heap.size w).alloc (Nat.le_refl _) (.cells #[] 31)) hgrow (by simp) (fun k hk => by simp [Value.ownBlock] at hk; omega)
    have hs := HC.out g cap w1 hown hglt
    have hg : w.heap.size ≤ g := by
      have := hown.lt g rfl
      exact this.1
    have HO := Lib.hid (And.intro hown (And.intro hbw hg))
    clear hown hbw HC hgrow hat hg
    try simp only [Nat.zero_add]
    go_wp2_with (go_at_call 54; refine hs.mono ?_; rintro e w' ⟨rfl, hS⟩)
    go_ret
    exact ⟨_, _, rfl, FI.out _ _ _ _ HO.out.1 HO.out.2.1 HO.out.2.2 hS⟩
end Go.Proofs.Ytmanmebgmhpilaa
