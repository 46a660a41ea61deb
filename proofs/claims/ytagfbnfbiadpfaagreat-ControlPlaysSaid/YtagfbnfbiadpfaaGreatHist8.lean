
/-
  The document's Most, Least, Add of layer 10.
-/
import Derived.Test.YtagfbnfbiadpfaaGreatHist7
import Derived.Test.YtagfbnfbiadpfaaGreatSame
namespace Go.Proofs.YtagfbnfbiadpfaaGreat
open Go.RowKit Go.Shelf
set_option linter.unusedVariables false
set_option linter.unusedSimpArgs false

theorem hadd10_out (a : Option Addr) (c : Nat) (l : List Int) (level many : Int) (w : World) (m : l.length ≤ 1000000) (ho : hasL l.length level = false) :
    Calls Tryz.prog 34 #[.slice a l.length c, .int .i64 level, .int .i64 many] w fun e w' => e = .returned (.tuple #[.slice a l.length c, .bool false]) ∧ w = w' := by
  have ho' : level < 0 ∨ (0 ≤ level ∧ (l.length : Int) ≤ level) := by simp [hasL] at ho; omega
  clear ho
  rcases ho' with q | ⟨q0, q⟩
  all_goals
    go_enter Tryz.func34, Tryz.ntmps34
    go_wp2
    go_returns
    exact ⟨rfl, rfl⟩
set_option maxRecDepth 100000 in
theorem hadd10_in (a : Option Addr) (c : Nat) (l : List Int) (k : Nat) (many : Int) (w : World) (m : l.length ≤ 1000000) (h : IntsAt w a l) (hk : k < l.length) :
    Calls Tryz.prog 34 #[.slice a l.length c, .int .i64 k, .int .i64 many] w fun e w' => ∃ g cap, e = .returned (.tuple #[.slice (some ⟨g, 0, none⟩) l.length cap, .bool true]) ∧
      w'.ownsRow w.heap.size 3 1 (.slice (some ⟨g, 0, none⟩) l.length cap) l.length ((l.set k (bAdd (nth l k) many)).map (Value.int .i64)) ∧ Below w.heap.size w w' := by
  obtain ⟨i0, hi, hz0, hz1, hz2⟩ := info_parts info_int
  obtain ⟨b, off, rfl, hc⟩ : ∃ b off, a = some ⟨b, off, none⟩ ∧ ∀ i, i < l.length → w.cell? ⟨b, off + i, none⟩ = some (.int .i64 (nth l i)) := by
    rcases h with rfl | ⟨b, off, rfl, hc⟩
    · simp at hk
    · exact ⟨b, off, rfl, hc⟩
  have hn : ∀ j u, (l.map (Value.int .i64))[j]? = some u → w.cell? ((⟨b, off, none⟩ : Addr).add j) = some u := by
    intro j u hu
    have hj : j < l.length := by
      have := (List.getElem?_eq_some_iff.1 hu).1
      simpa using this
    rw [addr_add, hc j hj]
    rw [List.getElem?_map, List.getElem?_eq_getElem hj] at hu
    rw [nth_lt l j hj]
    simpa using hu
  have ho : ∀ u ∈ l.map (Value.int .i64), u.oneCell' = true := by
    intro u hu
    obtain ⟨x, _, rfl⟩ := List.mem_map.1 hu
    rfl
  have i1 : ((k : Int) < 0) = False := by simp
  have i2 : (0 : Int) ≤ (k : Int) := by omega
  have i3 : (k : Int) < (l.length : Int) := by omega
  have HN := Lib.hid hn
  have HO := Lib.hid ho
  clear hn ho hc h
  go_enter Tryz.func34, Tryz.ntmps34
  go_wp2_with (first
    | (refine wpList_append_lies _ (by rfl) _ _ 32 (by rfl) w.heap.size 3 i0 (.int .i64 0) 1 8 Tryz.underlying32 hi hz0 hz1 hz2 rfl (by decide) _ 0 [] (by rfl) (World.ownsRow_nil w _ _ _) ⟨b, off, none⟩ l.length _ _ (by rfl) (by simp) HN.out HO.out (by omega) (by unfold maxLen; omega) (by omega) (Nat.le_refl _) w.heap.size rfl ?_
       intro g cap w2 hown2 hg2 hat hglt
       rw [Nat.zero_add, List.nil_append] at hown2
       have hg1 := hown2.lt g rfl
       have c0 := World.ownsRow.cellAt hown2 k (by omega)
       rw [List.getElem?_map, List.getElem?_eq_getElem hk, Option.map_some, ← nth_lt l k hk] at c0
       have f0 := World.ownsRow.frozenAt hown2 k
       have h3 := World.ownsRow.stored hown2 k (.int .i64 (bAdd (nth l k) many))
       rw [← List.map_set] at h3
       have b2 : Below w.heap.size w w2 := Below.grown (Below.refl _ _) hg2 (Nat.le_refl _) (by intro q hq; simp [Value.ownBlock] at hq)
       have H3 := Lib.hid h3.1
       have B3 := Lib.hid (Below.setCell b2 (p := ⟨g, k, none⟩) hg1.1 (.int .i64 (bAdd (nth l k) many)))
       clear hown2 hg2 h3 b2 HN HO hat hg1
       rw [Nat.zero_add]
       generalize hx : nth l k = x at *)
    | (go_at_call 59; (with_reducible refine (radd_any _ _ _).mono ?_); rintro e w' ⟨rfl, rfl⟩))

  go_returns
  rw [hx]
  exact ⟨g, cap, rfl, H3.out, B3.out⟩
end Go.Proofs.YtagfbnfbiadpfaaGreat
