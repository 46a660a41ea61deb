/-
  hist.Hist at work: an object of so many levels, and 128 counts. New, Add, Count, Many, Clear.
-/
import Derived.Test.YtagfbnfbiadpfaaGreatFrame
import Derived.Test.YtagfbnfbiadpfaaGreatBound
import Derived.Handy
import Derived.Lib.Hide
import Derived.Deep.MidRow
namespace Go.Proofs.YtagfbnfbiadpfaaGreat
open Go.RowKit
set_option linter.unusedVariables false
set_option linter.unusedSimpArgs false

/-- The cells of a histogram: how many levels, and the counts. -/
def hstCells (n : Nat) (c : List Int) : List Value := .int .i64 n :: c.map (Value.int .i64)
/-- Block b is a histogram of n levels, of which c counts (128 of them). -/
structure HistAt (w : World) (b n : Nat) (c : List Int) : Prop where
  o : IsObj w b 91 (hstCells n c)
  l : c.length = 128
  n : n ≤ 128
theorem HistAt.drewN {w : World} {b n : Nat} {c : List Int} (h : HistAt w b n c) (k : Nat) : HistAt (w.drewN k) b n c := ⟨h.o, h.l, h.n⟩
theorem HistAt.alloc {w : World} {b n : Nat} {c : List Int} (h : HistAt w b n c) (o : Obj) : HistAt (w.alloc o) b n c := ⟨h.o.alloc o, h.l, h.n⟩
theorem HistAt.same {w w' : World} {b n : Nat} {c : List Int} (h : HistAt w b n c) (hb : Below w.heap.size w w') : HistAt w' b n c := ⟨h.o.below hb h.o.lt, h.l, h.n⟩
theorem HistAt.below {w w' : World} {b n B : Nat} {c : List Int} (h : HistAt w b n c) (hb : Below B w w') (hB : b < B) : HistAt w' b n c := ⟨h.o.below hb hB, h.l, h.n⟩
theorem HistAt.lev {w : World} {b n : Nat} {c : List Int} (h : HistAt w b n c) : w.cell? ⟨b, 0, none⟩ = some (.int .i64 n) := by rw [h.o.cell]; rfl
theorem HistAt.at_ {w : World} {b n : Nat} {c : List Int} (h : HistAt w b n c) (i : Nat) (hi : i < 128) : w.cell? ⟨b, 1 + i, none⟩ = some (.int .i64 (nth c i)) := by
  rw [h.o.cell, Nat.add_comm, hstCells, List.getElem?_cons_succ, List.getElem?_map, List.getElem?_eq_getElem (by rw [h.l]; exact hi), nth_lt c i (by rw [h.l]; exact hi)]
  rfl
theorem HistAt.put {w : World} {b n : Nat} {c : List Int} (h : HistAt w b n c) (i : Nat) (x : Int) : HistAt (w.setCell ⟨b, 1 + i, none⟩ (.int .i64 x)) b n (c.set i x) := by
  refine ⟨?_, by rw [List.length_set]; exact h.l, h.n⟩
  have h1 := h.o.set (1 + i) (.int .i64 x)
  rw [Nat.add_comm, hstCells, List.set_cons_succ, ← List.map_set] at h1
  rw [Nat.add_comm]
  exact h1

theorem has_nilH (level : Int) (w : World) : Calls Tryz.prog 87 #[.pointer none, .int .i64 level] w fun e w' => e = .returned (.bool false) ∧ w = w' := by
  go_enter Tryz.func87, Tryz.ntmps87
  go_wp2
  go_ret
  exact ⟨rfl, rfl⟩
def hasL (n : Nat) (level : Int) : Bool := decide (0 ≤ level ∧ level < n)
theorem has_anyH (b n : Nat) (c : List Int) (level : Int) (w : World) (h : HistAt w b n c) : Calls Tryz.prog 87 #[.pointer (some ⟨b, 0, none⟩), .int .i64 level] w fun e w' => e = .returned (.bool (hasL n level)) ∧ w = w' := by
  have c0 := h.lev
  clear h
  go_enter Tryz.func87, Tryz.ntmps87
  go_wp2
  all_goals
    go_ret
    exact ⟨ret_bool (by simp [hasL]; omega), rfl⟩

theorem hadd_nil (level many : Int) (w : World) : Calls Tryz.prog 62 #[.pointer none, .int .i64 level, .int .i64 many] w fun e w' => e = .returned (.bool false) ∧ w = w' := by
  go_enter Tryz.func62, Tryz.ntmps62
  go_wp2_with (go_at_call 87; (with_reducible refine (has_nilH _ _).mono ?_); rintro e w' ⟨rfl, rfl⟩)
  go_ret
  exact ⟨rfl, rfl⟩
theorem hadd_out (b n : Nat) (c : List Int) (level many : Int) (w : World) (h : HistAt w b n c) (ho : hasL n level = false) : Calls Tryz.prog 62 #[.pointer (some ⟨b, 0, none⟩), .int .i64 level, .int .i64 many] w fun e w' => e = .returned (.bool false) ∧ w = w' := by
  have H := Lib.hid h
  clear h
  go_enter Tryz.func62, Tryz.ntmps62
  go_wp2_with (go_at_call 87; (with_reducible refine (has_anyH _ _ _ _ _ H.out).mono ?_); rintro e w' ⟨rfl, rfl⟩)
  go_ret
  exact ⟨rfl, rfl⟩
set_option maxRecDepth 100000 in
theorem hadd_in (b n : Nat) (c : List Int) (i : Nat) (many : Int) (w : World) (h : HistAt w b n c) (hi : i < n) :
    Calls Tryz.prog 62 #[.pointer (some ⟨b, 0, none⟩), .int .i64 i, .int .i64 many] w fun e w' => e = .returned (.bool true) ∧ HistAt w' b n (c.set i (bAdd (nth c i) many)) ∧ Only b w w' := by
  have hn := h.n
  have c0 := h.at_ i (by omega)
  have fr : ∀ j, w.frozen? ⟨b, j, none⟩ = false := fun j => h.o.free j
  have hh : hasL n i = true := by simp [hasL]; omega
  have i1 : (0 : Int) ≤ (i : Int) := by omega
  have i2 : (i : Int) < 128 := by omega
  have H := Lib.hid h
  clear h
  go_enter Tryz.func62, Tryz.ntmps62
  go_wp2_with (go_at_call 87; (with_reducible refine (has_anyH _ _ _ _ _ H.out).mono ?_); rintro e w' ⟨rfl, rfl⟩)
  (refine region_tail 13 (by kernel_rfl) (by kernel_rfl) ?_; simp only [List.take_succ_cons, List.take_zero, List.drop_succ_cons, List.drop_zero]; (repeat (refine wpStill_step (fun K hK => ?_); go_simp; (first | (refine hK _ ?_) | (with_reducible refine ⟨_, still_left (add_any _ _ _), hK _ ?_⟩)); clear hK K)); refine wpStill_nil ?_)
  go_wp2
  go_ret
  exact ⟨rfl, (H.out.put i _).drewN 1, ((Only.refl b w).setCell (.inl rfl) _).drew⟩
/-- What is counted behind an Add. -/
def hadd (n : Nat) (c : List Int) (level many : Int) : List Int := if hasL n level = true then c.set level.toNat (bAdd (nth c level.toNat) many) else c
theorem hadd_any (b n : Nat) (c : List Int) (level many : Int) (w : World) (h : HistAt w b n c) :
    Calls Tryz.prog 62 #[.pointer (some ⟨b, 0, none⟩), .int .i64 level, .int .i64 many] w fun e w' => e = .returned (.bool (hasL n level)) ∧ HistAt w' b n (hadd n c level many) ∧ Only b w w' := by
  cases ho : hasL n level with
  | false =>
    refine (hadd_out b n c level many w h ho).mono ?_
    rintro e w' ⟨rfl, rfl⟩
    exact ⟨rfl, by rw [hadd, ho]; exact h, Only.refl _ _⟩
  | true =>
    obtain ⟨i, rfl⟩ : ∃ i : Nat, level = i := ⟨level.toNat, by simp [hasL] at ho; omega⟩
    have hi : i < n := by simp [hasL] at ho; omega
    refine (hadd_in b n c i many w h hi).mono ?_
    rintro e w' ⟨rfl, h1, h2⟩
    exact ⟨rfl, by rw [hadd, ho]; exact h1, h2⟩
theorem many_nil (level : Int) (w : World) : Calls Tryz.prog 118 #[.pointer none, .int .i64 level] w fun e w' => e = .returned (.int .i64 0) ∧ w = w' := by
  go_enter Tryz.func118, Tryz.ntmps118
  go_wp2_with (go_at_call 87; (with_reducible refine (has_nilH _ _).mono ?_); rintro e w' ⟨rfl, rfl⟩)
  go_ret
  exact ⟨rfl, rfl⟩
def manyL (n : Nat) (c : List Int) (level : Int) : Int := if hasL n level = true then nth c level.toNat else 0
set_option maxRecDepth 100000 in
theorem many_any (b n : Nat) (c : List Int) (level : Int) (w : World) (h : HistAt w b n c) : Calls Tryz.prog 118 #[.pointer (some ⟨b, 0, none⟩), .int .i64 level] w fun e w' => e = .returned (.int .i64 (manyL n c level)) ∧ w = w' := by
  have hn := h.n
  have H := Lib.hid h
  cases ho : hasL n level with
  | false =>
    have E := Lib.hid (show manyL n c level = 0 by rw [manyL, ho]; rfl)
    clear h
    go_enter Tryz.func118, Tryz.ntmps118
    go_wp2_with (go_at_call 87; (with_reducible refine (has_anyH _ _ _ _ _ H.out).mono ?_); rintro e w' ⟨rfl, rfl⟩)
    go_ret
    exact ⟨ret_int E.out.symm, rfl⟩
  | true =>
    obtain ⟨i, rfl⟩ : ∃ i : Nat, level = i := ⟨level.toNat, by simp [hasL] at ho; omega⟩
    have hi : i < n := by simp [hasL] at ho; omega
    have E := Lib.hid (show manyL n c i = nth c i by rw [manyL, ho]; rfl)
    have c0 := h.at_ i (by omega)
    have i1 : (0 : Int) ≤ (i : Int) := by omega
    have i2 : (i : Int) < 128 := by omega
    clear h
    go_enter Tryz.func118, Tryz.ntmps118
    go_wp2_with (go_at_call 87; (with_reducible refine (has_anyH _ _ _ _ _ H.out).mono ?_); rintro e w' ⟨rfl, rfl⟩)
    go_ret
    exact ⟨ret_int E.out.symm, rfl⟩
theorem count_nil (level : Int) (w : World) : Calls Tryz.prog 36 #[.pointer none, .int .i64 level] w fun e w' => e = .returned (.bool false) ∧ w = w' := by
  go_enter Tryz.func36, Tryz.ntmps36
  go_wp2_with (go_at_call 62; (with_reducible refine (hadd_nil _ _ _).mono ?_); rintro e w' ⟨rfl, rfl⟩)
  go_ret
  exact ⟨rfl, rfl⟩
theorem count_any (b n : Nat) (c : List Int) (level : Int) (w : World) (h : HistAt w b n c) :
    Calls Tryz.prog 36 #[.pointer (some ⟨b, 0, none⟩), .int .i64 level] w fun e w' => e = .returned (.bool (hasL n level)) ∧ HistAt w' b n (hadd n c level 1) ∧ Only b w w' := by
  have K := Lib.hid (hadd_any b n c level 1 w h)
  clear h
  go_enter Tryz.func36, Tryz.ntmps36
  go_wp2_with fail
  refine K.out.mono ?_
  rintro e w' ⟨rfl, h1, h2⟩
  have H1 := Lib.hid h1
  have H2 := Lib.hid h2
  clear h1 h2
  go_wp2_with fail
  go_ret
  exact ⟨rfl, H1.out, H2.out⟩
theorem hnew_bad (n : Int) (w : World) (h : ¬ (1 ≤ n ∧ n ≤ 128)) : Calls Tryz.prog 21 #[.int .i64 n] w fun e w' => e = .returned (.tuple #[.pointer none, .int .i64 1]) ∧ w = w' := by
  by_cases h1 : n < 1
  · go_enter Tryz.func21, Tryz.ntmps21
    go_wp2
    go_returns
    exact ⟨rfl, rfl⟩
  · have h2 : 128 < n := by omega
    have h3 : 1 ≤ n := by omega
    go_enter Tryz.func21, Tryz.ntmps21
    go_wp2
    go_returns
    exact ⟨rfl, rfl⟩
def zeros : List Int := List.replicate 128 0
theorem zeros_len : zeros.length = 128 := List.length_replicate ..
set_option maxRecDepth 100000 in
theorem info_hist : (Tryz.prog.info? 91).map (fun i => (i.zero, i.size)) = some (some (.agg (hstCells 0 zeros).toArray), 129) := by kernel_rfl
theorem zero_hist (w : World) : (zeroValue 91).run Tryz.prog w = .ok (.agg (hstCells 0 zeros).toArray) w := by
  obtain ⟨i, hi, hz⟩ := Option.map_eq_some_iff.1 info_hist
  have h1 : i.zero = some (.agg (hstCells 0 zeros).toArray) := congrArg Prod.fst hz
  simp [zeroValue, typeInfo, hi, h1]
theorem hst_ne (n : Nat) (c : List Int) : ((hstCells n c).toArray = #[]) = False := by simp [hstCells]
set_option maxRecDepth 100000 in
theorem hnew_ok (n : Nat) (w : World) (h1 : 1 ≤ n) (h2 : n ≤ 128) : Calls Tryz.prog 21 #[.int .i64 n] w fun e w' => e = .returned (.tuple #[.pointer (some ⟨w.heap.size, 0, none⟩), .int .i64 0]) ∧ HistAt w' w.heap.size n zeros ∧ Below w.heap.size w w' := by
  have i1 : (1 : Int) ≤ (n : Int) := by omega
  have i2 : (n : Int) ≤ 128 := by omega
  have zv := zero_hist
  have hne := hst_ne 0 zeros
  go_enter Tryz.func21, Tryz.ntmps21
  go_wp2
  go_returns
  exact ⟨rfl, ⟨IsObj.new w _ (hstCells n zeros), zeros_len, h2⟩, (Below.refl _ _).alloc (Nat.le_refl _) _⟩
end Go.Proofs.YtagfbnfbiadpfaaGreat
