
/-
  The methods of load.Load at work, and the document's answers (lockkeeperref14): an object of three numbers.
-/
import Derived.Test.YtagfbnfbiadpfaaGreatSum
namespace Go.Proofs.YtagfbnfbiadpfaaGreat
open Go.RowKit
set_option linter.unusedVariables false

/-- Block b is a window's load: how many waited, how long, the longest. -/
def LoadAt (w : World) (b : Nat) (m s x : Int) : Prop := IsObj w b 103 [.int .i64 m, .int .i64 s, .int .i64 x]

theorem wait_nil (t : Int) (w : World) : Calls Tryz.prog 37 #[.pointer none, .int .i64 t] w fun e w' => e = .returned (.tuple #[]) ∧ w = w' := by
  go_enter Tryz.func37, Tryz.ntmps37
  go_wp2
  refine bodyPost_ret (results_none rfl _ _ _) rfl ?_
  exact ⟨rfl, rfl⟩

set_option maxRecDepth 100000 in
theorem wait_any (b : Nat) (m s x t : Int) (w : World) (h : LoadAt w b m s x) : Calls Tryz.prog 37 #[.pointer (some ⟨b, 0, none⟩), .int .i64 t] w fun e w' => e = .returned (.tuple #[]) ∧ LoadAt w' b (bAdd m 1) (bAdd s t) (max x (cnt t)) ∧ Only b w w' := by
  have c0 : w.cell? ⟨b, 0, none⟩ = some (.int .i64 m) := h.cell 0
  have c1 : w.cell? ⟨b, 1, none⟩ = some (.int .i64 s) := h.cell 1
  have c2 : w.cell? ⟨b, 2, none⟩ = some (.int .i64 x) := h.cell 2
  have f0 := h.free 0
  have f1 := h.free 1
  have f2 := h.free 2
  have H := Lib.hid h
  clear h
  go_enter Tryz.func37, Tryz.ntmps37
  go_wp2_with fail
  (refine region_tail 10 (by kernel_rfl) (by kernel_rfl) ?_; simp only [List.take_succ_cons, List.take_zero, List.drop_succ_cons, List.drop_zero]; (repeat (refine wpStill_step (fun K hK => ?_); go_simp; (first | (refine hK _ ?_) | (with_reducible refine ⟨_, still_left (add_any _ _ _), hK _ ?_⟩)); clear hK K)); refine wpStill_nil ?_)
  go_wp2_with fail
  (refine region_tail 11 (by kernel_rfl) (by kernel_rfl) ?_; simp only [List.take_succ_cons, List.take_zero, List.drop_succ_cons, List.drop_zero]; (repeat (refine wpStill_step (fun K hK => ?_); go_simp; (first | (refine hK _ ?_) | (with_reducible refine ⟨_, still_left (add_any _ _ _), hK _ ?_⟩)); clear hK K)); refine wpStill_nil ?_)
  go_wp2_with fail
  (refine region_tail 12 (by kernel_rfl) (by kernel_rfl) ?_; simp only [List.take_succ_cons, List.take_zero, List.drop_succ_cons, List.drop_zero]; (repeat (refine wpStill_step (fun K hK => ?_); go_simp; (first | (refine hK _ ?_) | (with_reducible refine ⟨_, still_left (cnt_any _ _), hK _ ?_⟩)); clear hK K)); refine wpStill_nil ?_)
  go_wp2_with fail
  all_goals
    go_end0
    refine ⟨rfl, ?_, ((((Only.refl b w).setCell (.inl rfl) _).setCell (.inl rfl) _).setCell (.inl rfl) _).drew.drew.drew⟩
    have := (((H.out.set 0 (.int .i64 (bAdd m 1))).set 1 (.int .i64 (bAdd s t))).set 2 (.int .i64 (max x (cnt t))))
    first
      | (rw [show max x (cnt t) = cnt t by omega] at this ⊢; exact this)
      | (rw [show max x (cnt t) = x by omega] at this ⊢; exact this)

theorem tell0_any (b : Nat) (m s x : Int) (w : World) (h : LoadAt w b m s x) : Calls Tryz.prog 109 #[.pointer (some ⟨b, 0, none⟩), .int .i64 0] w fun e w' => e = .returned (.int .i64 m) ∧ w = w' := by
  have c0 : w.cell? ⟨b, 0, none⟩ = some (.int .i64 m) := h.cell 0
  clear h
  go_enter Tryz.func109, Tryz.ntmps109
  go_wp2
  go_ret
  exact ⟨rfl, rfl⟩
theorem tell1_any (b : Nat) (m s x : Int) (w : World) (h : LoadAt w b m s x) : Calls Tryz.prog 109 #[.pointer (some ⟨b, 0, none⟩), .int .i64 1] w fun e w' => e = .returned (.int .i64 s) ∧ w = w' := by
  have c0 : w.cell? ⟨b, 1, none⟩ = some (.int .i64 s) := h.cell 1
  clear h
  go_enter Tryz.func109, Tryz.ntmps109
  go_wp2
  go_ret
  exact ⟨rfl, rfl⟩
theorem tell2_any (b : Nat) (m s x : Int) (w : World) (h : LoadAt w b m s x) : Calls Tryz.prog 109 #[.pointer (some ⟨b, 0, none⟩), .int .i64 2] w fun e w' => e = .returned (.int .i64 x) ∧ w = w' := by
  have c0 : w.cell? ⟨b, 2, none⟩ = some (.int .i64 x) := h.cell 2
  clear h
  go_enter Tryz.func109, Tryz.ntmps109
  go_wp2
  go_ret
  exact ⟨rfl, rfl⟩
theorem tell_nil (k : Int) (w : World) : Calls Tryz.prog 109 #[.pointer none, .int .i64 k] w fun e w' => e = .returned (.int .i64 0) ∧ w = w' := by
  go_enter Tryz.func109, Tryz.ntmps109
  go_wp2
  go_ret
  exact ⟨rfl, rfl⟩
theorem lmany_any (b : Nat) (m s x : Int) (w : World) (h : LoadAt w b m s x) : Calls Tryz.prog 93 #[.pointer (some ⟨b, 0, none⟩)] w fun e w' => e = .returned (.int .i64 m) ∧ w = w' := by
  have H := Lib.hid h
  clear h
  go_enter Tryz.func93, Tryz.ntmps93
  go_wp2_with (go_at_call 109; (with_reducible refine (tell0_any _ _ _ _ _ H.out).mono ?_); rintro e w' ⟨rfl, rfl⟩)
  go_ret
  exact ⟨rfl, rfl⟩
theorem lsum_any (b : Nat) (m s x : Int) (w : World) (h : LoadAt w b m s x) : Calls Tryz.prog 92 #[.pointer (some ⟨b, 0, none⟩)] w fun e w' => e = .returned (.int .i64 s) ∧ w = w' := by
  have H := Lib.hid h
  clear h
  go_enter Tryz.func92, Tryz.ntmps92
  go_wp2_with (go_at_call 109; (with_reducible refine (tell1_any _ _ _ _ _ H.out).mono ?_); rintro e w' ⟨rfl, rfl⟩)
  go_ret
  exact ⟨rfl, rfl⟩
theorem lmean_any (b : Nat) (m s x : Int) (w : World) (h : LoadAt w b m s x) : Calls Tryz.prog 70 #[.pointer (some ⟨b, 0, none⟩)] w fun e w' => e = .returned (.int .i64 (bMean s m)) ∧ w = w' := by
  have H := Lib.hid h
  clear h
  go_enter Tryz.func70, Tryz.ntmps70
  go_wp2_with (first | (go_at_call 92; (with_reducible refine (lsum_any _ _ _ _ _ H.out).mono ?_); rintro e w' ⟨rfl, rfl⟩) | (go_at_call 93; (with_reducible refine (lmany_any _ _ _ _ _ H.out).mono ?_); rintro e w' ⟨rfl, rfl⟩) | (go_at_call 91; (with_reducible refine (mean_any _ _ _).mono ?_); rintro e w' ⟨rfl, rfl⟩))
  go_ret
  exact ⟨rfl, rfl⟩
/-- The verdict of a mean. -/
def judge (mean low high : Int) : Int := if high < mean then 1 else if mean < low then 2 else 0
theorem verdict_any (b : Nat) (m s x lo hi : Int) (w : World) (h : LoadAt w b m s x) : Calls Tryz.prog 46 #[.pointer (some ⟨b, 0, none⟩), .int .i64 lo, .int .i64 hi] w fun e w' => e = .returned (.int .i64 (judge (bMean s m) lo hi)) ∧ w = w' := by
  have H := Lib.hid h
  clear h
  go_enter Tryz.func46, Tryz.ntmps46
  go_wp2_with (go_at_call 70; (with_reducible refine (lmean_any _ _ _ _ _ H.out).mono ?_); rintro e w' ⟨rfl, rfl⟩)
  all_goals
    go_ret
    exact ⟨ret_int (by unfold judge; (repeat split) <;> omega), rfl⟩
theorem lmany_nil (w : World) : Calls Tryz.prog 93 #[.pointer none] w fun e w' => e = .returned (.int .i64 0) ∧ w = w' := by
  go_enter Tryz.func93, Tryz.ntmps93
  go_wp2_with (go_at_call 109; (with_reducible refine (tell_nil _ _).mono ?_); rintro e w' ⟨rfl, rfl⟩)
  go_ret
  exact ⟨rfl, rfl⟩
theorem lsum_nil (w : World) : Calls Tryz.prog 92 #[.pointer none] w fun e w' => e = .returned (.int .i64 0) ∧ w = w' := by
  go_enter Tryz.func92, Tryz.ntmps92
  go_wp2_with (go_at_call 109; (with_reducible refine (tell_nil _ _).mono ?_); rintro e w' ⟨rfl, rfl⟩)
  go_ret
  exact ⟨rfl, rfl⟩
theorem lmean_nil (w : World) : Calls Tryz.prog 70 #[.pointer none] w fun e w' => e = .returned (.int .i64 0) ∧ w = w' := by
  have e0 : bMean 0 0 = 0 := rfl
  go_enter Tryz.func70, Tryz.ntmps70
  go_wp2_with (first | (go_at_call 92; (with_reducible refine (lsum_nil _).mono ?_); rintro e w' ⟨rfl, rfl⟩) | (go_at_call 93; (with_reducible refine (lmany_nil _).mono ?_); rintro e w' ⟨rfl, rfl⟩) | (go_at_call 91; (with_reducible refine (mean_any _ _ _).mono ?_); rintro e w' ⟨rfl, rfl⟩))
  go_ret
  exact ⟨rfl, rfl⟩
theorem verdict_nil (lo hi : Int) (w : World) : Calls Tryz.prog 46 #[.pointer none, .int .i64 lo, .int .i64 hi] w fun e w' => e = .returned (.int .i64 (judge 0 lo hi)) ∧ w = w' := by
  go_enter Tryz.func46, Tryz.ntmps46
  go_wp2_with (go_at_call 70; (with_reducible refine (lmean_nil _).mono ?_); rintro e w' ⟨rfl, rfl⟩)
  all_goals
    go_ret
    exact ⟨ret_int (by unfold judge; (repeat split) <;> omega), rfl⟩
theorem clear_nil (w : World) : Calls Tryz.prog 79 #[.pointer none] w fun e w' => e = .returned (.tuple #[]) ∧ w = w' := by
  go_enter Tryz.func79, Tryz.ntmps79
  go_wp2
  go_end0
  exact ⟨rfl, rfl⟩
theorem clear_any (b : Nat) (m s x : Int) (w : World) (h : LoadAt w b m s x) : Calls Tryz.prog 79 #[.pointer (some ⟨b, 0, none⟩)] w fun e w' => e = .returned (.tuple #[]) ∧ LoadAt w' b 0 0 0 ∧ Only b w w' := by
  have c0 : w.cell? ⟨b, 0, none⟩ = some (.int .i64 m) := h.cell 0
  have c1 : w.cell? ⟨b, 1, none⟩ = some (.int .i64 s) := h.cell 1
  have c2 : w.cell? ⟨b, 2, none⟩ = some (.int .i64 x) := h.cell 2
  have f0 := h.free 0
  have f1 := h.free 1
  have f2 := h.free 2
  have H := Lib.hid h
  clear h
  go_enter Tryz.func79, Tryz.ntmps79
  go_wp2
  go_end0
  exact ⟨rfl, ((H.out.set 0 (.int .i64 0)).set 1 (.int .i64 0)).set 2 (.int .i64 0), (((Only.refl b w).setCell (.inl rfl) _).setCell (.inl rfl) _).setCell (.inl rfl) _⟩
theorem new_any (w : World) : Calls Tryz.prog 25 #[] w fun e w' => e = .returned (.pointer (some ⟨w.heap.size, 0, none⟩)) ∧ LoadAt w' w.heap.size 0 0 0 ∧ Below w.heap.size w w' ∧ w.heap.size < w'.heap.size := by
  go_enter Tryz.func25, Tryz.ntmps25
  go_wp2
  go_ret
  exact ⟨rfl, IsObj.new w _ _, (Below.refl _ _).alloc (Nat.le_refl _) _, by simp⟩
theorem rjudge_any (m lo hi : Int) (w : World) : Calls Tryz.prog 38 #[.int .i64 m, .int .i64 lo, .int .i64 hi] w fun e w' => e = .returned (.int .i64 (judge m lo hi)) ∧ w = w' := by
  go_enter Tryz.func38, Tryz.ntmps38
  go_wp2
  all_goals
    go_ret
    exact ⟨ret_int (by unfold judge; (repeat split) <;> omega), rfl⟩

theorem rsum14_any (v : Value) (l : List Int) (w : World) (h : Ints w v l) : Calls Tryz.prog 66 #[v] w fun e w' => e = .returned (.int .i64 (bSum l)) ∧ w = w' := by
  have H := Lib.hid h
  clear h
  go_enter Tryz.func66, Tryz.ntmps66
  go_wp2_with (go_at_call 90; (with_reducible refine (rsum_any _ _ _ H.out).mono ?_); rintro e w' ⟨rfl, rfl⟩)
  go_ret
  exact ⟨rfl, rfl⟩
theorem rmean14_any (v : Value) (l : List Int) (w : World) (h : Ints w v l) : Calls Tryz.prog 39 #[v] w fun e w' => e = .returned (.int .i64 (bMean (bSum l) l.length)) ∧ w = w' := by
  have h' := h
  obtain ⟨a, c, rfl, h1, h2, _⟩ := h'
  have H := Lib.hid h
  clear h
  go_enter Tryz.func39, Tryz.ntmps39
  go_wp2_with (first | (go_at_call 66; (with_reducible refine (rsum14_any _ _ _ H.out).mono ?_); rintro e w' ⟨rfl, rfl⟩) | (go_at_call 65; (with_reducible refine (rmean_any _ _ _).mono ?_); rintro e w' ⟨rfl, rfl⟩))
  go_ret
  exact ⟨rfl, rfl⟩

def lWorst : List Int → Int := List.foldl (fun x t => max x (cnt t)) 0
theorem lWorst_take (l : List Int) (k : Nat) (h : k < l.length) : lWorst (l.take (k + 1)) = max (lWorst (l.take k)) (cnt (nth l k)) := by
  rw [take_nth l k h]
  unfold lWorst
  rw [List.foldl_append]
  rfl
theorem LoadAt.drewN {w : World} {b : Nat} {m s x : Int} (h : LoadAt w b m s x) (n : Nat) : LoadAt (w.drewN n) b m s x := h
theorem LoadAt.ext {w : World} {b : Nat} {m s x : Int} (h : LoadAt w b m s x) (u : Later w) : LoadAt (ext w u) b m s x := IsObj.below h u.below h.lt
theorem Ints.ext {w : World} {v : Value} {l : List Int} (h : Ints w v l) (u : Later w) : Ints (ext w u) v l := h.same u.below
theorem rmean14_at {n : Nat} (K : Int) (a : Option Addr) (c : Nat) (l : List Int) (w : World) (hn : l.length = n) (hK : (n : Int) = K) (h : Ints w (.slice a l.length c) l) : Calls Tryz.prog 39 #[.slice a n c] w fun e w' => e = .returned (.int .i64 (bMean (bSum l) K)) ∧ w = w' := by
  subst hn hK
  exact rmean14_any _ l w h
theorem rsum14_at {n : Nat} (a : Option Addr) (c : Nat) (l : List Int) (w : World) (hn : l.length = n) (h : Ints w (.slice a l.length c) l) : Calls Tryz.prog 66 #[.slice a n c] w fun e w' => e = .returned (.int .i64 (bSum l)) ∧ w = w' := by
  subst hn
  exact rsum14_any _ l w h
end Go.Proofs.YtagfbnfbiadpfaaGreat
