/-
  turn.Turn at work and the document's answer (lockkeeperref16.Step): a way, and for how many windows it was kept.
-/
import Derived.Test.YtagfbnfbiadpfaaGreatFrame
import Derived.Test.YtagfbnfbiadpfaaGreatBound
import Derived.Handy
namespace Go.Proofs.YtagfbnfbiadpfaaGreat
open Go.RowKit
set_option linter.unusedVariables false

/-- Block b is a turn. -/
def TurnAt (w : World) (b : Nat) (way held : Int) : Prop := IsObj w b 100 [.int .i64 way, .int .i64 held]
theorem TurnAt.drewN {w : World} {b : Nat} {x y : Int} (h : TurnAt w b x y) (n : Nat) : TurnAt (w.drewN n) b x y := h
theorem TurnAt.alloc {w : World} {b : Nat} {x y : Int} (h : TurnAt w b x y) (o : Obj) : TurnAt (w.alloc o) b x y := IsObj.alloc h o
theorem TurnAt.same {w w' : World} {b : Nat} {x y : Int} (h : TurnAt w b x y) (hb : Below w.heap.size w w') : TurnAt w' b x y := IsObj.below h hb h.lt
theorem TurnAt.ext {w : World} {b : Nat} {x y : Int} (h : TurnAt w b x y) (u : Later w) : TurnAt (ext w u) b x y := h.same u.below
theorem TurnAt.only {w w' : World} {b c : Nat} {x y : Int} (h : TurnAt w b x y) (ho : Only c w w') (hne : b ≠ c) : TurnAt w' b x y := IsObj.only h ho hne

/-- The way that a verdict wants. -/
def wants (v : Int) : Int := if v = 1 then -1 else if v = 2 then 1 else 0
/-- What one more window comes to: the way, how long, the answer. -/
structure Stp where
  way : Int
  held : Int
  ans : Int
def tstep (way held v dwell : Int) : Stp :=
  if wants v = 0 then (if way = 0 then ⟨way, held, 0⟩ else ⟨way, bAdd held 1, 0⟩)
  else if wants v = way then ⟨way, bAdd held 1, wants v⟩
  else if way = 0 ∨ (dwell ≤ held ∧ 1 ≤ held) then ⟨wants v, 1, wants v⟩
  else ⟨way, bAdd held 1, 0⟩
/-- A turn as it can be: no way and nothing held, or a way that was held. -/
def TOk (way held : Int) : Prop := (way = 0 ∧ held = 0) ∨ ((way = 1 ∨ way = -1) ∧ 1 ≤ held ∧ held ≤ 2147483647)
theorem wants_rng (v : Int) : wants v = 0 ∨ wants v = 1 ∨ wants v = -1 := by
  unfold wants
  split
  · exact .inr (.inr rfl)
  · split
    · exact .inr (.inl rfl)
    · exact .inl rfl
theorem bAdd1 (h : Int) (h0 : 0 ≤ h) (h1 : h ≤ 2147483647) : bAdd h 1 = min (h + 1) 2147483647 := by
  unfold bAdd
  rw [cnt_id h h0 h1, cnt_id 1 (by omega) (by omega)]
  unfold cnt keep
  omega
theorem tok_step {way held : Int} (h : TOk way held) (v dwell : Int) : TOk (tstep way held v dwell).way (tstep way held v dwell).held := by
  have hw := wants_rng v
  have hb : 0 ≤ held ∧ held ≤ 2147483647 := by unfold TOk at h; omega
  have h1 := bAdd1 held hb.1 hb.2
  unfold tstep
  unfold TOk at h ⊢
  split
  · split
    · exact h
    · simp only; omega
  · split
    · simp only; omega
    · split
      · simp only; omega
      · simp only; omega

theorem wants_any (v : Int) (w : World) : Calls Tryz.prog 73 #[.int .i64 v] w fun e w' => e = .returned (.int .i64 (wants v)) ∧ w = w' := by
  go_enter Tryz.func73, Tryz.ntmps73
  go_wp2
  all_goals
    go_ret
    refine ⟨ret_int ?_, rfl⟩
    unfold wants
    simp_all
theorem take_any (b : Nat) (way held x : Int) (w : World) (h : TurnAt w b way held) : Calls Tryz.prog 74 #[.pointer (some ⟨b, 0, none⟩), .int .i64 x] w fun e w' => e = .returned (.int .i64 x) ∧ TurnAt w' b x 1 ∧ Only b w w' := by
  have c0 : w.cell? ⟨b, 0, none⟩ = some (.int .i64 way) := IsObj.cell h 0
  have c1 : w.cell? ⟨b, 1, none⟩ = some (.int .i64 held) := IsObj.cell h 1
  have f0 := IsObj.free h 0
  have f1 := IsObj.free h 1
  have H := Lib.hid h
  clear h
  go_enter Tryz.func74, Tryz.ntmps74
  go_wp2
  go_ret
  exact ⟨rfl, (IsObj.set H.out 0 (.int .i64 x)).set 1 (.int .i64 1), ((Only.refl b w).setCell (.inl rfl) _).setCell (.inl rfl) _⟩
theorem tclear_nil (w : World) : Calls Tryz.prog 52 #[.pointer none] w fun e w' => e = .returned (.tuple #[]) ∧ w = w' := by
  go_enter Tryz.func52, Tryz.ntmps52
  go_wp2
  go_end0
  exact ⟨rfl, rfl⟩
theorem tclear_any (b : Nat) (way held : Int) (w : World) (h : TurnAt w b way held) : Calls Tryz.prog 52 #[.pointer (some ⟨b, 0, none⟩)] w fun e w' => e = .returned (.tuple #[]) ∧ TurnAt w' b 0 0 ∧ Only b w w' := by
  have c0 : w.cell? ⟨b, 0, none⟩ = some (.int .i64 way) := IsObj.cell h 0
  have c1 : w.cell? ⟨b, 1, none⟩ = some (.int .i64 held) := IsObj.cell h 1
  have f0 := IsObj.free h 0
  have f1 := IsObj.free h 1
  have H := Lib.hid h
  clear h
  go_enter Tryz.func52, Tryz.ntmps52
  go_wp2
  go_end0
  exact ⟨rfl, (IsObj.set H.out 0 (.int .i64 0)).set 1 (.int .i64 0), ((Only.refl b w).setCell (.inl rfl) _).setCell (.inl rfl) _⟩
theorem way_nil (w : World) : Calls Tryz.prog 57 #[.pointer none] w fun e w' => e = .returned (.int .i64 0) ∧ w = w' := by
  go_enter Tryz.func57, Tryz.ntmps57
  go_wp2
  go_ret
  exact ⟨rfl, rfl⟩
theorem way_any (b : Nat) (way held : Int) (w : World) (h : TurnAt w b way held) : Calls Tryz.prog 57 #[.pointer (some ⟨b, 0, none⟩)] w fun e w' => e = .returned (.int .i64 way) ∧ w = w' := by
  have c0 : w.cell? ⟨b, 0, none⟩ = some (.int .i64 way) := IsObj.cell h 0
  clear h
  go_enter Tryz.func57, Tryz.ntmps57
  go_wp2
  go_ret
  exact ⟨rfl, rfl⟩
theorem turnNew_any (w : World) : Calls Tryz.prog 24 #[] w fun e w' => e = .returned (.pointer (some ⟨w.heap.size, 0, none⟩)) ∧ TurnAt w' w.heap.size 0 0 ∧ Below w.heap.size w w' ∧ w.heap.size < w'.heap.size := by
  go_enter Tryz.func24, Tryz.ntmps24
  go_wp2
  go_ret
  exact ⟨rfl, IsObj.new w _ _, (Below.refl _ _).alloc (Nat.le_refl _) _, by simp⟩

theorem step_nil (v d : Int) (w : World) : Calls Tryz.prog 48 #[.pointer none, .int .i64 v, .int .i64 d] w fun e w' => e = .returned (.int .i64 0) ∧ w = w' := by
  go_enter Tryz.func48, Tryz.ntmps48
  go_wp2
  go_ret
  exact ⟨rfl, rfl⟩

set_option maxHeartbeats 4000000 in
theorem step_any (b : Nat) (way held v d : Int) (w : World) (h : TurnAt w b way held) (ok : TOk way held) : Calls Tryz.prog 48 #[.pointer (some ⟨b, 0, none⟩), .int .i64 v, .int .i64 d] w fun e w' =>
    e = .returned (.int .i64 (tstep way held v d).ans) ∧ TurnAt w' b (tstep way held v d).way (tstep way held v d).held ∧ Only b w w' := by
  have c0 : w.cell? ⟨b, 0, none⟩ = some (.int .i64 way) := IsObj.cell h 0
  have c1 : w.cell? ⟨b, 1, none⟩ = some (.int .i64 held) := IsObj.cell h 1
  have f0 := IsObj.free h 0
  have f1 := IsObj.free h 1
  have hw := wants_rng v
  have H := Lib.hid h
  clear h
  rcases ok with ⟨rfl, rfl⟩ | ⟨rfl | rfl, h0, h1⟩
  · rcases hw with hw | hw | hw
    · have e : tstep 0 0 v d = ⟨0, 0, 0⟩ := by unfold tstep; simp [hw]
      have HE := Lib.hid e
      clear e
      go_enter Tryz.func48, Tryz.ntmps48
      go_wp2_with (first | (go_at_call 73; (with_reducible refine (wants_any _ _).mono ?_); rintro e w' ⟨rfl, rfl⟩) | (go_at_call 63; (with_reducible refine (add_any _ _ _).mono ?_); rintro e w' ⟨rfl, rfl⟩) | (go_at_call 74; refine (take_any _ _ _ _ _ H.out).mono ?_; rintro e w1 ⟨rfl, hT, hO⟩))
      go_ret
      rw [HE.out]
      exact ⟨rfl, H.out, Only.refl _ _⟩
    · have e : tstep 0 0 v d = ⟨1, 1, 1⟩ := by unfold tstep; simp [hw]
      have HE := Lib.hid e
      clear e
      go_enter Tryz.func48, Tryz.ntmps48
      go_wp2_with (first | (go_at_call 73; (with_reducible refine (wants_any _ _).mono ?_); rintro e w' ⟨rfl, rfl⟩) | (go_at_call 63; (with_reducible refine (add_any _ _ _).mono ?_); rintro e w' ⟨rfl, rfl⟩) | (go_at_call 74; refine (take_any _ _ _ _ _ H.out).mono ?_; rintro e w1 ⟨rfl, hT, hO⟩))
      go_ret
      rw [HE.out]
      exact ⟨rfl, hT, hO⟩
    · have e : tstep 0 0 v d = ⟨-1, 1, -1⟩ := by unfold tstep; simp [hw]
      have HE := Lib.hid e
      clear e
      go_enter Tryz.func48, Tryz.ntmps48
      go_wp2_with (first | (go_at_call 73; (with_reducible refine (wants_any _ _).mono ?_); rintro e w' ⟨rfl, rfl⟩) | (go_at_call 63; (with_reducible refine (add_any _ _ _).mono ?_); rintro e w' ⟨rfl, rfl⟩) | (go_at_call 74; refine (take_any _ _ _ _ _ H.out).mono ?_; rintro e w1 ⟨rfl, hT, hO⟩))
      go_ret
      rw [HE.out]
      exact ⟨rfl, hT, hO⟩
  · rcases hw with hw | hw | hw
    · have e : tstep 1 held v d = ⟨1, bAdd held 1, 0⟩ := by unfold tstep; simp [hw]
      have HE := Lib.hid e
      clear e
      go_enter Tryz.func48, Tryz.ntmps48
      go_wp2_with (first | (go_at_call 73; (with_reducible refine (wants_any _ _).mono ?_); rintro e w' ⟨rfl, rfl⟩) | (go_at_call 63; (with_reducible refine (add_any _ _ _).mono ?_); rintro e w' ⟨rfl, rfl⟩) | (go_at_call 74; refine (take_any _ _ _ _ _ H.out).mono ?_; rintro e w1 ⟨rfl, hT, hO⟩))
      go_ret
      rw [HE.out]
      exact ⟨rfl, IsObj.set H.out 1 _, (Only.refl b w).setCell (.inl rfl) _⟩
    · have e : tstep 1 held v d = ⟨1, bAdd held 1, 1⟩ := by unfold tstep; simp [hw]
      have HE := Lib.hid e
      clear e
      go_enter Tryz.func48, Tryz.ntmps48
      go_wp2_with (first | (go_at_call 73; (with_reducible refine (wants_any _ _).mono ?_); rintro e w' ⟨rfl, rfl⟩) | (go_at_call 63; (with_reducible refine (add_any _ _ _).mono ?_); rintro e w' ⟨rfl, rfl⟩) | (go_at_call 74; refine (take_any _ _ _ _ _ H.out).mono ?_; rintro e w1 ⟨rfl, hT, hO⟩))
      go_ret
      rw [HE.out]
      exact ⟨rfl, IsObj.set H.out 1 _, (Only.refl b w).setCell (.inl rfl) _⟩
    · by_cases hd : d ≤ held
      · have e : tstep 1 held v d = ⟨-1, 1, -1⟩ := by unfold tstep; simp [hw, hd, h0]
        have HE := Lib.hid e
        clear e
        go_enter Tryz.func48, Tryz.ntmps48
        go_wp2_with (first | (go_at_call 73; (with_reducible refine (wants_any _ _).mono ?_); rintro e w' ⟨rfl, rfl⟩) | (go_at_call 63; (with_reducible refine (add_any _ _ _).mono ?_); rintro e w' ⟨rfl, rfl⟩) | (go_at_call 74; refine (take_any _ _ _ _ _ H.out).mono ?_; rintro e w1 ⟨rfl, hT, hO⟩))
        go_ret
        rw [HE.out]
        exact ⟨rfl, hT, hO⟩
      · have e : tstep 1 held v d = ⟨1, bAdd held 1, 0⟩ := by unfold tstep; simp [hw, hd]
        have HE := Lib.hid e
        clear e
        go_enter Tryz.func48, Tryz.ntmps48
        go_wp2_with (first | (go_at_call 73; (with_reducible refine (wants_any _ _).mono ?_); rintro e w' ⟨rfl, rfl⟩) | (go_at_call 63; (with_reducible refine (add_any _ _ _).mono ?_); rintro e w' ⟨rfl, rfl⟩) | (go_at_call 74; refine (take_any _ _ _ _ _ H.out).mono ?_; rintro e w1 ⟨rfl, hT, hO⟩))
        go_ret
        rw [HE.out]
        exact ⟨rfl, IsObj.set H.out 1 _, (Only.refl b w).setCell (.inl rfl) _⟩
  · rcases hw with hw | hw | hw
    · have e : tstep (-1) held v d = ⟨-1, bAdd held 1, 0⟩ := by unfold tstep; simp [hw]
      have HE := Lib.hid e
      clear e
      go_enter Tryz.func48, Tryz.ntmps48
      go_wp2_with (first | (go_at_call 73; (with_reducible refine (wants_any _ _).mono ?_); rintro e w' ⟨rfl, rfl⟩) | (go_at_call 63; (with_reducible refine (add_any _ _ _).mono ?_); rintro e w' ⟨rfl, rfl⟩) | (go_at_call 74; refine (take_any _ _ _ _ _ H.out).mono ?_; rintro e w1 ⟨rfl, hT, hO⟩))
      go_ret
      rw [HE.out]
      exact ⟨rfl, IsObj.set H.out 1 _, (Only.refl b w).setCell (.inl rfl) _⟩
    · by_cases hd : d ≤ held
      · have e : tstep (-1) held v d = ⟨1, 1, 1⟩ := by unfold tstep; simp [hw, hd, h0]
        have HE := Lib.hid e
        clear e
        go_enter Tryz.func48, Tryz.ntmps48
        go_wp2_with (first | (go_at_call 73; (with_reducible refine (wants_any _ _).mono ?_); rintro e w' ⟨rfl, rfl⟩) | (go_at_call 63; (with_reducible refine (add_any _ _ _).mono ?_); rintro e w' ⟨rfl, rfl⟩) | (go_at_call 74; refine (take_any _ _ _ _ _ H.out).mono ?_; rintro e w1 ⟨rfl, hT, hO⟩))
        go_ret
        rw [HE.out]
        exact ⟨rfl, hT, hO⟩
      · have e : tstep (-1) held v d = ⟨-1, bAdd held 1, 0⟩ := by unfold tstep; simp [hw, hd]
        have HE := Lib.hid e
        clear e
        go_enter Tryz.func48, Tryz.ntmps48
        go_wp2_with (first | (go_at_call 73; (with_reducible refine (wants_any _ _).mono ?_); rintro e w' ⟨rfl, rfl⟩) | (go_at_call 63; (with_reducible refine (add_any _ _ _).mono ?_); rintro e w' ⟨rfl, rfl⟩) | (go_at_call 74; refine (take_any _ _ _ _ _ H.out).mono ?_; rintro e w1 ⟨rfl, hT, hO⟩))
        go_ret
        rw [HE.out]
        exact ⟨rfl, IsObj.set H.out 1 _, (Only.refl b w).setCell (.inl rfl) _⟩
    · have e : tstep (-1) held v d = ⟨-1, bAdd held 1, -1⟩ := by unfold tstep; simp [hw]
      have HE := Lib.hid e
      clear e
      go_enter Tryz.func48, Tryz.ntmps48
      go_wp2_with (first | (go_at_call 73; (with_reducible refine (wants_any _ _).mono ?_); rintro e w' ⟨rfl, rfl⟩) | (go_at_call 63; (with_reducible refine (add_any _ _ _).mono ?_); rintro e w' ⟨rfl, rfl⟩) | (go_at_call 74; refine (take_any _ _ _ _ _ H.out).mono ?_; rintro e w1 ⟨rfl, hT, hO⟩))
      go_ret
      rw [HE.out]
      exact ⟨rfl, IsObj.set H.out 1 _, (Only.refl b w).setCell (.inl rfl) _⟩

/-! ### The document's answer -/
theorem verdicts (v : Int) : v = 1 ∨ v = 2 ∨ ((v == 1) = false ∧ (v == 2) = false) := by
  by_cases h : v = 1
  · exact .inl h
  · by_cases h2 : v = 2
    · exact .inr (.inl h2)
    · exact .inr (.inr ⟨by simpa using h, by simpa using h2⟩)

set_option maxHeartbeats 8000000 in
theorem rstep_any (way held v d : Int) (w : World) (ok : TOk way held) : Calls Tryz.prog 40 #[.agg #[.int .i64 way, .int .i64 held], .int .i64 v, .int .i64 d] w fun e w' =>
    e = .returned (.tuple #[.agg #[.int .i64 (tstep way held v d).way, .int .i64 (tstep way held v d).held], .int .i64 (tstep way held v d).ans]) ∧ Below w.heap.size w w' := by
  rcases ok with ⟨rfl, rfl⟩ | ⟨rfl | rfl, h0, h1⟩
  · rcases verdicts v with rfl | rfl | ⟨v1, v2⟩
    · have e : tstep 0 0 1 d = ⟨-1, 1, -1⟩ := by unfold tstep wants; simp
      have HE := Lib.hid e
      clear e
      go_enter Tryz.func40, Tryz.ntmps40
      go_wp2_with fail
      go_region_held3 (fun w' => w'.cell? ⟨w.heap.size, 0, none⟩ = some (.int .i64 0) ∧ w'.cell? ⟨w.heap.size, 1, none⟩ = some (.int .i64 0)) (go_keep) (first | (go_at_call 59; (with_reducible refine (radd_any _ _ _).mono ?_); rintro e w' ⟨rfl, rfl⟩))
      all_goals
        go_wp2
        go_returns
        rw [HE.out]
        exact ⟨rfl, by go_grown⟩
    · have e : tstep 0 0 2 d = ⟨1, 1, 1⟩ := by unfold tstep wants; simp
      have HE := Lib.hid e
      clear e
      go_enter Tryz.func40, Tryz.ntmps40
      go_wp2_with fail
      go_region_held3 (fun w' => w'.cell? ⟨w.heap.size, 0, none⟩ = some (.int .i64 0) ∧ w'.cell? ⟨w.heap.size, 1, none⟩ = some (.int .i64 0)) (go_keep) (first | (go_at_call 59; (with_reducible refine (radd_any _ _ _).mono ?_); rintro e w' ⟨rfl, rfl⟩))
      all_goals
        go_wp2
        go_returns
        rw [HE.out]
        exact ⟨rfl, by go_grown⟩
    · have e : tstep 0 0 v d = ⟨0, 0, 0⟩ := by unfold tstep wants; simp_all
      have HE := Lib.hid e
      clear e
      go_enter Tryz.func40, Tryz.ntmps40
      go_wp2_with fail
      go_region_held3 (fun w' => w'.cell? ⟨w.heap.size, 0, none⟩ = some (.int .i64 0) ∧ w'.cell? ⟨w.heap.size, 1, none⟩ = some (.int .i64 0)) (go_keep) (first | (go_at_call 59; (with_reducible refine (radd_any _ _ _).mono ?_); rintro e w' ⟨rfl, rfl⟩))
      all_goals
        go_wp2
        go_returns
        rw [HE.out]
        exact ⟨rfl, by go_grown⟩
  · rcases verdicts v with rfl | rfl | ⟨v1, v2⟩
    · by_cases hd : d ≤ held
      · have e : tstep 1 held 1 d = ⟨-1, 1, -1⟩ := by unfold tstep wants; simp [hd, h0]
        have HE := Lib.hid e
        clear e
        go_enter Tryz.func40, Tryz.ntmps40
        go_wp2_with fail
        go_region_held3 (fun w' => w'.cell? ⟨w.heap.size, 0, none⟩ = some (.int .i64 1) ∧ w'.cell? ⟨w.heap.size, 1, none⟩ = some (.int .i64 held)) (go_keep) (first | (go_at_call 59; (with_reducible refine (radd_any _ _ _).mono ?_); rintro e w' ⟨rfl, rfl⟩))
        all_goals
          go_wp2
          go_returns
          rw [HE.out]
          exact ⟨rfl, by go_grown⟩
      · have e : tstep 1 held 1 d = ⟨1, bAdd held 1, 0⟩ := by unfold tstep wants; simp [hd]
        have HE := Lib.hid e
        clear e
        go_enter Tryz.func40, Tryz.ntmps40
        go_wp2_with fail
        go_region_held3 (fun w' => w'.cell? ⟨w.heap.size, 0, none⟩ = some (.int .i64 1) ∧ w'.cell? ⟨w.heap.size, 1, none⟩ = some (.int .i64 held)) (go_keep) (first | (go_at_call 59; (with_reducible refine (radd_any _ _ _).mono ?_); rintro e w' ⟨rfl, rfl⟩))
        all_goals
          go_wp2
          go_returns
          rw [HE.out]
          exact ⟨rfl, by go_grown⟩
    · have e : tstep 1 held 2 d = ⟨1, bAdd held 1, 1⟩ := by unfold tstep wants; simp
      have HE := Lib.hid e
      clear e
      go_enter Tryz.func40, Tryz.ntmps40
      go_wp2_with fail
      go_region_held3 (fun w' => w'.cell? ⟨w.heap.size, 0, none⟩ = some (.int .i64 1) ∧ w'.cell? ⟨w.heap.size, 1, none⟩ = some (.int .i64 held)) (go_keep) (first | (go_at_call 59; (with_reducible refine (radd_any _ _ _).mono ?_); rintro e w' ⟨rfl, rfl⟩))
      all_goals
        go_wp2
        go_returns
        rw [HE.out]
        exact ⟨rfl, by go_grown⟩
    · have e : tstep 1 held v d = ⟨1, bAdd held 1, 0⟩ := by unfold tstep wants; simp_all
      have HE := Lib.hid e
      clear e
      go_enter Tryz.func40, Tryz.ntmps40
      go_wp2_with fail
      go_region_held3 (fun w' => w'.cell? ⟨w.heap.size, 0, none⟩ = some (.int .i64 1) ∧ w'.cell? ⟨w.heap.size, 1, none⟩ = some (.int .i64 held)) (go_keep) (first | (go_at_call 59; (with_reducible refine (radd_any _ _ _).mono ?_); rintro e w' ⟨rfl, rfl⟩))
      all_goals
        go_wp2
        go_returns
        rw [HE.out]
        exact ⟨rfl, by go_grown⟩
  · rcases verdicts v with rfl | rfl | ⟨v1, v2⟩
    · have e : tstep (-1) held 1 d = ⟨-1, bAdd held 1, -1⟩ := by unfold tstep wants; simp
      have HE := Lib.hid e
      clear e
      go_enter Tryz.func40, Tryz.ntmps40
      go_wp2_with fail
      go_region_held3 (fun w' => w'.cell? ⟨w.heap.size, 0, none⟩ = some (.int .i64 (-1)) ∧ w'.cell? ⟨w.heap.size, 1, none⟩ = some (.int .i64 held)) (go_keep) (first | (go_at_call 59; (with_reducible refine (radd_any _ _ _).mono ?_); rintro e w' ⟨rfl, rfl⟩))
      all_goals
        go_wp2
        go_returns
        rw [HE.out]
        exact ⟨rfl, by go_grown⟩
    · by_cases hd : d ≤ held
      · have e : tstep (-1) held 2 d = ⟨1, 1, 1⟩ := by unfold tstep wants; simp [hd, h0]
        have HE := Lib.hid e
        clear e
        go_enter Tryz.func40, Tryz.ntmps40
        go_wp2_with fail
        go_region_held3 (fun w' => w'.cell? ⟨w.heap.size, 0, none⟩ = some (.int .i64 (-1)) ∧ w'.cell? ⟨w.heap.size, 1, none⟩ = some (.int .i64 held)) (go_keep) (first | (go_at_call 59; (with_reducible refine (radd_any _ _ _).mono ?_); rintro e w' ⟨rfl, rfl⟩))
        all_goals
          go_wp2
          go_returns
          rw [HE.out]
          exact ⟨rfl, by go_grown⟩
      · have e : tstep (-1) held 2 d = ⟨-1, bAdd held 1, 0⟩ := by unfold tstep wants; simp [hd]
        have HE := Lib.hid e
        clear e
        go_enter Tryz.func40, Tryz.ntmps40
        go_wp2_with fail
        go_region_held3 (fun w' => w'.cell? ⟨w.heap.size, 0, none⟩ = some (.int .i64 (-1)) ∧ w'.cell? ⟨w.heap.size, 1, none⟩ = some (.int .i64 held)) (go_keep) (first | (go_at_call 59; (with_reducible refine (radd_any _ _ _).mono ?_); rintro e w' ⟨rfl, rfl⟩))
        all_goals
          go_wp2
          go_returns
          rw [HE.out]
          exact ⟨rfl, by go_grown⟩
    · have e : tstep (-1) held v d = ⟨-1, bAdd held 1, 0⟩ := by unfold tstep wants; simp_all
      have HE := Lib.hid e
      clear e
      go_enter Tryz.func40, Tryz.ntmps40
      go_wp2_with fail
      go_region_held3 (fun w' => w'.cell? ⟨w.heap.size, 0, none⟩ = some (.int .i64 (-1)) ∧ w'.cell? ⟨w.heap.size, 1, none⟩ = some (.int .i64 held)) (go_keep) (first | (go_at_call 59; (with_reducible refine (radd_any _ _ _).mono ?_); rintro e w' ⟨rfl, rfl⟩))
      all_goals
        go_wp2
        go_returns
        rw [HE.out]
        exact ⟨rfl, by go_grown⟩
end Go.Proofs.YtagfbnfbiadpfaaGreat
