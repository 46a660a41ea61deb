/-
  table.Table at work: an object of eight entries, told or not. Has, Learn, Get, Cuts, New, Clear.
-/
import Derived.Test.YtgkmmoiniidhlaaFrame
import Derived.Test.YtgkmmoiniidhlaaBound
import Derived.Handy
namespace Go.Proofs.Ytgkmmoiniidhlaa
open Go.RowKit
set_option linter.unusedVariables false

/-- What is known of one: threshold, epoch, when. -/
structure Ent where
  th : Int
  ep : Int
  tm : Int
def entCells (i : Nat) : Option Ent → List Value
  | none => [.bool false, .int .i64 0, .int .i64 0, .int .i64 0, .int .i64 0]
  | some e => [.bool true, .int .i64 i, .int .i64 e.th, .int .i64 e.ep, .int .i64 e.tm]
theorem entCells_len (i : Nat) (e : Option Ent) : (entCells i e).length = 5 := by cases e <;> rfl
/-- The eight entries. -/
abbrev Ents := Nat → Option Ent
def allL (g : Nat → List Value) : List Value := g 0 ++ (g 1 ++ (g 2 ++ (g 3 ++ (g 4 ++ (g 5 ++ (g 6 ++ g 7))))))
def tabL (ttl : Int) (g : Nat → List Value) : List Value := .bool true :: .int .i64 ttl :: allL g
def tabCells (ttl : Int) (f : Ents) : List Value := tabL ttl fun i => entCells i (f i)
theorem lt8 {i : Nat} (h : i < 8) : i = 0 ∨ i = 1 ∨ i = 2 ∨ i = 3 ∨ i = 4 ∨ i = 5 ∨ i = 6 ∨ i = 7 := by omega
theorem tabL_at (ttl : Int) (g : Nat → List Value) (hg : ∀ k, (g k).length = 5) (i j : Nat) (hi : i < 8) (hj : j < 5) : (tabL ttl g)[2 + i * 5 + j]? = (g i)[j]? := by
  have e : 2 + i * 5 + j = (i * 5 + j) + 1 + 1 := by omega
  rw [e]
  unfold tabL
  rw [List.getElem?_cons_succ, List.getElem?_cons_succ]
  unfold allL
  rcases lt8 hi with rfl | rfl | rfl | rfl | rfl | rfl | rfl | rfl <;>
    simp only [List.getElem?_append, hg] <;> (repeat (rw [if_neg (by omega)])) <;> (try rw [if_pos (by omega)]) <;> congr 1 <;> omega
theorem tabL_set (ttl : Int) (g : Nat → List Value) (hg : ∀ k, (g k).length = 5) (i j : Nat) (hi : i < 8) (hj : j < 5) (v : Value) : (tabL ttl g).set (2 + i * 5 + j) v = tabL ttl fun k => if k = i then (g k).set j v else g k := by
  have e : 2 + i * 5 + j = (i * 5 + j) + 1 + 1 := by omega
  rw [e]
  unfold tabL
  rw [List.set_cons_succ, List.set_cons_succ]
  unfold allL
  have e0 : ∀ n, n + j - n = j := fun n => by omega
  rcases lt8 hi with rfl | rfl | rfl | rfl | rfl | rfl | rfl | rfl <;>
    simp only [List.set_append, hg] <;> (repeat (rw [if_neg (by omega)])) <;> (try rw [if_pos (by omega)]) <;> simp <;> (repeat rw [Nat.add_sub_cancel_left]) <;> (try (congr 1; omega))
def upd (f : Ents) (i : Nat) (e : Option Ent) : Ents := fun k => if k = i then e else f k
theorem upd_same (f : Ents) (i : Nat) (e : Option Ent) : upd f i e i = e := by simp [upd]
theorem upd_other (f : Ents) (i k : Nat) (e : Option Ent) (h : k ≠ i) : upd f i e k = f k := by simp [upd, h]

/-- Block b is a table that was made. -/
def TableAt (w : World) (b : Nat) (ttl : Int) (f : Ents) : Prop := IsObj w b 109 (tabCells ttl f)
theorem TableAt.drewN {w : World} {b : Nat} {ttl : Int} {f : Ents} (h : TableAt w b ttl f) (n : Nat) : TableAt (w.drewN n) b ttl f := h
theorem TableAt.alloc {w : World} {b : Nat} {ttl : Int} {f : Ents} (h : TableAt w b ttl f) (o : Obj) : TableAt (w.alloc o) b ttl f := IsObj.alloc h o
theorem TableAt.same {w w' : World} {b : Nat} {ttl : Int} {f : Ents} (h : TableAt w b ttl f) (hb : Below w.heap.size w w') : TableAt w' b ttl f := IsObj.below h hb h.lt
theorem TableAt.ext {w : World} {b : Nat} {ttl : Int} {f : Ents} (h : TableAt w b ttl f) (u : Later w) : TableAt (ext w u) b ttl f := h.same u.below
theorem TableAt.ent {w : World} {b : Nat} {ttl : Int} {f : Ents} (h : TableAt w b ttl f) (i j : Nat) (hi : i < 8) (hj : j < 5) : w.cell? ⟨b, 2 + i * 5 + j, none⟩ = (entCells i (f i))[j]? := by
  rw [IsObj.cell h, tabCells, tabL_at ttl _ (fun k => entCells_len _ _) i j hi hj]
/-- The same, entry i as a list of cells. -/
def TabE (w : World) (b : Nat) (ttl : Int) (f : Ents) (i : Nat) (c : List Value) : Prop := IsObj w b 109 (tabL ttl fun k => if k = i then c else entCells k (f k)) ∧ c.length = 5
theorem TableAt.e {w : World} {b : Nat} {ttl : Int} {f : Ents} (h : TableAt w b ttl f) (i : Nat) : TabE w b ttl f i (entCells i (f i)) := by
  refine ⟨?_, entCells_len _ _⟩
  have : (fun k => if k = i then entCells i (f i) else entCells k (f k)) = fun k => entCells k (f k) := by
    funext k
    by_cases hk : k = i
    · subst hk; simp
    · simp [hk]
  rw [this]
  exact h
theorem TabE.put {w : World} {b : Nat} {ttl : Int} {f : Ents} {i : Nat} {c : List Value} (h : TabE w b ttl f i c) (j : Nat) (hi : i < 8) (hj : j < 5) (v : Value) : TabE (w.setCell ⟨b, 2 + i * 5 + j, none⟩ v) b ttl f i (c.set j v) := by
  refine ⟨?_, by simp [h.2]⟩
  have h1 := h.1.set (2 + i * 5 + j) v
  rw [tabL_set ttl _ (fun k => by by_cases hk : k = i <;> simp [hk, h.2, entCells_len]) i j hi hj v] at h1
  have : (fun k => if k = i then (if k = i then c else entCells k (f k)).set j v else if k = i then c else entCells k (f k)) = fun k => if k = i then c.set j v else entCells k (f k) := by
    funext k
    by_cases hk : k = i <;> simp [hk]
  rw [this] at h1
  exact h1
theorem TabE.done {w : World} {b : Nat} {ttl : Int} {f : Ents} {i : Nat} {c : List Value} (h : TabE w b ttl f i c) (e : Option Ent) (he : c = entCells i e) : TableAt w b ttl (upd f i e) := by
  have : (fun k => if k = i then c else entCells k (f k)) = fun k => entCells k (upd f i e k) := by
    funext k
    by_cases hk : k = i
    · subst hk; simp [upd_same, he]
    · simp [hk, upd_other f i k e hk]
  unfold TableAt tabCells
  rw [← this]
  exact h.1

theorem has_nil (to : Int) (w : World) : Calls Try.prog 62 #[.pointer none, .int .i64 to] w fun e w' => e = .returned (.bool false) ∧ w = w' := by
  go_enter Try.func62, Try.ntmps62
  go_wp2
  go_ret
  exact ⟨rfl, rfl⟩
theorem has_any (b : Nat) (ttl : Int) (f : Ents) (to : Int) (w : World) (h : TableAt w b ttl f) : Calls Try.prog 62 #[.pointer (some ⟨b, 0, none⟩), .int .i64 to] w fun e w' => e = .returned (.bool (decide (0 ≤ to ∧ to < 8))) ∧ w = w' := by
  have c0 : w.cell? ⟨b, 0, none⟩ = some (.bool true) := IsObj.cell h 0
  clear h
  go_enter Try.func62, Try.ntmps62
  go_wp2
  all_goals
    go_ret
    exact ⟨ret_bool (by simp; omega), rfl⟩

theorem passes_any (n t : Int) (w : World) : Calls Try.prog 64 #[.int .i64 n, .int .i64 t] w fun e w' => e = .returned (.bool (decide (0 ≤ n ∧ n < t))) ∧ w = w' := by
  go_enter Try.func64, Try.ntmps64
  go_wp2
  all_goals
    go_ret
    exact ⟨ret_bool (by simp; omega), rfl⟩

theorem learn_none (b : Nat) (ttl : Int) (f : Ents) (i : Nat) (th ep now : Int) (w : World) (h : TableAt w b ttl f) (hi : i < 8) (hf : f i = none) :
    Calls Try.prog 59 #[.pointer (some ⟨b, 0, none⟩), .int .i64 i, .int .i64 th, .int .i64 ep, .int .i64 now] w fun e w' => e = .returned (.bool true) ∧ TableAt w' b ttl (upd f i (some ⟨th, ep, tck now⟩)) ∧ Only b w w' := by
  have hc := fun j hj => h.ent i j hi hj
  rw [hf] at hc
  have c0 := hc 0 (by omega)
  have c1 := hc 1 (by omega)
  have c2 := hc 2 (by omega)
  have c3 := hc 3 (by omega)
  have c4 := hc 4 (by omega)
  have fr : ∀ j, w.frozen? ⟨b, j, none⟩ = false := fun j => IsObj.free h j
  simp only [entCells, Nat.add_zero] at c0 c1 c2 c3 c4
  have hh : decide (0 ≤ (i : Int) ∧ (i : Int) < 8) = true := by simp; omega
  have i1 : (0 : Int) ≤ (i : Int) := by omega
  have i2 : (i : Int) < 8 := by omega
  have H := Lib.hid h
  clear h hc
  go_enter Try.func59, Try.ntmps59
  go_wp2_with (first | (go_at_call 62; (with_reducible refine (has_any _ _ _ _ _ H.out).mono ?_); rintro e w' ⟨rfl, rfl⟩) | (go_at_call 97; (with_reducible refine (tck_any _ _).mono ?_); rintro e w' ⟨rfl, rfl⟩))
  go_ret
  refine ⟨rfl, ?_, ((((((Only.refl b w).setCell (.inl rfl) _).setCell (.inl rfl) _).setCell (.inl rfl) _).setCell (.inl rfl) _).setCell (.inl rfl) _).setCell (.inl rfl) _⟩
  have h0 := ((((((H.out.e i).put 0 hi (by omega) (.bool true)).put 1 hi (by omega) (.int .i64 i)).put 2 hi (by omega) (.int .i64 th)).put 3 hi (by omega) (.int .i64 ep)).put 4 hi (by omega) (.int .i64 0)).put 4 hi (by omega) (.int .i64 (tck now))
  exact h0.done _ (by simp [hf, entCells])

theorem ent_cells {w : World} {b : Nat} {ttl : Int} {f : Ents} {i : Nat} {e : Ent} (h : TableAt w b ttl f) (hi : i < 8) (hf : f i = some e) :
    w.cell? ⟨b, 2 + i * 5, none⟩ = some (.bool true) ∧ w.cell? ⟨b, 2 + i * 5 + 1, none⟩ = some (.int .i64 i) ∧ w.cell? ⟨b, 2 + i * 5 + 2, none⟩ = some (.int .i64 e.th) ∧ w.cell? ⟨b, 2 + i * 5 + 3, none⟩ = some (.int .i64 e.ep) ∧ w.cell? ⟨b, 2 + i * 5 + 4, none⟩ = some (.int .i64 e.tm) ∧
      w.cell? ⟨b, 2 + i * 5 + 1 + 2, none⟩ = some (.int .i64 e.ep) ∧ w.cell? ⟨b, 2 + i * 5 + 1 + 3, none⟩ = some (.int .i64 e.tm) ∧ w.cell? ⟨b, 2 + i * 5 + 1 + 1, none⟩ = some (.int .i64 e.th) := by
  have hc := fun j hj => h.ent i j hi hj
  rw [hf] at hc
  exact ⟨hc 0 (by omega), hc 1 (by omega), hc 2 (by omega), hc 3 (by omega), hc 4 (by omega), hc 3 (by omega), hc 4 (by omega), hc 2 (by omega)⟩

theorem learn_low (b : Nat) (ttl : Int) (f : Ents) (i : Nat) (th ep now : Int) (e0 : Ent) (w : World) (h : TableAt w b ttl f) (hi : i < 8) (hf : f i = some e0) (he : ep < e0.ep) :
    Calls Try.prog 59 #[.pointer (some ⟨b, 0, none⟩), .int .i64 i, .int .i64 th, .int .i64 ep, .int .i64 now] w fun e w' => e = .returned (.bool false) ∧ w = w' := by
  obtain ⟨c0, c1, c2, c3, c4, c5, c6, _⟩ := ent_cells h hi hf
  have hh : decide (0 ≤ (i : Int) ∧ (i : Int) < 8) = true := by simp; omega
  have i1 : (0 : Int) ≤ (i : Int) := by omega
  have i2 : (i : Int) < 8 := by omega
  have H := Lib.hid h
  clear h hf
  go_enter Try.func59, Try.ntmps59
  go_wp2_with (first | (go_at_call 62; (with_reducible refine (has_any _ _ _ _ _ H.out).mono ?_); rintro e w' ⟨rfl, rfl⟩) | (go_at_call 97; (with_reducible refine (tck_any _ _).mono ?_); rintro e w' ⟨rfl, rfl⟩))
  go_ret
  exact ⟨rfl, rfl⟩
theorem learn_same (b : Nat) (ttl : Int) (f : Ents) (i : Nat) (th ep now : Int) (e0 : Ent) (w : World) (h : TableAt w b ttl f) (hi : i < 8) (hf : f i = some e0) (he1 : ep ≤ e0.ep) (he2 : e0.ep ≤ ep) :
    Calls Try.prog 59 #[.pointer (some ⟨b, 0, none⟩), .int .i64 i, .int .i64 th, .int .i64 ep, .int .i64 now] w fun e w' => e = .returned (.bool true) ∧ TableAt w' b ttl (upd f i (some ⟨e0.th, ep, tck now⟩)) ∧ Only b w w' := by
  obtain ⟨c0, c1, c2, c3, c4, c5, c6, _⟩ := ent_cells h hi hf
  have fr : ∀ j, w.frozen? ⟨b, j, none⟩ = false := fun j => IsObj.free h j
  have hh : decide (0 ≤ (i : Int) ∧ (i : Int) < 8) = true := by simp; omega
  have i1 : (0 : Int) ≤ (i : Int) := by omega
  have i2 : (i : Int) < 8 := by omega
  have H := Lib.hid h
  have HF := Lib.hid hf
  clear h hf
  go_enter Try.func59, Try.ntmps59
  go_wp2_with (first | (go_at_call 62; (with_reducible refine (has_any _ _ _ _ _ H.out).mono ?_); rintro e w' ⟨rfl, rfl⟩) | (go_at_call 97; (with_reducible refine (tck_any _ _).mono ?_); rintro e w' ⟨rfl, rfl⟩))
  go_ret
  refine ⟨rfl, ?_, (Only.refl b w).setCell (.inl rfl) _⟩
  have h0 := (H.out.e i).put 4 hi (by omega) (.int .i64 (tck now))
  exact h0.done _ (by simp [HF.out, entCells]; omega)
theorem learn_new (b : Nat) (ttl : Int) (f : Ents) (i : Nat) (th ep now : Int) (e0 : Ent) (w : World) (h : TableAt w b ttl f) (hi : i < 8) (hf : f i = some e0) (he : e0.ep < ep) :
    Calls Try.prog 59 #[.pointer (some ⟨b, 0, none⟩), .int .i64 i, .int .i64 th, .int .i64 ep, .int .i64 now] w fun e w' => e = .returned (.bool true) ∧ TableAt w' b ttl (upd f i (some ⟨th, ep, tck now⟩)) ∧ Only b w w' := by
  obtain ⟨c0, c1, c2, c3, c4, c5, c6, _⟩ := ent_cells h hi hf
  have fr : ∀ j, w.frozen? ⟨b, j, none⟩ = false := fun j => IsObj.free h j
  have hh : decide (0 ≤ (i : Int) ∧ (i : Int) < 8) = true := by simp; omega
  have i1 : (0 : Int) ≤ (i : Int) := by omega
  have i2 : (i : Int) < 8 := by omega
  have H := Lib.hid h
  have HF := Lib.hid hf
  clear h hf
  go_enter Try.func59, Try.ntmps59
  go_wp2_with (first | (go_at_call 62; (with_reducible refine (has_any _ _ _ _ _ H.out).mono ?_); rintro e w' ⟨rfl, rfl⟩) | (go_at_call 97; (with_reducible refine (tck_any _ _).mono ?_); rintro e w' ⟨rfl, rfl⟩))
  go_ret
  refine ⟨rfl, ?_, ((((((Only.refl b w).setCell (.inl rfl) _).setCell (.inl rfl) _).setCell (.inl rfl) _).setCell (.inl rfl) _).setCell (.inl rfl) _).setCell (.inl rfl) _⟩
  have h0 := ((((((H.out.e i).put 0 hi (by omega) (.bool true)).put 1 hi (by omega) (.int .i64 i)).put 2 hi (by omega) (.int .i64 th)).put 3 hi (by omega) (.int .i64 ep)).put 4 hi (by omega) (.int .i64 0)).put 4 hi (by omega) (.int .i64 (tck now))
  exact h0.done _ (by simp [HF.out, entCells])
theorem learn_bad (b : Nat) (ttl : Int) (f : Ents) (to th ep now : Int) (w : World) (h : TableAt w b ttl f) (hb : decide (0 ≤ to ∧ to < 8) = false) :
    Calls Try.prog 59 #[.pointer (some ⟨b, 0, none⟩), .int .i64 to, .int .i64 th, .int .i64 ep, .int .i64 now] w fun e w' => e = .returned (.bool false) ∧ w = w' := by
  have H := Lib.hid h
  clear h
  go_enter Try.func59, Try.ntmps59
  go_wp2_with (first | (go_at_call 62; (with_reducible refine (has_any _ _ _ _ _ H.out).mono ?_); rintro e w' ⟨rfl, rfl⟩))
  go_ret
  exact ⟨rfl, rfl⟩
theorem learn_nil (to th ep now : Int) (w : World) :
    Calls Try.prog 59 #[.pointer none, .int .i64 to, .int .i64 th, .int .i64 ep, .int .i64 now] w fun e w' => e = .returned (.bool false) ∧ w = w' := by
  go_enter Try.func59, Try.ntmps59
  go_wp2_with (first | (go_at_call 62; (with_reducible refine (has_nil _ _).mono ?_); rintro e w' ⟨rfl, rfl⟩))
  go_ret
  exact ⟨rfl, rfl⟩

/-- What is known behind a telling, and whether it was taken. -/
def lrnOk (f : Ents) (to ep : Int) : Bool := decide (0 ≤ to ∧ to < 8) && (match f to.toNat with | none => true | some e => decide (e.ep ≤ ep))
def lrn (f : Ents) (to th ep now : Int) : Ents :=
  if lrnOk f to ep = true then upd f to.toNat (some ⟨(match f to.toNat with | none => th | some e => if e.ep = ep then e.th else th), ep, tck now⟩) else f
theorem learn_any (b : Nat) (ttl : Int) (f : Ents) (to th ep now : Int) (w : World) (h : TableAt w b ttl f) :
    Calls Try.prog 59 #[.pointer (some ⟨b, 0, none⟩), .int .i64 to, .int .i64 th, .int .i64 ep, .int .i64 now] w fun e w' => e = .returned (.bool (lrnOk f to ep)) ∧ TableAt w' b ttl (lrn f to th ep now) ∧ Only b w w' := by
  by_cases hb : 0 ≤ to ∧ to < 8
  · obtain ⟨i, rfl⟩ := Int.eq_ofNat_of_zero_le hb.1
    have hi : i < 8 := by omega
    cases hf : f i with
    | none =>
      have e1 : lrnOk f (i : Int) ep = true := by simp [lrnOk, hf]; omega
      have e2 : lrn f (i : Int) th ep now = upd f i (some ⟨th, ep, tck now⟩) := by simp [lrn, e1, hf]
      rw [e1, e2]
      exact learn_none b ttl f i th ep now w h hi hf
    | some e0 =>
      rcases Int.lt_trichotomy ep e0.ep with he | he | he
      · have e1 : lrnOk f (i : Int) ep = false := by simp [lrnOk, hf]; omega
        have e2 : lrn f (i : Int) th ep now = f := by simp [lrn, e1]
        rw [e1, e2]
        refine (learn_low b ttl f i th ep now e0 w h hi hf he).mono ?_
        rintro e w' ⟨rfl, rfl⟩
        exact ⟨rfl, h, Only.refl _ _⟩
      · have e1 : lrnOk f (i : Int) ep = true := by simp [lrnOk, hf]; omega
        have e2 : lrn f (i : Int) th ep now = upd f i (some ⟨e0.th, ep, tck now⟩) := by simp [lrn, e1, hf, he.symm]
        rw [e1, e2]
        exact learn_same b ttl f i th ep now e0 w h hi hf (by omega) (by omega)
      · have e1 : lrnOk f (i : Int) ep = true := by simp [lrnOk, hf]; omega
        have hne : ¬ e0.ep = ep := by omega
        have e2 : lrn f (i : Int) th ep now = upd f i (some ⟨th, ep, tck now⟩) := by simp [lrn, e1, hf, hne]
        rw [e1, e2]
        exact learn_new b ttl f i th ep now e0 w h hi hf he
  · have e1 : lrnOk f to ep = false := by simp [lrnOk, hb]
    have e2 : lrn f to th ep now = f := by simp [lrn, e1]
    rw [e1, e2]
    refine (learn_bad b ttl f to th ep now w h (by simpa using hb)).mono ?_
    rintro e w' ⟨rfl, rfl⟩
    exact ⟨rfl, h, Only.refl _ _⟩

theorem tnew_any (ttl : Int) (w : World) (h0 : 0 ≤ ttl) (h1 : ttl ≤ 1099511627776) : Calls Try.prog 58 #[.int .i64 ttl] w fun e w' => e = .returned (.tuple #[.pointer (some ⟨w.heap.size, 0, none⟩), .int .i64 0]) ∧ TableAt w' w.heap.size ttl (fun _ => none) ∧ Below w.heap.size w w' ∧ w.heap.size < w'.heap.size := by
  go_enter Try.func58, Try.ntmps58
  go_wp2
  go_ret2
  exact ⟨rfl, IsObj.new w _ (tabCells ttl fun _ => none), (Below.refl _ _).alloc (Nat.le_refl _) _, by simp⟩

/-! ### Get, Cuts -/
/-- What is known of one, now. -/
def kn (f : Ents) (ttl to now : Int) : Option Ent :=
  if 0 ≤ to ∧ to < 8 then (match f to.toNat with | none => none | some e => if ttl < bLeft now e.tm then none else some e) else none
def kv (to : Int) : Option Ent → Value
  | none => .agg #[.int .i64 0, .int .i64 0, .int .i64 0, .int .i64 0]
  | some e => .agg #[.int .i64 to, .int .i64 e.th, .int .i64 e.ep, .int .i64 e.tm]

theorem get_out (b : Nat) (ttl : Int) (f : Ents) (to now : Int) (w : World) (h : TableAt w b ttl f) (hb : decide (0 ≤ to ∧ to < 8) = false) : Calls Try.prog 15 #[.pointer (some ⟨b, 0, none⟩), .int .i64 to, .int .i64 now] w fun e w' => e = .returned (.tuple #[.agg #[.int .i64 0, .int .i64 0, .int .i64 0, .int .i64 0], .bool false]) ∧ Below w.heap.size w w' := by
  have H := Lib.hid (h.alloc (.cells #[.int .i64 0, .int .i64 0, .int .i64 0, .int .i64 0] 44))
  clear h
  go_enter Try.func15, Try.ntmps15
  go_wp2_with fail
  go_quiet ((first | (go_at_call 62; first | (with_reducible exact quiet_left (has_any _ _ _ _ _ (H.out.drewN _))) | (with_reducible exact quiet_add_left (has_any _ _ _ _ _ (H.out.drewN _)))) | (go_at_call 63; first | (with_reducible exact quiet_left (left_any _ _ _)) | (with_reducible exact quiet_add_left (left_any _ _ _)))))
  go_wp2
  go_returns
  exact ⟨rfl, ((((below_drewN ((Below.refl _ _).alloc (Nat.le_refl _) _) _).setCell (Nat.le_refl _) _).setCell (Nat.le_refl _) _).setCell (Nat.le_refl _) _).setCell (Nat.le_refl _) _⟩
theorem get_none (b : Nat) (ttl : Int) (f : Ents) (i : Nat) (now : Int) (w : World) (h : TableAt w b ttl f) (hi : i < 8) (hf : f i = none) : Calls Try.prog 15 #[.pointer (some ⟨b, 0, none⟩), .int .i64 i, .int .i64 now] w fun e w' => e = .returned (.tuple #[.agg #[.int .i64 0, .int .i64 0, .int .i64 0, .int .i64 0], .bool false]) ∧ Below w.heap.size w w' := by
  have c0 : w.cell? ⟨b, 2 + i * 5, none⟩ = some (.bool false) := by
    have := h.ent i 0 hi (by omega)
    rwa [hf] at this
  have i1 : (0 : Int) ≤ (i : Int) := by omega
  have i2 : (i : Int) < 8 := by omega
  have hh : decide (0 ≤ (i : Int) ∧ (i : Int) < 8) = true := by simp; omega
  have hlt := IsObj.lt h
  have H := Lib.hid (h.alloc (.cells #[.int .i64 0, .int .i64 0, .int .i64 0, .int .i64 0] 44))
  clear h hf
  go_enter Try.func15, Try.ntmps15
  go_wp2_with fail
  go_quiet ((first | (go_at_call 62; first | (with_reducible exact quiet_left (has_any _ _ _ _ _ (H.out.drewN _))) | (with_reducible exact quiet_add_left (has_any _ _ _ _ _ (H.out.drewN _)))) | (go_at_call 63; first | (with_reducible exact quiet_left (left_any _ _ _)) | (with_reducible exact quiet_add_left (left_any _ _ _)))))
  go_wp2
  go_returns
  exact ⟨rfl, ((((below_drewN ((Below.refl _ _).alloc (Nat.le_refl _) _) _).setCell (Nat.le_refl _) _).setCell (Nat.le_refl _) _).setCell (Nat.le_refl _) _).setCell (Nat.le_refl _) _⟩
theorem get_old (b : Nat) (ttl : Int) (f : Ents) (i : Nat) (now : Int) (e0 : Ent) (w : World) (h : TableAt w b ttl f) (hi : i < 8) (hf : f i = some e0) (ho : ttl < bLeft now e0.tm) : Calls Try.prog 15 #[.pointer (some ⟨b, 0, none⟩), .int .i64 i, .int .i64 now] w fun e w' => e = .returned (.tuple #[.agg #[.int .i64 0, .int .i64 0, .int .i64 0, .int .i64 0], .bool false]) ∧ Below w.heap.size w w' := by
  obtain ⟨c0, c1, c2, c3, c4, c5, c6, c7⟩ := ent_cells h hi hf
  have cT : w.cell? ⟨b, 1, none⟩ = some (.int .i64 ttl) := IsObj.cell h 1
  have i1 : (0 : Int) ≤ (i : Int) := by omega
  have i2 : (i : Int) < 8 := by omega
  have hh : decide (0 ≤ (i : Int) ∧ (i : Int) < 8) = true := by simp; omega
  have hlt := IsObj.lt h
  have H := Lib.hid (h.alloc (.cells #[.int .i64 0, .int .i64 0, .int .i64 0, .int .i64 0] 44))
  clear h hf
  go_enter Try.func15, Try.ntmps15
  go_wp2_with fail
  go_quiet ((first | (go_at_call 62; first | (with_reducible exact quiet_left (has_any _ _ _ _ _ (H.out.drewN _))) | (with_reducible exact quiet_add_left (has_any _ _ _ _ _ (H.out.drewN _)))) | (go_at_call 63; first | (with_reducible exact quiet_left (left_any _ _ _)) | (with_reducible exact quiet_add_left (left_any _ _ _)))))
  go_wp2
  go_returns
  exact ⟨rfl, ((((below_drewN ((Below.refl _ _).alloc (Nat.le_refl _) _) _).setCell (Nat.le_refl _) _).setCell (Nat.le_refl _) _).setCell (Nat.le_refl _) _).setCell (Nat.le_refl _) _⟩
theorem get_live (b : Nat) (ttl : Int) (f : Ents) (i : Nat) (now : Int) (e0 : Ent) (w : World) (h : TableAt w b ttl f) (hi : i < 8) (hf : f i = some e0) (ho : bLeft now e0.tm ≤ ttl) : Calls Try.prog 15 #[.pointer (some ⟨b, 0, none⟩), .int .i64 i, .int .i64 now] w fun e w' => e = .returned (.tuple #[.agg #[.int .i64 i, .int .i64 e0.th, .int .i64 e0.ep, .int .i64 e0.tm], .bool true]) ∧ Below w.heap.size w w' := by
  obtain ⟨c0, c1, c2, c3, c4, c5, c6, c7⟩ := ent_cells h hi hf
  have cT : w.cell? ⟨b, 1, none⟩ = some (.int .i64 ttl) := IsObj.cell h 1
  have i1 : (0 : Int) ≤ (i : Int) := by omega
  have i2 : (i : Int) < 8 := by omega
  have hh : decide (0 ≤ (i : Int) ∧ (i : Int) < 8) = true := by simp; omega
  have hlt := IsObj.lt h
  have H := Lib.hid (h.alloc (.cells #[.int .i64 0, .int .i64 0, .int .i64 0, .int .i64 0] 44))
  clear h hf
  go_enter Try.func15, Try.ntmps15
  go_wp2_with fail
  go_quiet ((first | (go_at_call 62; first | (with_reducible exact quiet_left (has_any _ _ _ _ _ (H.out.drewN _))) | (with_reducible exact quiet_add_left (has_any _ _ _ _ _ (H.out.drewN _)))) | (go_at_call 63; first | (with_reducible exact quiet_left (left_any _ _ _)) | (with_reducible exact quiet_add_left (left_any _ _ _)))))
  go_wp2
  go_returns
  exact ⟨rfl, ((((below_drewN ((Below.refl _ _).alloc (Nat.le_refl _) _) _).setCell (Nat.le_refl _) _).setCell (Nat.le_refl _) _).setCell (Nat.le_refl _) _).setCell (Nat.le_refl _) _⟩
theorem get_nil (to now : Int) (w : World) : Calls Try.prog 15 #[.pointer none, .int .i64 to, .int .i64 now] w fun e w' => e = .returned (.tuple #[.agg #[.int .i64 0, .int .i64 0, .int .i64 0, .int .i64 0], .bool false]) ∧ Below w.heap.size w w' := by
  go_enter Try.func15, Try.ntmps15
  go_wp2_with fail
  go_quiet ((first | (go_at_call 62; first | (with_reducible exact quiet_left (has_nil _ _)) | (with_reducible exact quiet_add_left (has_nil _ _)))))
  go_wp2
  go_returns
  exact ⟨rfl, ((((below_drewN ((Below.refl _ _).alloc (Nat.le_refl _) _) _).setCell (Nat.le_refl _) _).setCell (Nat.le_refl _) _).setCell (Nat.le_refl _) _).setCell (Nat.le_refl _) _⟩
theorem get_any (b : Nat) (ttl : Int) (f : Ents) (to now : Int) (w : World) (h : TableAt w b ttl f) : Calls Try.prog 15 #[.pointer (some ⟨b, 0, none⟩), .int .i64 to, .int .i64 now] w fun e w' => e = .returned (.tuple #[kv to (kn f ttl to now), .bool (kn f ttl to now).isSome]) ∧ Below w.heap.size w w' := by
  by_cases hb : 0 ≤ to ∧ to < 8
  · obtain ⟨i, rfl⟩ := Int.eq_ofNat_of_zero_le hb.1
    have hi : i < 8 := by omega
    cases hf : f i with
    | none =>
      have e1 : kn f ttl (i : Int) now = none := by simp [kn, hf]
      rw [e1]
      exact get_none b ttl f i now w h hi hf
    | some e0 =>
      by_cases ho : ttl < bLeft now e0.tm
      · have e1 : kn f ttl (i : Int) now = none := by simp [kn, hf, ho]
        rw [e1]
        exact get_old b ttl f i now e0 w h hi hf ho
      · have e1 : kn f ttl (i : Int) now = some e0 := by simp [kn, hf, ho]; omega
        rw [e1]
        exact get_live b ttl f i now e0 w h hi hf (by omega)
  · have e1 : kn f ttl to now = none := by simp [kn, hb]
    rw [e1]
    exact get_out b ttl f to now w h (by simpa using hb)

/-- Would a level not pass there? -/
def cuts (f : Ents) (ttl to n now : Int) : Bool := match kn f ttl to now with | none => false | some e => !decide (0 ≤ n ∧ n < e.th)
theorem cuts_any (b : Nat) (ttl : Int) (f : Ents) (to n now : Int) (w : World) (h : TableAt w b ttl f) : Calls Try.prog 16 #[.pointer (some ⟨b, 0, none⟩), .int .i64 to, .int .i64 n, .int .i64 now] w fun e w' => e = .returned (.bool (cuts f ttl to n now)) ∧ Below w.heap.size w w' := by
  have K := get_any b ttl f to now w h
  have HK := Lib.hid K
  clear K h
  cases hk : kn f ttl to now with
  | none =>
    go_enter Try.func16, Try.ntmps16
    go_wp2_with fail
    refine HK.out.mono ?_
    rw [hk]
    rintro e w1 ⟨rfl, hb⟩
    have hs := hb.size
    unfold kv Option.isSome
    go_wp2_with fail
    go_ret
    exact ⟨ret_bool (by simp [cuts, hk]), hb.alloc hs _⟩
  | some e0 =>
    go_enter Try.func16, Try.ntmps16
    go_wp2_with fail
    refine HK.out.mono ?_
    rw [hk]
    rintro e w1 ⟨rfl, hb⟩
    have hs := hb.size
    unfold kv Option.isSome
    go_wp2_with (go_at_call 64; (with_reducible refine (passes_any _ _ _).mono ?_); rintro e w' ⟨rfl, rfl⟩)
    go_ret
    exact ⟨ret_bool (by simp [cuts, hk]), hb.alloc hs _⟩
theorem cuts_nil (to n now : Int) (w : World) : Calls Try.prog 16 #[.pointer none, .int .i64 to, .int .i64 n, .int .i64 now] w fun e w' => e = .returned (.bool false) ∧ Below w.heap.size w w' := by
  go_enter Try.func16, Try.ntmps16
  go_wp2_with (go_at_call 15; (with_reducible refine (get_nil _ _ _).mono ?_); rintro e w' ⟨rfl, hx⟩; obtain ⟨ux, rfl⟩ := ext_of hx; clear hx)
  go_ret
  exact ⟨rfl, ux.below.alloc (ext_size ux) _⟩

end Go.Proofs.Ytgkmmoiniidhlaa
