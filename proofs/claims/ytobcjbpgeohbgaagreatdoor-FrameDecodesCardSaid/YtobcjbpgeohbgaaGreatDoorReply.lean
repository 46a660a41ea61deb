/-
  Layer 25 (reply): structures, Name, Check, and the document's Check.
-/
import Derived.Test.YtobcjbpgeohbgaaGreatDoorFormRef
import Derived.Laws.CopyOwn
import Derived.Deep.RegionHeld3
import Derived.Handy
namespace Go.Proofs.YtobcjbpgeohbgaaGreatDoor
open Go.RowKit
set_option linter.unusedVariables false

structure Rp where
  id : Int
  frm : Int
  tto : Int
  cod : Int
  thr : Int
  epo : Int
  tie : Int
instance : Inhabited Rp := ⟨⟨0, 0, 0, 0, 0, 0, 0⟩⟩
abbrev rpCells (x : Rp) : List Value := [.int .i64 x.id, .int .i64 x.frm, .int .i64 x.tto, .int .i64 x.cod, .int .i64 x.thr, .int .i64 x.epo, .int .i64 x.tie]
abbrev rpV (x : Rp) : Value := .agg #[.int .i64 x.id, .int .i64 x.frm, .int .i64 x.tto, .int .i64 x.cod, .int .i64 x.thr, .int .i64 x.epo, .int .i64 x.tie]
/-- What stands for the fields in the body. -/
def rv (x : Rp) (k : Nat) : Int := [x.id, x.frm, x.tto + 1, x.cod, x.thr, x.epo, x.tie].getD k 0
def rw7 (k : Nat) : Nat := [6, 1, 1, 1, 1, 4, 1].getD k 1
theorem lt7R {i : Nat} (h : i < 7) : i = 0 ∨ i = 1 ∨ i = 2 ∨ i = 3 ∨ i = 4 ∨ i = 5 ∨ i = 6 := by omega
theorem rw7_rng (k : Nat) (h : k < 7) : 1 ≤ rw7 k ∧ rw7 k ≤ 6 := by
  rcases lt7R h with rfl | rfl | rfl | rfl | rfl | rfl | rfl <;> decide
theorem pos7 : posN rw7 7 = 15 := by decide
theorem alloc_sizeR (w : World) (o : Obj) : (w.alloc o).heap.size = w.heap.size + 1 := by simp
/-- Block B is a reply's variable. -/
def RpAt (w : World) (B : Nat) (x : Rp) : Prop := IsObj w B 26 (rpCells x)
theorem RpAt.same {w w' : World} {b : Nat} {x : Rp} (h : RpAt w b x) (hb : Below w.heap.size w w') : RpAt w' b x := IsObj.below h hb h.lt
theorem RpAt.only {w w' : World} {b c : Nat} {x : Rp} (h : RpAt w b x) (ho : Only c w w') (hne : b ≠ c) : RpAt w' b x := IsObj.only h ho hne
theorem sevenR {w : World} {B t : Nat} {x : Rp} (h : IsObj w B t (rpCells x)) : w.cell? ⟨B, 0, none⟩ = some (.int .i64 x.id) ∧ w.cell? ⟨B, 1, none⟩ = some (.int .i64 x.frm) ∧ w.cell? ⟨B, 2, none⟩ = some (.int .i64 x.tto) ∧ w.cell? ⟨B, 3, none⟩ = some (.int .i64 x.cod) ∧ w.cell? ⟨B, 4, none⟩ = some (.int .i64 x.thr) ∧ w.cell? ⟨B, 5, none⟩ = some (.int .i64 x.epo) ∧ w.cell? ⟨B, 6, none⟩ = some (.int .i64 x.tie) :=
  ⟨IsObj.cell h 0, IsObj.cell h 1, IsObj.cell h 2, IsObj.cell h 3, IsObj.cell h 4, IsObj.cell h 5, IsObj.cell h 6⟩
def set7 (w : World) (T : Nat) (a b c d e f g : Int) : World := ((((((w.setCell ⟨T, 0, none⟩ (.int .i64 a)).setCell ⟨T, 1, none⟩ (.int .i64 b)).setCell ⟨T, 2, none⟩ (.int .i64 c)).setCell ⟨T, 3, none⟩ (.int .i64 d)).setCell ⟨T, 4, none⟩ (.int .i64 e)).setCell ⟨T, 5, none⟩ (.int .i64 f)).setCell ⟨T, 6, none⟩ (.int .i64 g)
theorem set7_at {w : World} {T t : Nat} {y : Rp} (h : IsObj w T t (rpCells y)) (x : Rp) : IsObj (set7 w T x.id x.frm x.tto x.cod x.thr x.epo x.tie) T t (rpCells x) :=
  ((((((IsObj.set h 0 (.int .i64 x.id)).set 1 (.int .i64 x.frm)).set 2 (.int .i64 x.tto)).set 3 (.int .i64 x.cod)).set 4 (.int .i64 x.thr)).set 5 (.int .i64 x.epo)).set 6 (.int .i64 x.tie)
theorem set7_below {w w0 : World} {T B : Nat} {a b c d e f g : Int} (hb : Below B w0 w) (hB : B ≤ T) : Below B w0 (set7 w T a b c d e f g) :=
  ((((((hb.setCell (p := ⟨T, 0, none⟩) hB _).setCell (p := ⟨T, 1, none⟩) hB _).setCell (p := ⟨T, 2, none⟩) hB _).setCell (p := ⟨T, 3, none⟩) hB _).setCell (p := ⟨T, 4, none⟩) hB _).setCell (p := ⟨T, 5, none⟩) hB _).setCell (p := ⟨T, 6, none⟩) hB _
theorem set7_only {w : World} {T : Nat} {a b c d e f g : Int} : Only T w (set7 w T a b c d e f g) :=
  (((((((Only.refl T w).setCell (.inl rfl) _).setCell (.inl rfl) _).setCell (.inl rfl) _).setCell (.inl rfl) _).setCell (.inl rfl) _).setCell (.inl rfl) _).setCell (.inl rfl) _

/-! ### The codes' names -/
def nmL : List ByteArray := [⟨#[103, 111, 111, 100]⟩, ⟨#[114, 101, 102, 117, 115, 101, 100]⟩, ⟨#[101, 120, 112, 105, 114, 101, 100]⟩, ⟨#[115, 112, 101, 110, 116]⟩, ⟨#[101, 118, 105, 99, 116, 101, 100]⟩, ⟨#[108, 97, 116, 101]⟩, ⟨#[102, 97, 105, 108, 101, 100]⟩, ⟨#[99, 117, 116]⟩, ⟨#[115, 116, 97, 114, 118, 101, 100]⟩, ⟨#[98, 114, 111, 107, 101, 110]⟩]
def nm (k : Nat) : ByteArray := nmL.getD k ⟨#[]⟩
def NmAt (w : World) : Prop := ∀ k, k < 10 → w.cell? ⟨1, k, none⟩ = some (.string (nm k))
theorem NmAt.same {w w' : World} (h : NmAt w) (hb : Below w.heap.size w w') : NmAt w' := fun k hk => cell_keep hb (h k hk)
theorem NmAt.lt {w : World} (h : NmAt w) : 1 < w.heap.size := cell_lt (h 0 (by omega))
theorem NmAt.only {w w' : World} {c : Nat} (h : NmAt w) (ho : Only c w w') (hne : 1 < c) : NmAt w' := fun k hk => ho.keep (h k hk) (by simp; omega)
theorem NmAt.ext {w : World} (h : NmAt w) (u : Later w) : NmAt (ext w u) := h.same u.below
theorem NmAt.below {w w' : World} {B : Nat} (h : NmAt w) (hb : Below B w w') (hB : 1 < B) : NmAt w' := fun k hk => (hb.cell (p := ⟨1, k, none⟩) hB).trans (h k hk)
theorem within_any (n a b : Int) (w : World) : Calls Tryz.prog 88 #[.int .i64 n, .int .i64 a, .int .i64 b] w fun e w' => e = .returned (.bool (decide (a ≤ n ∧ n ≤ b))) ∧ w = w' := by
  go_enter Tryz.func88, Tryz.ntmps88
  go_wp2
  all_goals
    go_ret
    exact ⟨ret_bool (by simp; try omega), rfl⟩
theorem within_is (n a b : Int) (r : Bool) (h : decide (a ≤ n ∧ n ≤ b) = r) (w : World) : Calls Tryz.prog 88 #[.int .i64 n, .int .i64 a, .int .i64 b] w fun e w' => e = .returned (.bool r) ∧ w = w' := by
  subst h
  exact within_any n a b w
def codeOk (c : Int) : Bool := decide (1 ≤ c ∧ c ≤ 10)
def nameS (c : Int) : ByteArray := if codeOk c = true then nm (c.toNat - 1) else ⟨#[]⟩
theorem name_any (c : Int) (w : World) (hN : NmAt w) : Calls Tryz.prog 87 #[.int .i64 c] w fun e w' => e = .returned (.tuple #[.string (nameS c), .bool (codeOk c)]) ∧ w = w' := by
  unfold nameS
  cases hc : codeOk c with
  | true =>
    rw [if_pos rfl]
    have h := hc
    simp only [codeOk, decide_eq_true_eq] at h
    have HW := Lib.hid (fun w => within_is c 1 10 true hc w)
    have c0 := hN (c.toNat - 1) (by omega)
    have i1 : 0 ≤ c - 1 := by omega
    have i2 : c - 1 < 10 := by omega
    obtain ⟨h1, h2⟩ := h
    generalize nm (c.toNat - 1) = s at *
    clear hc hN
    go_enter Tryz.func87, Tryz.ntmps87
    go_wp2_with (go_at_call 88; (with_reducible refine (HW.out _).mono ?_); rintro e w' ⟨rfl, rfl⟩)
    go_returns
    exact ⟨rfl, rfl⟩
  | false =>
    rw [if_neg (by decide)]
    have HW := Lib.hid (fun w => within_is c 1 10 false hc w)
    clear hc hN
    go_enter Tryz.func87, Tryz.ntmps87
    go_wp2_with (go_at_call 88; (with_reducible refine (HW.out _).mono ?_); rintro e w' ⟨rfl, rfl⟩)
    go_returns
    exact ⟨rfl, rfl⟩
theorem name_is (c : Int) (r : Bool) (h : codeOk c = r) (w : World) (hN : NmAt w) : Calls Tryz.prog 87 #[.int .i64 c] w fun e w' => e = .returned (.tuple #[.string (nameS c), .bool r]) ∧ w = w' := by
  subst h
  exact name_any c w hN

/-! ### Check -/
def rpOk (x : Rp) : Bool := decide ((1 ≤ x.cod ∧ x.cod ≤ 10) ∧ x.frm ≠ x.tto ∧ (0 ≤ x.id ∧ x.id ≤ 281474976710655) ∧ (0 ≤ x.frm ∧ x.frm ≤ 7) ∧ (-1 ≤ x.tto ∧ x.tto ≤ 7) ∧ (0 ≤ x.thr ∧ x.thr ≤ 128) ∧ (0 ≤ x.epo ∧ x.epo ≤ 4294967295) ∧ (0 ≤ x.tie ∧ x.tie ≤ 7))
def errR (x : Rp) : Int := if rpOk x = true then 0 else 1
theorem errR_no {x : Rp} (h : rpOk x = false) : errR x = 1 := by unfold errR; rw [if_neg (by rw [h]; decide)]
theorem errR_yes {x : Rp} (h : rpOk x = true) : errR x = 0 := by unfold errR; rw [if_pos h]
set_option maxRecDepth 100000 in
set_option maxHeartbeats 2000000 in
theorem ypcheck_any (x : Rp) (w : World) (hN : NmAt w) : Calls Tryz.prog 70 #[rpV x] w fun e w' => e = .returned (.int .i64 (errR x)) ∧ Below w.heap.size w w' := by
  obtain ⟨er, hE⟩ : ∃ er, er = errR x := ⟨_, rfl⟩
  rw [← hE]
  have HE := Lib.hid hE
  have hb0 : Below w.heap.size w (w.alloc (.cells (rpCells x).toArray 26)) := (Below.refl _ _).alloc (Nat.le_refl _) _
  have HNm := Lib.hid (hN.same hb0)
  have HB0 := Lib.hid hb0
  clear hE hN hb0
  by_cases c0 : (1 ≤ x.cod ∧ x.cod ≤ 10)
  rotate_left
  · have HN := Lib.hid (fun w h => name_is x.cod false (by simpa [codeOk] using c0) w h)
    have he : er = 1 := by
      rw [HE.out]
      exact errR_no (by simp only [rpOk, decide_eq_false_iff_not]; intro h; exact c0 h.1)
    subst he
    clear c0
    go_enter Tryz.func70, Tryz.ntmps70
    go_wp2_with (first | (go_at_call 87; (with_reducible refine (HN.out _ HNm.out).mono ?_); rintro e w' ⟨rfl, rfl⟩))
    go_ret
    exact ⟨rfl, HB0.out⟩
  by_cases c1 : x.frm ≠ x.tto
  rotate_left
  · have HN := Lib.hid (fun w h => name_is x.cod true (by simpa [codeOk] using c0) w h)
    have hne : (x.frm == x.tto) = true := by simpa using c1
    have he : er = 1 := by
      rw [HE.out]
      exact errR_no (by simp only [rpOk, decide_eq_false_iff_not]; intro h; exact c1 h.2.1)
    subst he
    clear c0 c1
    go_enter Tryz.func70, Tryz.ntmps70
    go_wp2_with (first | (go_at_call 87; (with_reducible refine (HN.out _ HNm.out).mono ?_); rintro e w' ⟨rfl, rfl⟩))
    go_ret
    exact ⟨rfl, HB0.out⟩
  by_cases c2 : (0 ≤ x.id ∧ x.id ≤ 281474976710655)
  rotate_left
  · have HN := Lib.hid (fun w h => name_is x.cod true (by simpa [codeOk] using c0) w h)
    have hne : (x.frm == x.tto) = false := by simpa using c1
    have HW2 := Lib.hid (fun w => within_is x.id 0 281474976710655 false (by simpa using c2) w)
    have he : er = 1 := by
      rw [HE.out]
      exact errR_no (by simp only [rpOk, decide_eq_false_iff_not]; intro h; exact c2 h.2.2.1)
    subst he
    clear c0 c1 c2
    go_enter Tryz.func70, Tryz.ntmps70
    go_wp2_with (first | (go_at_call 87; (with_reducible refine (HN.out _ HNm.out).mono ?_); rintro e w' ⟨rfl, rfl⟩) | (go_at_call 88; (with_reducible refine (HW2.out _).mono ?_); rintro e w' ⟨rfl, rfl⟩))
    go_ret
    exact ⟨rfl, HB0.out⟩
  by_cases c3 : (0 ≤ x.frm ∧ x.frm ≤ 7)
  rotate_left
  · have HN := Lib.hid (fun w h => name_is x.cod true (by simpa [codeOk] using c0) w h)
    have hne : (x.frm == x.tto) = false := by simpa using c1
    have HW2 := Lib.hid (fun w => within_is x.id 0 281474976710655 true (by simpa using c2) w)
    have HW3 := Lib.hid (fun w => within_is x.frm 0 7 false (by simpa using c3) w)
    have he : er = 1 := by
      rw [HE.out]
      exact errR_no (by simp only [rpOk, decide_eq_false_iff_not]; intro h; exact c3 h.2.2.2.1)
    subst he
    clear c0 c1 c2 c3
    go_enter Tryz.func70, Tryz.ntmps70
    go_wp2_with (first | (go_at_call 87; (with_reducible refine (HN.out _ HNm.out).mono ?_); rintro e w' ⟨rfl, rfl⟩) | (go_at_call 88; (with_reducible refine (HW2.out _).mono ?_); rintro e w' ⟨rfl, rfl⟩) | (go_at_call 88; (with_reducible refine (HW3.out _).mono ?_); rintro e w' ⟨rfl, rfl⟩))
    go_ret
    exact ⟨rfl, HB0.out⟩
  by_cases c4 : (-1 ≤ x.tto ∧ x.tto ≤ 7)
  rotate_left
  · have HN := Lib.hid (fun w h => name_is x.cod true (by simpa [codeOk] using c0) w h)
    have hne : (x.frm == x.tto) = false := by simpa using c1
    have HW2 := Lib.hid (fun w => within_is x.id 0 281474976710655 true (by simpa using c2) w)
    have HW3 := Lib.hid (fun w => within_is x.frm 0 7 true (by simpa using c3) w)
    have HW4 := Lib.hid (fun w => within_is x.tto (-1) 7 false (by simpa using c4) w)
    have he : er = 1 := by
      rw [HE.out]
      exact errR_no (by simp only [rpOk, decide_eq_false_iff_not]; intro h; exact c4 h.2.2.2.2.1)
    subst he
    clear c0 c1 c2 c3 c4
    go_enter Tryz.func70, Tryz.ntmps70
    go_wp2_with (first | (go_at_call 87; (with_reducible refine (HN.out _ HNm.out).mono ?_); rintro e w' ⟨rfl, rfl⟩) | (go_at_call 88; (with_reducible refine (HW2.out _).mono ?_); rintro e w' ⟨rfl, rfl⟩) | (go_at_call 88; (with_reducible refine (HW3.out _).mono ?_); rintro e w' ⟨rfl, rfl⟩) | (go_at_call 88; (with_reducible refine (HW4.out _).mono ?_); rintro e w' ⟨rfl, rfl⟩))
    go_ret
    exact ⟨rfl, HB0.out⟩
  by_cases c5 : (0 ≤ x.thr ∧ x.thr ≤ 128)
  rotate_left
  · have HN := Lib.hid (fun w h => name_is x.cod true (by simpa [codeOk] using c0) w h)
    have hne : (x.frm == x.tto) = false := by simpa using c1
    have HW2 := Lib.hid (fun w => within_is x.id 0 281474976710655 true (by simpa using c2) w)
    have HW3 := Lib.hid (fun w => within_is x.frm 0 7 true (by simpa using c3) w)
    have HW4 := Lib.hid (fun w => within_is x.tto (-1) 7 true (by simpa using c4) w)
    have HW5 := Lib.hid (fun w => within_is x.thr 0 128 false (by simpa using c5) w)
    have he : er = 1 := by
      rw [HE.out]
      exact errR_no (by simp only [rpOk, decide_eq_false_iff_not]; intro h; exact c5 h.2.2.2.2.2.1)
    subst he
    clear c0 c1 c2 c3 c4 c5
    go_enter Tryz.func70, Tryz.ntmps70
    go_wp2_with (first | (go_at_call 87; (with_reducible refine (HN.out _ HNm.out).mono ?_); rintro e w' ⟨rfl, rfl⟩) | (go_at_call 88; (with_reducible refine (HW2.out _).mono ?_); rintro e w' ⟨rfl, rfl⟩) | (go_at_call 88; (with_reducible refine (HW3.out _).mono ?_); rintro e w' ⟨rfl, rfl⟩) | (go_at_call 88; (with_reducible refine (HW4.out _).mono ?_); rintro e w' ⟨rfl, rfl⟩) | (go_at_call 88; (with_reducible refine (HW5.out _).mono ?_); rintro e w' ⟨rfl, rfl⟩))
    go_ret
    exact ⟨rfl, HB0.out⟩
  by_cases c6 : (0 ≤ x.epo ∧ x.epo ≤ 4294967295)
  rotate_left
  · have HN := Lib.hid (fun w h => name_is x.cod true (by simpa [codeOk] using c0) w h)
    have hne : (x.frm == x.tto) = false := by simpa using c1
    have HW2 := Lib.hid (fun w => within_is x.id 0 281474976710655 true (by simpa using c2) w)
    have HW3 := Lib.hid (fun w => within_is x.frm 0 7 true (by simpa using c3) w)
    have HW4 := Lib.hid (fun w => within_is x.tto (-1) 7 true (by simpa using c4) w)
    have HW5 := Lib.hid (fun w => within_is x.thr 0 128 true (by simpa using c5) w)
    have HW6 := Lib.hid (fun w => within_is x.epo 0 4294967295 false (by simpa using c6) w)
    have he : er = 1 := by
      rw [HE.out]
      exact errR_no (by simp only [rpOk, decide_eq_false_iff_not]; intro h; exact c6 h.2.2.2.2.2.2.1)
    subst he
    clear c0 c1 c2 c3 c4 c5 c6
    go_enter Tryz.func70, Tryz.ntmps70
    go_wp2_with (first | (go_at_call 87; (with_reducible refine (HN.out _ HNm.out).mono ?_); rintro e w' ⟨rfl, rfl⟩) | (go_at_call 88; (with_reducible refine (HW2.out _).mono ?_); rintro e w' ⟨rfl, rfl⟩) | (go_at_call 88; (with_reducible refine (HW3.out _).mono ?_); rintro e w' ⟨rfl, rfl⟩) | (go_at_call 88; (with_reducible refine (HW4.out _).mono ?_); rintro e w' ⟨rfl, rfl⟩) | (go_at_call 88; (with_reducible refine (HW5.out _).mono ?_); rintro e w' ⟨rfl, rfl⟩) | (go_at_call 88; (with_reducible refine (HW6.out _).mono ?_); rintro e w' ⟨rfl, rfl⟩))
    go_ret
    exact ⟨rfl, HB0.out⟩
  by_cases c7 : (0 ≤ x.tie ∧ x.tie ≤ 7)
  rotate_left
  · have HN := Lib.hid (fun w h => name_is x.cod true (by simpa [codeOk] using c0) w h)
    have hne : (x.frm == x.tto) = false := by simpa using c1
    have HW2 := Lib.hid (fun w => within_is x.id 0 281474976710655 true (by simpa using c2) w)
    have HW3 := Lib.hid (fun w => within_is x.frm 0 7 true (by simpa using c3) w)
    have HW4 := Lib.hid (fun w => within_is x.tto (-1) 7 true (by simpa using c4) w)
    have HW5 := Lib.hid (fun w => within_is x.thr 0 128 true (by simpa using c5) w)
    have HW6 := Lib.hid (fun w => within_is x.epo 0 4294967295 true (by simpa using c6) w)
    have HW7 := Lib.hid (fun w => within_is x.tie 0 7 false (by simpa using c7) w)
    have he : er = 1 := by
      rw [HE.out]
      exact errR_no (by simp only [rpOk, decide_eq_false_iff_not]; intro h; exact c7 h.2.2.2.2.2.2.2)
    subst he
    clear c0 c1 c2 c3 c4 c5 c6 c7
    go_enter Tryz.func70, Tryz.ntmps70
    go_wp2_with (first | (go_at_call 87; (with_reducible refine (HN.out _ HNm.out).mono ?_); rintro e w' ⟨rfl, rfl⟩) | (go_at_call 88; (with_reducible refine (HW2.out _).mono ?_); rintro e w' ⟨rfl, rfl⟩) | (go_at_call 88; (with_reducible refine (HW3.out _).mono ?_); rintro e w' ⟨rfl, rfl⟩) | (go_at_call 88; (with_reducible refine (HW4.out _).mono ?_); rintro e w' ⟨rfl, rfl⟩) | (go_at_call 88; (with_reducible refine (HW5.out _).mono ?_); rintro e w' ⟨rfl, rfl⟩) | (go_at_call 88; (with_reducible refine (HW6.out _).mono ?_); rintro e w' ⟨rfl, rfl⟩) | (go_at_call 88; (with_reducible refine (HW7.out _).mono ?_); rintro e w' ⟨rfl, rfl⟩))
    go_ret
    exact ⟨rfl, HB0.out⟩
  have HN := Lib.hid (fun w h => name_is x.cod true (by simpa [codeOk] using c0) w h)
  have hne : (x.frm == x.tto) = false := by simpa using c1
  have HW2 := Lib.hid (fun w => within_is x.id 0 281474976710655 true (by simpa using c2) w)
  have HW3 := Lib.hid (fun w => within_is x.frm 0 7 true (by simpa using c3) w)
  have HW4 := Lib.hid (fun w => within_is x.tto (-1) 7 true (by simpa using c4) w)
  have HW5 := Lib.hid (fun w => within_is x.thr 0 128 true (by simpa using c5) w)
  have HW6 := Lib.hid (fun w => within_is x.epo 0 4294967295 true (by simpa using c6) w)
  have HW7 := Lib.hid (fun w => within_is x.tie 0 7 true (by simpa using c7) w)
  have he : er = 0 := by
    rw [HE.out]
    exact errR_yes (by simp only [rpOk, decide_eq_true_eq]; exact ⟨c0, c1, c2, c3, c4, c5, c6, c7⟩)
  subst he
  clear c0 c1 c2 c3 c4 c5 c6 c7
  go_enter Tryz.func70, Tryz.ntmps70
  go_wp2_with (first | (go_at_call 87; (with_reducible refine (HN.out _ HNm.out).mono ?_); rintro e w' ⟨rfl, rfl⟩) | (go_at_call 88; (with_reducible refine (HW2.out _).mono ?_); rintro e w' ⟨rfl, rfl⟩) | (go_at_call 88; (with_reducible refine (HW3.out _).mono ?_); rintro e w' ⟨rfl, rfl⟩) | (go_at_call 88; (with_reducible refine (HW4.out _).mono ?_); rintro e w' ⟨rfl, rfl⟩) | (go_at_call 88; (with_reducible refine (HW5.out _).mono ?_); rintro e w' ⟨rfl, rfl⟩) | (go_at_call 88; (with_reducible refine (HW6.out _).mono ?_); rintro e w' ⟨rfl, rfl⟩) | (go_at_call 88; (with_reducible refine (HW7.out _).mono ?_); rintro e w' ⟨rfl, rfl⟩))
  go_ret
  exact ⟨rfl, HB0.out⟩
set_option maxRecDepth 100000 in
set_option maxHeartbeats 2000000 in
theorem rrcheck_any (x : Rp) (w : World) : Calls Tryz.prog 47 #[rpV x] w fun e w' => e = .returned (.int .i64 (errR x)) ∧ Below w.heap.size w w' := by
  by_cases hk : rpOk x = true
  · rw [errR_yes hk]
    simp only [rpOk, decide_eq_true_eq] at hk
    obtain ⟨⟨a1, a2⟩, g1, ⟨b1, b2⟩, ⟨c1, c2⟩, ⟨d1, d2⟩, ⟨e1, e2⟩, ⟨f1, f2⟩, ⟨h1, h2⟩⟩ := hk
    have hg : (x.tto == x.frm) = false := by simp; omega
    clear g1
    go_enter Tryz.func47, Tryz.ntmps47
    go_wp2
    go_ret
    exact ⟨rfl, (Below.refl _ _).alloc (Nat.le_refl _) _⟩
  · have hk2 : rpOk x = false := by simpa using hk
    rw [errR_no hk2]
    have HH := Lib.hid (show ¬ ((1 ≤ x.cod ∧ x.cod ≤ 10) ∧ x.frm ≠ x.tto ∧ (0 ≤ x.id ∧ x.id ≤ 281474976710655) ∧ (0 ≤ x.frm ∧ x.frm ≤ 7) ∧ (-1 ≤ x.tto ∧ x.tto ≤ 7) ∧ (0 ≤ x.thr ∧ x.thr ≤ 128) ∧ (0 ≤ x.epo ∧ x.epo ≤ 4294967295) ∧ (0 ≤ x.tie ∧ x.tie ≤ 7)) from fun h => hk (by simp only [rpOk, decide_eq_true_eq]; exact h))
    clear hk hk2
    go_enter Tryz.func47, Tryz.ntmps47
    go_wp2
    all_goals first
      | (go_ret
         exact ⟨rfl, (Below.refl _ _).alloc (Nat.le_refl _) _⟩)
      | (exfalso
         have h := HH.out
         simp only [beq_eq_false_iff_ne, ne_eq, not_and] at *
         omega)
theorem rp_num {x : Rp} (h : rpOk x = true) (k : Nat) (hk : k < 7) : 0 ≤ rv x k ∧ rv x k < 256 ^ rw7 k := by
  simp only [rpOk, decide_eq_true_eq] at h
  rcases lt7R hk with rfl | rfl | rfl | rfl | rfl | rfl | rfl
  · show 0 ≤ x.id ∧ x.id < 281474976710656; omega
  · show 0 ≤ x.frm ∧ x.frm < 256; omega
  · show 0 ≤ x.tto + 1 ∧ x.tto + 1 < 256; omega
  · show 0 ≤ x.cod ∧ x.cod < 256; omega
  · show 0 ≤ x.thr ∧ x.thr < 256; omega
  · show 0 ≤ x.epo ∧ x.epo < 4294967296; omega
  · show 0 ≤ x.tie ∧ x.tie < 256; omega
theorem rp_ok {x : Rp} (h : rpOk x = true) (k : Nat) (hk : k < 7) : numOk (rv x k) (rw7 k : Int) = true :=
  numOk_of (rw7_rng k hk).1 (rw7_rng k hk).2 (rp_num h k hk).1 (rp_num h k hk).2
end Go.Proofs.YtobcjbpgeohbgaaGreatDoor
