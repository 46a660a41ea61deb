/-
  The statement RequestBack of layer 24 (request). No condition.
-/
import Derived.Test.YtmohgbnfhpffjaaLaw24
namespace Go.Proofs.Ytmohgbnfhpffjaa
open Go.RowKit
set_option linter.unusedVariables false

abbrev rqShape : List (Value → Prop) := [IsI .i64, IsI .i64, IsI .i64, IsI .i64, IsI .i64, IsI .i64]
theorem rq_of (cs : List Value) (h : Fits rqShape cs) : ∃ x : Rq, cs = rqCells x := by
  obtain ⟨_, _, rfl, ⟨a, rfl, _⟩, h0⟩ := fits_cons h
  obtain ⟨_, _, rfl, ⟨b, rfl, _⟩, h1⟩ := fits_cons h0
  obtain ⟨_, _, rfl, ⟨c, rfl, _⟩, h2⟩ := fits_cons h1
  obtain ⟨_, _, rfl, ⟨d, rfl, _⟩, h3⟩ := fits_cons h2
  obtain ⟨_, _, rfl, ⟨e, rfl, _⟩, h4⟩ := fits_cons h3
  obtain ⟨_, _, rfl, ⟨f, rfl, _⟩, h5⟩ := fits_cons h4
  obtain rfl := fits_nil h5
  exact ⟨⟨a, b, c, d, e, f⟩, rfl⟩
theorem opens_rq {W : World} : Opens Try.prog W 48 rqShape :=
  opens_struct (ss := [[IsI .i64], [IsI .i64], [IsI .i64], [IsI .i64], [IsI .i64], [IsI .i64]]) Try.underlying48 (by kernel_rfl)
    ⟨rfl, by kernel_rfl, opens_int Try.underlying3, rfl, by kernel_rfl, opens_int Try.underlying3, rfl, by kernel_rfl, opens_int Try.underlying3, rfl, by kernel_rfl, opens_int Try.underlying3, rfl, by kernel_rfl, opens_int Try.underlying3, rfl, by kernel_rfl, opens_int Try.underlying3, trivial⟩
theorem came_rq {W : World} {v : Value} (h : Came Try.prog W 48 v) : ∃ x : Rq, v = rqV x := by
  obtain ⟨l0, rfl, f0⟩ := came_struct Try.underlying48 opens_rq h
  obtain ⟨x, rfl⟩ := rq_of l0 f0
  exact ⟨x, rfl⟩

def putS (x : Rq) : ByteArray := if rqOk x = true then ofL (rqL x 6) else ⟨#[]⟩
theorem qput_any (x : Rq) (w : World) : Calls Try.prog 31 #[rqV x] w fun e w' => e = .returned (.tuple #[.string (putS x), .int .i64 (errOf x)]) ∧ Below w.heap.size w w' := by
  unfold putS errOf
  cases h : rqOk x with
  | true => rw [if_pos rfl, if_pos rfl]; exact qput_ok x w h
  | false => rw [if_neg (by decide), if_neg (by decide)]; exact qput_bad x w h
theorem errOf_cases (x : Rq) : errOf x = 0 ∨ errOf x = 1 := by
  unfold errOf
  split
  · exact .inl rfl
  · exact .inr rfl
theorem putS_le (x : Rq) : (putS x).size ≤ 2147483648 := by
  unfold putS
  split
  · rw [← bl_len, bl_ofL]
    have := rqL_len x 6 (Nat.le_refl _)
    omega
  · decide
/-- The second half of the law: what of the body comes. -/
theorem back_facts (body : ByteArray) : (getB body).err = 0 ∧ errOf (getB body).r = 0 ∧ putS (getB body).r = body ∨ ((getB body).err != 0) = true := by
  rcases getB_err body with h | h | h
  · refine .inl ⟨h, ?_⟩
    have e : getB body = ⟨(getB body).r, 0⟩ := by
      rw [← h]
    obtain ⟨h1, h2⟩ := put_get e
    exact ⟨by unfold errOf; rw [if_pos h1], by unfold putS; rw [if_pos h1]; exact h2⟩
  · exact .inr (by rw [h]; rfl)
  · exact .inr (by rw [h]; rfl)

set_option maxRecDepth 100000 in
set_option maxHeartbeats 2000000 in
theorem rback_walk (r : Rq) (body : ByteArray) (w : World) : Calls Try.prog 8 #[rqV r, .string body] w fun e w' => e = .returned (.bool true) ∧ Below w.heap.size w w' := by
  have HZ := Lib.hid awake24
  by_cases hl : 40 < body.size
  · go_enter Try.func8, Try.ntmps8
    go_wp2_with (go_at_call 28; refine (HZ.out _).mono ?_; rintro e w1 ⟨rfl, hb⟩)
    go_ret
    exact ⟨rfl, ((Below.refl _ _).alloc (Nat.le_refl _) _).trans (hb.mono (by simp))⟩
  · have hd : decide ((40 : Int) < (body.size : Int)) = false := by simp; omega
    have hb2 : body.size ≤ 2147483648 := by omega
    have P1 := fun w => qput_any r w
    have G2 := fun w => qget_any body w hb2
    have P2 := fun w => qput_any (getB body).r w
    have G1 := fun w => qget_any (putS r) w (putS_le r)
    have F2 := back_facts body
    have F1 : (errOf r = 0 ∧ getB (putS r) = ⟨r, 0⟩ ∧ (putS r).size = 17) ∨ (errOf r = 1 ∧ putS r = ⟨#[]⟩) := by
      cases h : rqOk r with
      | true =>
        have hp : putS r = ofL (rqL r 6) := by unfold putS; rw [if_pos h]
        rw [hp]
        exact .inl ⟨by unfold errOf; rw [if_pos h], (get_put h).1, (get_put h).2⟩
      | false => exact .inr ⟨by unfold errOf; rw [if_neg (by rw [h]; decide)], by unfold putS; rw [if_neg (by rw [h]; decide)]⟩
    generalize getB body = gy at *
    obtain ⟨y, g⟩ := gy
    simp only at G2 P2 F2
    generalize putS r = s1 at *
    generalize errOf r = e1 at *
    generalize getB s1 = gx at *
    obtain ⟨x, f⟩ := gx
    simp only at G1 F1
    generalize putS y = t at *
    generalize errOf y = h at *
    have HP1 := Lib.hid P1
    have HP2 := Lib.hid P2
    have HG1 := Lib.hid G1
    have HG2 := Lib.hid G2
    clear P1 P2 G1 G2 hl hb2
    have hR0 : RqAt (w.alloc (.cells (rqCells r).toArray 48)) w.heap.size r := IsObj.new w _ (rqCells r)
    have hb0 : Below w.heap.size w (w.alloc (.cells (rqCells r).toArray 48)) := (Below.refl _ _).alloc (Nat.le_refl _) _
    have HR0 := Lib.hid hR0
    have HB0 := Lib.hid hb0
    clear hR0 hb0
    rcases F1 with ⟨rfl, hx, hs17⟩ | ⟨rfl, rfl⟩
    · have hx1 : x = r := congrArg Gt.r hx
      have hx2 : f = 0 := congrArg Gt.err hx
      subst hx1 hx2
      clear hx
      have hs17' : (s1.size : Int) = 17 := by omega
      clear hs17
      go_enter Try.func8, Try.ntmps8
      go_wp2_with fail
      refine (HP1.out _).mono ?_
      rintro e w1 ⟨rfl, hb1⟩
      have HR1 := Lib.hid (HR0.out.same hb1)
      have HB1 := Lib.hid (HB0.out.trans (hb1.mono HB0.out.size))
      clear hb1
      go_wp2_with fail
      refine (HG1.out _).mono ?_
      rintro e w2 ⟨rfl, hb2⟩
      have hR2 := HR1.out.same hb2
      have hB2 := HB1.out.trans (hb2.mono HB1.out.size)
      obtain ⟨a0, a1, a2, a3, a4, a5⟩ := hR2.six
      have hA := cell_lt a0
      have HB2 := Lib.hid hB2
      have hsz2 := hB2.size
      simp only at hA
      clear hb2 hR2 hB2 HR0 HB0 HR1 HB1
      go_wp2_with fail
      rcases F2 with ⟨rfl, rfl, rfl⟩ | hg
      all_goals
        refine (HG2.out _).mono ?_
        rintro e w3 ⟨rfl, hb3⟩
        have hb3' := (HB2.out.alloc hsz2 (.cells (rqCells x).toArray 48)).trans (hb3.mono (by rw [alloc_size]; omega))
        have HB3 := Lib.hid hb3'
        have hsz3 := hb3'.size
        clear hb3 hb3'
        go_wp2_with fail
        refine (HP2.out _).mono ?_
        rintro e w4 ⟨rfl, hb4⟩
        have hb4' := (HB3.out.alloc hsz3 (.cells (rqCells y).toArray 48)).trans (hb4.mono (by rw [alloc_size]; omega))
        have HB4 := Lib.hid hb4'
        have hsz4 := hb4'.size
        clear hb4 hb4' HB2 HB3 a0 a1 a2 a3 a4 a5
        go_wp2_with (go_at_call 28; refine (HZ.out _).mono ?_; rintro e w5 ⟨rfl, hb5⟩)
        go_ret
        exact ⟨rfl, HB4.out.trans (hb5.mono hsz4)⟩
    · go_enter Try.func8, Try.ntmps8
      go_wp2_with fail
      refine (HP1.out _).mono ?_
      rintro e w1 ⟨rfl, hb1⟩
      have HB1 := Lib.hid (HB0.out.trans (hb1.mono HB0.out.size))
      clear hb1
      go_wp2_with fail
      refine (HG1.out _).mono ?_
      rintro e w2 ⟨rfl, hb2⟩
      have hB2 := HB1.out.trans (hb2.mono HB1.out.size)
      have HB2 := Lib.hid hB2
      have hsz2 := hB2.size
      clear hb2 hB2 HR0 HB0 HB1
      go_wp2_with fail
      rcases F2 with ⟨rfl, rfl, rfl⟩ | hg
      all_goals
        refine (HG2.out _).mono ?_
        rintro e w3 ⟨rfl, hb3⟩
        have hb3' := (HB2.out.alloc hsz2 (.cells (rqCells x).toArray 48)).trans (hb3.mono (by rw [alloc_size]; omega))
        have HB3 := Lib.hid hb3'
        have hsz3 := hb3'.size
        clear hb3 hb3'
        go_wp2_with fail
        refine (HP2.out _).mono ?_
        rintro e w4 ⟨rfl, hb4⟩
        have hb4' := (HB3.out.alloc hsz3 (.cells (rqCells y).toArray 48)).trans (hb4.mono (by rw [alloc_size]; omega))
        have HB4 := Lib.hid hb4'
        have hsz4 := hb4'.size
        clear hb4 hb4' HB2 HB3
        go_wp2_with (go_at_call 28; refine (HZ.out _).mono ?_; rintro e w5 ⟨rfl, hb5⟩)
        go_ret
        exact ⟨rfl, HB4.out.trans (hb5.mono hsz4)⟩

theorem rback_done : Walk 8 Try.f8 := by
  intro W args hs hc
  rw [Try.params8] at hs hc
  obtain ⟨l⟩ := args
  match l, hs with
  | [v0, v1], _ =>
    obtain ⟨x, rfl⟩ := came_rq (hc 0 48 v0 rfl rfl)
    obtain ⟨s, rfl, _⟩ := came_string Try.underlying9 (hc 1 9 v1 rfl rfl)
    exact rback_walk x s W
end Go.Proofs.Ytmohgbnfhpffjaa
