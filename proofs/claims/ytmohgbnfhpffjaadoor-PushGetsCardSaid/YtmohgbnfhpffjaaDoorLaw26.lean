/-
  The statements PushPuts, PushGets and PushBack of layer 26 (push). No condition.
-/
import Derived.Test.YtmohgbnfhpffjaaDoorPush6
namespace Go.Proofs.YtmohgbnfhpffjaaDoor
open Go.RowKit
set_option linter.unusedVariables false

abbrev psShape : List (Value → Prop) := [IsI .i64, IsI .i64, IsI .i64, IsI .i64, IsI .i64, IsI .i64, IsI .i64, IsI .i64, IsI .i64]
theorem ps_of (cs : List Value) (h : Fits psShape cs) : ∃ x : Ps, cs = psCells x := by
  obtain ⟨_, _, rfl, ⟨a, rfl, _⟩, h0⟩ := fits_cons h
  obtain ⟨_, _, rfl, ⟨b, rfl, _⟩, h1⟩ := fits_cons h0
  obtain ⟨_, _, rfl, ⟨c, rfl, _⟩, h2⟩ := fits_cons h1
  obtain ⟨_, _, rfl, ⟨d, rfl, _⟩, h3⟩ := fits_cons h2
  obtain ⟨_, _, rfl, ⟨e, rfl, _⟩, h4⟩ := fits_cons h3
  obtain ⟨_, _, rfl, ⟨f, rfl, _⟩, h5⟩ := fits_cons h4
  obtain ⟨_, _, rfl, ⟨g, rfl, _⟩, h6⟩ := fits_cons h5
  obtain ⟨_, _, rfl, ⟨i, rfl, _⟩, h7⟩ := fits_cons h6
  obtain ⟨_, _, rfl, ⟨j, rfl, _⟩, h8⟩ := fits_cons h7
  obtain rfl := fits_nil h8
  exact ⟨⟨a, b, c, d, e, f, g, i, j⟩, rfl⟩
theorem opens_kn {W : World} : Opens Tryd.prog W 23 [IsI .i64, IsI .i64, IsI .i64, IsI .i64, IsI .i64, IsI .i64, IsI .i64] :=
  opens_struct (ss := [[IsI .i64], [IsI .i64], [IsI .i64], [IsI .i64], [IsI .i64], [IsI .i64], [IsI .i64]]) Tryd.underlying23 (by kernel_rfl)
    ⟨rfl, by kernel_rfl, opens_int Tryd.underlying3, rfl, by kernel_rfl, opens_int Tryd.underlying3, rfl, by kernel_rfl, opens_int Tryd.underlying3, rfl, by kernel_rfl, opens_int Tryd.underlying3, rfl, by kernel_rfl, opens_int Tryd.underlying3, rfl, by kernel_rfl, opens_int Tryd.underlying3, rfl, by kernel_rfl, opens_int Tryd.underlying3, trivial⟩
theorem opens_ps {W : World} : Opens Tryd.prog W 25 psShape :=
  opens_struct (ss := [[IsI .i64], [IsI .i64], [IsI .i64, IsI .i64, IsI .i64, IsI .i64, IsI .i64, IsI .i64, IsI .i64]]) Tryd.underlying25 (by kernel_rfl)
    ⟨rfl, by kernel_rfl, opens_int Tryd.underlying3, rfl, by kernel_rfl, opens_int Tryd.underlying3, rfl, by kernel_rfl, opens_kn, trivial⟩
theorem came_ps {W : World} {v : Value} (h : Came Tryd.prog W 25 v) : ∃ x : Ps, v = psV x := by
  obtain ⟨l0, rfl, f0⟩ := came_struct Tryd.underlying25 opens_ps h
  obtain ⟨x, rfl⟩ := ps_of l0 f0
  exact ⟨x, rfl⟩

theorem WdAt.ext {w : World} (h : WdAt w) (u : Later w) : WdAt (ext w u) := h.same u.below
set_option maxRecDepth 100000 in
set_option maxHeartbeats 2000000 in
theorem pputs_walk (x : Ps) (v : Int) (w : World) (hW : WdAt w) : Calls Tryd.prog 3 #[psV x, .int .i64 v] w fun e w' => e = .returned (.bool true) ∧ Below w.heap.size w w' := by
  have HZ := Lib.hid awake26
  have P1 := fun w h => pput_any x w h
  have P2 := fun w => rpput_any x w
  have C1 := fun w h => pcheck_any x w h
  have C2 := fun w => rpcheck_any x w
  generalize putP x = s at *
  generalize errP x = er at *
  have HL := Lib.hid (fun w => later_any x v w)
  have HP1 := Lib.hid P1
  have HP2 := Lib.hid P2
  have HC1 := Lib.hid C1
  have HC2 := Lib.hid C2
  clear P1 P2 C1 C2
  have hb0 : Below w.heap.size w (w.alloc (.cells (psCells x).toArray 25)) := (Below.refl _ _).alloc (Nat.le_refl _) _
  have HR0 := Lib.hid (show PsAt (w.alloc (.cells (psCells x).toArray 25)) w.heap.size x from IsObj.new w _ (psCells x))
  have HW0 := Lib.hid (hW.same hb0)
  have HB0 := Lib.hid hb0
  clear hb0 hW
  go_enter Tryd.func3, Tryd.ntmps3
  go_wp2_with fail
  refine (HP1.out _ HW0.out).mono ?_
  rintro e w1 ⟨rfl, hb1⟩
  have hR1 := HR0.out.same hb1
  have HR1 := Lib.hid hR1
  have HW1 := Lib.hid (HW0.out.same hb1)
  have HB1 := Lib.hid (HB0.out.trans (hb1.mono HB0.out.size))
  obtain ⟨a0, a1, a2, a3, a4, a5, a6, a7, a8⟩ := hR1.nine
  clear hb1 hR1 HR0 HW0 HB0
  go_wp2_with fail
  refine (HP2.out _).mono ?_
  rintro e w2 ⟨rfl, hb2⟩
  clear a0 a1 a2 a3 a4 a5 a6 a7 a8
  have hR2 := HR1.out.same hb2
  have HW2 := Lib.hid (HW1.out.same hb2)
  have HB2 := Lib.hid (HB1.out.trans (hb2.mono HB1.out.size))
  obtain ⟨a0, a1, a2, a3, a4, a5, a6, a7, a8⟩ := hR2.nine
  have hA := cell_lt a0
  have hsz2 := HB2.out.size
  simp only at hA
  clear hb2 hR2 HR1 HB1 HW1
  go_wp2_with fail
  ((first | (with_reducible refine region_ext2 (by kernel_rfl) (by kernel_rfl) ?_) | (refine region_ext (by kernel_rfl) (by kernel_rfl) ?_)); (repeat ((with_reducible refine wpQuiet_step (fun K hK => ?_)); go_simp; (first | ((refine hK _ ?_); clear hK K) | ((apply Exists.intro); (refine ⟨fun _ => ?_, hK _ ?_⟩); (first | (go_at_call 8; with_reducible exact ext_below (HC1.out _ (HW2.out.ext _))) | (go_at_call 9; with_reducible exact ext_below (HC2.out _)) | (go_at_call 10; with_reducible exact ext_below (HL.out _)) | (go_at_call 11; with_reducible exact ext_below (HZ.out _ (HW2.out.ext _)))); clear hK K)))); refine wpQuiet_nil ?_; rintro _ ⟨uq, rfl⟩)
  go_wp2
  go_ret
  exact ⟨rfl, below_ext _ HB2.out hsz2⟩

set_option maxRecDepth 100000 in
set_option maxHeartbeats 1000000 in
theorem pgets_walk (body : ByteArray) (w : World) (hW : WdAt w) : Calls Tryd.prog 4 #[.string body] w fun e w' => e = .returned (.bool true) ∧ Below w.heap.size w w' := by
  have HZ := Lib.hid awake26
  have HW0 := Lib.hid hW
  clear hW
  by_cases hl : 40 < body.size
  · go_enter Tryd.func4, Tryd.ntmps4
    go_wp2_with (go_at_call 11; refine (HZ.out _ HW0.out).mono ?_; rintro e w1 ⟨rfl, hb⟩)
    go_ret
    exact ⟨rfl, hb⟩
  · have hd : decide ((40 : Int) < (body.size : Int)) = false := by simp; omega
    have hb2 : body.size ≤ 2147483648 := by omega
    have G1 := fun w h => pget_any body w hb2 h
    have G2 := fun w => rpget_any body w hb2
    generalize getP body = gy at *
    obtain ⟨y, g⟩ := gy
    have HG1 := Lib.hid G1
    have HG2 := Lib.hid G2
    clear G1 G2 hl hb2
    go_enter Tryd.func4, Tryd.ntmps4
    go_wp2_with fail
    refine (HG1.out _ HW0.out).mono ?_
    rintro e w1 ⟨rfl, hb1⟩
    have hv : PsAt (w1.alloc (.cells (psCells y).toArray 25)) w1.heap.size y := IsObj.new w1 _ (psCells y)
    have hb1a := hb1.alloc hb1.size (.cells (psCells y).toArray 25)
    have HV := Lib.hid hv
    have HB1 := Lib.hid hb1a
    have HW1 := Lib.hid (HW0.out.same (hb1a.mono (Nat.le_refl _)))
    clear hv hb1a hb1
    go_wp2_with fail
    refine (HG2.out _).mono ?_
    rintro e w2 ⟨rfl, hb2⟩
    have hV2 := HV.out.same hb2
    have hW2 := HW1.out.same hb2
    have hB2 := HB1.out.trans (hb2.mono HB1.out.size)
    obtain ⟨a0, a1, a2, a3, a4, a5, a6, a7, a8⟩ := hV2.nine
    have hA := cell_lt a0
    have HB2 := Lib.hid hB2
    have hsz2 := hB2.size
    have HW3 := Lib.hid (hW2.same (w' := w2.alloc (.cells (psCells y).toArray 25)) ((Below.refl _ _).alloc (Nat.le_refl _) _))
    simp only at hA
    clear hb2 hV2 hB2 HV HB1 hW2 HW0 HW1
    go_wp2_with (go_at_call 11; refine (HZ.out _ HW3.out).mono ?_; rintro e w5 ⟨rfl, hb5⟩)
    go_ret
    exact ⟨rfl, (HB2.out.alloc hsz2 _).trans (hb5.mono (by simp; omega))⟩
set_option maxRecDepth 100000 in
set_option maxHeartbeats 2000000 in
theorem pback_walk (r : Ps) (body : ByteArray) (w : World) (hW : WdAt w) : Calls Tryd.prog 5 #[psV r, .string body] w fun e w' => e = .returned (.bool true) ∧ Below w.heap.size w w' := by
  have HZ := Lib.hid awake26
  have hR0 : PsAt (w.alloc (.cells (psCells r).toArray 25)) w.heap.size r := IsObj.new w _ (psCells r)
  have hb0 : Below w.heap.size w (w.alloc (.cells (psCells r).toArray 25)) := (Below.refl _ _).alloc (Nat.le_refl _) _
  have HR0 := Lib.hid hR0
  have HB0 := Lib.hid hb0
  have HW0 := Lib.hid (hW.same hb0)
  clear hR0 hb0 hW
  by_cases hl : 40 < body.size
  · go_enter Tryd.func5, Tryd.ntmps5
    go_wp2_with (go_at_call 11; refine (HZ.out _ HW0.out).mono ?_; rintro e w1 ⟨rfl, hb⟩)
    go_ret
    exact ⟨rfl, HB0.out.trans (hb.mono HB0.out.size)⟩
  · have hd : decide ((40 : Int) < (body.size : Int)) = false := by simp; omega
    have hb2 : body.size ≤ 2147483648 := by omega
    have P1 := fun w h => pput_any r w h
    have G2 := fun w h => pget_any body w hb2 h
    have P2 := fun w h => pput_any (getP body).r w h
    have G1 := fun w h => pget_any (putP r) w (putP_le r) h
    have F2 := back_factsP body
    have F1 : (errP r = 0 ∧ getP (putP r) = ⟨r, 0⟩ ∧ (putP r).size = 14) ∨ (errP r = 1 ∧ putP r = ⟨#[]⟩) := by
      cases h : psOk r with
      | true =>
        have hp : putP r = ofL (encN pw (pf r) 9) := by unfold putP; rw [if_pos h]
        rw [hp]
        exact .inl ⟨errP_yes h, (get_putP h).1, (get_putP h).2⟩
      | false => exact .inr ⟨errP_no h, by unfold putP; rw [if_neg (by rw [h]; decide)]⟩
    generalize getP body = gy at *
    obtain ⟨y, g⟩ := gy
    simp only at G2 P2 F2
    generalize putP r = s1 at *
    generalize errP r = e1 at *
    generalize getP s1 = gx at *
    obtain ⟨x, f⟩ := gx
    simp only at G1 F1
    generalize putP y = t at *
    generalize errP y = h at *
    have HP1 := Lib.hid P1
    have HP2 := Lib.hid P2
    have HG1 := Lib.hid G1
    have HG2 := Lib.hid G2
    clear P1 P2 G1 G2 hl hb2
    rcases F1 with ⟨rfl, hx, hs14⟩ | ⟨rfl, rfl⟩
    · have hx1 : x = r := congrArg Gp.r hx
      have hx2 : f = 0 := congrArg Gp.err hx
      subst hx1 hx2
      clear hx
      have hs14' : (s1.size : Int) = 14 := by omega
      clear hs14
      go_enter Tryd.func5, Tryd.ntmps5
      go_wp2_with fail
      refine (HP1.out _ HW0.out).mono ?_
      rintro e w1 ⟨rfl, hb1⟩
      have HR1 := Lib.hid (HR0.out.same hb1)
      have HW1 := Lib.hid (HW0.out.same hb1)
      have HB1 := Lib.hid (HB0.out.trans (hb1.mono HB0.out.size))
      clear hb1 HR0 HW0 HB0
      go_wp2_with fail
      refine (HG1.out _ HW1.out).mono ?_
      rintro e w2 ⟨rfl, hb2⟩
      have hR2 := HR1.out.same hb2
      obtain ⟨a0, a1, a2, a3, a4, a5, a6, a7, a8⟩ := hR2.nine
      have hA := cell_lt a0
      simp only at hA
      have hB2 := HB1.out.trans (hb2.mono HB1.out.size)
      obtain ⟨w2', hw2⟩ : ∃ w2', w2' = w2.alloc (.cells (psCells x).toArray 25) := ⟨_, rfl⟩
      have hbn2 : Below w2.heap.size w2 w2' := by rw [hw2]; exact (Below.refl _ _).alloc (Nat.le_refl _) _
      have HW2 := Lib.hid ((HW1.out.same hb2).same hbn2)
      have HB2 := Lib.hid (hB2.trans (hbn2.mono hB2.size))
      simp only [psCells] at hw2
      clear hb2 hR2 hB2 hbn2 HR1 HB1 HW1
      go_wp2_with fail
      rw [← hw2]
      clear hw2 a0 a1 a2 a3 a4 a5 a6 a7 a8
      rcases F2 with ⟨rfl, rfl, rfl⟩ | hg
      all_goals
        refine (HG2.out _ HW2.out).mono ?_
        rintro e w3 ⟨rfl, hb3⟩
        have hb2x : Below w2'.heap.size w2' w3 := hb3
        have hb3' := (HB2.out).trans (hb3.mono HB2.out.size)
        have HW3 := Lib.hid (HW2.out.same hb3)
        have HB3 := Lib.hid hb3'
        have hsz3 := hb3'.size
        clear hb3 hb3' hb2x
        go_wp2_with fail
        have hbn : Below w3.heap.size w3 (w3.alloc (.cells (psCells y).toArray 25)) := (Below.refl _ _).alloc (Nat.le_refl _) _
        refine (HP2.out _ (HW3.out.same hbn)).mono ?_
        rintro e w4 ⟨rfl, hb4⟩
        have hb4' := (HB3.out.trans (hbn.mono hsz3)).trans (hb4.mono (by rw [alloc_size]; omega))
        have HW4 := Lib.hid ((HW3.out.same hbn).same hb4)
        have HB4 := Lib.hid hb4'
        have hsz4 := hb4'.size
        clear hb4 hb4' hbn HB2 HB3 HW2 HW3
        go_wp2_with (go_at_call 11; refine (HZ.out _ HW4.out).mono ?_; rintro e w5 ⟨rfl, hb5⟩)
        go_ret
        exact ⟨rfl, HB4.out.trans (hb5.mono hsz4)⟩
    · go_enter Tryd.func5, Tryd.ntmps5
      go_wp2_with fail
      refine (HP1.out _ HW0.out).mono ?_
      rintro e w1 ⟨rfl, hb1⟩
      have HW1 := Lib.hid (HW0.out.same hb1)
      have HB1 := Lib.hid (HB0.out.trans (hb1.mono HB0.out.size))
      clear hb1 HR0 HW0 HB0
      go_wp2_with fail
      refine (HG1.out _ HW1.out).mono ?_
      rintro e w2 ⟨rfl, hb2⟩
      have hB2 := HB1.out.trans (hb2.mono HB1.out.size)
      obtain ⟨w2', hw2⟩ : ∃ w2', w2' = w2.alloc (.cells (psCells x).toArray 25) := ⟨_, rfl⟩
      have hbn2 : Below w2.heap.size w2 w2' := by rw [hw2]; exact (Below.refl _ _).alloc (Nat.le_refl _) _
      have HW2 := Lib.hid ((HW1.out.same hb2).same hbn2)
      have HB2 := Lib.hid (hB2.trans (hbn2.mono hB2.size))
      simp only [psCells] at hw2
      clear hb2 hB2 hbn2 HB1 HW1
      go_wp2_with fail
      rw [← hw2]
      clear hw2
      rcases F2 with ⟨rfl, rfl, rfl⟩ | hg
      all_goals
        refine (HG2.out _ HW2.out).mono ?_
        rintro e w3 ⟨rfl, hb3⟩
        have hb2x : Below w2'.heap.size w2' w3 := hb3
        have hb3' := (HB2.out).trans (hb3.mono HB2.out.size)
        have HW3 := Lib.hid (HW2.out.same hb3)
        have HB3 := Lib.hid hb3'
        have hsz3 := hb3'.size
        clear hb3 hb3' hb2x
        go_wp2_with fail
        have hbn : Below w3.heap.size w3 (w3.alloc (.cells (psCells y).toArray 25)) := (Below.refl _ _).alloc (Nat.le_refl _) _
        refine (HP2.out _ (HW3.out.same hbn)).mono ?_
        rintro e w4 ⟨rfl, hb4⟩
        have hb4' := (HB3.out.trans (hbn.mono hsz3)).trans (hb4.mono (by rw [alloc_size]; omega))
        have HW4 := Lib.hid ((HW3.out.same hbn).same hb4)
        have HB4 := Lib.hid hb4'
        have hsz4 := hb4'.size
        clear hb4 hb4' hbn HB2 HB3 HW2 HW3
        go_wp2_with (go_at_call 11; refine (HZ.out _ HW4.out).mono ?_; rintro e w5 ⟨rfl, hb5⟩)
        go_ret
        exact ⟨rfl, HB4.out.trans (hb5.mono hsz4)⟩
end Go.Proofs.YtmohgbnfhpffjaaDoor
