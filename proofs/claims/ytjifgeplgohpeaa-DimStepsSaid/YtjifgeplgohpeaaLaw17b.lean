/-
  The statement DimSteps of layer 17 (dim). No condition.
-/
import Derived.Test.YtjifgeplgohpeaaLaw17
import Derived.Deep.DeepCutAuto
namespace Go.Proofs.Ytjifgeplgohpeaa
open Go.RowKit
set_option linter.unusedVariables false

/-- A window of the law. -/
structure DW where
  v : Int
  d : Int
  o : Bool
  clr : Bool
instance : Inhabited DW := ⟨⟨0, 0, false, false⟩⟩
def dwCells (x : DW) : List Value := [.int .i64 x.v, .int .i64 x.d, .bool x.o, .bool x.clr]
theorem dw_of (cs : List Value) (h : Fits [IsI .i64, IsI .i64, IsB, IsB] cs) : ∃ x : DW, cs = dwCells x ∧ True := by
  obtain ⟨_, _, rfl, ⟨a, rfl, _⟩, h0⟩ := fits_cons h
  obtain ⟨_, _, rfl, ⟨b, rfl, _⟩, h1⟩ := fits_cons h0
  obtain ⟨_, _, rfl, ⟨c, rfl⟩, h2⟩ := fits_cons h1
  obtain ⟨_, _, rfl, ⟨d, rfl⟩, h3⟩ := fits_cons h2
  obtain rfl := fits_nil h3
  exact ⟨⟨a, b, c, d⟩, rfl, trivial⟩

/-- What stands at the head of a round: the dimmer and the document's, alike; nothing old has changed. -/
structure Ds (w wr : World) (A C : Nat) (n tier held : Int) : Prop where
  ok : DOk n tier
  a : DimAt wr A n tier held
  c : IsObj wr C 74 [.int .i64 n, .int .i64 tier, .int .i64 held]
  below : Below w.heap.size w wr

theorem trip_only {b i A : Nat} {v d o : Value} {W W1 : World} (ho : Only A W W1) (hne : b ≠ A) (h : W.cell? ⟨b, i, none⟩ = some v ∧ W.cell? ⟨b, i + 1, none⟩ = some d ∧ W.cell? ⟨b, i + 2, none⟩ = some o) : W1.cell? ⟨b, i, none⟩ = some v ∧ W1.cell? ⟨b, i + 1, none⟩ = some d ∧ W1.cell? ⟨b, i + 2, none⟩ = some o :=
  ⟨ho.keep h.1 hne, ho.keep h.2.1 hne, ho.keep h.2.2 hne⟩
theorem six_keep {n m i : Nat} {x y z v d o : Value} {W W1 : World} (hb : Below W.heap.size W W1) (h : W.cell? ⟨n, 0, none⟩ = some x ∧ W.cell? ⟨n, 1, none⟩ = some y ∧ W.cell? ⟨n, 2, none⟩ = some z ∧ W.cell? ⟨m, i, none⟩ = some v ∧ W.cell? ⟨m, i + 1, none⟩ = some d ∧ W.cell? ⟨m, i + 2, none⟩ = some o) :
    W1.cell? ⟨n, 0, none⟩ = some x ∧ W1.cell? ⟨n, 1, none⟩ = some y ∧ W1.cell? ⟨n, 2, none⟩ = some z ∧ W1.cell? ⟨m, i, none⟩ = some v ∧ W1.cell? ⟨m, i + 1, none⟩ = some d ∧ W1.cell? ⟨m, i + 2, none⟩ = some o :=
  ⟨cell_keep hb h.1, cell_keep hb h.2.1, cell_keep hb h.2.2.1, cell_keep hb h.2.2.2.1, cell_keep hb h.2.2.2.2.1, cell_keep hb h.2.2.2.2.2⟩

set_option maxRecDepth 100000 in
set_option maxHeartbeats 8000000 in
theorem dsteps_walk (n : Int) (a : Option Addr) (c : Nat) (l : List DW) (k : Int) (w : World) (g1 : l.length ≤ c) (g2 : c ≤ 9223372036854775807) (hA : RowOf dwCells 4 w a l) : Calls Try.prog 8 #[.int .i64 n, .slice a l.length c, .int .i64 k] w fun e w' => e = .returned (.bool true) ∧ Below w.heap.size w w' := by
  have HA := Lib.hid hA
  clear hA
  by_cases hl : 200 < l.length
  · go_enter Try.func8, Try.ntmps8
    go_wp2_with (go_at_call 31; refine (awake17 _).mono ?_; rintro e w1 ⟨rfl, hb⟩)
    go_ret
    exact ⟨rfl, hb⟩
  · have d1 : decide ((200 : Int) < (l.length : Int)) = false := by simp; omega
    have l1 : l.length ≤ 200 := by omega
    clear hl
    by_cases hn : n < 0 ∨ 7 < n
    · have hd : decide (n < 0) = true ∨ (decide (n < 0) = false ∧ decide (n > 7) = true) := by
        by_cases h0 : n < 0
        · exact .inl (by simpa using h0)
        · exact .inr ⟨by simpa using h0, by simp; omega⟩
      rcases hd with hd | ⟨hd, hd2⟩
      all_goals
        go_enter Try.func8, Try.ntmps8
        go_wp2_with (first | (go_at_call 32; (with_reducible refine (dimNew_bad _ hn _).mono ?_); rintro e w' ⟨rfl, rfl⟩) | (go_at_call 31; refine (awake17 _).mono ?_; rintro e w1 ⟨rfl, hb⟩))
        go_ret
        exact ⟨rfl, hb⟩
    · have hn0 : 0 ≤ n := by omega
      have hn7 : n ≤ 7 := by omega
      have hd : decide (n < 0) = false := by simp; omega
      have hd2 : decide (n > 7) = false := by simp; omega
      clear hn
      go_enter Try.func8, Try.ntmps8
      go_wp2_with fail
      refine (dimNew_any n hn0 hn7 _).mono ?_
      rintro e w1 ⟨rfl, hT, hb, hs⟩
      have HT := Lib.hid hT
      have HB := Lib.hid hb
      clear hT hb
      go_wp2_with fail
      refine (rdNew_any n _).mono ?_
      rintro e w2 ⟨rfl, hb2⟩
      have HB2 := Lib.hid hb2
      clear hb2
      go_wp2_with fail
      have HS : Hid (Ds w (w2.alloc (.cells #[.int .i64 n, .int .i64 n, .int .i64 32] 74)) w.heap.size w2.heap.size n n 32) := by
        have s1 := HB.out.size
        have s2 := HB2.out.size
        exact Lib.hid ⟨⟨hn7, hn0, Int.le_refl _⟩, (HT.out.same HB2.out).alloc _, IsObj.new w2 _ [.int .i64 n, .int .i64 n, .int .i64 32], (HB.out.trans (HB2.out.mono s1)).alloc (by omega) _⟩
      have hAC : w.heap.size < w2.heap.size := by
        have s2 := HB2.out.size
        omega
      obtain ⟨C, hC⟩ : ∃ C, C = w2.heap.size := ⟨_, rfl⟩
      obtain ⟨W1, hW1⟩ : ∃ W1, W1 = w2.alloc (.cells #[.int .i64 n, .int .i64 n, .int .i64 32] 74) := ⟨_, rfl⟩
      rw [← hW1] at HS ⊢
      rw [← hC] at HS hAC ⊢
      clear HT HB HB2 hC hW1 hs hd hd2
      go_loopw [10] (fun i wr => ∃ (j : Nat) (tier held : Int), j ≤ l.length ∧ i = .int .i64 j ∧ Ds w wr w.heap.size C n tier held) (fun i _ => l.length - (intOf i).toNat)
      case atStart => exact ⟨0, n, 32, Nat.zero_le _, rfl, HS.out⟩
      case round =>
        obtain ⟨j, tier, held, hj, rfl, hDs⟩ := hrel
        have HDs := Lib.hid hDs
        have x0 : wr.cell? ⟨C, 0, none⟩ = some (.int .i64 n) := hDs.c.cell 0
        have x1 : wr.cell? ⟨C, 1, none⟩ = some (.int .i64 tier) := hDs.c.cell 1
        have x2 : wr.cell? ⟨C, 2, none⟩ = some (.int .i64 held) := hDs.c.cell 2
        have xf0 := hDs.c.free 0
        have xf1 := hDs.c.free 1
        have xf2 := hDs.c.free 2
        have hCl := hDs.c.lt
        clear hDs HS
        by_cases hlt : j < l.length
        · obtain ⟨b, off, rfl, hc⟩ : ∃ b off, a = some ⟨b, off, none⟩ ∧ ∀ i, i < 4 → w.cell? ⟨b, off + j * 4 + i, none⟩ = (dwCells (nth l j))[i]? := by
            rcases HA.out with rfl | ⟨b, off, rfl, hc⟩
            · simp at hlt
            · exact ⟨b, off, rfl, hc j hlt⟩
          have p0 : w.cell? ⟨b, off + j * 4, none⟩ = some (.int .i64 (nth l j).v) := hc 0 (by omega)
          have p1 : w.cell? ⟨b, off + j * 4 + 1, none⟩ = some (.int .i64 (nth l j).d) := hc 1 (by omega)
          have p2 : w.cell? ⟨b, off + j * 4 + 2, none⟩ = some (.bool (nth l j).o) := hc 2 (by omega)
          have p3 : w.cell? ⟨b, off + j * 4 + 3, none⟩ = some (.bool (nth l j).clr) := hc 3 (by omega)
          have hbl := cell_lt p0
          simp at hbl
          have c0 := cell_keep HDs.out.below p0
          have c1 := cell_keep HDs.out.below p1
          have c2 := cell_keep HDs.out.below p2
          have c3 := cell_keep HDs.out.below p3
          have i1 : (0 : Int) ≤ (j : Int) := by omega
          have i2 : (j : Int) < (l.length : Int) := by omega
          obtain ⟨x, hx⟩ : ∃ x, x = nth l j := ⟨_, rfl⟩
          rw [← hx] at c0 c1 c2 c3
          clear hc p0 p1 p2 p3 hx
          cases hclr : x.clr with
          | true =>
            rw [hclr] at c3
            go_wp2_with fail
            refine (dclear_any _ _ _ _ _ HDs.out.a).mono ?_
            rintro e w2 ⟨rfl, hT2, hO2⟩
            go_wp2_with fail
            refine (rdNew_any n _).mono ?_
            rintro e w3 ⟨rfl, hb3⟩
            have hc2 : IsObj w2 C 74 [.int .i64 n, .int .i64 tier, .int .i64 held] := HDs.out.c.only hO2 (by omega)
            have hc3 : IsObj w3 C 74 [.int .i64 n, .int .i64 tier, .int .i64 held] := IsObj.below hc2 hb3 hc2.lt
            have y0 := hc3.cell 0
            have y1 := hc3.cell 1
            have y2 := hc3.cell 2
            have yf0 := hc3.free 0
            have yf1 := hc3.free 1
            have yf2 := hc3.free 2
            simp only [List.getElem?_cons_zero, List.getElem?_cons_succ] at y0 y1 y2
            have HC3 := Lib.hid hc3
            have HT3 := Lib.hid (DimAt.same hT2 hb3)
            have HB3 : Hid (Below w.heap.size w w3) := by
              have s1 := HDs.out.below.size
              have s2 := hO2.size
              exact Lib.hid ((HDs.out.below.trans (hO2.below (Nat.le_refl _) s1)).trans (hb3.mono (by omega)))
            clear hT2 hO2 hc2 hb3 hc3 c0 c1 c2 c3 x0 x1 x2 xf0 xf1 xf2
            go_wp2_with fail
            have hDs4 : Ds w (((w3.setCell ⟨C, 0, none⟩ (.int .i64 n)).setCell ⟨C, 1, none⟩ (.int .i64 n)).setCell ⟨C, 2, none⟩ (.int .i64 32)) w.heap.size C n n 32 :=
              ⟨⟨hn7, hn0, Int.le_refl _⟩, ((IsObj.setOther HT3.out _ _ (by simp; omega)).setOther _ _ (by simp; omega)).setOther _ _ (by simp; omega), ((HC3.out.set 0 (.int .i64 n)).set 1 (.int .i64 n)).set 2 (.int .i64 32), ((HB3.out.setCell (by simp; omega) _).setCell (by simp; omega) _).setCell (by simp; omega) _⟩
            have HDs4 := Lib.hid hDs4
            clear hDs4
            obtain ⟨W, hW⟩ : ∃ W, W = (((w3.setCell ⟨C, 0, none⟩ (.int .i64 n)).setCell ⟨C, 1, none⟩ (.int .i64 n)).setCell ⟨C, 2, none⟩ (.int .i64 32)) := ⟨_, rfl⟩
            rw [← hW] at HDs4 ⊢
            clear hW y0 y1 y2 yf0 yf1 yf2
            have z1 : W.cell? ⟨C, 1, none⟩ = some (.int .i64 n) := HDs4.out.c.cell 1
            have z2 : W.cell? ⟨C, 2, none⟩ = some (.int .i64 32) := HDs4.out.c.cell 2
            go_quiet ((first | (go_at_call 34; first | (with_reducible exact quiet_left (dtier_any _ _ _ _ _ (HDs4.out.a.drewN _))) | (with_reducible exact quiet_add_left (dtier_any _ _ _ _ _ (HDs4.out.a.drewN _)))) | (go_at_call 41; first | (with_reducible exact quiet_left (dheld_any _ _ _ _ _ (HDs4.out.a.drewN _))) | (with_reducible exact quiet_add_left (dheld_any _ _ _ _ _ (HDs4.out.a.drewN _)))) | (go_at_call 42; first | (with_reducible exact quiet_left (permits_any _ _ _ _ _ _ (HDs4.out.a.drewN _))) | (with_reducible exact quiet_add_left (permits_any _ _ _ _ _ _ (HDs4.out.a.drewN _))))))
            go_wp2
            go_roundw
            case rel =>
              have h := HDs4.out
              exact ⟨j + 1, n, 32, by omega, by go_num, h.ok, h.a.drewN _, h.c.drewN _, below_drewN h.below _⟩
            case measure => simp [intOf]; omega
          | false =>
            rw [hclr] at c3
            have hbl2 : b < wr.heap.size := Nat.lt_of_lt_of_le hbl HDs.out.below.size
            go_upto_region 13 with (fail)
            go_cut [11, 12] (fun s11 s12 wx => ∃ g : Nat, s11 = .pointer (some ⟨g, 0, none⟩) ∧ s12 = .bool (dstep n tier held x.v x.o x.d).is ∧ wx.cell? ⟨g, 0, none⟩ = some (.int .i64 n) ∧ wx.cell? ⟨g, 1, none⟩ = some (.int .i64 (dstep n tier held x.v x.o x.d).tier) ∧ wx.cell? ⟨g, 2, none⟩ = some (.int .i64 (dstep n tier held x.v x.o x.d).held) ∧ wr.heap.size ≤ g ∧ Below wr.heap.size wr wx)
            case first =>
              have n1 : C ≠ wr.heap.size := by omega
              have n2 : b ≠ wr.heap.size := by omega
              have n3 := World.new_ne wr _ x0
              have n4 := World.new_ne wr _ x1
              have n7 := World.new_ne wr _ x2
              have n5 := World.new_ne wr _ c0
              have n6 := World.new_ne wr _ c1
              have n8 := World.new_ne wr _ c2
              go_region_held3 (fun w' => w'.cell? ⟨C, 0, none⟩ = some (.int .i64 n) ∧ w'.cell? ⟨C, 1, none⟩ = some (.int .i64 tier) ∧ w'.cell? ⟨C, 2, none⟩ = some (.int .i64 held) ∧ w'.cell? ⟨b, off + j * 4, none⟩ = some (.int .i64 x.v) ∧ w'.cell? ⟨b, off + j * 4 + 1, none⟩ = some (.int .i64 x.d) ∧ w'.cell? ⟨b, off + j * 4 + 2, none⟩ = some (.bool x.o)) (first | go_keep | assumption)
                (first | (go_at_call 40; with_reducible refine (rdstep_any _ _ _ _ _ _ _ HDs.out.ok).mono ?_; rintro e w2 ⟨rfl, hb2⟩; obtain ⟨u2, rfl⟩ := ext_of hb2; have hk2 := six_keep (W1 := ext _ u2) u2.below (by assumption); clear hb2))
              all_goals
                go_wp2_with fail
                go_meet
              · exact ⟨_, rfl, rfl, cell_new _ _ _ 0, cell_new _ _ _ 1, cell_new _ _ _ 2, ext_size u2, (below_ext u2 (Below.refl _ _).drew (by simp)).alloc (ext_size u2) _⟩
              · have ho : IsObj (ext (wr.alloc (.cells #[.int .i64 0, .int .i64 0, .int .i64 0] 74)).drew u2) wr.heap.size 74 [.int .i64 0, .int .i64 0, .int .i64 0] := IsObj.below (IsObj.drew (IsObj.new wr _ [.int .i64 0, .int .i64 0, .int .i64 0])) u2.below (by simp)
                have ho2 := ((ho.set 0 (.int .i64 n)).set 1 (.int .i64 (dstep n tier held x.v x.o x.d).tier)).set 2 (.int .i64 (dstep n tier held x.v x.o x.d).held)
                exact ⟨wr.heap.size, rfl, rfl, ho2.cell 0, ho2.cell 1, ho2.cell 2, Nat.le_refl _, (((below_ext u2 ((Below.refl _ _).alloc (Nat.le_refl _) _).drew (by simp)).setCell (Nat.le_refl _) _).setCell (Nat.le_refl _) _).setCell (Nat.le_refl _) _⟩
            case rest =>
              obtain ⟨g, rfl, rfl, e0, e1, e2, hg, hbx⟩ := hcut
              have hA1 : DimAt wc w.heap.size n tier held := HDs.out.a.same hbx
              have hC1 : IsObj wc C 74 [.int .i64 n, .int .i64 tier, .int .i64 held] := HDs.out.c.below hbx hCl
              have hw1 : Below w.heap.size w wc := HDs.out.below.trans (hbx.mono HDs.out.below.size)
              have y0 : wc.cell? ⟨C, 0, none⟩ = some (.int .i64 n) := hC1.cell 0
              have y1 : wc.cell? ⟨C, 1, none⟩ = some (.int .i64 tier) := hC1.cell 1
              have y2 : wc.cell? ⟨C, 2, none⟩ = some (.int .i64 held) := hC1.cell 2
              have yf0 := hC1.free 0
              have yf1 := hC1.free 1
              have yf2 := hC1.free 2
              have k0 := cell_keep hbx c0
              have k1 := cell_keep hbx c1
              have k2 := cell_keep hbx c2
              have HOK := Lib.hid HDs.out.ok
              have hok2 := dok_step HDs.out.ok held x.v x.o x.d
              have St := fun (W : World) (h : DimAt W w.heap.size n tier held) => dstep_any w.heap.size n tier held x.v x.d x.o W h HDs.out.ok
              obtain ⟨s, hs3⟩ : ∃ s, s = dstep n tier held x.v x.o x.d := ⟨_, rfl⟩
              rw [← hs3] at e1 e2 hok2 ⊢
              rw [← hs3] at St
              have HOK2 := Lib.hid hok2
              have HST := Lib.hid St
              have hA2 : DimAt (((wc.setCell ⟨C, 0, none⟩ (.int .i64 n)).setCell ⟨C, 1, none⟩ (.int .i64 s.tier)).setCell ⟨C, 2, none⟩ (.int .i64 s.held)) w.heap.size n tier held := ((IsObj.setOther hA1 _ _ (by simp; omega)).setOther _ _ (by simp; omega)).setOther _ _ (by simp; omega)
              have hC2 := ((hC1.set 0 (.int .i64 n)).set 1 (.int .i64 s.tier)).set 2 (.int .i64 s.held)
              have hw2 := ((hw1.setCell (p := ⟨C, 0, none⟩) (by simp; omega) (.int .i64 n)).setCell (p := ⟨C, 1, none⟩) (by simp; omega) (.int .i64 s.tier)).setCell (p := ⟨C, 2, none⟩) (by simp; omega) (.int .i64 s.held)
              have m0 := (cell_keep (W := w) (W1 := _) (p := ⟨b, off + j * 4, none⟩) hw2 (by rw [← hw1.cell (p := ⟨b, off + j * 4, none⟩) hbl]; exact k0))
              have m1 := (cell_keep (W := w) (W1 := _) (p := ⟨b, off + j * 4 + 1, none⟩) hw2 (by rw [← hw1.cell (p := ⟨b, off + j * 4 + 1, none⟩) hbl]; exact k1))
              have m2 := (cell_keep (W := w) (W1 := _) (p := ⟨b, off + j * 4 + 2, none⟩) hw2 (by rw [← hw1.cell (p := ⟨b, off + j * 4 + 2, none⟩) hbl]; exact k2))
              have HA2 := Lib.hid hA2
              have HC2 := Lib.hid hC2
              have HW2 := Lib.hid hw2
              have M0 := Lib.hid m0
              have M1 := Lib.hid m1
              have M2 := Lib.hid m2
              clear hA1 hC1 hw1 k0 k1 k2 hok2 St hs3 hA2 hC2 hw2 m0 m1 m2 c0 c1 c2 c3 x0 x1 x2 xf0 xf1 xf2 hbx
              go_wp2_with fail
              obtain ⟨W, hW⟩ : ∃ W, W = (((wc.setCell ⟨C, 0, none⟩ (.int .i64 n)).setCell ⟨C, 1, none⟩ (.int .i64 s.tier)).setCell ⟨C, 2, none⟩ (.int .i64 s.held)) := ⟨_, rfl⟩
              rw [← hW] at HA2 HC2 HW2 M0 M1 M2 ⊢
              clear hW y0 y1 y2 yf0 yf1 yf2 e0 e1 e2
              have c0 := M0.out
              have c1 := M1.out
              have c2 := M2.out
              have HA3 : Hid (DimAt W.drew w.heap.size n tier held) := Lib.hid (IsObj.drew HA2.out)
              clear M0 M1 M2
              go_region_held3 (fun w' => w'.cell? ⟨b, off + j * 4, none⟩ = some (.int .i64 x.v) ∧ w'.cell? ⟨b, off + j * 4 + 1, none⟩ = some (.int .i64 x.d) ∧ w'.cell? ⟨b, off + j * 4 + 2, none⟩ = some (.bool x.o)) (first | go_keep | assumption)
                (first | (go_at_call 33; with_reducible refine (HST.out _ HA3.out).mono ?_; rintro e w2 ⟨rfl, hT2, hO2⟩; have hp2 := trip_only (b := b) (i := off + j * 4) (v := .int .i64 x.v) (d := .int .i64 x.d) (o := .bool x.o) hO2 (by omega) (by assumption)))
              all_goals
                have s1 := HW2.out.size
                have s2 := hO2.size
                simp at s2
                have hC3 : IsObj w2 C 74 [.int .i64 n, .int .i64 s.tier, .int .i64 s.held] := IsObj.only (w := W.drew) (IsObj.drew HC2.out) hO2 (by omega)
                have hB9 : Below w.heap.size w w2 := HW2.out.drew.trans (hO2.below (Nat.le_refl _) (by simp; omega))
                have z0 : w2.cell? ⟨C, 0, none⟩ = some (.int .i64 n) := hC3.cell 0
                have z1 : w2.cell? ⟨C, 1, none⟩ = some (.int .i64 s.tier) := hC3.cell 1
                have z2 : w2.cell? ⟨C, 2, none⟩ = some (.int .i64 s.held) := hC3.cell 2
                have HDs4 : Hid (Ds w w2 w.heap.size C n s.tier s.held) := Lib.hid ⟨HOK2.out, hT2, hC3, hB9⟩
                clear hC3 s1 s2 hB9 hT2 hO2 hp2 c0 c1 c2
                go_wp2_with fail
                go_quiet ((first | (go_at_call 34; first | (with_reducible exact quiet_left (dtier_any _ _ _ _ _ (HDs4.out.a.drewN _))) | (with_reducible exact quiet_add_left (dtier_any _ _ _ _ _ (HDs4.out.a.drewN _)))) | (go_at_call 41; first | (with_reducible exact quiet_left (dheld_any _ _ _ _ _ (HDs4.out.a.drewN _))) | (with_reducible exact quiet_add_left (dheld_any _ _ _ _ _ (HDs4.out.a.drewN _)))) | (go_at_call 42; first | (with_reducible exact quiet_left (permits_any _ _ _ _ _ _ (HDs4.out.a.drewN _))) | (with_reducible exact quiet_add_left (permits_any _ _ _ _ _ _ (HDs4.out.a.drewN _))))))
                go_wp2
                go_roundw
                case rel =>
                  have h := HDs4.out
                  exact ⟨j + 1, s.tier, s.held, by omega, by go_num, h.ok, h.a.drewN _, h.c.drewN _, below_drewN h.below _⟩
                case measure => simp [intOf]; omega
        · have hbx := HDs.out.below
          have HBX := Lib.hid hbx
          clear hbx
          go_wp2_with fail
          ((first | (with_reducible refine region_ext2 (by kernel_rfl) (by kernel_rfl) ?_) | (refine region_ext (by kernel_rfl) (by kernel_rfl) ?_)); (repeat (quiet_step ((first | (go_at_call 34; with_reducible exact ext_same (dtier_any _ _ _ _ _ (DimAt.ext HDs.out.a _))) | (go_at_call 42; with_reducible exact ext_same (permits_any _ _ _ _ _ _ (DimAt.ext HDs.out.a _))) | (go_at_call 31; with_reducible exact ext_below (awake17 _)))))); refine wpQuiet_nil ?_; rintro _ ⟨uq, rfl⟩)
          go_wp2
          go_ret
          exact ⟨rfl, below_ext uq HBX.out HBX.out.size⟩

theorem opens_dw {W : World} : Opens Try.prog W 77 [IsI .i64, IsI .i64, IsB, IsB] :=
  opens_struct (ss := [[IsI .i64], [IsI .i64], [IsB], [IsB]]) Try.underlying77 (by kernel_rfl)
    ⟨rfl, by kernel_rfl, opens_int Try.underlying3, rfl, by kernel_rfl, opens_int Try.underlying3, rfl, by kernel_rfl, opens_bool Try.underlying4, rfl, by kernel_rfl, opens_bool Try.underlying4, trivial⟩
theorem dsteps_done : Walk 8 Try.f8 := by
  intro W args hs hc
  rw [Try.params8] at hs hc
  obtain ⟨l⟩ := args
  match l, hs with
  | [v0, v1, v2], _ =>
    obtain ⟨n, rfl, _⟩ := came_int Try.underlying3 (hc 0 3 v0 rfl rfl)
    obtain ⟨a, c, l, rfl, g1, g2, _, hl⟩ := row_of_sl (k := 4) (cells := dwCells) (fun _ => True) (by omega) dw_of (came_slice Try.underlying72 (ps := [IsI .i64, IsI .i64, IsB, IsB]) (by kernel_rfl) opens_dw (hc 1 72 v1 rfl rfl))
    obtain ⟨k, rfl, _⟩ := came_int Try.underlying3 (hc 2 3 v2 rfl rfl)
    exact dsteps_walk n a c l k W g1 g2 hl
end Go.Proofs.Ytjifgeplgohpeaa
