/-
  The statement TurnSteps of layer 16 (turn). No condition.
-/
import Derived.Test.YtfganiicdnkdlaaLaw16
import Derived.Deep.DeepCutAuto
namespace Go.Proofs.Ytfganiicdnkdlaa
open Go.RowKit
set_option linter.unusedVariables false

/-- A window of the law. -/
structure TW where
  v : Int
  d : Int
  clr : Bool
instance : Inhabited TW := ⟨⟨0, 0, false⟩⟩
def twCells (x : TW) : List Value := [.int .i64 x.v, .int .i64 x.d, .bool x.clr]
theorem twCells_len (x : TW) : (twCells x).length = 3 := rfl
theorem tw_of (cs : List Value) (h : Fits [IsI .i64, IsI .i64, IsB] cs) : ∃ x : TW, cs = twCells x ∧ True := by
  obtain ⟨_, _, rfl, ⟨a, rfl, _⟩, h0⟩ := fits_cons h
  obtain ⟨_, _, rfl, ⟨b, rfl, _⟩, h1⟩ := fits_cons h0
  obtain ⟨_, _, rfl, ⟨c, rfl⟩, h2⟩ := fits_cons h1
  obtain rfl := fits_nil h2
  exact ⟨⟨a, b, c⟩, rfl, trivial⟩

/-- What stands at the head of a round: two turns and the document's, alike; nothing old has changed. -/
structure Ts (w wr : World) (A B C : Nat) (way held : Int) : Prop where
  ok : TOk way held
  a : TurnAt wr A way held
  b : TurnAt wr B way held
  c : IsObj wr C 61 [.int .i64 way, .int .i64 held]
  below : Below w.heap.size w wr
theorem two_keep {n m i : Nat} {x y : Int} {v d : Value} {W W1 : World} (hb : Below W.heap.size W W1) (h : W.cell? ⟨n, 0, none⟩ = some (.int .i64 x) ∧ W.cell? ⟨n, 1, none⟩ = some (.int .i64 y) ∧ W.cell? ⟨m, i, none⟩ = some v ∧ W.cell? ⟨m, i + 1, none⟩ = some d) :
    W1.cell? ⟨n, 0, none⟩ = some (.int .i64 x) ∧ W1.cell? ⟨n, 1, none⟩ = some (.int .i64 y) ∧ W1.cell? ⟨m, i, none⟩ = some v ∧ W1.cell? ⟨m, i + 1, none⟩ = some d :=
  ⟨cell_keep hb h.1, cell_keep hb h.2.1, cell_keep hb h.2.2.1, cell_keep hb h.2.2.2⟩
theorem pair_only {b i A : Nat} {v d : Value} {W W1 : World} (ho : Only A W W1) (hne : b ≠ A) (h : W.cell? ⟨b, i, none⟩ = some v ∧ W.cell? ⟨b, i + 1, none⟩ = some d) : W1.cell? ⟨b, i, none⟩ = some v ∧ W1.cell? ⟨b, i + 1, none⟩ = some d :=
  ⟨ho.keep h.1 hne, ho.keep h.2 hne⟩

set_option maxRecDepth 100000 in
set_option maxHeartbeats 8000000 in
theorem steps_walk (a : Option Addr) (c : Nat) (l : List TW) (w : World) (g1 : l.length ≤ c) (g2 : c ≤ 9223372036854775807) (hA : RowOf twCells 3 w a l) : Calls Try.prog 6 #[.slice a l.length c] w fun e w' => e = .returned (.bool true) ∧ Below w.heap.size w w' := by
  have HA := Lib.hid hA
  clear hA
  by_cases hl : 200 < l.length
  · go_enter Try.func6, Try.ntmps6
    go_wp2_with (go_at_call 27; refine (awake16 _).mono ?_; rintro e w1 ⟨rfl, hb⟩)
    go_ret
    exact ⟨rfl, hb⟩
  · have d1 : decide ((200 : Int) < (l.length : Int)) = false := by simp; omega
    have l1 : l.length ≤ 200 := by omega
    clear hl
    go_enter Try.func6, Try.ntmps6
    go_wp2_with fail
    refine (turnNew_any _).mono ?_
    rintro e w1 ⟨rfl, hT, hb, hs⟩
    have HT := Lib.hid hT
    have HB := Lib.hid hb
    clear hT hb
    go_wp2_with fail
    have HS : Hid (Ts w ((w1.alloc (.cells #[.int .i64 0, .int .i64 0] 59)).alloc (.cells #[.int .i64 0, .int .i64 0] 61)) w.heap.size w1.heap.size (w1.heap.size + 1) 0 0) := by
      have s1 := HB.out.size
      refine ⟨tok0, (HT.out.alloc _).alloc _, IsObj.alloc (IsObj.new w1 _ [.int .i64 0, .int .i64 0]) _, ?_, (HB.out.alloc s1 _).alloc (by simp; omega) _⟩
      have := IsObj.new (w1.alloc (.cells #[.int .i64 0, .int .i64 0] 59)) 61 [.int .i64 0, .int .i64 0]
      simpa using this
    obtain ⟨B, hB⟩ : ∃ B, B = w1.heap.size := ⟨_, rfl⟩
    obtain ⟨C, hC⟩ : ∃ C, C = B + 1 := ⟨_, rfl⟩
    obtain ⟨W1, hW1⟩ : ∃ W1, W1 = (w1.alloc (.cells #[.int .i64 0, .int .i64 0] 59)).alloc (.cells #[.int .i64 0, .int .i64 0] 61) := ⟨_, rfl⟩
    rw [← hW1] at HS ⊢
    rw [← hB] at HS hs ⊢
    rw [← hC] at HS ⊢
    have hBC : B < C := by omega
    have hAC : w.heap.size < C := by omega
    clear HT HB hB hC hW1
    go_loopw [7] (fun i wr => ∃ (k : Nat) (way held : Int), k ≤ l.length ∧ i = .int .i64 k ∧ Ts w wr w.heap.size B C way held) (fun i _ => l.length - (intOf i).toNat)
    case atStart => exact ⟨0, 0, 0, Nat.zero_le _, rfl, HS.out⟩
    case round =>
      obtain ⟨k, way, held, hk, rfl, hTs⟩ := hrel
      have HTs := Lib.hid hTs
      have x0 : wr.cell? ⟨C, 0, none⟩ = some (.int .i64 way) := hTs.c.cell 0
      have x1 : wr.cell? ⟨C, 1, none⟩ = some (.int .i64 held) := hTs.c.cell 1
      have xf0 := hTs.c.free 0
      have xf1 := hTs.c.free 1
      have hCl := hTs.c.lt
      clear hTs HS
      by_cases hlt : k < l.length
      · obtain ⟨b, off, rfl, hc⟩ : ∃ b off, a = some ⟨b, off, none⟩ ∧ ∀ j, j < 3 → w.cell? ⟨b, off + k * 3 + j, none⟩ = (twCells (nth l k))[j]? := by
          rcases HA.out with rfl | ⟨b, off, rfl, hc⟩
          · simp at hlt
          · exact ⟨b, off, rfl, hc k hlt⟩
        have p0 : w.cell? ⟨b, off + k * 3, none⟩ = some (.int .i64 (nth l k).v) := hc 0 (by omega)
        have p1 : w.cell? ⟨b, off + k * 3 + 1, none⟩ = some (.int .i64 (nth l k).d) := hc 1 (by omega)
        have p2 : w.cell? ⟨b, off + k * 3 + 2, none⟩ = some (.bool (nth l k).clr) := hc 2 (by omega)
        have hbl := cell_lt p0
        simp at hbl
        have c0 := cell_keep HTs.out.below p0
        have c1 := cell_keep HTs.out.below p1
        have c2 := cell_keep HTs.out.below p2
        have i1 : (0 : Int) ≤ (k : Int) := by omega
        have i2 : (k : Int) < (l.length : Int) := by omega
        obtain ⟨x, hx⟩ : ∃ x, x = nth l k := ⟨_, rfl⟩
        rw [← hx] at c0 c1 c2
        clear hc p0 p1 p2 hx
        cases hclr : x.clr with
        | true =>
          rw [hclr] at c2
          go_wp2_with fail
          refine (tclear_any _ _ _ _ HTs.out.a).mono ?_
          rintro e w2 ⟨rfl, hT2, hO2⟩
          go_wp2_with fail
          refine (tclear_any _ _ _ _ (HTs.out.b.only hO2 (by omega))).mono ?_
          rintro e w3 ⟨rfl, hT3, hO3⟩
          go_wp2_with fail
          refine (tclear_nil _).mono ?_
          rintro e w4 ⟨rfl, rfl⟩
          have y0 := hO3.keep (hO2.keep x0 (by simp; omega)) (by simp; omega)
          have y1 := hO3.keep (hO2.keep x1 (by simp; omega)) (by simp; omega)
          have hc3 : IsObj w3 C 61 [.int .i64 way, .int .i64 held] := (HTs.out.c.only hO2 (by omega)).only hO3 (by omega)
          have yf0 := hc3.free 0
          have yf1 := hc3.free 1
          have HC3 := Lib.hid hc3
          have HT2 := Lib.hid (TurnAt.only hT2 hO3 (by omega))
          have HT3 := Lib.hid hT3
          have HB3 : Hid (Below w.heap.size w w3) := by
            have s1 := HTs.out.below.size
            have s2 := hO2.size
            exact (HTs.out.below.trans (hO2.below (Nat.le_refl _) s1)).trans (hO3.below (by omega) (by omega))
          clear hT2 hT3 hO2 hO3 hc3 c0 c1 c2 x0 x1 xf0 xf1
          go_wp2_with fail
          have hTs4 : Ts w ((w3.setCell ⟨C, 0, none⟩ (.int .i64 0)).setCell ⟨C, 1, none⟩ (.int .i64 0)) w.heap.size B C 0 0 :=
            ⟨tok0, (IsObj.setOther HT2.out _ _ (by simp; omega)).setOther _ _ (by simp; omega), (IsObj.setOther HT3.out _ _ (by simp; omega)).setOther _ _ (by simp; omega), (HC3.out.set 0 (.int .i64 0)).set 1 (.int .i64 0), (HB3.out.setCell (by simp; omega) _).setCell (by simp; omega) _⟩
          have HTs4 := Lib.hid hTs4
          clear hTs4
          obtain ⟨W, hW⟩ : ∃ W, W = (w3.setCell ⟨C, 0, none⟩ (.int .i64 0)).setCell ⟨C, 1, none⟩ (.int .i64 0) := ⟨_, rfl⟩
          rw [← hW] at HTs4 ⊢
          clear hW y0 y1 yf0 yf1
          have z0 : W.cell? ⟨C, 0, none⟩ = some (.int .i64 0) := HTs4.out.c.cell 0
          have z1 : W.cell? ⟨C, 1, none⟩ = some (.int .i64 0) := HTs4.out.c.cell 1
          go_quiet ((first | (go_at_call 30; first | (with_reducible exact quiet_left (way_any _ _ _ _ (HTs4.out.a.drewN _))) | (with_reducible exact quiet_add_left (way_any _ _ _ _ (HTs4.out.a.drewN _)))) | (go_at_call 30; first | (with_reducible exact quiet_left (way_any _ _ _ _ (HTs4.out.b.drewN _))) | (with_reducible exact quiet_add_left (way_any _ _ _ _ (HTs4.out.b.drewN _)))) | (go_at_call 33; first | (with_reducible exact quiet_left (held_any _ _ _ _ (HTs4.out.a.drewN _))) | (with_reducible exact quiet_add_left (held_any _ _ _ _ (HTs4.out.a.drewN _)))) | (go_at_call 30; first | (with_reducible exact quiet_left (way_nil _)) | (with_reducible exact quiet_add_left (way_nil _))) | (go_at_call 33; first | (with_reducible exact quiet_left (held_nil _)) | (with_reducible exact quiet_add_left (held_nil _)))))
          go_wp2
          go_roundw
          case rel =>
            have h := HTs4.out
            exact ⟨k + 1, 0, 0, by omega, by go_num, h.ok, h.a.drewN _, h.b.drewN _, h.c.drewN _, below_drewN h.below _⟩
          case measure => simp [intOf]; omega
        | false =>
          rw [hclr] at c2
          have n1 : C ≠ wr.heap.size := by omega
          have hbl2 : b < wr.heap.size := Nat.lt_of_lt_of_le hbl HTs.out.below.size
          have n2 : b ≠ wr.heap.size := by omega
          have n3 := World.new_ne wr _ x0
          have n4 := World.new_ne wr _ x1
          have n5 := World.new_ne wr _ c0
          have n6 := World.new_ne wr _ c1
          go_upto_region 14 with (fail)
          go_cut [8, 9] (fun s8 s9 wx => ∃ g : Nat, s8 = .pointer (some ⟨g, 0, none⟩) ∧ s9 = .int .i64 (tstep way held x.v x.d).ans ∧ wx.cell? ⟨g, 0, none⟩ = some (.int .i64 (tstep way held x.v x.d).way) ∧ wx.cell? ⟨g, 1, none⟩ = some (.int .i64 (tstep way held x.v x.d).held) ∧ wr.heap.size ≤ g ∧ Below wr.heap.size wr wx)
          case first =>
            go_region_held3 (fun w' => w'.cell? ⟨C, 0, none⟩ = some (.int .i64 way) ∧ w'.cell? ⟨C, 1, none⟩ = some (.int .i64 held) ∧ w'.cell? ⟨b, off + k * 3, none⟩ = some (.int .i64 x.v) ∧ w'.cell? ⟨b, off + k * 3 + 1, none⟩ = some (.int .i64 x.d)) (first | go_keep | assumption)
              (first | (go_at_call 32; refine (rstep_any _ _ _ _ _ HTs.out.ok).mono ?_; rintro e w2 ⟨rfl, hb2⟩; obtain ⟨u2, rfl⟩ := ext_of hb2; have hk2 := two_keep (W1 := ext _ u2) u2.below (by assumption); clear hb2))
            all_goals
              go_wp2_with fail
              go_meet
            · exact ⟨_, rfl, rfl, cell_new _ _ _ 0, cell_new _ _ _ 1, ext_size u2, (below_ext u2 (Below.refl _ _).drew (by simp)).alloc (ext_size u2) _⟩
            · have ho : IsObj (ext (wr.alloc (.cells #[.int .i64 0, .int .i64 0] 61)).drew u2) wr.heap.size 61 [.int .i64 0, .int .i64 0] := IsObj.below (IsObj.drew (IsObj.new wr _ [.int .i64 0, .int .i64 0])) u2.below (by simp)
              have ho2 := (ho.set 0 (.int .i64 (tstep way held x.v x.d).way)).set 1 (.int .i64 (tstep way held x.v x.d).held)
              exact ⟨wr.heap.size, rfl, rfl, ho2.cell 0, ho2.cell 1, Nat.le_refl _, ((below_ext u2 ((Below.refl _ _).alloc (Nat.le_refl _) _).drew (by simp)).setCell (Nat.le_refl _) _).setCell (Nat.le_refl _) _⟩
          case rest =>
            obtain ⟨g, rfl, rfl, e0, e1, hg, hbx⟩ := hcut
            have hA1 : TurnAt wc w.heap.size way held := HTs.out.a.same hbx
            have hB1 : TurnAt wc B way held := HTs.out.b.same hbx
            have hC1 : IsObj wc C 61 [.int .i64 way, .int .i64 held] := HTs.out.c.below hbx hCl
            have hw1 : Below w.heap.size w wc := HTs.out.below.trans (hbx.mono HTs.out.below.size)
            have y0 : wc.cell? ⟨C, 0, none⟩ = some (.int .i64 way) := hC1.cell 0
            have y1 : wc.cell? ⟨C, 1, none⟩ = some (.int .i64 held) := hC1.cell 1
            have yf0 := hC1.free 0
            have yf1 := hC1.free 1
            have k0 := cell_keep hbx c0
            have k1 := cell_keep hbx c1
            have hok := HTs.out.ok
            obtain ⟨s, hs3⟩ : ∃ s, s = tstep way held x.v x.d := ⟨_, rfl⟩
            have hok2 := tok_step hok x.v x.d
            have St := fun (b : Nat) (W : World) (h : TurnAt W b way held) => step_any b way held x.v x.d W h hok
            rw [← hs3] at e0 e1 hok2 ⊢
            rw [← hs3] at St
            have HOK2 := Lib.hid hok2
            have HST := Lib.hid St
            have hA2 : TurnAt ((wc.setCell ⟨C, 0, none⟩ (.int .i64 s.way)).setCell ⟨C, 1, none⟩ (.int .i64 s.held)) w.heap.size way held := (IsObj.setOther hA1 _ _ (by simp; omega)).setOther _ _ (by simp; omega)
            have hB2 : TurnAt ((wc.setCell ⟨C, 0, none⟩ (.int .i64 s.way)).setCell ⟨C, 1, none⟩ (.int .i64 s.held)) B way held := (IsObj.setOther hB1 _ _ (by simp; omega)).setOther _ _ (by simp; omega)
            have hC2 := (hC1.set 0 (.int .i64 s.way)).set 1 (.int .i64 s.held)
            have hw2 := (hw1.setCell (p := ⟨C, 0, none⟩) (by simp; omega) (.int .i64 s.way)).setCell (p := ⟨C, 1, none⟩) (by simp; omega) (.int .i64 s.held)
            have m0 := (cell_keep (W := w) (W1 := _) (p := ⟨b, off + k * 3, none⟩) hw2 (by have := HA.out; rw [← hw1.cell (p := ⟨b, off + k * 3, none⟩) hbl]; exact k0))
            have m1 := (cell_keep (W := w) (W1 := _) (p := ⟨b, off + k * 3 + 1, none⟩) hw2 (by rw [← hw1.cell (p := ⟨b, off + k * 3 + 1, none⟩) hbl]; exact k1))
            have HA2 := Lib.hid hA2
            have HB2 := Lib.hid hB2
            have HC2 := Lib.hid hC2
            have HW2 := Lib.hid hw2
            have M0 := Lib.hid m0
            have M1 := Lib.hid m1
            clear hA1 hB1 hC1 hw1 k0 k1 hok hok2 St hs3 hA2 hB2 hC2 hw2 m0 m1 c0 c1 c2 x0 x1 xf0 xf1 n1 n2 n3 n4 n5 n6 hbx
            go_wp2_with fail
            obtain ⟨W, hW⟩ : ∃ W, W = ((wc.setCell ⟨C, 0, none⟩ (.int .i64 s.way)).setCell ⟨C, 1, none⟩ (.int .i64 s.held)) := ⟨_, rfl⟩
            rw [← hW] at HA2 HB2 HC2 HW2 M0 M1 ⊢
            clear hW y0 y1 yf0 yf1 e0 e1
            have c0 := M0.out
            have c1 := M1.out
            clear M0 M1
            have HB3 : Hid (TurnAt W.drew B way held) := Lib.hid (IsObj.drew HB2.out)
            have HA3 : Hid (TurnAt W.drew w.heap.size way held) := Lib.hid (IsObj.drew HA2.out)
            go_region_held3 (fun w' => w'.cell? ⟨b, off + k * 3, none⟩ = some (.int .i64 x.v) ∧ w'.cell? ⟨b, off + k * 3 + 1, none⟩ = some (.int .i64 x.d)) (first | go_keep | assumption)
              (first | (go_at_call 29; with_reducible refine (HST.out w.heap.size _ HA3.out).mono ?_; rintro e w2 ⟨rfl, hT2, hO2⟩; have hp2 := pair_only (b := b) (i := off + k * 3) (v := .int .i64 x.v) (d := .int .i64 x.d) hO2 (by omega) (by assumption); have hBn := TurnAt.only (w := W.drew) (w' := w2) HB3.out hO2 (by omega)) | (go_at_call 29; with_reducible refine (HST.out B _ (by assumption)).mono ?_; rintro e w3 ⟨rfl, hT3, hO3⟩; have hp3 := pair_only (b := b) (i := off + k * 3) (v := .int .i64 x.v) (d := .int .i64 x.d) hO3 (by omega) (by assumption)) | (go_at_call 29; with_reducible refine (step_nil _ _ _).mono ?_; rintro e w4 ⟨rfl, rfl⟩))
            all_goals
              have hTA := TurnAt.only hT2 hO3 (by omega)
              have hC3 : IsObj w3 C 61 [.int .i64 s.way, .int .i64 s.held] := ((IsObj.drew HC2.out).only hO2 (by omega)).only hO3 (by omega)
              have s1 := HW2.out.size
              have s2 := hO2.size
              simp at s2
              have hB9 : Below w.heap.size w w3 := (HW2.out.drew.trans (hO2.below (Nat.le_refl _) (by simp; omega))).trans (hO3.below (by omega) (by omega))
              have z0 : w3.cell? ⟨C, 0, none⟩ = some (.int .i64 s.way) := hC3.cell 0
              have z1 : w3.cell? ⟨C, 1, none⟩ = some (.int .i64 s.held) := hC3.cell 1
              have HTs4 : Hid (Ts w w3 w.heap.size B C s.way s.held) := Lib.hid ⟨HOK2.out, hTA, hT3, hC3, hB9⟩
              clear hTA hC3 s1 s2 hB9 hT2 hO2 hT3 hO3 hp2 hp3 hBn c0 c1
              go_wp2_with fail
              go_quiet ((first | (go_at_call 30; first | (with_reducible exact quiet_left (way_any _ _ _ _ (HTs4.out.a.drewN _))) | (with_reducible exact quiet_add_left (way_any _ _ _ _ (HTs4.out.a.drewN _)))) | (go_at_call 33; first | (with_reducible exact quiet_left (held_any _ _ _ _ (HTs4.out.a.drewN _))) | (with_reducible exact quiet_add_left (held_any _ _ _ _ (HTs4.out.a.drewN _)))) | (go_at_call 30; first | (with_reducible exact quiet_left (way_any _ _ _ _ (HTs4.out.b.drewN _))) | (with_reducible exact quiet_add_left (way_any _ _ _ _ (HTs4.out.b.drewN _)))) | (go_at_call 30; first | (with_reducible exact quiet_left (way_nil _)) | (with_reducible exact quiet_add_left (way_nil _))) | (go_at_call 33; first | (with_reducible exact quiet_left (held_nil _)) | (with_reducible exact quiet_add_left (held_nil _)))))
              go_wp2
              go_roundw
              case rel =>
                have h := HTs4.out
                exact ⟨k + 1, s.way, s.held, by omega, by go_num, h.ok, h.a.drewN _, h.b.drewN _, h.c.drewN _, below_drewN h.below _⟩
              case measure => simp [intOf]; omega
      · have hbx := HTs.out.below
        have HBX := Lib.hid hbx
        clear hbx
        go_wp2_with (go_at_call 27; refine (awake16 _).mono ?_; rintro e w2 ⟨rfl, hb2⟩)
        go_ret
        exact ⟨rfl, HBX.out.trans (hb2.mono HBX.out.size)⟩

theorem opens_tw {W : World} : Opens Try.prog W 63 [IsI .i64, IsI .i64, IsB] :=
  opens_struct (ss := [[IsI .i64], [IsI .i64], [IsB]]) Try.underlying63 (by kernel_rfl)
    ⟨rfl, by kernel_rfl, opens_int Try.underlying3, rfl, by kernel_rfl, opens_int Try.underlying3, rfl, by kernel_rfl, opens_bool Try.underlying4, trivial⟩
theorem steps_done : Walk 6 Try.f6 := by
  intro W args hs hc
  rw [Try.params6] at hs hc
  obtain ⟨l⟩ := args
  match l, hs with
  | [v0], _ =>
    obtain ⟨a, c, l, rfl, g1, g2, _, hl⟩ := row_of_sl (k := 3) (cells := twCells) (fun _ => True) (by omega) tw_of (came_slice Try.underlying57 (ps := [IsI .i64, IsI .i64, IsB]) (by kernel_rfl) opens_tw (hc 0 57 v0 rfl rfl))
    exact steps_walk a c l W g1 g2 hl
end Go.Proofs.Ytfganiicdnkdlaa
