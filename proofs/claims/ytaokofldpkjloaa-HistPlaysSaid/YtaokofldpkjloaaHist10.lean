/-
  Layer 10 (hist): the statement HistPlays.
-/
import Derived.Test.YtaokofldpkjloaaHist9
import Derived.Deep.DeepCutAuto
import Derived.Deep.CutBlock
namespace Go.Proofs.Ytaokofldpkjloaa
open Go.RowKit Go.Shelf
set_option linter.unusedVariables false
set_option linter.unusedSimpArgs false

/-- An act: what is done, of which level, how many. -/
structure HAct where
  kd : Int
  lev : Int
  many : Int
instance : Inhabited HAct := ⟨⟨0, 0, 0⟩⟩
def hactCells (x : HAct) : List Value := [.int .i64 x.kd, .int .i64 x.lev, .int .i64 x.many]
theorem hactCells_len (x : HAct) : (hactCells x).length = 3 := rfl
/-- What is counted behind an act. -/
def hact (lv : Nat) (c : List Int) (x : HAct) : List Int := if x.kd = 0 then hadd lv c x.lev 1 else if x.kd = 1 then hadd lv c x.lev x.many else if x.kd = 2 then zeros else c
/-- What the loop holds. -/
structure HPlay (w : World) (H lv : Nat) (c : List Int) (xv : Value) (wr : World) : Prop where
  h : HistAt wr H lv c
  x : ∃ g cap, xv = .slice (some ⟨g, 0, none⟩) lv cap ∧ XAt wr H g cap lv c
  b : Below H w wr
theorem zeros_own {w : World} {base g cap lv : Nat} (h : w.ownsRow base 3 1 (.slice (some ⟨g, 0, none⟩) lv cap) lv (madeCells (Value.int .i64 0).cells (lv * 1)).toList) (hl : lv ≤ 128) : w.ownsRow base 3 1 (.slice (some ⟨g, 0, none⟩) lv cap) lv ((zeros.take lv).map (Value.int .i64)) := by
  have e : (madeCells (Value.int .i64 0).cells (lv * 1)).toList = (zeros.take lv).map (Value.int .i64) := by
    rw [show (Value.int .i64 0).cells = #[.int .i64 0] from rfl, toList_madeCells_one, zeros, List.take_replicate, List.map_replicate, Nat.mul_one, Nat.min_eq_left hl]
  rwa [e] at h
def fN : Option Nat → Int | some t => t | none => 0
def fB : Option Nat → Bool | some _ => true | none => false
theorem firstV_eq (o : Option Nat) : firstV o = .tuple #[.int .i64 (fN o), .bool (fB o)] := by cases o <;> rfl
theorem least_fst (b lv : Nat) (c : List Int) (many : Int) (w : World) (h : HistAt w b lv c) :
    Calls Try.prog 13 #[.pointer (some ⟨b, 0, none⟩), .int .i64 many] w fun e W' => e = .returned (.tuple #[.int .i64 (fN (leastH lv c many)), .bool (fB (leastH lv c many))]) ∧ Below w.heap.size w W' := by
  have K := least_anyH b lv c many w h
  rwa [firstV_eq] at K
theorem xleast_fst {w : World} {H g cap lv : Nat} {c : List Int} (many : Int) (h : XAt w H g cap lv c) :
    Calls Try.prog 19 #[.slice (some ⟨g, 0, none⟩) lv cap, .int .i64 many] w fun e w' => e = .returned (.tuple #[.int .i64 (fN (leastH lv c many)), .bool (fB (leastH lv c many))]) ∧ w = w' := by
  have K := xleast_any many h
  rwa [firstV_eq] at K
theorem intsL {w : World} {base g cap lv : Nat} {c : List Int} (h : w.ownsRow base 3 1 (.slice (some ⟨g, 0, none⟩) lv cap) lv ((c.take lv).map (Value.int .i64))) (hb : base ≤ base) : IntsAt w (some ⟨g, 0, none⟩) (c.take lv) := by
  obtain ⟨a, c', h1, h2, h3, h4⟩ := ints_of_own h
  have ha := (Value.slice.inj h1).1
  rw [ha]
  exact h4
theorem same_lv (H g cap ga ca lv : Nat) {w : World} {c : List Int} (hA : IntsAt w (some ⟨ga, 0, none⟩) (c.take lv)) (h : XAt w H g cap lv c) :
    Calls Try.prog 22 #[.slice (some ⟨ga, 0, none⟩) lv ca, .slice (some ⟨g, 0, none⟩) lv cap] w fun e w' => e = .returned (.bool true) ∧ Below w.heap.size w w' := by
  have hl := h.len
  have hn := h.n
  have K := same_any (some ⟨ga, 0, none⟩) (some ⟨g, 0, none⟩) ca cap (c.take lv) (c.take lv) w (by omega) (by omega) hA h.ints
  rw [hl] at K
  refine K.mono ?_
  rintro e w' ⟨rfl, hd⟩
  exact ⟨by simp, hd.below⟩
theorem many_out (b lv : Nat) (c : List Int) (level : Int) (w : World) (ho : hasL lv level = false) (h : HistAt w b lv c) : Calls Try.prog 24 #[.pointer (some ⟨b, 0, none⟩), .int .i64 level] w fun e w' => e = .returned (.int .i64 0) ∧ w = w' := by
  have K := many_any b lv c level w h
  rwa [show manyL lv c level = 0 by rw [manyL, if_neg (by rw [ho]; simp)]] at K
theorem many_at (b lv : Nat) (c : List Int) (k : Nat) (w : World) (hk : k < lv) (h : HistAt w b lv c) : Calls Try.prog 24 #[.pointer (some ⟨b, 0, none⟩), .int .i64 k] w fun e w' => e = .returned (.int .i64 (nth c k)) ∧ w = w' := by
  have K := many_any b lv c k w h
  rwa [show manyL lv c k = nth c k by rw [manyL, if_pos (by simp [hasL]; omega), Int.toNat_natCast]] at K
set_option maxRecDepth 100000 in
set_option maxHeartbeats 8000000 in
theorem plays_walk (n : Int) (a : Option Addr) (cap : Nat) (l : List HAct) (w : World) (g1 : l.length ≤ cap) (g2 : cap ≤ 9223372036854775807) (hA : RowOf hactCells 3 w a l) :
    Calls Try.prog 4 #[.int .i64 n, .slice a l.length cap] w fun e w' => e = .returned (.bool true) ∧ Below w.heap.size w w' := by
  have HA := Lib.hid hA
  clear hA
  by_cases hl : 60 < l.length
  · have i1 : (60 : Int) < (l.length : Int) := by omega
    go_enter Try.func4, Try.ntmps4
    go_wp2_with fail
    refine (hawake_any _).mono ?_
    rintro e w1 ⟨rfl, b1⟩
    go_wp2_with fail
    go_ret
    exact ⟨rfl, b1⟩
  · have i1 : (l.length : Int) ≤ 60 := by omega
    by_cases hn : 1 ≤ n ∧ n ≤ 128
    · obtain ⟨lv, rfl⟩ : ∃ lv : Nat, n = lv := ⟨n.toNat, by omega⟩
      have i2 : 1 ≤ lv := by omega
      have i3 : lv ≤ 128 := by omega
      obtain ⟨i0, hi, hz0, hz1, hz2⟩ := info_parts info_int
      obtain ⟨H, hH⟩ : ∃ H, H = w.heap.size := ⟨_, rfl⟩
      have K0 := hnew_ok lv w i2 i3
      rw [← hH] at K0
      have K := Lib.hid K0
      have hR := right_any (lv : Int)
      rw [show decide (1 ≤ (lv : Int) ∧ (lv : Int) ≤ 128) = true by simp; omega] at hR
      have HR := Lib.hid hR
      have hn1 : H ≤ w.heap.size := by omega
      have hn2 : w.heap.size ≤ H := by omega
      clear hH K0 hR
      go_enter Try.func4, Try.ntmps4
      go_wp2_with fail
      refine K.out.mono ?_
      rintro e w1 ⟨rfl, h1, b1⟩
      have B1 := Lib.hid b1
      have H1 := Lib.hid h1
      have hs1 : H + 1 ≤ w1.heap.size := by have := h1.o.lt; omega
      clear h1 b1 K
      go_wp2_with fail
      refine (HR.out _).mono ?_
      rintro e w2 ⟨rfl, rfl⟩
      go_wp2_with (first
        | (refine wpList_make_full _ (by rfl) _ _ 22 (by rfl) (H + 1) 3 i0 (.int .i64 0) 1 Try.underlying22 hi hz0 hz1 .i64 .i64 _ _ lv (by rfl) (by rfl) rfl rfl (by rw [hz2]; omega) (by unfold maxLen; omega) hs1 ?_
           intro w3 hown3 hg3
           have B3 := Lib.hid (Below.grown B1.out hg3 (by omega) (by intro k hk; cases hk))
           have X3 := Lib.hid (zeros_own hown3 i3)
           have H3 := Lib.hid (show HistAt w3 H lv zeros from ⟨(hg3.block H (by omega) (by simp)).trans H1.out.o, zeros_len, i3⟩)
           clear hown3))
      clear H1 B1
      go_loopw [7, 8] (fun xv i wr => ∃ (k : Nat) (c : List Int), k ≤ l.length ∧ i = .int .i64 k ∧ HPlay w H lv c xv wr) (fun _ i _ => l.length - (intOf i).toNat)
      case atStart => exact ⟨0, zeros, Nat.zero_le _, rfl, H3.out, ⟨_, _, rfl, ⟨X3.out, zeros_len, i2, i3⟩⟩, B3.out⟩
      case round =>
        obtain ⟨k, c, hk, rfl, hP⟩ := hrel
        have HHr := Lib.hid hP.h
        have HBr := Lib.hid hP.b
        obtain ⟨g, xc, rfl, hX⟩ := hP.x
        have HXr := Lib.hid hX
        clear hP hX
        have hlr := HHr.out.o.lt
        by_cases hlt : k < l.length
        · obtain ⟨ba, off, rfl, hc⟩ : ∃ b off, a = some ⟨b, off, none⟩ ∧ ∀ i, i < l.length → ∀ j, j < 3 → w.cell? ⟨b, off + i * 3 + j, none⟩ = (hactCells (nth l i))[j]? := by
            rcases HA.out with rfl | ⟨b, off, rfl, hc⟩
            · simp at hlt
            · exact ⟨b, off, rfl, hc⟩
          obtain ⟨x, hx⟩ : ∃ x, x = nth l k := ⟨_, rfl⟩
          have a0 := hc k hlt 0 (by omega)
          have a1 := hc k hlt 1 (by omega)
          have a2 := hc k hlt 2 (by omega)
          have hbw := cell_lt a0
          have hba : ba < H := by have : ba < w.heap.size := hbw; omega
          rw [← hx] at a0 a1 a2
          obtain ⟨kd, lev, many⟩ := x
          have c0 : wr.cell? ⟨ba, off + k * 3, none⟩ = some (.int .i64 kd) := (HBr.out.cell (p := ⟨ba, off + k * 3, none⟩) hba).trans a0
          have c1 : wr.cell? ⟨ba, off + k * 3 + 1, none⟩ = some (.int .i64 lev) := (HBr.out.cell (p := ⟨ba, off + k * 3 + 1, none⟩) hba).trans a1
          have c2 : wr.cell? ⟨ba, off + k * 3 + 2, none⟩ = some (.int .i64 many) := (HBr.out.cell (p := ⟨ba, off + k * 3 + 2, none⟩) hba).trans a2
          have i5 : (k : Int) < (l.length : Int) := by omega
          clear hc a0 a1 a2 hbw hx
          go_upto_block 2 with (fail)
          have B1 : Below wr.heap.size wr (wr.alloc (.cells #[.int .i64 kd, .int .i64 lev, .int .i64 many] 38)) := (Below.refl _ _).alloc (Nat.le_refl _) _
          have O1 := Lib.hid (IsObj.new wr 38 [.int .i64 kd, .int .i64 lev, .int .i64 many])
          have H1 := Lib.hid (HHr.out.same B1)
          have X1 := Lib.hid (HXr.out.same B1)
          have BB1 := Lib.hid (HBr.out.trans (B1.mono (by omega)))
          have hs1 : wr.heap.size < (wr.alloc (.cells #[.int .i64 kd, .int .i64 lev, .int .i64 many] 38)).heap.size := O1.out.lt
          generalize wr.alloc (.cells #[.int .i64 kd, .int .i64 lev, .int .i64 many] 38) = W1 at *
          have d0 := O1.out.cell 0
          have d1 := O1.out.cell 1
          have d2 := O1.out.cell 2
          simp only [List.getElem?_cons_succ, List.getElem?_cons_zero] at d0 d1 d2
          obtain ⟨A, hA⟩ : ∃ A, A = wr.heap.size := ⟨_, rfl⟩
          rw [← hA] at O1 d0 d1 d2 hs1 ⊢
          have hAH : H < A := by omega
          clear hA B1 c0 c1 c2
          go_cut [10, 11, 12] (fun s10 s11 s12 wx => ∃ (okb : Bool) (g' cap' : Nat), s10 = .bool okb ∧ s11 = .bool okb ∧ s12 = .slice (some ⟨g', 0, none⟩) lv cap' ∧ HistAt wx H lv (hact lv c ⟨kd, lev, many⟩) ∧ XAt wx H g' cap' lv (hact lv c ⟨kd, lev, many⟩) ∧ IsObj wx A 38 [.int .i64 kd, .int .i64 lev, .int .i64 many] ∧ Below H w wx)
          case first =>
            as_aux_lemma =>
              by_cases e0 : kd = 0
              · subst e0
                go_wp2_with fail
                refine (count_any H lv c lev _ H1.out).mono ?_
                rintro e w4 ⟨rfl, h4, o4⟩
                have O4 := Lib.hid (IsObj.only O1.out o4 (by omega))
                have X4 := Lib.hid (X1.out.only o4)
                have BB4 := Lib.hid (BB1.out.trans (o4.below (Nat.le_refl _) (by omega)))
                have hs4 : H + 1 ≤ w4.heap.size := by have := h4.o.lt; omega
                have H4 := Lib.hid h4
                have d1 := O4.out.cell 1
                have d2 := O4.out.cell 2
                simp only [List.getElem?_cons_succ, List.getElem?_cons_zero] at d1 d2
                clear h4 o4 d0
                go_wp2_with fail
                refine (xadd_any lev 1 X4.out hs4).mono ?_
                rintro e w5 ⟨g', cap', rfl, x5, b5⟩
                have H5 := Lib.hid (H4.out.same b5)
                have O5 := Lib.hid (IsObj.below O4.out b5 O4.out.lt)
                have BB5 := Lib.hid (BB4.out.trans (b5.mono (by omega)))
                have X5 := Lib.hid x5
                clear x5 b5
                go_wp2_with fail
                go_meet
                exact ⟨_, g', cap', rfl, rfl, rfl, H5.out, X5.out, O5.out, BB5.out⟩
              · by_cases e1 : kd = 1
                · subst e1
                  go_wp2_with fail
                  refine (hadd_any H lv c lev many _ H1.out).mono ?_
                  rintro e w4 ⟨rfl, h4, o4⟩
                  have O4 := Lib.hid (IsObj.only O1.out o4 (by omega))
                  have X4 := Lib.hid (X1.out.only o4)
                  have BB4 := Lib.hid (BB1.out.trans (o4.below (Nat.le_refl _) (by omega)))
                  have hs4 : H + 1 ≤ w4.heap.size := by have := h4.o.lt; omega
                  have H4 := Lib.hid h4
                  have d1 := O4.out.cell 1
                  have d2 := O4.out.cell 2
                  simp only [List.getElem?_cons_succ, List.getElem?_cons_zero] at d1 d2
                  clear h4 o4 d0
                  go_wp2_with fail
                  refine (xadd_any lev many X4.out hs4).mono ?_
                  rintro e w5 ⟨g', cap', rfl, x5, b5⟩
                  have H5 := Lib.hid (H4.out.same b5)
                  have O5 := Lib.hid (IsObj.below O4.out b5 O4.out.lt)
                  have BB5 := Lib.hid (BB4.out.trans (b5.mono (by omega)))
                  have X5 := Lib.hid x5
                  clear x5 b5
                  go_wp2_with fail
                  go_meet
                  exact ⟨_, g', cap', rfl, rfl, rfl, H5.out, X5.out, O5.out, BB5.out⟩
                · by_cases e2 : kd = 2
                  · subst e2
                    go_wp2_with fail
                    refine (hclear_any H lv c _ H1.out).mono ?_
                    rintro e w4 ⟨rfl, h4, o4⟩
                    have O4 := Lib.hid (IsObj.only O1.out o4 (by omega))
                    have BB4 := Lib.hid (BB1.out.trans (o4.below (Nat.le_refl _) (by omega)))
                    have hs4 : H + 1 ≤ w4.heap.size := by have := h4.o.lt; omega
                    have H4 := Lib.hid h4
                    clear h4 o4 d0 d1 d2
                    go_wp2_with (first
                      | (refine wpList_make_full _ (by rfl) _ _ 22 (by rfl) (H + 1) 3 i0 (.int .i64 0) 1 Try.underlying22 hi hz0 hz1 .i64 .i64 _ _ lv (by rfl) (by rfl) rfl rfl (by rw [hz2]; omega) (by unfold maxLen; omega) hs4 ?_
                         intro w5 hown5 hg5
                         have BB5 := Lib.hid (Below.grown BB4.out hg5 (by omega) (by intro k hk; cases hk))
                         have X5 := Lib.hid (zeros_own hown5 i3)
                         have O5 := Lib.hid (show IsObj w5 A 38 [.int .i64 2, .int .i64 lev, .int .i64 many] from (hg5.block A O4.out.lt (by simp)).trans O4.out)
                         have H5 := Lib.hid (show HistAt w5 H lv zeros from ⟨(hg5.block H (by omega) (by simp)).trans H4.out.o, zeros_len, i3⟩)
                         clear hown5 hg5))
                    go_meet
                    exact ⟨_, _, _, rfl, rfl, rfl, H5.out, ⟨X5.out, zeros_len, i2, i3⟩, O5.out, BB5.out⟩
                  · have n0 : (kd == 0) = false := by simp [e0]
                    have n1 : (kd == 1) = false := by simp [e1]
                    have n2 : (kd == 2) = false := by simp [e2]
                    have hE := Lib.hid (show hact lv c ⟨kd, lev, many⟩ = c by unfold hact; rw [if_neg e0, if_neg e1, if_neg e2])
                    clear e0 e1 e2
                    go_wp2_with fail
                    go_meet
                    exact ⟨_, _, _, rfl, rfl, rfl, by rw [hE.out]; exact H1.out, by rw [hE.out]; exact X1.out, O1.out, BB1.out⟩
          case rest =>
            as_aux_lemma =>
              obtain ⟨okb, g, cap', rfl, rfl, rfl, h5, x5, o5, bb5⟩ := hcut
              have HH5 := Lib.hid h5
              have HX5 := Lib.hid x5
              have HO5 := Lib.hid o5
              have HB5 := Lib.hid bb5
              clear h5 x5 o5 bb5 H1 X1 O1 BB1 HHr HXr HBr hlr X3 H3 B3 hs1
              have hS5 : H + 1 ≤ wc.heap.size := HH5.out.o.lt
              generalize hact lv c ⟨kd, lev, many⟩ = c at *
              have d0 := HO5.out.cell 0
              have d1 := HO5.out.cell 1
              have d2 := HO5.out.cell 2
              simp only [List.getElem?_cons_succ, List.getElem?_cons_zero] at d0 d1 d2
              go_wp2_with fail
              refine (least_fst H lv c many _ HH5.out).mono ?_
              rintro e W7 ⟨rfl, b7⟩
              have HH7 := Lib.hid (HH5.out.same b7)
              have HX7 := Lib.hid (HX5.out.same b7)
              have HO7 := Lib.hid (IsObj.below HO5.out b7 HO5.out.lt)
              have HB7 := Lib.hid (HB5.out.trans (b7.mono (by omega)))
              have hS7 : H + 1 ≤ W7.heap.size := HH7.out.o.lt
              clear HH5 HX5 HO5 HB5 b7 d0 d1 d2 hS5
              have d1 := HO7.out.cell 1
              have d2 := HO7.out.cell 2
              simp only [List.getElem?_cons_succ, List.getElem?_cons_zero] at d1 d2
              go_wp2_with fail
              refine (xleast_fst many HX7.out).mono ?_
              rintro e w' ⟨rfl, rfl⟩
              have hb77 : Below W7.heap.size W7 W7 := Below.refl _ _
              have hb78 : Below W7.heap.size W7 W7.drew := (Below.refl _ _).drew
              have sB : ∀ W, (W.cell? ⟨A, 1, none⟩ = some (.int .i64 lev) ∧ W.cell? ⟨A, 2, none⟩ = some (.int .i64 many) ∧ Below W7.heap.size W7 W) → Below W7.heap.size W7 W := fun W h => h.2.2
              have sK : ∀ W W1, Below W.heap.size W W1 → (W.cell? ⟨A, 1, none⟩ = some (.int .i64 lev) ∧ W.cell? ⟨A, 2, none⟩ = some (.int .i64 many) ∧ Below W7.heap.size W7 W) → (W1.cell? ⟨A, 1, none⟩ = some (.int .i64 lev) ∧ W1.cell? ⟨A, 2, none⟩ = some (.int .i64 many) ∧ Below W7.heap.size W7 W1) := fun W W1 hb h => ⟨cell_keep hb h.1, cell_keep hb h.2.1, h.2.2.trans (hb.mono h.2.2.size)⟩
              go_wp2_with fail
              refine wp_region_held_drew (S := fun W => W.cell? ⟨A, 1, none⟩ = some (.int .i64 lev) ∧ W.cell? ⟨A, 2, none⟩ = some (.int .i64 many) ∧ Below W7.heap.size W7 W) (by kernel_rfl) ?_ (fun hHeld => ?_)
              · (try dsimp only); (first | assumption | (refine ⟨?_, ?_, ?_⟩ <;> assumption) | (refine ⟨?_, ?_, ?_, ?_⟩ <;> assumption) | go_keep)
              refine wpAnyH_take (i := 0) (oi := ?oi1) (v := ?v1) ?hi1 (by kernel_rfl) (by kernel_rfl) (by kernel_rfl) ?hQ1 ?hy1 (by assumption) ?_
              case hi1 => (simp only [List.getElem?_toArray, List.getElem?_cons_succ, List.getElem?_cons_zero]; rfl)
              case hQ1 => exact fun _ _ _ h => h
              case hy1 => (refine Or.inl ⟨by rfl, ?_⟩; intro w hSw; (try dsimp only at hSw); go_simp; try with_reducible rfl)
              try simp only [Act.put, List.setIfInBounds_toArray, List.set_cons_zero, List.set_cons_succ]
              refine wpAnyH_take (i := 1) (oi := ?oi2) (v := ?v2) ?hi2 (by kernel_rfl) (by kernel_rfl) (by kernel_rfl) ?hQ2 ?hy2 (by assumption) ?_
              case hi2 => (simp only [List.getElem?_toArray, List.getElem?_cons_succ, List.getElem?_cons_zero]; rfl)
              case hQ2 => exact fun _ _ _ h => h
              case hy2 => (refine Or.inl ⟨by rfl, ?_⟩; intro w hSw; (try dsimp only at hSw); go_simp; try with_reducible rfl)
              try simp only [Act.put, List.setIfInBounds_toArray, List.set_cons_zero, List.set_cons_succ]
              refine wpAnyH_take (i := 2) (oi := ?oi3) (v := ?v3) ?hi3 (by kernel_rfl) (by kernel_rfl) (by kernel_rfl) ?hQ3 ?hy3 (by assumption) ?_
              case hi3 => (simp only [List.getElem?_toArray, List.getElem?_cons_succ, List.getElem?_cons_zero]; rfl)
              case hQ3 => exact fun _ _ _ h => h
              case hy3 => (refine Or.inl ⟨by rfl, ?_⟩; intro w hSw; (try dsimp only at hSw); go_simp; try with_reducible rfl)
              try simp only [Act.put, List.setIfInBounds_toArray, List.set_cons_zero, List.set_cons_succ]
              refine wpAnyH_take (i := 3) (oi := ?oi4) (v := ?v4) ?hi4 (by kernel_rfl) (by kernel_rfl) (by kernel_rfl) ?hQ4 ?hy4 (by assumption) ?_
              case hi4 => (simp only [List.getElem?_toArray, List.getElem?_cons_succ, List.getElem?_cons_zero]; rfl)
              case hQ4 => exact fun _ _ _ h => h
              case hy4 => (refine Or.inl ⟨by rfl, ?_⟩; intro w hSw; (try dsimp only at hSw); go_simp; try with_reducible rfl)
              try simp only [Act.put, List.setIfInBounds_toArray, List.set_cons_zero, List.set_cons_succ]
              refine wpAnyH_take (i := 4) (oi := ?oi5) (v := ?v5) ?hi5 (by kernel_rfl) (by kernel_rfl) (by kernel_rfl) ?hQ5 ?hy5 (by assumption) ?_
              case hi5 => (simp only [List.getElem?_toArray, List.getElem?_cons_succ, List.getElem?_cons_zero]; rfl)
              case hQ5 => exact fun _ _ _ h => h
              case hy5 => (refine Or.inl ⟨by rfl, ?_⟩; intro w hSw; (try dsimp only at hSw); go_simp; try with_reducible rfl)
              try simp only [Act.put, List.setIfInBounds_toArray, List.set_cons_zero, List.set_cons_succ]
              refine wpAnyH_take (i := 5) (oi := ?oi6) (v := ?v6) ?hi6 (by kernel_rfl) (by kernel_rfl) (by kernel_rfl) ?hQ6 ?hy6 (by assumption) ?_
              case hi6 => (simp only [List.getElem?_toArray, List.getElem?_cons_succ, List.getElem?_cons_zero]; rfl)
              case hQ6 => exact fun _ _ _ h => h
              case hy6 => (refine Or.inl ⟨by rfl, ?_⟩; intro w hSw; (try dsimp only at hSw); go_simp; try with_reducible rfl)
              try simp only [Act.put, List.setIfInBounds_toArray, List.set_cons_zero, List.set_cons_succ]
              refine wpAnyH_take (i := 6) (oi := ?oi7) (v := ?v7) ?hi7 (by kernel_rfl) (by kernel_rfl) (by kernel_rfl) ?hQ7 ?hy7 (by assumption) ?_
              case hi7 => (simp only [List.getElem?_toArray, List.getElem?_cons_succ, List.getElem?_cons_zero]; rfl)
              case hQ7 => exact fun _ _ _ h => h
              case hy7 => (refine Or.inl ⟨by rfl, ?_⟩; intro w hSw; (try dsimp only at hSw); go_simp; try with_reducible rfl)
              try simp only [Act.put, List.setIfInBounds_toArray, List.set_cons_zero, List.set_cons_succ]
              refine wpAnyH_take (i := 7) (oi := ?oi8) (v := ?v8) ?hi8 (by kernel_rfl) (by kernel_rfl) (by kernel_rfl) ?hQ8 ?hy8 (by assumption) ?_
              case hi8 => (simp only [List.getElem?_toArray, List.getElem?_cons_succ, List.getElem?_cons_zero]; rfl)
              case hQ8 => exact fun _ _ _ h => h
              case hy8 => (refine Or.inl ⟨by rfl, ?_⟩; intro w hSw; (try dsimp only at hSw); go_simp; try with_reducible rfl)
              try simp only [Act.put, List.setIfInBounds_toArray, List.set_cons_zero, List.set_cons_succ]
              refine wpAnyH_take (i := 8) (oi := ?oi9) (v := ?v9) ?hi9 (by kernel_rfl) (by kernel_rfl) (by kernel_rfl) ?hQ9 ?hy9 (by assumption) ?_
              case hi9 => (simp only [List.getElem?_toArray, List.getElem?_cons_succ, List.getElem?_cons_zero]; rfl)
              case hQ9 => exact fun _ _ _ h => h
              case hy9 => (refine Or.inl ⟨by rfl, ?_⟩; intro w hSw; (try dsimp only at hSw); go_simp; try with_reducible rfl)
              try simp only [Act.put, List.setIfInBounds_toArray, List.set_cons_zero, List.set_cons_succ]
              refine wpAnyH_take (i := 9) (oi := ?oi10) (v := ?v10) ?hi10 (by kernel_rfl) (by kernel_rfl) (by kernel_rfl) ?hQ10 ?hy10 (by assumption) ?_
              case hi10 => (simp only [List.getElem?_toArray, List.getElem?_cons_succ, List.getElem?_cons_zero]; rfl)
              case hQ10 => exact fun _ _ _ h => h
              case hy10 => (refine Or.inl ⟨by rfl, ?_⟩; intro w hSw; (try dsimp only at hSw); go_simp; try with_reducible rfl)
              try simp only [Act.put, List.setIfInBounds_toArray, List.set_cons_zero, List.set_cons_succ]
              refine wpAnyH_take (i := 10) (oi := ?oi11) (v := ?v11) ?hi11 (by kernel_rfl) (by kernel_rfl) (by kernel_rfl) ?hQ11 ?hy11 (by assumption) ?_
              case hi11 => (simp only [List.getElem?_toArray, List.getElem?_cons_succ, List.getElem?_cons_zero]; rfl)
              case hQ11 => exact fun _ _ _ h => h
              case hy11 => (refine Or.inl ⟨by rfl, ?_⟩; intro w hSw; (try dsimp only at hSw); go_simp; try with_reducible rfl)
              try simp only [Act.put, List.setIfInBounds_toArray, List.set_cons_zero, List.set_cons_succ]
              refine wpAnyH_take (i := 11) (oi := ?oi12) (v := ?v12) ?hi12 (by kernel_rfl) (by kernel_rfl) (by kernel_rfl) ?hQ12 ?hy12 (by assumption) ?_
              case hi12 => (simp only [List.getElem?_toArray, List.getElem?_cons_succ, List.getElem?_cons_zero]; rfl)
              case hQ12 => exact fun _ _ _ h => h
              case hy12 => (refine Or.inl ⟨by rfl, ?_⟩; intro w hSw; (try dsimp only at hSw); go_simp; try with_reducible rfl)
              try simp only [Act.put, List.setIfInBounds_toArray, List.set_cons_zero, List.set_cons_succ]
              refine wpAnyH_take (i := 12) (oi := ?oi13) (v := ?v13) ?hi13 (by kernel_rfl) (by kernel_rfl) (by kernel_rfl) ?hQ13 ?hy13 (by assumption) ?_
              case hi13 => (simp only [List.getElem?_toArray, List.getElem?_cons_succ, List.getElem?_cons_zero]; rfl)
              case hQ13 => exact fun _ _ _ h => h
              case hy13 => (refine Or.inl ⟨by rfl, ?_⟩; intro w hSw; (try dsimp only at hSw); go_simp; try with_reducible rfl)
              try simp only [Act.put, List.setIfInBounds_toArray, List.set_cons_zero, List.set_cons_succ]
              refine wpAnyH_take (i := 13) (oi := ?oi14) (v := ?v14) ?hi14 (by kernel_rfl) (by kernel_rfl) (by kernel_rfl) ?hQ14 ?hy14 (by assumption) ?_
              case hi14 => (simp only [List.getElem?_toArray, List.getElem?_cons_succ, List.getElem?_cons_zero]; rfl)
              case hQ14 => exact fun _ _ _ h => h
              case hy14 => (refine Or.inl ⟨by rfl, ?_⟩; intro w hSw; (try dsimp only at hSw); go_simp; try with_reducible rfl)
              try simp only [Act.put, List.setIfInBounds_toArray, List.set_cons_zero, List.set_cons_succ]
              refine wpAnyH_take (i := 14) (oi := ?oi15) (v := ?v15) ?hi15 (by kernel_rfl) (by kernel_rfl) (by kernel_rfl) ?hQ15 ?hy15 (by assumption) ?_
              case hi15 => (simp only [List.getElem?_toArray, List.getElem?_cons_succ, List.getElem?_cons_zero]; rfl)
              case hQ15 => exact fun _ _ _ h => h
              case hy15 => (refine Or.inl ⟨by rfl, ?_⟩; intro w hSw; (try dsimp only at hSw); go_simp; try with_reducible rfl)
              try simp only [Act.put, List.setIfInBounds_toArray, List.set_cons_zero, List.set_cons_succ]
              refine wpAnyH_take (i := 15) (oi := ?oi16) (v := ?v16) ?hi16 (by kernel_rfl) (by kernel_rfl) (by kernel_rfl) ?hQ16 ?hy16 (by assumption) ?_
              case hi16 => (simp only [List.getElem?_toArray, List.getElem?_cons_succ, List.getElem?_cons_zero]; rfl)
              case hQ16 => exact fun _ _ _ h => h
              case hy16 => (refine Or.inl ⟨by rfl, ?_⟩; intro w hSw; (try dsimp only at hSw); go_simp; try with_reducible rfl)
              try simp only [Act.put, List.setIfInBounds_toArray, List.set_cons_zero, List.set_cons_succ]
              refine wpAnyH_take (i := 16) (oi := ?oi17) (v := ?v17) ?hi17 (by kernel_rfl) (by kernel_rfl) (by kernel_rfl) ?hQ17 ?hy17 (by assumption) ?_
              case hi17 => (simp only [List.getElem?_toArray, List.getElem?_cons_succ, List.getElem?_cons_zero]; rfl)
              case hQ17 => exact fun _ _ _ h => h
              case hy17 => (refine Or.inl ⟨by rfl, ?_⟩; intro w hSw; (try dsimp only at hSw); go_simp; try with_reducible rfl)
              try simp only [Act.put, List.setIfInBounds_toArray, List.set_cons_zero, List.set_cons_succ]
              refine wpAnyH_take (i := 18) (oi := ?oi18) (v := ?v18) ?hi18 (by kernel_rfl) (by kernel_rfl) (by kernel_rfl) ?hQ18 ?hy18 (by assumption) ?_
              case hi18 => (simp only [List.getElem?_toArray, List.getElem?_cons_succ, List.getElem?_cons_zero]; rfl)
              case hQ18 => exact fun _ _ _ h => h
              case hy18 => (refine Or.inl ⟨by rfl, ?_⟩; intro w hSw; (try dsimp only at hSw); go_simp; try with_reducible rfl)
              try simp only [Act.put, List.setIfInBounds_toArray, List.set_cons_zero, List.set_cons_succ]
              refine wpAnyH_take (i := 19) (oi := ?oi19) (v := ?v19) ?hi19 (by kernel_rfl) (by kernel_rfl) (by kernel_rfl) ?hQ19 ?hy19 (by assumption) ?_
              case hi19 => (simp only [List.getElem?_toArray, List.getElem?_cons_succ, List.getElem?_cons_zero]; rfl)
              case hQ19 => exact fun _ _ _ h => h
              case hy19 => (refine Or.inl ⟨by rfl, ?_⟩; intro w hSw; (try dsimp only at hSw); go_simp; try with_reducible rfl)
              try simp only [Act.put, List.setIfInBounds_toArray, List.set_cons_zero, List.set_cons_succ]
              refine wpAnyH_take (i := 20) (oi := ?oi20) (v := ?v20) ?hi20 (by kernel_rfl) (by kernel_rfl) (by kernel_rfl) ?hQ20 ?hy20 (by assumption) ?_
              case hi20 => (simp only [List.getElem?_toArray, List.getElem?_cons_succ, List.getElem?_cons_zero]; rfl)
              case hQ20 => exact fun _ _ _ h => h
              case hy20 => (refine Or.inl ⟨by rfl, ?_⟩; intro w hSw; (try dsimp only at hSw); go_simp; try with_reducible rfl)
              try simp only [Act.put, List.setIfInBounds_toArray, List.set_cons_zero, List.set_cons_succ]
              refine wpAnyH_ready (rs := [17]) (by kernel_rfl) (by simp) ?_
              refine AllReadyH.cons (o := ?oi2117) ?ho2117 (fun K hK => ?_) AllReadyH.nil
              case ho2117 => (simp only [List.getElem?_toArray, List.getElem?_cons_succ, List.getElem?_cons_zero]; rfl)
              go_simp
              go_at_call 11; (with_reducible refine (most_anyH H lv c many _ (HH7.out.same (sB _ (by assumption)))).mono ?_); rintro e wA ⟨rfl, hbA⟩; have hkA := sK _ _ hbA (by assumption)
              refine hK.out _ _ ?_ (fun hHeld => ?_)
              · (try dsimp only); (first | assumption | (refine ⟨?_, ?_, ?_⟩ <;> assumption) | (refine ⟨?_, ?_, ?_, ?_⟩ <;> assumption) | go_keep)
              clear hK K
              try simp only [Act.put, List.setIfInBounds_toArray, List.set_cons_zero, List.set_cons_succ]
              refine wpAnyH_ready (rs := [21]) (by kernel_rfl) (by simp) ?_
              refine AllReadyH.cons (o := ?oi2221) ?ho2221 (fun K hK => ?_) AllReadyH.nil
              case ho2221 => (simp only [List.getElem?_toArray, List.getElem?_cons_succ, List.getElem?_cons_zero]; rfl)
              go_simp
              go_at_call 20; (with_reducible refine (xmost_any _ (HX7.out.same (sB _ (by assumption)))).mono ?_); rintro e w' ⟨rfl, rfl⟩
              refine hK.out _ _ ?_ (fun hHeld => ?_)
              · (try dsimp only); (first | assumption | (refine ⟨?_, ?_, ?_⟩ <;> assumption) | (refine ⟨?_, ?_, ?_, ?_⟩ <;> assumption) | go_keep)
              clear hK K
              try simp only [Act.put, List.setIfInBounds_toArray, List.set_cons_zero, List.set_cons_succ]
              refine wpAnyH_take (i := 22) (oi := ?oi23) (v := ?v23) ?hi23 (by kernel_rfl) (by kernel_rfl) (by kernel_rfl) ?hQ23 ?hy23 (by assumption) ?_
              case hi23 => (simp only [List.getElem?_toArray, List.getElem?_cons_succ, List.getElem?_cons_zero]; rfl)
              case hQ23 => exact fun _ _ _ h => h
              case hy23 => (refine Or.inl ⟨by rfl, ?_⟩; intro w hSw; (try dsimp only at hSw); go_simp; try with_reducible rfl)
              try simp only [Act.put, List.setIfInBounds_toArray, List.set_cons_zero, List.set_cons_succ]
              refine wpAnyH_take (i := 23) (oi := ?oi24) (v := ?v24) ?hi24 (by kernel_rfl) (by kernel_rfl) (by kernel_rfl) ?hQ24 ?hy24 (by assumption) ?_
              case hi24 => (simp only [List.getElem?_toArray, List.getElem?_cons_succ, List.getElem?_cons_zero]; rfl)
              case hQ24 => exact fun _ _ _ h => h
              case hy24 => (refine Or.inl ⟨by rfl, ?_⟩; intro w hSw; (try dsimp only at hSw); go_simp; try with_reducible rfl)
              try simp only [Act.put, List.setIfInBounds_toArray, List.set_cons_zero, List.set_cons_succ]
              refine wpAnyH_take (i := 24) (oi := ?oi25) (v := ?v25) ?hi25 (by kernel_rfl) (by kernel_rfl) (by kernel_rfl) ?hQ25 ?hy25 (by assumption) ?_
              case hi25 => (simp only [List.getElem?_toArray, List.getElem?_cons_succ, List.getElem?_cons_zero]; rfl)
              case hQ25 => exact fun _ _ _ h => h
              case hy25 => (refine Or.inl ⟨by rfl, ?_⟩; intro w hSw; (try dsimp only at hSw); go_simp; try with_reducible rfl)
              try simp only [Act.put, List.setIfInBounds_toArray, List.set_cons_zero, List.set_cons_succ]
              refine wpAnyH_take (i := 25) (oi := ?oi26) (v := ?v26) ?hi26 (by kernel_rfl) (by kernel_rfl) (by kernel_rfl) ?hQ26 ?hy26 (by assumption) ?_
              case hi26 => (simp only [List.getElem?_toArray, List.getElem?_cons_succ, List.getElem?_cons_zero]; rfl)
              case hQ26 => exact fun _ _ _ h => h
              case hy26 => (refine Or.inl ⟨by rfl, ?_⟩; intro w hSw; (try dsimp only at hSw); go_simp; try with_reducible rfl)
              try simp only [Act.put, List.setIfInBounds_toArray, List.set_cons_zero, List.set_cons_succ]
              refine wpAnyH_take (i := 26) (oi := ?oi27) (v := ?v27) ?hi27 (by kernel_rfl) (by kernel_rfl) (by kernel_rfl) ?hQ27 ?hy27 (by assumption) ?_
              case hi27 => (simp only [List.getElem?_toArray, List.getElem?_cons_succ, List.getElem?_cons_zero]; rfl)
              case hQ27 => exact fun _ _ _ h => h
              case hy27 => (refine Or.inl ⟨by rfl, ?_⟩; intro w hSw; (try dsimp only at hSw); go_simp; try with_reducible rfl)
              try simp only [Act.put, List.setIfInBounds_toArray, List.set_cons_zero, List.set_cons_succ]
              refine wpAnyH_take (i := 27) (oi := ?oi28) (v := ?v28) ?hi28 (by kernel_rfl) (by kernel_rfl) (by kernel_rfl) ?hQ28 ?hy28 (by assumption) ?_
              case hi28 => (simp only [List.getElem?_toArray, List.getElem?_cons_succ, List.getElem?_cons_zero]; rfl)
              case hQ28 => exact fun _ _ _ h => h
              case hy28 => (refine Or.inl ⟨by rfl, ?_⟩; intro w hSw; (try dsimp only at hSw); go_simp; try with_reducible rfl)
              try simp only [Act.put, List.setIfInBounds_toArray, List.set_cons_zero, List.set_cons_succ]
              refine wpAnyH_take (i := 29) (oi := ?oi29) (v := ?v29) ?hi29 (by kernel_rfl) (by kernel_rfl) (by kernel_rfl) ?hQ29 ?hy29 (by assumption) ?_
              case hi29 => (simp only [List.getElem?_toArray, List.getElem?_cons_succ, List.getElem?_cons_zero]; rfl)
              case hQ29 => exact fun _ _ _ h => h
              case hy29 => (refine Or.inl ⟨by rfl, ?_⟩; intro w hSw; (try dsimp only at hSw); go_simp; try with_reducible rfl)
              try simp only [Act.put, List.setIfInBounds_toArray, List.set_cons_zero, List.set_cons_succ]
              refine wpAnyH_take (i := 30) (oi := ?oi30) (v := ?v30) ?hi30 (by kernel_rfl) (by kernel_rfl) (by kernel_rfl) ?hQ30 ?hy30 (by assumption) ?_
              case hi30 => (simp only [List.getElem?_toArray, List.getElem?_cons_succ, List.getElem?_cons_zero]; rfl)
              case hQ30 => exact fun _ _ _ h => h
              case hy30 => (refine Or.inl ⟨by rfl, ?_⟩; intro w hSw; (try dsimp only at hSw); go_simp; try with_reducible rfl)
              try simp only [Act.put, List.setIfInBounds_toArray, List.set_cons_zero, List.set_cons_succ]
              refine wpAnyH_take (i := 31) (oi := ?oi31) (v := ?v31) ?hi31 (by kernel_rfl) (by kernel_rfl) (by kernel_rfl) ?hQ31 ?hy31 (by assumption) ?_
              case hi31 => (simp only [List.getElem?_toArray, List.getElem?_cons_succ, List.getElem?_cons_zero]; rfl)
              case hQ31 => exact fun _ _ _ h => h
              case hy31 => (refine Or.inl ⟨by rfl, ?_⟩; intro w hSw; (try dsimp only at hSw); go_simp; try with_reducible rfl)
              try simp only [Act.put, List.setIfInBounds_toArray, List.set_cons_zero, List.set_cons_succ]
              refine wpAnyH_ready (rs := [28]) (by kernel_rfl) (by simp) ?_
              refine AllReadyH.cons (o := ?oi3228) ?ho3228 (fun K hK => ?_) AllReadyH.nil
              case ho3228 => (simp only [List.getElem?_toArray, List.getElem?_cons_succ, List.getElem?_cons_zero]; rfl)
              go_simp
              go_at_call 12; (with_reducible refine (below_anyH H lv c lev _ (HH7.out.same (sB _ (by assumption)))).mono ?_); rintro e wA ⟨rfl, hbA⟩; have hkA := sK _ _ hbA (by assumption)
              refine hK.out _ _ ?_ (fun hHeld => ?_)
              · (try dsimp only); (first | assumption | (refine ⟨?_, ?_, ?_⟩ <;> assumption) | (refine ⟨?_, ?_, ?_, ?_⟩ <;> assumption) | go_keep)
              clear hK K
              try simp only [Act.put, List.setIfInBounds_toArray, List.set_cons_zero, List.set_cons_succ]
              refine wpAnyH_ready (rs := [32]) (by kernel_rfl) (by simp) ?_
              refine AllReadyH.cons (o := ?oi3332) ?ho3332 (fun K hK => ?_) AllReadyH.nil
              case ho3332 => (simp only [List.getElem?_toArray, List.getElem?_cons_succ, List.getElem?_cons_zero]; rfl)
              go_simp
              go_at_call 21; (with_reducible refine (xbelow_any _ (HX7.out.same (sB _ (by assumption)))).mono ?_); rintro e w' ⟨rfl, rfl⟩
              refine hK.out _ _ ?_ (fun hHeld => ?_)
              · (try dsimp only); (first | assumption | (refine ⟨?_, ?_, ?_⟩ <;> assumption) | (refine ⟨?_, ?_, ?_, ?_⟩ <;> assumption) | go_keep)
              clear hK K
              try simp only [Act.put, List.setIfInBounds_toArray, List.set_cons_zero, List.set_cons_succ]
              refine wpAnyH_take (i := 33) (oi := ?oi34) (v := ?v34) ?hi34 (by kernel_rfl) (by kernel_rfl) (by kernel_rfl) ?hQ34 ?hy34 (by assumption) ?_
              case hi34 => (simp only [List.getElem?_toArray, List.getElem?_cons_succ, List.getElem?_cons_zero]; rfl)
              case hQ34 => exact fun _ _ _ h => h
              case hy34 => (refine Or.inl ⟨by rfl, ?_⟩; intro w hSw; (try dsimp only at hSw); go_simp; try with_reducible rfl)
              try simp only [Act.put, List.setIfInBounds_toArray, List.set_cons_zero, List.set_cons_succ]
              refine wpAnyH_take (i := 34) (oi := ?oi35) (v := ?v35) ?hi35 (by kernel_rfl) (by kernel_rfl) (by kernel_rfl) ?hQ35 ?hy35 (by assumption) ?_
              case hi35 => (simp only [List.getElem?_toArray, List.getElem?_cons_succ, List.getElem?_cons_zero]; rfl)
              case hQ35 => exact fun _ _ _ h => h
              case hy35 => (refine Or.inl ⟨by rfl, ?_⟩; intro w hSw; (try dsimp only at hSw); go_simp; try with_reducible rfl)
              try simp only [Act.put, List.setIfInBounds_toArray, List.set_cons_zero, List.set_cons_succ]
              refine wpAnyH_take (i := 35) (oi := ?oi36) (v := ?v36) ?hi36 (by kernel_rfl) (by kernel_rfl) (by kernel_rfl) ?hQ36 ?hy36 (by assumption) ?_
              case hi36 => (simp only [List.getElem?_toArray, List.getElem?_cons_succ, List.getElem?_cons_zero]; rfl)
              case hQ36 => exact fun _ _ _ h => h
              case hy36 => (refine Or.inl ⟨by rfl, ?_⟩; intro w hSw; (try dsimp only at hSw); go_simp; try with_reducible rfl)
              try simp only [Act.put, List.setIfInBounds_toArray, List.set_cons_zero, List.set_cons_succ]
              refine wpAnyH_take (i := 36) (oi := ?oi37) (v := ?v37) ?hi37 (by kernel_rfl) (by kernel_rfl) (by kernel_rfl) ?hQ37 ?hy37 (by assumption) ?_
              case hi37 => (simp only [List.getElem?_toArray, List.getElem?_cons_succ, List.getElem?_cons_zero]; rfl)
              case hQ37 => exact fun _ _ _ h => h
              case hy37 => (refine Or.inl ⟨by rfl, ?_⟩; intro w hSw; (try dsimp only at hSw); go_simp; try with_reducible rfl)
              try simp only [Act.put, List.setIfInBounds_toArray, List.set_cons_zero, List.set_cons_succ]
              refine wpAnyH_take (i := 37) (oi := ?oi38) (v := ?v38) ?hi38 (by kernel_rfl) (by kernel_rfl) (by kernel_rfl) ?hQ38 ?hy38 (by assumption) ?_
              case hi38 => (simp only [List.getElem?_toArray, List.getElem?_cons_succ, List.getElem?_cons_zero]; rfl)
              case hQ38 => exact fun _ _ _ h => h
              case hy38 => (refine Or.inl ⟨by rfl, ?_⟩; intro w hSw; (try dsimp only at hSw); go_simp; try with_reducible rfl)
              try simp only [Act.put, List.setIfInBounds_toArray, List.set_cons_zero, List.set_cons_succ]
              refine wpAnyH_take (i := 38) (oi := ?oi39) (v := ?v39) ?hi39 (by kernel_rfl) (by kernel_rfl) (by kernel_rfl) ?hQ39 ?hy39 (by assumption) ?_
              case hi39 => (simp only [List.getElem?_toArray, List.getElem?_cons_succ, List.getElem?_cons_zero]; rfl)
              case hQ39 => exact fun _ _ _ h => h
              case hy39 => (refine Or.inl ⟨by rfl, ?_⟩; intro w hSw; (try dsimp only at hSw); go_simp; try with_reducible rfl)
              try simp only [Act.put, List.setIfInBounds_toArray, List.set_cons_zero, List.set_cons_succ]
              refine wpAnyH_take (i := 40) (oi := ?oi40) (v := ?v40) ?hi40 (by kernel_rfl) (by kernel_rfl) (by kernel_rfl) ?hQ40 ?hy40 (by assumption) ?_
              case hi40 => (simp only [List.getElem?_toArray, List.getElem?_cons_succ, List.getElem?_cons_zero]; rfl)
              case hQ40 => exact fun _ _ _ h => h
              case hy40 => (refine Or.inl ⟨by rfl, ?_⟩; intro w hSw; (try dsimp only at hSw); go_simp; try with_reducible rfl)
              try simp only [Act.put, List.setIfInBounds_toArray, List.set_cons_zero, List.set_cons_succ]
              refine wpAnyH_take (i := 41) (oi := ?oi41) (v := ?v41) ?hi41 (by kernel_rfl) (by kernel_rfl) (by kernel_rfl) ?hQ41 ?hy41 (by assumption) ?_
              case hi41 => (simp only [List.getElem?_toArray, List.getElem?_cons_succ, List.getElem?_cons_zero]; rfl)
              case hQ41 => exact fun _ _ _ h => h
              case hy41 => (refine Or.inl ⟨by rfl, ?_⟩; intro w hSw; (try dsimp only at hSw); go_simp; try with_reducible rfl)
              try simp only [Act.put, List.setIfInBounds_toArray, List.set_cons_zero, List.set_cons_succ]
              refine wpAnyH_take (i := 42) (oi := ?oi42) (v := ?v42) ?hi42 (by kernel_rfl) (by kernel_rfl) (by kernel_rfl) ?hQ42 ?hy42 (by assumption) ?_
              case hi42 => (simp only [List.getElem?_toArray, List.getElem?_cons_succ, List.getElem?_cons_zero]; rfl)
              case hQ42 => exact fun _ _ _ h => h
              case hy42 => (refine Or.inl ⟨by rfl, ?_⟩; intro w hSw; (try dsimp only at hSw); go_simp; try with_reducible rfl)
              try simp only [Act.put, List.setIfInBounds_toArray, List.set_cons_zero, List.set_cons_succ]
              refine wpAnyH_ready (rs := [39]) (by kernel_rfl) (by simp) ?_
              refine AllReadyH.cons (o := ?oi4339) ?ho4339 (fun K hK => ?_) AllReadyH.nil
              case ho4339 => (simp only [List.getElem?_toArray, List.getElem?_cons_succ, List.getElem?_cons_zero]; rfl)
              go_simp
              go_at_call 12; (with_reducible refine (below_anyH H lv c many _ (HH7.out.same (sB _ (by assumption)))).mono ?_); rintro e wA ⟨rfl, hbA⟩; have hkA := sK _ _ hbA (by assumption)
              refine hK.out _ _ ?_ (fun hHeld => ?_)
              · (try dsimp only); (first | assumption | (refine ⟨?_, ?_, ?_⟩ <;> assumption) | (refine ⟨?_, ?_, ?_, ?_⟩ <;> assumption) | go_keep)
              clear hK K
              try simp only [Act.put, List.setIfInBounds_toArray, List.set_cons_zero, List.set_cons_succ]
              refine wpAnyH_ready (rs := [43]) (by kernel_rfl) (by simp) ?_
              refine AllReadyH.cons (o := ?oi4443) ?ho4443 (fun K hK => ?_) AllReadyH.nil
              case ho4443 => (simp only [List.getElem?_toArray, List.getElem?_cons_succ, List.getElem?_cons_zero]; rfl)
              go_simp
              go_at_call 21; (with_reducible refine (xbelow_any _ (HX7.out.same (sB _ (by assumption)))).mono ?_); rintro e w' ⟨rfl, rfl⟩
              refine hK.out _ _ ?_ (fun hHeld => ?_)
              · (try dsimp only); (first | assumption | (refine ⟨?_, ?_, ?_⟩ <;> assumption) | (refine ⟨?_, ?_, ?_, ?_⟩ <;> assumption) | go_keep)
              clear hK K
              try simp only [Act.put, List.setIfInBounds_toArray, List.set_cons_zero, List.set_cons_succ]
              refine wpAnyH_take (i := 44) (oi := ?oi45) (v := ?v45) ?hi45 (by kernel_rfl) (by kernel_rfl) (by kernel_rfl) ?hQ45 ?hy45 (by assumption) ?_
              case hi45 => (simp only [List.getElem?_toArray, List.getElem?_cons_succ, List.getElem?_cons_zero]; rfl)
              case hQ45 => exact fun _ _ _ h => h
              case hy45 => (refine Or.inl ⟨by rfl, ?_⟩; intro w hSw; (try dsimp only at hSw); go_simp; try with_reducible rfl)
              try simp only [Act.put, List.setIfInBounds_toArray, List.set_cons_zero, List.set_cons_succ]
              refine wpAnyH_take (i := 45) (oi := ?oi46) (v := ?v46) ?hi46 (by kernel_rfl) (by kernel_rfl) (by kernel_rfl) ?hQ46 ?hy46 (by assumption) ?_
              case hi46 => (simp only [List.getElem?_toArray, List.getElem?_cons_succ, List.getElem?_cons_zero]; rfl)
              case hQ46 => exact fun _ _ _ h => h
              case hy46 => (refine Or.inl ⟨by rfl, ?_⟩; intro w hSw; (try dsimp only at hSw); go_simp; try with_reducible rfl)
              try simp only [Act.put, List.setIfInBounds_toArray, List.set_cons_zero, List.set_cons_succ]
              refine wpAnyH_take (i := 46) (oi := ?oi47) (v := ?v47) ?hi47 (by kernel_rfl) (by kernel_rfl) (by kernel_rfl) ?hQ47 ?hy47 (by assumption) ?_
              case hi47 => (simp only [List.getElem?_toArray, List.getElem?_cons_succ, List.getElem?_cons_zero]; rfl)
              case hQ47 => exact fun _ _ _ h => h
              case hy47 => (refine Or.inl ⟨by rfl, ?_⟩; intro w hSw; (try dsimp only at hSw); go_simp; try with_reducible rfl)
              try simp only [Act.put, List.setIfInBounds_toArray, List.set_cons_zero, List.set_cons_succ]
              refine wpAnyH_take (i := 47) (oi := ?oi48) (v := ?v48) ?hi48 (by kernel_rfl) (by kernel_rfl) (by kernel_rfl) ?hQ48 ?hy48 (by assumption) ?_
              case hi48 => (simp only [List.getElem?_toArray, List.getElem?_cons_succ, List.getElem?_cons_zero]; rfl)
              case hQ48 => exact fun _ _ _ h => h
              case hy48 => (refine Or.inl ⟨by rfl, ?_⟩; intro w hSw; (try dsimp only at hSw); go_simp; try with_reducible rfl)
              try simp only [Act.put, List.setIfInBounds_toArray, List.set_cons_zero, List.set_cons_succ]
              refine wpAnyH_take (i := 49) (oi := ?oi49) (v := ?v49) ?hi49 (by kernel_rfl) (by kernel_rfl) (by kernel_rfl) ?hQ49 ?hy49 (by assumption) ?_
              case hi49 => (simp only [List.getElem?_toArray, List.getElem?_cons_succ, List.getElem?_cons_zero]; rfl)
              case hQ49 => exact fun _ _ _ h => h
              case hy49 => (refine Or.inl ⟨by rfl, ?_⟩; intro w hSw; (try dsimp only at hSw); go_simp; try with_reducible rfl)
              try simp only [Act.put, List.setIfInBounds_toArray, List.set_cons_zero, List.set_cons_succ]
              refine wpAnyH_take (i := 50) (oi := ?oi50) (v := ?v50) ?hi50 (by kernel_rfl) (by kernel_rfl) (by kernel_rfl) ?hQ50 ?hy50 (by assumption) ?_
              case hi50 => (simp only [List.getElem?_toArray, List.getElem?_cons_succ, List.getElem?_cons_zero]; rfl)
              case hQ50 => exact fun _ _ _ h => h
              case hy50 => (refine Or.inl ⟨by rfl, ?_⟩; intro w hSw; (try dsimp only at hSw); go_simp; try with_reducible rfl)
              try simp only [Act.put, List.setIfInBounds_toArray, List.set_cons_zero, List.set_cons_succ]
              refine wpAnyH_ready (rs := [48]) (by kernel_rfl) (by simp) ?_
              refine AllReadyH.cons (o := ?oi5148) ?ho5148 (fun K hK => ?_) AllReadyH.nil
              case ho5148 => (simp only [List.getElem?_toArray, List.getElem?_cons_succ, List.getElem?_cons_zero]; rfl)
              go_simp
              go_at_call 14; (with_reducible refine (total_any H lv c _ (HH7.out.same (sB _ (by assumption)))).mono ?_); rintro e wA ⟨rfl, hbA⟩; have hkA := sK _ _ hbA (by assumption)
              refine hK.out _ _ ?_ (fun hHeld => ?_)
              · (try dsimp only); (first | assumption | (refine ⟨?_, ?_, ?_⟩ <;> assumption) | (refine ⟨?_, ?_, ?_, ?_⟩ <;> assumption) | go_keep)
              clear hK K
              try simp only [Act.put, List.setIfInBounds_toArray, List.set_cons_zero, List.set_cons_succ]
              refine wpAnyH_ready (rs := [51]) (by kernel_rfl) (by simp) ?_
              refine AllReadyH.cons (o := ?oi5251) ?ho5251 (fun K hK => ?_) AllReadyH.nil
              case ho5251 => (simp only [List.getElem?_toArray, List.getElem?_cons_succ, List.getElem?_cons_zero]; rfl)
              go_simp
              go_at_call 21; (with_reducible refine (xtotal_any (HX7.out.same (sB _ (by assumption)))).mono ?_); rintro e w' ⟨rfl, rfl⟩
              refine hK.out _ _ ?_ (fun hHeld => ?_)
              · (try dsimp only); (first | assumption | (refine ⟨?_, ?_, ?_⟩ <;> assumption) | (refine ⟨?_, ?_, ?_, ?_⟩ <;> assumption) | go_keep)
              clear hK K
              try simp only [Act.put, List.setIfInBounds_toArray, List.set_cons_zero, List.set_cons_succ]
              refine wpAnyH_take (i := 52) (oi := ?oi53) (v := ?v53) ?hi53 (by kernel_rfl) (by kernel_rfl) (by kernel_rfl) ?hQ53 ?hy53 (by assumption) ?_
              case hi53 => (simp only [List.getElem?_toArray, List.getElem?_cons_succ, List.getElem?_cons_zero]; rfl)
              case hQ53 => exact fun _ _ _ h => h
              case hy53 => (refine Or.inl ⟨by rfl, ?_⟩; intro w hSw; (try dsimp only at hSw); go_simp; try with_reducible rfl)
              try simp only [Act.put, List.setIfInBounds_toArray, List.set_cons_zero, List.set_cons_succ]
              refine wpAnyH_take (i := 53) (oi := ?oi54) (v := ?v54) ?hi54 (by kernel_rfl) (by kernel_rfl) (by kernel_rfl) ?hQ54 ?hy54 (by assumption) ?_
              case hi54 => (simp only [List.getElem?_toArray, List.getElem?_cons_succ, List.getElem?_cons_zero]; rfl)
              case hQ54 => exact fun _ _ _ h => h
              case hy54 => (refine Or.inl ⟨by rfl, ?_⟩; intro w hSw; (try dsimp only at hSw); go_simp; try with_reducible rfl)
              try simp only [Act.put, List.setIfInBounds_toArray, List.set_cons_zero, List.set_cons_succ]
              refine wpAnyH_take (i := 54) (oi := ?oi55) (v := ?v55) ?hi55 (by kernel_rfl) (by kernel_rfl) (by kernel_rfl) ?hQ55 ?hy55 (by assumption) ?_
              case hi55 => (simp only [List.getElem?_toArray, List.getElem?_cons_succ, List.getElem?_cons_zero]; rfl)
              case hQ55 => exact fun _ _ _ h => h
              case hy55 => (refine Or.inl ⟨by rfl, ?_⟩; intro w hSw; (try dsimp only at hSw); go_simp; try with_reducible rfl)
              try simp only [Act.put, List.setIfInBounds_toArray, List.set_cons_zero, List.set_cons_succ]
              refine wpAnyH_take (i := 55) (oi := ?oi56) (v := ?v56) ?hi56 (by kernel_rfl) (by kernel_rfl) (by kernel_rfl) ?hQ56 ?hy56 (by assumption) ?_
              case hi56 => (simp only [List.getElem?_toArray, List.getElem?_cons_succ, List.getElem?_cons_zero]; rfl)
              case hQ56 => exact fun _ _ _ h => h
              case hy56 => (refine Or.inl ⟨by rfl, ?_⟩; intro w hSw; (try dsimp only at hSw); go_simp; try with_reducible rfl)
              try simp only [Act.put, List.setIfInBounds_toArray, List.set_cons_zero, List.set_cons_succ]
              refine wpAnyH_take (i := 57) (oi := ?oi57) (v := ?v57) ?hi57 (by kernel_rfl) (by kernel_rfl) (by kernel_rfl) ?hQ57 ?hy57 (by assumption) ?_
              case hi57 => (simp only [List.getElem?_toArray, List.getElem?_cons_succ, List.getElem?_cons_zero]; rfl)
              case hQ57 => exact fun _ _ _ h => h
              case hy57 => (refine Or.inl ⟨by rfl, ?_⟩; intro w hSw; (try dsimp only at hSw); go_simp; try with_reducible rfl)
              try simp only [Act.put, List.setIfInBounds_toArray, List.set_cons_zero, List.set_cons_succ]
              refine wpAnyH_ready (rs := [56]) (by kernel_rfl) (by simp) ?_
              refine AllReadyH.cons (o := ?oi5856) ?ho5856 (fun K hK => ?_) AllReadyH.nil
              case ho5856 => (simp only [List.getElem?_toArray, List.getElem?_cons_succ, List.getElem?_cons_zero]; rfl)
              go_simp
              go_at_call 23; (with_reducible refine (all_anyH H lv c _ (HH7.out.same (sB _ (by assumption))) i2).mono ?_); rintro e wA ⟨ga, ca, rfl, hownA, hbA⟩; have hkA := sK _ _ hbA (by assumption); have hAA := intsL hownA (by omega)
              refine hK.out _ _ ?_ (fun hHeld => ?_)
              · (try dsimp only); (first | assumption | (refine ⟨?_, ?_, ?_⟩ <;> assumption) | (refine ⟨?_, ?_, ?_, ?_⟩ <;> assumption) | go_keep)
              clear hK K
              try simp only [Act.put, List.setIfInBounds_toArray, List.set_cons_zero, List.set_cons_succ]
              refine wpAnyH_ready (rs := [58]) (by kernel_rfl) (by simp) ?_
              refine AllReadyH.cons (o := ?oi5958) ?ho5958 (fun K hK => ?_) AllReadyH.nil
              case ho5958 => (simp only [List.getElem?_toArray, List.getElem?_cons_succ, List.getElem?_cons_zero]; rfl)
              go_simp
              go_at_call 22; (with_reducible refine (same_lv _ _ _ _ _ _ hAA (HX7.out.same (sB _ (by assumption)))).mono ?_); rintro e wS ⟨rfl, hbS⟩; have hkS := sK _ _ hbS (by assumption)
              refine hK.out _ _ ?_ (fun hHeld => ?_)
              · (try dsimp only); (first | assumption | (refine ⟨?_, ?_, ?_⟩ <;> assumption) | (refine ⟨?_, ?_, ?_, ?_⟩ <;> assumption) | go_keep)
              clear hK K
              try simp only [Act.put, List.setIfInBounds_toArray, List.set_cons_zero, List.set_cons_succ]
              refine wpAnyH_take (i := 59) (oi := ?oi60) (v := ?v60) ?hi60 (by kernel_rfl) (by kernel_rfl) (by kernel_rfl) ?hQ60 ?hy60 (by assumption) ?_
              case hi60 => (simp only [List.getElem?_toArray, List.getElem?_cons_succ, List.getElem?_cons_zero]; rfl)
              case hQ60 => exact fun _ _ _ h => h
              case hy60 => (refine Or.inl ⟨by rfl, ?_⟩; intro w hSw; (try dsimp only at hSw); go_simp; try with_reducible rfl)
              try simp only [Act.put, List.setIfInBounds_toArray, List.set_cons_zero, List.set_cons_succ]
              refine wpAnyH_take (i := 60) (oi := ?oi61) (v := ?v61) ?hi61 (by kernel_rfl) (by kernel_rfl) (by kernel_rfl) ?hQ61 ?hy61 (by assumption) ?_
              case hi61 => (simp only [List.getElem?_toArray, List.getElem?_cons_succ, List.getElem?_cons_zero]; rfl)
              case hQ61 => exact fun _ _ _ h => h
              case hy61 => (refine Or.inl ⟨by rfl, ?_⟩; intro w hSw; (try dsimp only at hSw); go_simp; try with_reducible rfl)
              try simp only [Act.put, List.setIfInBounds_toArray, List.set_cons_zero, List.set_cons_succ]
              refine wpAnyH_done (by kernel_rfl) ?_ _
              have hfin := sB _ (by assumption)
              have HH8 := Lib.hid (HH7.out.same hfin)
              have HX8 := Lib.hid (HX7.out.same hfin)
              have HO8 := Lib.hid (IsObj.below HO7.out hfin HO7.out.lt)
              have HB8 := Lib.hid (HB7.out.trans (hfin.mono (by omega)))
              clear HH7 HX7 HO7 HB7 hfin sB sK hb77 hb78 d1 d2
              generalize wS = W8 at *
              have hS8 : H + 1 ≤ W8.heap.size := HH8.out.o.lt
              have d1 := HO8.out.cell 1
              have d2 := HO8.out.cell 2
              simp only [List.getElem?_cons_succ, List.getElem?_cons_zero] at d1 d2
              have hb88 : Below W8.heap.size W8 W8 := Below.refl _ _
              have hb89 : Below W8.heap.size W8 W8.drew := (Below.refl _ _).drew
              by_cases q1 : lev < 0
              · have q2 : decide (0 ≤ lev) = false := by simp; omega
                have q3 : decide (lev < 0) = true := by simp; omega
                have HL := Lib.hid (show hasL lv lev = false by simp [hasL]; omega)
                go_wp2_with fail
                go_quiet ((first | (go_at_call 24; first | (with_reducible exact quiet_left (many_out H lv c lev _ HL.out (HH8.out.drewN _))) | (with_reducible exact quiet_add_left (many_out H lv c lev _ HL.out (HH8.out.drewN _))))))
                have HP8 := Lib.hid (show HPlay w H lv c (.slice (some ⟨g, 0, none⟩) lv cap') _ from ⟨HH8.out.drewN nq, ⟨_, _, rfl, HX8.out.same (below_drewN (Below.refl _ _) nq)⟩, below_drewN HB8.out nq⟩)
                go_wp2
                go_roundw
                case rel => exact ⟨k + 1, c, by omega, by go_num, HP8.out⟩
                case measure => simp [intOf]; omega
              · by_cases q4 : (lv : Int) ≤ lev
                · have q2 : decide (0 ≤ lev) = true := by simp; omega
                  have q3 : decide (lev < 0) = false := by simp; omega
                  have q5 : decide (lev < (lv : Int)) = false := by simp; omega
                  have q6 : decide ((lv : Int) ≤ lev) = true := by simp; omega
                  have HL := Lib.hid (show hasL lv lev = false by simp [hasL]; omega)
                  go_wp2_with fail
                  go_quiet ((first | (go_at_call 24; first | (with_reducible exact quiet_left (many_out H lv c lev _ HL.out (HH8.out.drewN _))) | (with_reducible exact quiet_add_left (many_out H lv c lev _ HL.out (HH8.out.drewN _))))))
                  have HP8 := Lib.hid (show HPlay w H lv c (.slice (some ⟨g, 0, none⟩) lv cap') _ from ⟨HH8.out.drewN nq, ⟨_, _, rfl, HX8.out.same (below_drewN (Below.refl _ _) nq)⟩, below_drewN HB8.out nq⟩)
                  go_wp2
                  go_roundw
                  case rel => exact ⟨k + 1, c, by omega, by go_num, HP8.out⟩
                  case measure => simp [intOf]; omega
                · obtain ⟨lv0, rfl⟩ : ∃ lv0 : Nat, lev = lv0 := ⟨lev.toNat, by omega⟩
                  have q0 : lv0 < lv := by omega
                  have q2 : decide ((0 : Int) ≤ (lv0 : Int)) = true := by simp
                  have q3 : decide ((lv0 : Int) < 0) = false := by simp
                  have q5 : decide ((lv0 : Int) < (lv : Int)) = true := by simp; omega
                  have q6 : decide ((lv : Int) ≤ (lv0 : Int)) = false := by simp; omega
                  have q7 : (0 : Int) ≤ (lv0 : Int) := by omega
                  have q9 : ¬ lv ≤ lv0 := by omega
                  have q10 : decide (lv ≤ lv0) = false := by simp; omega
                  have q8 : (lv0 : Int) < (lv : Int) := by omega
                  have HL := Lib.hid q0
                  have d3 := HX8.out.cell lv0 q0
                  go_wp2_with fail
                  go_quiet ((first | (go_at_call 24; first | (with_reducible exact quiet_left (many_at H lv c lv0 _ HL.out (HH8.out.drewN _))) | (with_reducible exact quiet_add_left (many_at H lv c lv0 _ HL.out (HH8.out.drewN _))))))
                  have HP8 := Lib.hid (show HPlay w H lv c (.slice (some ⟨g, 0, none⟩) lv cap') _ from ⟨HH8.out.drewN nq, ⟨_, _, rfl, HX8.out.same (below_drewN (Below.refl _ _) nq)⟩, below_drewN HB8.out nq⟩)
                  go_wp2
                  go_roundw
                  case rel => exact ⟨k + 1, c, by omega, by go_num, HP8.out⟩
                  case measure => simp [intOf]; omega
        · obtain rfl : k = l.length := by omega
          go_wp2_with fail
          refine (hawake_any _).mono ?_
          rintro e w9 ⟨rfl, b9⟩
          go_wp2_with fail
          go_ret
          exact ⟨rfl, (HBr.out.mono hn2).trans (b9.mono (Nat.le_trans hn2 (by omega)))⟩
    · have hR := right_any n
      rw [show decide (1 ≤ n ∧ n ≤ 128) = false by simp; omega] at hR
      have HR := Lib.hid hR
      have HB := Lib.hid (hnew_bad n w hn)
      clear hn hR
      go_enter Try.func4, Try.ntmps4
      go_wp2_with fail
      refine HB.out.mono ?_
      rintro e w1 ⟨rfl, rfl⟩
      go_wp2_with fail
      refine (HR.out _).mono ?_
      rintro e w1 ⟨rfl, rfl⟩
      go_wp2_with fail
      refine (hawake_any _).mono ?_
      rintro e w1 ⟨rfl, b1⟩
      go_wp2_with fail
      go_ret
      exact ⟨rfl, b1⟩
theorem opens_hact {W : World} : Opens Try.prog W 38 [IsI .i64, IsI .i64, IsI .i64] :=
  opens_struct (ss := [[IsI .i64], [IsI .i64], [IsI .i64]]) Try.underlying38 (by kernel_rfl)
    ⟨rfl, by kernel_rfl, opens_int Try.underlying3, rfl, by kernel_rfl, opens_int Try.underlying3, rfl, by kernel_rfl, opens_int Try.underlying3, trivial⟩
theorem hact_of (cs : List Value) (h : Fits [IsI .i64, IsI .i64, IsI .i64] cs) : ∃ x : HAct, cs = hactCells x ∧ True := by
  obtain ⟨_, _, rfl, ⟨x0, rfl, _⟩, h1⟩ := fits_cons h
  obtain ⟨_, _, rfl, ⟨x1, rfl, _⟩, h2⟩ := fits_cons h1
  obtain ⟨_, _, rfl, ⟨x2, rfl, _⟩, h3⟩ := fits_cons h2
  obtain rfl := fits_nil h3
  exact ⟨⟨x0, x1, x2⟩, rfl, trivial⟩
theorem plays_done : Walk 4 Try.f4 := by
  intro W args hs hc
  rw [Try.params4] at hs hc
  obtain ⟨l⟩ := args
  match l, hs with
  | [v0, v1], _ =>
    obtain ⟨n, rfl, _⟩ := came_int Try.underlying3 (hc 0 3 v0 rfl rfl)
    obtain ⟨a, c, l, rfl, g1, g2, _, hl⟩ := row_of_sl (k := 3) (cells := hactCells) (fun _ => True) (by omega) hact_of (came_slice Try.underlying35 (ps := [IsI .i64, IsI .i64, IsI .i64]) (by kernel_rfl) opens_hact (hc 1 35 v1 rfl rfl))
    exact plays_walk n a c l W g1 g2 hl
end Go.Proofs.Ytaokofldpkjloaa
