/-
  Layer 10 (hist): the statement HistAdds.
-/
import Derived.Test.YtaokofldpkjloaaHist5
namespace Go.Proofs.Ytaokofldpkjloaa
open Go.RowKit Go.Shelf
set_option linter.unusedVariables false
set_option linter.unusedSimpArgs false

/-- What stands from then on. -/
structure StH (H : Nat) (w : World) (lv : Nat) (c : List Int) (W : World) : Prop where
  h : HistAt W (H + 1) lv c
  b : Below H w W
theorem StH.next {H : Nat} {w : World} {lv : Nat} {c : List Int} {W W' : World} (h : StH H w lv c W) (hb : Below W.heap.size W W') : StH H w lv c W' := ⟨h.h.same hb, h.b.trans (hb.mono (by have := h.h.o.lt; omega))⟩
theorem StH.drewN {H : Nat} {w : World} {lv : Nat} {c : List Int} {W : World} (h : StH H w lv c W) (n : Nat) : StH H w lv c (W.drewN n) := ⟨h.h.drewN n, below_drewN h.b n⟩
theorem st_below {H : Nat} {w : World} {lv : Nat} {c : List Int} {W : World} (T : Int) (h : StH H w lv c W) : Calls Try.prog 12 #[.pointer (some ⟨H + 1, 0, none⟩), .int .i64 T] W fun e W' => e = .returned (.int .i64 (belowH lv c T)) ∧ StH H w lv c W' :=
  (below_anyH (H + 1) lv c T W h.h).mono fun _ _ ⟨he, hb⟩ => ⟨he, h.next hb⟩
theorem st_most {H : Nat} {w : World} {lv : Nat} {c : List Int} {W : World} (m : Int) (h : StH H w lv c W) : Calls Try.prog 11 #[.pointer (some ⟨H + 1, 0, none⟩), .int .i64 m] W fun e W' => e = .returned (.int .i64 (mostH lv c m)) ∧ StH H w lv c W' :=
  (most_anyH (H + 1) lv c m W h.h).mono fun _ _ ⟨he, hb⟩ => ⟨he, h.next hb⟩
theorem st_least {H : Nat} {w : World} {lv : Nat} {c : List Int} {W : World} (m : Int) (h : StH H w lv c W) : Calls Try.prog 13 #[.pointer (some ⟨H + 1, 0, none⟩), .int .i64 m] W fun e W' => e = .returned (firstV (leastH lv c m)) ∧ StH H w lv c W' :=
  (least_anyH (H + 1) lv c m W h.h).mono fun _ _ ⟨he, hb⟩ => ⟨he, h.next hb⟩
theorem st_total {H : Nat} {w : World} {lv : Nat} {c : List Int} {W : World} (h : StH H w lv c W) : Calls Try.prog 14 #[.pointer (some ⟨H + 1, 0, none⟩)] W fun e W' => e = .returned (.int .i64 (belowH lv c 128)) ∧ StH H w lv c W' :=
  (total_any (H + 1) lv c W h.h).mono fun _ _ ⟨he, hb⟩ => ⟨he, h.next hb⟩
theorem st_awake {H : Nat} {w : World} {lv : Nat} {c : List Int} {W : World} (h : StH H w lv c W) : Calls Try.prog 7 #[] W fun e W' => e = .returned (.bool true) ∧ StH H w lv c W' :=
  (hawake_any W).mono fun _ _ ⟨he, hb⟩ => ⟨he, h.next hb⟩
/-- What the loop holds. -/
structure AddsAt (H : Nat) (w w1 : World) (lv : Nat) (c : List Int) (wr : World) : Prop where
  h : HistAt wr (H + 1) lv c
  b : Below (H + 1) w1 wr
set_option maxRecDepth 100000 in
set_option maxHeartbeats 4000000 in
theorem adds_walk (a : Option Addr) (cap : Nat) (l : List Int) (many x0 x1 : Int) (w : World) (g1 : l.length ≤ cap) (g2 : cap ≤ 9223372036854775807) (hx0 : 0 ≤ x0 ∧ x0 ≤ 255) (hx1 : 0 ≤ x1 ∧ x1 ≤ 255) (hA : IntsAt w a l) :
    Calls Try.prog 3 #[.slice a l.length cap, .int .i64 many, .agg #[.int .u8 x0, .int .u8 x1]] w fun e w' => e = .returned (.bool true) ∧ Below w.heap.size w w' := by
  by_cases hl : 128 < l.length
  · have i1 : (128 : Int) < (l.length : Int) := by omega
    clear hA
    go_enter Try.func3, Try.ntmps3
    go_wp2_with fail
    refine (hawake_any _).mono ?_
    rintro e w1 ⟨rfl, b1⟩
    go_wp2_with fail
    go_ret
    exact ⟨rfl, ((Below.refl _ w).alloc (Nat.le_refl _) _).trans (b1.mono (by simp))⟩
  · by_cases hl0 : l.length < 1
    · have i1 : (l.length : Int) < 1 := by omega
      have i2 : (l.length : Int) ≤ 128 := by omega
      clear hA
      go_enter Try.func3, Try.ntmps3
      go_wp2_with fail
      refine (hawake_any _).mono ?_
      rintro e w1 ⟨rfl, b1⟩
      go_wp2_with fail
      go_ret
      exact ⟨rfl, ((Below.refl _ w).alloc (Nat.le_refl _) _).trans (b1.mono (by simp))⟩
    · have i1 : (1 : Int) ≤ (l.length : Int) := by omega
      have i2 : (l.length : Int) ≤ 128 := by omega
      have HA := Lib.hid hA
      clear hA
      obtain ⟨H, hH⟩ : ∃ H, H = w.heap.size := ⟨_, rfl⟩
      have b0 : Below H w (w.alloc (.cells #[.int .u8 x0, .int .u8 x1] 23)) := by rw [hH]; exact (Below.refl _ w).alloc (Nat.le_refl _) _
      have o0 : IsObj (w.alloc (.cells #[.int .u8 x0, .int .u8 x1] 23)) H 23 [.int .u8 x0, .int .u8 x1] := by rw [hH]; exact IsObj.new w _ _
      have K0 := hnew_ok l.length (w.alloc (.cells #[.int .u8 x0, .int .u8 x1] 23)) (by omega) (by omega)
      rw [World.size_alloc, ← hH] at K0
      have K := Lib.hid K0
      have B0 := Lib.hid b0
      have O0 := Lib.hid o0
      have hn1 : H ≤ w.heap.size := by omega
      have hn2 : w.heap.size ≤ H := by omega
      have HHs := Lib.hid hH
      clear hH K0 b0 o0
      go_enter Try.func3, Try.ntmps3
      go_wp2_with fail
      rw [← HHs.out]
      refine K.out.mono ?_
      rintro e w1 ⟨rfl, h1, b1⟩
      have B1 := Lib.hid (B0.out.trans (b1.mono (by omega)))
      have O1 := Lib.hid (IsObj.below O0.out b1 (by omega))
      have H1 := Lib.hid h1
      have hs1 : H + 1 ≤ w1.heap.size := by have := h1.o.lt; omega
      clear h1 b1 K O0 B0
      go_wp2_with fail
      go_loopw [9] (fun i wr => ∃ (k : Nat) (c : List Int), k ≤ l.length ∧ i = .int .i64 k ∧ AddsAt H w w1 l.length c wr) (fun i _ => l.length - (intOf i).toNat)
      case atStart => exact ⟨0, zeros, Nat.zero_le _, rfl, H1.out, Below.refl _ _⟩
      case round =>
        obtain ⟨k, c, hk, rfl, hP⟩ := hrel
        have HP := Lib.hid hP
        clear hP
        by_cases hlt : k < l.length
        · obtain ⟨ba, off, rfl, hc⟩ : ∃ b off, a = some ⟨b, off, none⟩ ∧ ∀ i, i < l.length → w.cell? ⟨b, off + i, none⟩ = some (.int .i64 (nth l i)) := by
            rcases HA.out with rfl | ⟨b, off, rfl, hc⟩
            · simp at hlt
            · exact ⟨b, off, rfl, hc⟩
          have cw := hc k hlt
          have hbw := cell_lt cw
          have c0 : wr.cell? ⟨ba, off + k, none⟩ = some (.int .i64 (nth l k)) := (HP.out.b.cell (p := ⟨ba, off + k, none⟩) (show ba < H + 1 by have : ba < w.heap.size := hbw; omega)).trans ((B1.out.cell (p := ⟨ba, off + k, none⟩) (show ba < H by have : ba < w.heap.size := hbw; omega)).trans cw)
          have i3 : (k : Int) < (l.length : Int) := by omega
          have K := Lib.hid (hadd_in (H + 1) l.length c k (nth l k) wr HP.out.h hlt)
          clear hc cw
          generalize nth l k = x at *
          go_wp2_with fail
          refine K.out.mono ?_
          rintro e w2 ⟨rfl, h2, o2⟩
          have H2 := Lib.hid h2
          have O2 := Lib.hid o2
          clear h2 o2
          go_wp2_with fail
          go_roundw
          case rel => exact ⟨k + 1, _, by omega, by go_num, H2.out, HP.out.b.trans (O2.out.below (Nat.le_refl _) (Nat.le_trans hs1 HP.out.b.size))⟩
          case measure => simp [intOf]; omega
        · obtain rfl : k = l.length := by omega
          have oB := IsObj.below O1.out HP.out.b (by omega)
          have d0 := oB.cell 0
          have d1 := oB.cell 1
          simp only [List.getElem?_cons_succ, List.getElem?_cons_zero] at d0 d1
          have HH := Lib.hid HP.out.h
          have BB := Lib.hid (B1.out.trans (HP.out.b.mono (by omega)))
          have hM := most_spec l.length c many
          have hmono := Lib.hid (belowH_mono l.length c)
          clear oB
          have HM := Lib.hid hM
          clear hM
          have HSt := Lib.hid (show StH H w l.length c wr from ⟨HH.out, BB.out⟩)
          go_wp2_with fail
          go_quiet (fail)
          replace HSt := Lib.hid (HSt.out.drewN nq)
          clear HH BB H1 O1 B1 HP
          generalize hk : mostH l.length c many = mk at *
          have m0 : 0 ≤ mk := HM.out.1
          have mL : mk ≤ l.length := HM.out.2.1
          have m1 : belowH l.length c mk ≤ cnt many := HM.out.2.2.1
          by_cases hab : x0 ≤ x1
          · have ha2 : belowH l.length c x0 ≤ belowH l.length c x1 := hmono.out _ _ hab
            by_cases hkl : mk < (l.length : Int)
            · have m2 := HM.out.2.2.2 hkl
              go_wp2_with (first | (go_at_call 10; (with_reducible refine (rcount_any _ _).mono ?_); rintro e w' ⟨rfl, rfl⟩) | (go_at_call 12; (with_reducible refine (st_below _ HSt.out).mono ?_); (rintro e w' ⟨rfl, st⟩; replace HSt := Lib.hid st; clear st)) | (go_at_call 11; (with_reducible refine (st_most _ HSt.out).mono ?_); (rintro e w' ⟨rfl, st⟩; replace HSt := Lib.hid st; clear st)) | (go_at_call 14; (with_reducible refine (st_total HSt.out).mono ?_); (rintro e w' ⟨rfl, st⟩; replace HSt := Lib.hid st; clear st)) | (go_at_call 7; (with_reducible refine (st_awake HSt.out).mono ?_); (rintro e w' ⟨rfl, st⟩; replace HSt := Lib.hid st; clear st)))
              refine (st_least many HSt.out).mono ?_
              rintro e w9 ⟨rfl, st⟩
              replace HSt := Lib.hid st
              clear st
              cases hF : leastH l.length c many with
              | none =>
                have n1 := least_nospec l.length c many (by omega) (by omega) hF
                clear hF
                unfold firstV
                go_wp2_with (first | (go_at_call 10; (with_reducible refine (rcount_any _ _).mono ?_); rintro e w' ⟨rfl, rfl⟩) | (go_at_call 12; (with_reducible refine (st_below _ HSt.out).mono ?_); (rintro e w' ⟨rfl, st⟩; replace HSt := Lib.hid st; clear st)) | (go_at_call 11; (with_reducible refine (st_most _ HSt.out).mono ?_); (rintro e w' ⟨rfl, st⟩; replace HSt := Lib.hid st; clear st)) | (go_at_call 14; (with_reducible refine (st_total HSt.out).mono ?_); (rintro e w' ⟨rfl, st⟩; replace HSt := Lib.hid st; clear st)) | (go_at_call 7; (with_reducible refine (st_awake HSt.out).mono ?_); (rintro e w' ⟨rfl, st⟩; replace HSt := Lib.hid st; clear st)))
                go_ret
                exact ⟨rfl, HSt.out.b.mono hn2⟩
              | some t =>
                have n1 := least_spec l.length c many t hF
                have n2 := n1.1
                have n3 := n1.2.1
                have n4 := n1.2.2
                clear n1 hF
                unfold firstV
                by_cases ht : t = 0
                · subst ht
                  have n5 : cnt many ≤ belowH l.length c 0 := n3
                  clear n4 n3
                  go_wp2_with (first | (go_at_call 10; (with_reducible refine (rcount_any _ _).mono ?_); rintro e w' ⟨rfl, rfl⟩) | (go_at_call 12; (with_reducible refine (st_below _ HSt.out).mono ?_); (rintro e w' ⟨rfl, st⟩; replace HSt := Lib.hid st; clear st)) | (go_at_call 11; (with_reducible refine (st_most _ HSt.out).mono ?_); (rintro e w' ⟨rfl, st⟩; replace HSt := Lib.hid st; clear st)) | (go_at_call 14; (with_reducible refine (st_total HSt.out).mono ?_); (rintro e w' ⟨rfl, st⟩; replace HSt := Lib.hid st; clear st)) | (go_at_call 7; (with_reducible refine (st_awake HSt.out).mono ?_); (rintro e w' ⟨rfl, st⟩; replace HSt := Lib.hid st; clear st)))
                  go_ret
                  exact ⟨rfl, HSt.out.b.mono hn2⟩
                · have n5 : belowH l.length c ((t : Int) - 1) < cnt many := by omega
                  have n6 : ((t : Int) == 0) = false := by simp; omega
                  clear n4
                  go_wp2_with (first | (go_at_call 10; (with_reducible refine (rcount_any _ _).mono ?_); rintro e w' ⟨rfl, rfl⟩) | (go_at_call 12; (with_reducible refine (st_below _ HSt.out).mono ?_); (rintro e w' ⟨rfl, st⟩; replace HSt := Lib.hid st; clear st)) | (go_at_call 11; (with_reducible refine (st_most _ HSt.out).mono ?_); (rintro e w' ⟨rfl, st⟩; replace HSt := Lib.hid st; clear st)) | (go_at_call 14; (with_reducible refine (st_total HSt.out).mono ?_); (rintro e w' ⟨rfl, st⟩; replace HSt := Lib.hid st; clear st)) | (go_at_call 7; (with_reducible refine (st_awake HSt.out).mono ?_); (rintro e w' ⟨rfl, st⟩; replace HSt := Lib.hid st; clear st)))
                  go_ret
                  exact ⟨rfl, HSt.out.b.mono hn2⟩
            · have hkl' : (l.length : Int) ≤ mk := by omega
              go_wp2_with (first | (go_at_call 10; (with_reducible refine (rcount_any _ _).mono ?_); rintro e w' ⟨rfl, rfl⟩) | (go_at_call 12; (with_reducible refine (st_below _ HSt.out).mono ?_); (rintro e w' ⟨rfl, st⟩; replace HSt := Lib.hid st; clear st)) | (go_at_call 11; (with_reducible refine (st_most _ HSt.out).mono ?_); (rintro e w' ⟨rfl, st⟩; replace HSt := Lib.hid st; clear st)) | (go_at_call 14; (with_reducible refine (st_total HSt.out).mono ?_); (rintro e w' ⟨rfl, st⟩; replace HSt := Lib.hid st; clear st)) | (go_at_call 7; (with_reducible refine (st_awake HSt.out).mono ?_); (rintro e w' ⟨rfl, st⟩; replace HSt := Lib.hid st; clear st)))
              refine (st_least many HSt.out).mono ?_
              rintro e w9 ⟨rfl, st⟩
              replace HSt := Lib.hid st
              clear st
              cases hF : leastH l.length c many with
              | none =>
                have n1 := least_nospec l.length c many (by omega) (by omega) hF
                clear hF
                unfold firstV
                go_wp2_with (first | (go_at_call 10; (with_reducible refine (rcount_any _ _).mono ?_); rintro e w' ⟨rfl, rfl⟩) | (go_at_call 12; (with_reducible refine (st_below _ HSt.out).mono ?_); (rintro e w' ⟨rfl, st⟩; replace HSt := Lib.hid st; clear st)) | (go_at_call 11; (with_reducible refine (st_most _ HSt.out).mono ?_); (rintro e w' ⟨rfl, st⟩; replace HSt := Lib.hid st; clear st)) | (go_at_call 14; (with_reducible refine (st_total HSt.out).mono ?_); (rintro e w' ⟨rfl, st⟩; replace HSt := Lib.hid st; clear st)) | (go_at_call 7; (with_reducible refine (st_awake HSt.out).mono ?_); (rintro e w' ⟨rfl, st⟩; replace HSt := Lib.hid st; clear st)))
                go_ret
                exact ⟨rfl, HSt.out.b.mono hn2⟩
              | some t =>
                have n1 := least_spec l.length c many t hF
                have n2 := n1.1
                have n3 := n1.2.1
                have n4 := n1.2.2
                clear n1 hF
                unfold firstV
                by_cases ht : t = 0
                · subst ht
                  have n5 : cnt many ≤ belowH l.length c 0 := n3
                  clear n4 n3
                  go_wp2_with (first | (go_at_call 10; (with_reducible refine (rcount_any _ _).mono ?_); rintro e w' ⟨rfl, rfl⟩) | (go_at_call 12; (with_reducible refine (st_below _ HSt.out).mono ?_); (rintro e w' ⟨rfl, st⟩; replace HSt := Lib.hid st; clear st)) | (go_at_call 11; (with_reducible refine (st_most _ HSt.out).mono ?_); (rintro e w' ⟨rfl, st⟩; replace HSt := Lib.hid st; clear st)) | (go_at_call 14; (with_reducible refine (st_total HSt.out).mono ?_); (rintro e w' ⟨rfl, st⟩; replace HSt := Lib.hid st; clear st)) | (go_at_call 7; (with_reducible refine (st_awake HSt.out).mono ?_); (rintro e w' ⟨rfl, st⟩; replace HSt := Lib.hid st; clear st)))
                  go_ret
                  exact ⟨rfl, HSt.out.b.mono hn2⟩
                · have n5 : belowH l.length c ((t : Int) - 1) < cnt many := by omega
                  have n6 : ((t : Int) == 0) = false := by simp; omega
                  clear n4
                  go_wp2_with (first | (go_at_call 10; (with_reducible refine (rcount_any _ _).mono ?_); rintro e w' ⟨rfl, rfl⟩) | (go_at_call 12; (with_reducible refine (st_below _ HSt.out).mono ?_); (rintro e w' ⟨rfl, st⟩; replace HSt := Lib.hid st; clear st)) | (go_at_call 11; (with_reducible refine (st_most _ HSt.out).mono ?_); (rintro e w' ⟨rfl, st⟩; replace HSt := Lib.hid st; clear st)) | (go_at_call 14; (with_reducible refine (st_total HSt.out).mono ?_); (rintro e w' ⟨rfl, st⟩; replace HSt := Lib.hid st; clear st)) | (go_at_call 7; (with_reducible refine (st_awake HSt.out).mono ?_); (rintro e w' ⟨rfl, st⟩; replace HSt := Lib.hid st; clear st)))
                  go_ret
                  exact ⟨rfl, HSt.out.b.mono hn2⟩
          · have hab' : x1 < x0 := by omega
            by_cases hkl : mk < (l.length : Int)
            · have m2 := HM.out.2.2.2 hkl
              go_wp2_with (first | (go_at_call 10; (with_reducible refine (rcount_any _ _).mono ?_); rintro e w' ⟨rfl, rfl⟩) | (go_at_call 12; (with_reducible refine (st_below _ HSt.out).mono ?_); (rintro e w' ⟨rfl, st⟩; replace HSt := Lib.hid st; clear st)) | (go_at_call 11; (with_reducible refine (st_most _ HSt.out).mono ?_); (rintro e w' ⟨rfl, st⟩; replace HSt := Lib.hid st; clear st)) | (go_at_call 14; (with_reducible refine (st_total HSt.out).mono ?_); (rintro e w' ⟨rfl, st⟩; replace HSt := Lib.hid st; clear st)) | (go_at_call 7; (with_reducible refine (st_awake HSt.out).mono ?_); (rintro e w' ⟨rfl, st⟩; replace HSt := Lib.hid st; clear st)))
              refine (st_least many HSt.out).mono ?_
              rintro e w9 ⟨rfl, st⟩
              replace HSt := Lib.hid st
              clear st
              cases hF : leastH l.length c many with
              | none =>
                have n1 := least_nospec l.length c many (by omega) (by omega) hF
                clear hF
                unfold firstV
                go_wp2_with (first | (go_at_call 10; (with_reducible refine (rcount_any _ _).mono ?_); rintro e w' ⟨rfl, rfl⟩) | (go_at_call 12; (with_reducible refine (st_below _ HSt.out).mono ?_); (rintro e w' ⟨rfl, st⟩; replace HSt := Lib.hid st; clear st)) | (go_at_call 11; (with_reducible refine (st_most _ HSt.out).mono ?_); (rintro e w' ⟨rfl, st⟩; replace HSt := Lib.hid st; clear st)) | (go_at_call 14; (with_reducible refine (st_total HSt.out).mono ?_); (rintro e w' ⟨rfl, st⟩; replace HSt := Lib.hid st; clear st)) | (go_at_call 7; (with_reducible refine (st_awake HSt.out).mono ?_); (rintro e w' ⟨rfl, st⟩; replace HSt := Lib.hid st; clear st)))
                go_ret
                exact ⟨rfl, HSt.out.b.mono hn2⟩
              | some t =>
                have n1 := least_spec l.length c many t hF
                have n2 := n1.1
                have n3 := n1.2.1
                have n4 := n1.2.2
                clear n1 hF
                unfold firstV
                by_cases ht : t = 0
                · subst ht
                  have n5 : cnt many ≤ belowH l.length c 0 := n3
                  clear n4 n3
                  go_wp2_with (first | (go_at_call 10; (with_reducible refine (rcount_any _ _).mono ?_); rintro e w' ⟨rfl, rfl⟩) | (go_at_call 12; (with_reducible refine (st_below _ HSt.out).mono ?_); (rintro e w' ⟨rfl, st⟩; replace HSt := Lib.hid st; clear st)) | (go_at_call 11; (with_reducible refine (st_most _ HSt.out).mono ?_); (rintro e w' ⟨rfl, st⟩; replace HSt := Lib.hid st; clear st)) | (go_at_call 14; (with_reducible refine (st_total HSt.out).mono ?_); (rintro e w' ⟨rfl, st⟩; replace HSt := Lib.hid st; clear st)) | (go_at_call 7; (with_reducible refine (st_awake HSt.out).mono ?_); (rintro e w' ⟨rfl, st⟩; replace HSt := Lib.hid st; clear st)))
                  go_ret
                  exact ⟨rfl, HSt.out.b.mono hn2⟩
                · have n5 : belowH l.length c ((t : Int) - 1) < cnt many := by omega
                  have n6 : ((t : Int) == 0) = false := by simp; omega
                  clear n4
                  go_wp2_with (first | (go_at_call 10; (with_reducible refine (rcount_any _ _).mono ?_); rintro e w' ⟨rfl, rfl⟩) | (go_at_call 12; (with_reducible refine (st_below _ HSt.out).mono ?_); (rintro e w' ⟨rfl, st⟩; replace HSt := Lib.hid st; clear st)) | (go_at_call 11; (with_reducible refine (st_most _ HSt.out).mono ?_); (rintro e w' ⟨rfl, st⟩; replace HSt := Lib.hid st; clear st)) | (go_at_call 14; (with_reducible refine (st_total HSt.out).mono ?_); (rintro e w' ⟨rfl, st⟩; replace HSt := Lib.hid st; clear st)) | (go_at_call 7; (with_reducible refine (st_awake HSt.out).mono ?_); (rintro e w' ⟨rfl, st⟩; replace HSt := Lib.hid st; clear st)))
                  go_ret
                  exact ⟨rfl, HSt.out.b.mono hn2⟩
            · have hkl' : (l.length : Int) ≤ mk := by omega
              go_wp2_with (first | (go_at_call 10; (with_reducible refine (rcount_any _ _).mono ?_); rintro e w' ⟨rfl, rfl⟩) | (go_at_call 12; (with_reducible refine (st_below _ HSt.out).mono ?_); (rintro e w' ⟨rfl, st⟩; replace HSt := Lib.hid st; clear st)) | (go_at_call 11; (with_reducible refine (st_most _ HSt.out).mono ?_); (rintro e w' ⟨rfl, st⟩; replace HSt := Lib.hid st; clear st)) | (go_at_call 14; (with_reducible refine (st_total HSt.out).mono ?_); (rintro e w' ⟨rfl, st⟩; replace HSt := Lib.hid st; clear st)) | (go_at_call 7; (with_reducible refine (st_awake HSt.out).mono ?_); (rintro e w' ⟨rfl, st⟩; replace HSt := Lib.hid st; clear st)))
              refine (st_least many HSt.out).mono ?_
              rintro e w9 ⟨rfl, st⟩
              replace HSt := Lib.hid st
              clear st
              cases hF : leastH l.length c many with
              | none =>
                have n1 := least_nospec l.length c many (by omega) (by omega) hF
                clear hF
                unfold firstV
                go_wp2_with (first | (go_at_call 10; (with_reducible refine (rcount_any _ _).mono ?_); rintro e w' ⟨rfl, rfl⟩) | (go_at_call 12; (with_reducible refine (st_below _ HSt.out).mono ?_); (rintro e w' ⟨rfl, st⟩; replace HSt := Lib.hid st; clear st)) | (go_at_call 11; (with_reducible refine (st_most _ HSt.out).mono ?_); (rintro e w' ⟨rfl, st⟩; replace HSt := Lib.hid st; clear st)) | (go_at_call 14; (with_reducible refine (st_total HSt.out).mono ?_); (rintro e w' ⟨rfl, st⟩; replace HSt := Lib.hid st; clear st)) | (go_at_call 7; (with_reducible refine (st_awake HSt.out).mono ?_); (rintro e w' ⟨rfl, st⟩; replace HSt := Lib.hid st; clear st)))
                go_ret
                exact ⟨rfl, HSt.out.b.mono hn2⟩
              | some t =>
                have n1 := least_spec l.length c many t hF
                have n2 := n1.1
                have n3 := n1.2.1
                have n4 := n1.2.2
                clear n1 hF
                unfold firstV
                by_cases ht : t = 0
                · subst ht
                  have n5 : cnt many ≤ belowH l.length c 0 := n3
                  clear n4 n3
                  go_wp2_with (first | (go_at_call 10; (with_reducible refine (rcount_any _ _).mono ?_); rintro e w' ⟨rfl, rfl⟩) | (go_at_call 12; (with_reducible refine (st_below _ HSt.out).mono ?_); (rintro e w' ⟨rfl, st⟩; replace HSt := Lib.hid st; clear st)) | (go_at_call 11; (with_reducible refine (st_most _ HSt.out).mono ?_); (rintro e w' ⟨rfl, st⟩; replace HSt := Lib.hid st; clear st)) | (go_at_call 14; (with_reducible refine (st_total HSt.out).mono ?_); (rintro e w' ⟨rfl, st⟩; replace HSt := Lib.hid st; clear st)) | (go_at_call 7; (with_reducible refine (st_awake HSt.out).mono ?_); (rintro e w' ⟨rfl, st⟩; replace HSt := Lib.hid st; clear st)))
                  go_ret
                  exact ⟨rfl, HSt.out.b.mono hn2⟩
                · have n5 : belowH l.length c ((t : Int) - 1) < cnt many := by omega
                  have n6 : ((t : Int) == 0) = false := by simp; omega
                  clear n4
                  go_wp2_with (first | (go_at_call 10; (with_reducible refine (rcount_any _ _).mono ?_); rintro e w' ⟨rfl, rfl⟩) | (go_at_call 12; (with_reducible refine (st_below _ HSt.out).mono ?_); (rintro e w' ⟨rfl, st⟩; replace HSt := Lib.hid st; clear st)) | (go_at_call 11; (with_reducible refine (st_most _ HSt.out).mono ?_); (rintro e w' ⟨rfl, st⟩; replace HSt := Lib.hid st; clear st)) | (go_at_call 14; (with_reducible refine (st_total HSt.out).mono ?_); (rintro e w' ⟨rfl, st⟩; replace HSt := Lib.hid st; clear st)) | (go_at_call 7; (with_reducible refine (st_awake HSt.out).mono ?_); (rintro e w' ⟨rfl, st⟩; replace HSt := Lib.hid st; clear st)))
                  go_ret
                  exact ⟨rfl, HSt.out.b.mono hn2⟩
theorem wf_u8 (x : Int) (h : (Lit.int .u8 x).wf = true) : 0 ≤ x ∧ x ≤ 255 := by
  have := bounds_u8 h
  omega
theorem adds_done : Walk 3 Try.f3 := by
  intro W args hs hc
  rw [Try.params3] at hs hc
  obtain ⟨l⟩ := args
  match l, hs with
  | [v0, v1, v2], _ =>
    obtain ⟨l, a, c, rfl, g1, g2, hl⟩ := ints_of_sl (came_slice Try.underlying22 (ps := [IsI .i64]) (by kernel_rfl) (opens_int Try.underlying3) (hc 0 22 v0 rfl rfl))
    obtain ⟨m, rfl, _⟩ := came_int Try.underlying3 (hc 1 3 v1 rfl rfl)
    obtain ⟨l2, rfl, f2⟩ := came_array Try.underlying23 (opens_array (s := [IsI .u8]) Try.underlying23 (by kernel_rfl) (by kernel_rfl) (opens_int Try.underlying5)) (hc 2 23 v2 rfl rfl)
    obtain ⟨_, _, rfl, ⟨x0, rfl, w0⟩, f2a⟩ := fits_cons f2
    obtain ⟨_, _, rfl, ⟨x1, rfl, w1⟩, f2b⟩ := fits_cons f2a
    obtain rfl := fits_nil f2b
    exact adds_walk a c l m x0 x1 W g1 g2 (wf_u8 x0 w0) (wf_u8 x1 w1) hl
end Go.Proofs.Ytaokofldpkjloaa
