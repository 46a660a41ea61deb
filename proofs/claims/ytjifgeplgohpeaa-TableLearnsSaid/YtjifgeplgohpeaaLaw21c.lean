/-
  The statement TableLearns of layer 21 (table). No condition.
-/
import Derived.Test.YtjifgeplgohpeaaKn4
import Derived.Test.YtjifgeplgohpeaaLaw21
import Derived.Deep.RegionHeld3
namespace Go.Proofs.Ytjifgeplgohpeaa
open Go.RowKit
set_option linter.unusedVariables false

theorem tnew_bad (ttl : Int) (w : World) (h : ttl < 0 ∨ (0 ≤ ttl ∧ 1099511627776 < ttl)) : Calls Try.prog 16 #[.int .i64 ttl] w fun e w' => e = .returned (.tuple #[.pointer none, .int .i64 1]) ∧ w = w' := by
  rcases h with h | ⟨h, h2⟩
  all_goals
    go_enter Try.func16, Try.ntmps16
    go_wp2
    go_returns
    exact ⟨rfl, rfl⟩
set_option linter.unusedSimpArgs false
set_option maxRecDepth 100000 in
set_option maxHeartbeats 16000000 in
theorem tlearns_walk (ttl : Int) (a : Option Addr) (c : Nat) (l : List TAct) (w : World) (g1 : l.length ≤ c) (g2 : c ≤ 9223372036854775807) (hA : RowOf tactCells 6 w a l) : Calls Try.prog 3 #[.int .i64 ttl, .slice a l.length c] w fun e w' => e = .returned (.bool true) ∧ Below w.heap.size w w' := by
  have HZ := Lib.hid awake21
  have HA := Lib.hid hA
  clear hA
  by_cases hl : 100 < l.length
  · have hd : decide ((100 : Int) < (l.length : Int)) = true := by simp; omega
    go_enter Try.func3, Try.ntmps3
    go_wp2_with (go_at_call 15; refine (HZ.out _).mono ?_; rintro e w1 ⟨rfl, hb⟩)
    go_ret
    exact ⟨rfl, hb⟩
  · have hd : decide ((100 : Int) < (l.length : Int)) = false := by simp; omega
    have l1 : l.length ≤ 100 := by omega
    clear hl
    by_cases hbad : ttl < 0 ∨ (0 ≤ ttl ∧ 1099511627776 < ttl)
    · have HN := Lib.hid (fun w => tnew_bad ttl w hbad)
      rcases hbad with q0 | ⟨q0, q1⟩
      all_goals
        go_enter Try.func3, Try.ntmps3
        go_wp2_with (first | (go_at_call 16; (with_reducible refine (HN.out _).mono ?_); rintro e w' ⟨rfl, rfl⟩) | (go_at_call 15; refine (HZ.out _).mono ?_; rintro e w1 ⟨rfl, hb⟩))
        go_ret
        exact ⟨rfl, hb⟩
    · have t0 : 0 ≤ ttl := by omega
      have t1 : ttl ≤ 1099511627776 := by omega
      have hd2x : decide (ttl < 0) = false := by simp; omega
      have hd3x : decide (1099511627776 < ttl) = false := by simp; omega
      clear hbad
      go_enter Try.func3, Try.ntmps3
      go_wp2_with fail
      refine (tnew_any ttl _ t0 t1).mono ?_
      rintro e w1 ⟨rfl, hT, hb, hs⟩
      have HT := Lib.hid hT
      have HB := Lib.hid hb
      clear hT hb
      go_wp2_with fail
      obtain ⟨T, hTe⟩ : ∃ T, T = w.heap.size := ⟨_, rfl⟩
      have hwT : w.heap.size ≤ T := by omega
      rw [← hTe] at HT ⊢
      have hs1 : T < w1.heap.size := by omega
      clear hTe hs
      go_loopw [7, 8] (fun vv i wr => ∃ (f : Ents) (k : Nat) (v : Value), k ≤ l.length ∧ i = .int .i64 k ∧ v = vv ∧ TableAt wr T ttl f ∧ KnB (T + 1) wr v (knL f) ∧ Below w.heap.size w wr) (fun _ i _ => l.length - (intOf i).toNat)
      case atStart => exact ⟨fun _ => none, 0, _, Nat.zero_le _, rfl, rfl, HT.out, KnB.nil _ _, HB.out⟩
      case round =>
        obtain ⟨f, k, v, hk, rfl, rfl, hTr, hKr, hbr⟩ := hrel
        have HTr := Lib.hid hTr
        have HKr := Lib.hid hKr
        have HBr := Lib.hid hbr
        have hTA := IsObj.lt hTr
        have hArow := HA.out.same tactCells_len hbr
        clear hTr hKr hbr HT HB
        by_cases hlt : k < l.length
        · obtain ⟨ba, oa, hab, hca⟩ : ∃ ba oa, a = some ⟨ba, oa, none⟩ ∧ ∀ i, i < l.length → ∀ q, q < 6 → wr.cell? ⟨ba, oa + i * 6 + q, none⟩ = (tactCells (nth l i))[q]? := by
            rcases hArow with h | ⟨ba, oa, h, hc⟩
            · rw [h] at hlt; simp at hlt
            · exact ⟨ba, oa, h, hc⟩
          have q0 := hca k hlt 0 (by omega)
          have q1 := hca k hlt 1 (by omega)
          have q2 := hca k hlt 2 (by omega)
          have q3 := hca k hlt 3 (by omega)
          have q4 := hca k hlt 4 (by omega)
          have q5 := hca k hlt 5 (by omega)
          have i1 : (0 : Int) ≤ (k : Int) := by omega
          have i2 : (k : Int) < (l.length : Int) := by omega
          subst hab
          clear hca
          generalize nth l k = x at *
          obtain ⟨kd, tt, th, ep, now, lev⟩ := x
          simp only [tactCells, Nat.add_zero, List.getElem?_cons_zero, List.getElem?_cons_succ] at q0 q1 q2 q3 q4 q5
          by_cases hk0 : kd = 0
          · subst hk0
            obtain ⟨W2, hW2⟩ : ∃ W2, W2 = wr.alloc (.cells [.int .i64 0, .int .i64 tt, .int .i64 th, .int .i64 ep, .int .i64 now, .int .i64 lev].toArray 30) := ⟨_, rfl⟩
            have hbA : Below wr.heap.size wr W2 := by rw [hW2]; exact (Below.refl _ _).alloc (Nat.le_refl _) _
            have HX2 := Lib.hid (show IsObj W2 wr.heap.size 30 [.int .i64 0, .int .i64 tt, .int .i64 th, .int .i64 ep, .int .i64 now, .int .i64 lev] by rw [hW2]; exact IsObj.new wr _ _)
            have HT2 := Lib.hid (TableAt.same HTr.out hbA)
            have HK2 := Lib.hid (HKr.out.same hbA)
            have HB2 := Lib.hid (HBr.out.trans (hbA.mono HBr.out.size))
            have hszA : W2.heap.size = wr.heap.size + 1 := by rw [hW2]; simp
            clear hbA HTr HKr HBr
            obtain ⟨A, hAA⟩ : ∃ A, A = wr.heap.size := ⟨_, rfl⟩
            rw [← hAA] at HX2 hszA hTA
            obtain ⟨ok, hok⟩ : ∃ ok, ok = lrnOk f tt ep := ⟨_, rfl⟩
            obtain ⟨f2, hf2⟩ : ∃ f2, f2 = lrn f tt th ep now := ⟨_, rfl⟩
            have RL := rlearn_any (T + 1) v f tt th ep now W2 HK2.out (by omega)
            have TL := fun w h => learn_any T ttl f tt th ep now w h
            rw [← hok, ← hf2] at RL TL
            have HRL := Lib.hid RL
            have HTL := Lib.hid TL
            clear RL TL hok hf2
            go_wp2_with fail
            rw [← hW2, ← hAA]
            clear hW2 hAA
            refine HRL.out.mono ?_
            rintro e w3 ⟨v2, rfl, hK3, hb3⟩
            have HX3 := Lib.hid (IsObj.below HX2.out hb3 HX2.out.lt)
            have HT3 := Lib.hid (TableAt.same HT2.out hb3)
            have HK3 := Lib.hid hK3
            have HB3 := Lib.hid (HB2.out.trans (hb3.mono HB2.out.size))
            have u1 := IsObj.cell HX3.out 1
            have u2 := IsObj.cell HX3.out 2
            have u3 := IsObj.cell HX3.out 3
            have u4 := IsObj.cell HX3.out 4
            simp only [List.getElem?_cons_succ, List.getElem?_cons_zero] at u1 u2 u3 u4
            clear hK3 hb3 HX2 HT2 HK2 HB2 HRL
            go_wp2_with fail
            refine (HTL.out _ HT3.out).mono ?_
            rintro e w4 ⟨rfl, hT4, hO4⟩
            have hX4 := IsObj.only HX3.out hO4 (by omega)
            have HX4 := Lib.hid hX4
            have HT4 := Lib.hid hT4
            have HK4 := Lib.hid (HK3.out.only hO4 (by omega))
            have HB4 := Lib.hid (HB3.out.trans (hO4.below hwT HB3.out.size))
            clear u1 u2 u3 u4 hT4 hO4 HX3 HT3 HK3 HB3 HTL
            have u4 := IsObj.cell hX4 4
            simp only [List.getElem?_cons_succ, List.getElem?_cons_zero] at u4
            clear hX4
            have hlen5 : (knL (knNow f2 ttl now)).length ≤ 8 := knU_len _ 8
            rcases find_now f2 ttl tt now with ⟨hkn, hfk⟩ | ⟨e0, j, hkn, hfk, hj, _, hn⟩
            · go_wp2_with fail
              refine (rallK_any v2 f2 ttl now _ HK4.out.at).mono ?_
              rintro e w5 ⟨v5, rfl, ⟨a5, c5, rfl, m1, m2, hA5⟩, hb5⟩
              have hX5 := IsObj.below HX4.out hb5 HX4.out.lt
              have HT5 := Lib.hid (TableAt.same HT4.out hb5)
              have HK5 := Lib.hid (HK4.out.same hb5)
              have HB5 := Lib.hid (HB4.out.trans (hb5.mono HB4.out.size))
              have HX5 := Lib.hid hX5
              have HA5 := Lib.hid hA5
              have x1 := IsObj.cell hX5 1
              have x4 := IsObj.cell hX5 4
              have x5 := IsObj.cell hX5 5
              simp only [List.getElem?_cons_succ, List.getElem?_cons_zero] at x1 x4 x5
              clear hX5 hA5 hb5 HT4 HK4 HX4 HB4
              have G := fun w h => get_any T ttl f2 tt now w h
              rw [hkn] at G
              unfold kv Option.isSome at G
              have HG := Lib.hid G
              clear G
              go_wp2_with fail
              refine (HG.out _ HT5.out).mono ?_
              rintro e w6 ⟨rfl, hb6⟩
              obtain ⟨W7, hW7⟩ : ∃ W7, W7 = w6.alloc (.cells [.int .i64 0, .int .i64 0, .int .i64 0, .int .i64 0].toArray 36) := ⟨_, rfl⟩
              have hb67 : Below w6.heap.size w6 W7 := by rw [hW7]; exact (Below.refl _ _).alloc (Nat.le_refl _) _
              have hY7 : IsObj W7 w6.heap.size 36 [.int .i64 0, .int .i64 0, .int .i64 0, .int .i64 0] := by rw [hW7]; exact IsObj.new w6 _ _
              have hX6 := IsObj.below HX5.out hb6 HX5.out.lt
              have r1 := IsObj.cell hX6 1
              have r4 := IsObj.cell hX6 4
              have r5 := IsObj.cell hX6 5
              have rl := IsObj.lt hX6
              simp only [List.getElem?_cons_succ, List.getElem?_cons_zero] at r1 r4 r5
              clear hX6
              have hb57 : Below w5.heap.size w5 W7 := hb6.trans (hb67.mono hb6.size)
              have HX7 := IsObj.below HX5.out hb57 HX5.out.lt
              have HT7 := Lib.hid (TableAt.same HT5.out hb57)
              have HK7 := Lib.hid (HK5.out.same hb57)
              have HB7 := Lib.hid (HB5.out.trans (hb57.mono HB5.out.size))
              have hA7 := HA5.out.same knCells_len hb57
              have HA7 := Lib.hid hA7
              have HFi := Lib.hid (rfind_any a5 c5 (knL (knNow f2 ttl now)) tt W7 (Nat.le_trans hlen5 (by decide)) hA7)
              rw [hfk] at HFi
              have y1 := IsObj.cell HX7 1
              have y4 := IsObj.cell HX7 4
              have y5 := IsObj.cell HX7 5
              have z0 := IsObj.cell hY7 0
              have z1 := IsObj.cell hY7 1
              have z2 := IsObj.cell hY7 2
              have z3 := IsObj.cell hY7 3
              simp only [List.getElem?_cons_succ, List.getElem?_cons_zero] at y1 y4 y5 z0 z1 z2 z3
              have hyl := IsObj.lt hY7
              have hxl := IsObj.lt HX7
              clear hb6 hb67 hb57 hY7 HX7 hA7 HT5 HK5 HX5 HB5 HA5 x1 x4 x5
              go_wp2_with fail
              rw [← hW7]
              clear r1 r4 r5 rl
              refine HFi.out.mono ?_
              rintro e w' ⟨rfl, rfl⟩
              obtain ⟨Y, hY⟩ : ∃ Y, Y = w6.heap.size := ⟨_, rfl⟩
              rw [← hY] at z0 z1 z2 z3 hyl ⊢
              clear hW7 hY HFi
              have hb77 : Below W7.heap.size W7 W7 := Below.refl _ _
              have sB : ∀ W, (W.cell? ⟨A, 1, none⟩ = some (.int .i64 tt) ∧ W.cell? ⟨A, 4, none⟩ = some (.int .i64 now) ∧ W.cell? ⟨A, 5, none⟩ = some (.int .i64 lev) ∧ W.cell? ⟨Y, 0, none⟩ = some (.int .i64 0) ∧ W.cell? ⟨Y, 1, none⟩ = some (.int .i64 0) ∧ W.cell? ⟨Y, 2, none⟩ = some (.int .i64 0) ∧ W.cell? ⟨Y, 3, none⟩ = some (.int .i64 0) ∧ Below W7.heap.size W7 W) → Below W7.heap.size W7 W := fun W h => h.2.2.2.2.2.2.2
              have sK : ∀ W W1, Below W.heap.size W W1 → (W.cell? ⟨A, 1, none⟩ = some (.int .i64 tt) ∧ W.cell? ⟨A, 4, none⟩ = some (.int .i64 now) ∧ W.cell? ⟨A, 5, none⟩ = some (.int .i64 lev) ∧ W.cell? ⟨Y, 0, none⟩ = some (.int .i64 0) ∧ W.cell? ⟨Y, 1, none⟩ = some (.int .i64 0) ∧ W.cell? ⟨Y, 2, none⟩ = some (.int .i64 0) ∧ W.cell? ⟨Y, 3, none⟩ = some (.int .i64 0) ∧ Below W7.heap.size W7 W) → (W1.cell? ⟨A, 1, none⟩ = some (.int .i64 tt) ∧ W1.cell? ⟨A, 4, none⟩ = some (.int .i64 now) ∧ W1.cell? ⟨A, 5, none⟩ = some (.int .i64 lev) ∧ W1.cell? ⟨Y, 0, none⟩ = some (.int .i64 0) ∧ W1.cell? ⟨Y, 1, none⟩ = some (.int .i64 0) ∧ W1.cell? ⟨Y, 2, none⟩ = some (.int .i64 0) ∧ W1.cell? ⟨Y, 3, none⟩ = some (.int .i64 0) ∧ Below W7.heap.size W7 W1) := fun W W1 hb h => ⟨cell_keep hb (h.1), cell_keep hb (h.2.1), cell_keep hb (h.2.2.1), cell_keep hb (h.2.2.2.1), cell_keep hb (h.2.2.2.2.1), cell_keep hb (h.2.2.2.2.2.1), cell_keep hb (h.2.2.2.2.2.2.1), (h.2.2.2.2.2.2.2).trans (hb.mono (h.2.2.2.2.2.2.2).size)⟩
              go_wp2_with fail
              have hb78 : Below W7.heap.size W7 W7.drew := (Below.refl _ _).drew
              refine wp_region_held_drew (S := fun w' => w'.cell? ⟨A, 1, none⟩ = some (.int .i64 tt) ∧ w'.cell? ⟨A, 4, none⟩ = some (.int .i64 now) ∧ w'.cell? ⟨A, 5, none⟩ = some (.int .i64 lev) ∧ w'.cell? ⟨Y, 0, none⟩ = some (.int .i64 0) ∧ w'.cell? ⟨Y, 1, none⟩ = some (.int .i64 0) ∧ w'.cell? ⟨Y, 2, none⟩ = some (.int .i64 0) ∧ w'.cell? ⟨Y, 3, none⟩ = some (.int .i64 0) ∧ Below W7.heap.size W7 w') (by kernel_rfl) ?_ (fun hHeld => ?_)
              · (try dsimp only); (first | assumption | go_keep | (refine ⟨?_, ?_, ?_, ?_, ?_, ?_, ?_, ?_⟩ <;> assumption))
              refine wpAnyH_take (i := 0) (oi := ?oi100) (v := ?v100) ?hi100 (by kernel_rfl) (by kernel_rfl) (by kernel_rfl) ?hQ100 ?hy100 (by assumption) ?_
              case hi100 => (simp only [List.getElem?_toArray, List.getElem?_cons_succ, List.getElem?_cons_zero]; rfl)
              case hQ100 => exact fun _ _ _ h => h
              case hy100 => (refine Or.inl ⟨by rfl, ?_⟩; intro w hSw; (try dsimp only at hSw); go_simp; try with_reducible rfl)
              try simp only [Act.put, List.setIfInBounds_toArray, List.set_cons_zero, List.set_cons_succ]
              refine wpAnyH_take (i := 1) (oi := ?oi101) (v := ?v101) ?hi101 (by kernel_rfl) (by kernel_rfl) (by kernel_rfl) ?hQ101 ?hy101 (by assumption) ?_
              case hi101 => (simp only [List.getElem?_toArray, List.getElem?_cons_succ, List.getElem?_cons_zero]; rfl)
              case hQ101 => exact fun _ _ _ h => h
              case hy101 => (refine Or.inl ⟨by rfl, ?_⟩; intro w hSw; (try dsimp only at hSw); go_simp; try with_reducible rfl)
              try simp only [Act.put, List.setIfInBounds_toArray, List.set_cons_zero, List.set_cons_succ]
              refine wpAnyH_take (i := 2) (oi := ?oi102) (v := ?v102) ?hi102 (by kernel_rfl) (by kernel_rfl) (by kernel_rfl) ?hQ102 ?hy102 (by assumption) ?_
              case hi102 => (simp only [List.getElem?_toArray, List.getElem?_cons_succ, List.getElem?_cons_zero]; rfl)
              case hQ102 => exact fun _ _ _ h => h
              case hy102 => (refine Or.inl ⟨by rfl, ?_⟩; intro w hSw; (try dsimp only at hSw); go_simp; try with_reducible rfl)
              try simp only [Act.put, List.setIfInBounds_toArray, List.set_cons_zero, List.set_cons_succ]
              refine wpAnyH_take (i := 4) (oi := ?oi104) (v := ?v104) ?hi104 (by kernel_rfl) (by kernel_rfl) (by kernel_rfl) ?hQ104 ?hy104 (by assumption) ?_
              case hi104 => (simp only [List.getElem?_toArray, List.getElem?_cons_succ, List.getElem?_cons_zero]; rfl)
              case hQ104 => exact fun _ _ _ h => h
              case hy104 => (refine Or.inl ⟨by rfl, ?_⟩; intro w hSw; (try dsimp only at hSw); go_simp; try with_reducible rfl)
              try simp only [Act.put, List.setIfInBounds_toArray, List.set_cons_zero, List.set_cons_succ]
              refine wpAnyH_ready (rs := [3]) (by kernel_rfl) (by simp) ?_
              refine AllReadyH.cons (o := ?oi103) ?ho103 (fun K hK => ?_) AllReadyH.nil
              case ho103 => (simp only [List.getElem?_toArray, List.getElem?_cons_succ, List.getElem?_cons_zero]; rfl)
              go_simp
              go_at_call 24; (with_reducible refine (tall_any T ttl f2 now _ (HT7.out.same (sB _ (by assumption)))).mono ?_); rintro e wA ⟨vA, rfl, ⟨aA, cA, rfl, p1, p2, hAA⟩, hbA⟩; have hkA := sK _ _ hbA (by assumption)
              refine hK.out _ _ ?_ (fun hHeld => ?_)
              · (try dsimp only); (first | assumption | go_keep | (refine ⟨?_, ?_, ?_, ?_, ?_, ?_, ?_, ?_⟩ <;> assumption))
              clear hK K
              try simp only [Act.put, List.setIfInBounds_toArray, List.set_cons_zero, List.set_cons_succ]
              refine wpAnyH_ready (rs := [5]) (by kernel_rfl) (by simp) ?_
              refine AllReadyH.cons (o := ?oi105) ?ho105 (fun K hK => ?_) AllReadyH.nil
              case ho105 => (simp only [List.getElem?_toArray, List.getElem?_cons_succ, List.getElem?_cons_zero]; rfl)
              go_simp
              go_at_call 23; (with_reducible refine (ksame_eq _ _ _ _ (knL (knNow f2 ttl now)) _ (Nat.le_trans hlen5 (by decide)) hAA (HA7.out.same knCells_len (sB _ (by assumption)))).mono ?_); rintro e wS ⟨rfl, hbS⟩; have hkS := sK _ _ hbS (by assumption)
              refine hK.out _ _ ?_ (fun hHeld => ?_)
              · (try dsimp only); (first | assumption | go_keep | (refine ⟨?_, ?_, ?_, ?_, ?_, ?_, ?_, ?_⟩ <;> assumption))
              clear hK K
              try simp only [Act.put, List.setIfInBounds_toArray, List.set_cons_zero, List.set_cons_succ]
              refine wpAnyH_take (i := 6) (oi := ?oi106) (v := ?v106) ?hi106 (by kernel_rfl) (by kernel_rfl) (by kernel_rfl) ?hQ106 ?hy106 (by assumption) ?_
              case hi106 => (simp only [List.getElem?_toArray, List.getElem?_cons_succ, List.getElem?_cons_zero]; rfl)
              case hQ106 => exact fun _ _ _ h => h
              case hy106 => (refine Or.inl ⟨by rfl, ?_⟩; intro w hSw; (try dsimp only at hSw); go_simp; try with_reducible rfl)
              try simp only [Act.put, List.setIfInBounds_toArray, List.set_cons_zero, List.set_cons_succ]
              refine wpAnyH_take (i := 7) (oi := ?oi107) (v := ?v107) ?hi107 (by kernel_rfl) (by kernel_rfl) (by kernel_rfl) ?hQ107 ?hy107 (by assumption) ?_
              case hi107 => (simp only [List.getElem?_toArray, List.getElem?_cons_succ, List.getElem?_cons_zero]; rfl)
              case hQ107 => exact fun _ _ _ h => h
              case hy107 => (refine Or.inl ⟨by rfl, ?_⟩; intro w hSw; (try dsimp only at hSw); go_simp; try with_reducible rfl)
              try simp only [Act.put, List.setIfInBounds_toArray, List.set_cons_zero, List.set_cons_succ]
              refine wpAnyH_take (i := 8) (oi := ?oi108) (v := ?v108) ?hi108 (by kernel_rfl) (by kernel_rfl) (by kernel_rfl) ?hQ108 ?hy108 (by assumption) ?_
              case hi108 => (simp only [List.getElem?_toArray, List.getElem?_cons_succ, List.getElem?_cons_zero]; rfl)
              case hQ108 => exact fun _ _ _ h => h
              case hy108 => (refine Or.inl ⟨by rfl, ?_⟩; intro w hSw; (try dsimp only at hSw); go_simp; try with_reducible rfl)
              try simp only [Act.put, List.setIfInBounds_toArray, List.set_cons_zero, List.set_cons_succ]
              refine wpAnyH_take (i := 9) (oi := ?oi109) (v := ?v109) ?hi109 (by kernel_rfl) (by kernel_rfl) (by kernel_rfl) ?hQ109 ?hy109 (by assumption) ?_
              case hi109 => (simp only [List.getElem?_toArray, List.getElem?_cons_succ, List.getElem?_cons_zero]; rfl)
              case hQ109 => exact fun _ _ _ h => h
              case hy109 => (refine Or.inl ⟨by rfl, ?_⟩; intro w hSw; (try dsimp only at hSw); go_simp; try with_reducible rfl)
              try simp only [Act.put, List.setIfInBounds_toArray, List.set_cons_zero, List.set_cons_succ]
              refine wpAnyH_take (i := 10) (oi := ?oi110) (v := ?v110) ?hi110 (by kernel_rfl) (by kernel_rfl) (by kernel_rfl) ?hQ110 ?hy110 (by assumption) ?_
              case hi110 => (simp only [List.getElem?_toArray, List.getElem?_cons_succ, List.getElem?_cons_zero]; rfl)
              case hQ110 => exact fun _ _ _ h => h
              case hy110 => (refine Or.inl ⟨by rfl, ?_⟩; intro w hSw; (try dsimp only at hSw); go_simp; try with_reducible rfl)
              try simp only [Act.put, List.setIfInBounds_toArray, List.set_cons_zero, List.set_cons_succ]
              refine wpAnyH_take (i := 11) (oi := ?oi111) (v := ?v111) ?hi111 (by kernel_rfl) (by kernel_rfl) (by kernel_rfl) ?hQ111 ?hy111 (by assumption) ?_
              case hi111 => (simp only [List.getElem?_toArray, List.getElem?_cons_succ, List.getElem?_cons_zero]; rfl)
              case hQ111 => exact fun _ _ _ h => h
              case hy111 => (refine Or.inl ⟨by rfl, ?_⟩; intro w hSw; (try dsimp only at hSw); go_simp; try with_reducible rfl)
              try simp only [Act.put, List.setIfInBounds_toArray, List.set_cons_zero, List.set_cons_succ]
              refine wpAnyH_take (i := 12) (oi := ?oi112) (v := ?v112) ?hi112 (by kernel_rfl) (by kernel_rfl) (by kernel_rfl) ?hQ112 ?hy112 (by assumption) ?_
              case hi112 => (simp only [List.getElem?_toArray, List.getElem?_cons_succ, List.getElem?_cons_zero]; rfl)
              case hQ112 => exact fun _ _ _ h => h
              case hy112 => (refine Or.inl ⟨by rfl, ?_⟩; intro w hSw; (try dsimp only at hSw); go_simp; try with_reducible rfl)
              try simp only [Act.put, List.setIfInBounds_toArray, List.set_cons_zero, List.set_cons_succ]
              refine wpAnyH_take (i := 13) (oi := ?oi113) (v := ?v113) ?hi113 (by kernel_rfl) (by kernel_rfl) (by kernel_rfl) ?hQ113 ?hy113 (by assumption) ?_
              case hi113 => (simp only [List.getElem?_toArray, List.getElem?_cons_succ, List.getElem?_cons_zero]; rfl)
              case hQ113 => exact fun _ _ _ h => h
              case hy113 => (refine Or.inl ⟨by rfl, ?_⟩; intro w hSw; (try dsimp only at hSw); go_simp; try with_reducible rfl)
              try simp only [Act.put, List.setIfInBounds_toArray, List.set_cons_zero, List.set_cons_succ]
              refine wpAnyH_take (i := 14) (oi := ?oi114) (v := ?v114) ?hi114 (by kernel_rfl) (by kernel_rfl) (by kernel_rfl) ?hQ114 ?hy114 (by assumption) ?_
              case hi114 => (simp only [List.getElem?_toArray, List.getElem?_cons_succ, List.getElem?_cons_zero]; rfl)
              case hQ114 => exact fun _ _ _ h => h
              case hy114 => (refine Or.inl ⟨by rfl, ?_⟩; intro w hSw; (try dsimp only at hSw); go_simp; try with_reducible rfl)
              try simp only [Act.put, List.setIfInBounds_toArray, List.set_cons_zero, List.set_cons_succ]
              refine wpAnyH_take (i := 15) (oi := ?oi115) (v := ?v115) ?hi115 (by kernel_rfl) (by kernel_rfl) (by kernel_rfl) ?hQ115 ?hy115 (by assumption) ?_
              case hi115 => (simp only [List.getElem?_toArray, List.getElem?_cons_succ, List.getElem?_cons_zero]; rfl)
              case hQ115 => exact fun _ _ _ h => h
              case hy115 => (refine Or.inl ⟨by rfl, ?_⟩; intro w hSw; (try dsimp only at hSw); go_simp; try with_reducible rfl)
              try simp only [Act.put, List.setIfInBounds_toArray, List.set_cons_zero, List.set_cons_succ]
              refine wpAnyH_take (i := 16) (oi := ?oi116) (v := undef) ?hi116 (by kernel_rfl) (by kernel_rfl) (by kernel_rfl) ?hQ116 ?hy116 (by assumption) ?_
              case hi116 => (simp only [List.getElem?_toArray, List.getElem?_cons_succ, List.getElem?_cons_zero]; rfl)
              case hQ116 => exact fun _ _ _ h => h
              case hy116 => exact Or.inr ⟨by rfl, rfl⟩
              try simp only [Act.put, List.setIfInBounds_toArray, List.set_cons_zero, List.set_cons_succ]
              refine wpAnyH_take (i := 17) (oi := ?oi117) (v := undef) ?hi117 (by kernel_rfl) (by kernel_rfl) (by kernel_rfl) ?hQ117 ?hy117 (by assumption) ?_
              case hi117 => (simp only [List.getElem?_toArray, List.getElem?_cons_succ, List.getElem?_cons_zero]; rfl)
              case hQ117 => exact fun _ _ _ h => h
              case hy117 => exact Or.inr ⟨by rfl, rfl⟩
              try simp only [Act.put, List.setIfInBounds_toArray, List.set_cons_zero, List.set_cons_succ]
              refine wpAnyH_take (i := 18) (oi := ?oi118) (v := undef) ?hi118 (by kernel_rfl) (by kernel_rfl) (by kernel_rfl) ?hQ118 ?hy118 (by assumption) ?_
              case hi118 => (simp only [List.getElem?_toArray, List.getElem?_cons_succ, List.getElem?_cons_zero]; rfl)
              case hQ118 => exact fun _ _ _ h => h
              case hy118 => exact Or.inr ⟨by rfl, rfl⟩
              try simp only [Act.put, List.setIfInBounds_toArray, List.set_cons_zero, List.set_cons_succ]
              refine wpAnyH_take (i := 19) (oi := ?oi119) (v := undef) ?hi119 (by kernel_rfl) (by kernel_rfl) (by kernel_rfl) ?hQ119 ?hy119 (by assumption) ?_
              case hi119 => (simp only [List.getElem?_toArray, List.getElem?_cons_succ, List.getElem?_cons_zero]; rfl)
              case hQ119 => exact fun _ _ _ h => h
              case hy119 => exact Or.inr ⟨by rfl, rfl⟩
              try simp only [Act.put, List.setIfInBounds_toArray, List.set_cons_zero, List.set_cons_succ]
              refine wpAnyH_take (i := 20) (oi := ?oi120) (v := undef) ?hi120 (by kernel_rfl) (by kernel_rfl) (by kernel_rfl) ?hQ120 ?hy120 (by assumption) ?_
              case hi120 => (simp only [List.getElem?_toArray, List.getElem?_cons_succ, List.getElem?_cons_zero]; rfl)
              case hQ120 => exact fun _ _ _ h => h
              case hy120 => exact Or.inr ⟨by rfl, rfl⟩
              try simp only [Act.put, List.setIfInBounds_toArray, List.set_cons_zero, List.set_cons_succ]
              refine wpAnyH_take (i := 21) (oi := ?oi121) (v := undef) ?hi121 (by kernel_rfl) (by kernel_rfl) (by kernel_rfl) ?hQ121 ?hy121 (by assumption) ?_
              case hi121 => (simp only [List.getElem?_toArray, List.getElem?_cons_succ, List.getElem?_cons_zero]; rfl)
              case hQ121 => exact fun _ _ _ h => h
              case hy121 => exact Or.inr ⟨by rfl, rfl⟩
              try simp only [Act.put, List.setIfInBounds_toArray, List.set_cons_zero, List.set_cons_succ]
              refine wpAnyH_take (i := 22) (oi := ?oi122) (v := ?v122) ?hi122 (by kernel_rfl) (by kernel_rfl) (by kernel_rfl) ?hQ122 ?hy122 (by assumption) ?_
              case hi122 => (simp only [List.getElem?_toArray, List.getElem?_cons_succ, List.getElem?_cons_zero]; rfl)
              case hQ122 => exact fun _ _ _ h => h
              case hy122 => (refine Or.inl ⟨by rfl, ?_⟩; intro w hSw; (try dsimp only at hSw); go_simp; try with_reducible rfl)
              try simp only [Act.put, List.setIfInBounds_toArray, List.set_cons_zero, List.set_cons_succ]
              refine wpAnyH_take (i := 23) (oi := ?oi123) (v := ?v123) ?hi123 (by kernel_rfl) (by kernel_rfl) (by kernel_rfl) ?hQ123 ?hy123 (by assumption) ?_
              case hi123 => (simp only [List.getElem?_toArray, List.getElem?_cons_succ, List.getElem?_cons_zero]; rfl)
              case hQ123 => exact fun _ _ _ h => h
              case hy123 => (refine Or.inl ⟨by rfl, ?_⟩; intro w hSw; (try dsimp only at hSw); go_simp; try with_reducible rfl)
              try simp only [Act.put, List.setIfInBounds_toArray, List.set_cons_zero, List.set_cons_succ]
              refine wpAnyH_take (i := 24) (oi := ?oi124) (v := ?v124) ?hi124 (by kernel_rfl) (by kernel_rfl) (by kernel_rfl) ?hQ124 ?hy124 (by assumption) ?_
              case hi124 => (simp only [List.getElem?_toArray, List.getElem?_cons_succ, List.getElem?_cons_zero]; rfl)
              case hQ124 => exact fun _ _ _ h => h
              case hy124 => (refine Or.inl ⟨by rfl, ?_⟩; intro w hSw; (try dsimp only at hSw); go_simp; try with_reducible rfl)
              try simp only [Act.put, List.setIfInBounds_toArray, List.set_cons_zero, List.set_cons_succ]
              refine wpAnyH_take (i := 25) (oi := ?oi125) (v := ?v125) ?hi125 (by kernel_rfl) (by kernel_rfl) (by kernel_rfl) ?hQ125 ?hy125 (by assumption) ?_
              case hi125 => (simp only [List.getElem?_toArray, List.getElem?_cons_succ, List.getElem?_cons_zero]; rfl)
              case hQ125 => exact fun _ _ _ h => h
              case hy125 => (refine Or.inl ⟨by rfl, ?_⟩; intro w hSw; (try dsimp only at hSw); go_simp; try with_reducible rfl)
              try simp only [Act.put, List.setIfInBounds_toArray, List.set_cons_zero, List.set_cons_succ]
              refine wpAnyH_take (i := 26) (oi := ?oi126) (v := ?v126) ?hi126 (by kernel_rfl) (by kernel_rfl) (by kernel_rfl) ?hQ126 ?hy126 (by assumption) ?_
              case hi126 => (simp only [List.getElem?_toArray, List.getElem?_cons_succ, List.getElem?_cons_zero]; rfl)
              case hQ126 => exact fun _ _ _ h => h
              case hy126 => (refine Or.inl ⟨by rfl, ?_⟩; intro w hSw; (try dsimp only at hSw); go_simp; try with_reducible rfl)
              try simp only [Act.put, List.setIfInBounds_toArray, List.set_cons_zero, List.set_cons_succ]
              refine wpAnyH_take (i := 27) (oi := ?oi127) (v := ?v127) ?hi127 (by kernel_rfl) (by kernel_rfl) (by kernel_rfl) ?hQ127 ?hy127 (by assumption) ?_
              case hi127 => (simp only [List.getElem?_toArray, List.getElem?_cons_succ, List.getElem?_cons_zero]; rfl)
              case hQ127 => exact fun _ _ _ h => h
              case hy127 => (refine Or.inl ⟨by rfl, ?_⟩; intro w hSw; (try dsimp only at hSw); go_simp; try with_reducible rfl)
              try simp only [Act.put, List.setIfInBounds_toArray, List.set_cons_zero, List.set_cons_succ]
              refine wpAnyH_take (i := 28) (oi := ?oi128) (v := ?v128) ?hi128 (by kernel_rfl) (by kernel_rfl) (by kernel_rfl) ?hQ128 ?hy128 (by assumption) ?_
              case hi128 => (simp only [List.getElem?_toArray, List.getElem?_cons_succ, List.getElem?_cons_zero]; rfl)
              case hQ128 => exact fun _ _ _ h => h
              case hy128 => (refine Or.inl ⟨by rfl, ?_⟩; intro w hSw; (try dsimp only at hSw); go_simp; try with_reducible rfl)
              try simp only [Act.put, List.setIfInBounds_toArray, List.set_cons_zero, List.set_cons_succ]
              refine wpAnyH_take (i := 29) (oi := ?oi129) (v := ?v129) ?hi129 (by kernel_rfl) (by kernel_rfl) (by kernel_rfl) ?hQ129 ?hy129 (by assumption) ?_
              case hi129 => (simp only [List.getElem?_toArray, List.getElem?_cons_succ, List.getElem?_cons_zero]; rfl)
              case hQ129 => exact fun _ _ _ h => h
              case hy129 => (refine Or.inl ⟨by rfl, ?_⟩; intro w hSw; (try dsimp only at hSw); go_simp; try with_reducible rfl)
              try simp only [Act.put, List.setIfInBounds_toArray, List.set_cons_zero, List.set_cons_succ]
              refine wpAnyH_take (i := 30) (oi := ?oi130) (v := ?v130) ?hi130 (by kernel_rfl) (by kernel_rfl) (by kernel_rfl) ?hQ130 ?hy130 (by assumption) ?_
              case hi130 => (simp only [List.getElem?_toArray, List.getElem?_cons_succ, List.getElem?_cons_zero]; rfl)
              case hQ130 => exact fun _ _ _ h => h
              case hy130 => (refine Or.inl ⟨by rfl, ?_⟩; intro w hSw; (try dsimp only at hSw); go_simp; try with_reducible rfl)
              try simp only [Act.put, List.setIfInBounds_toArray, List.set_cons_zero, List.set_cons_succ]
              refine wpAnyH_take (i := 31) (oi := ?oi131) (v := ?v131) ?hi131 (by kernel_rfl) (by kernel_rfl) (by kernel_rfl) ?hQ131 ?hy131 (by assumption) ?_
              case hi131 => (simp only [List.getElem?_toArray, List.getElem?_cons_succ, List.getElem?_cons_zero]; rfl)
              case hQ131 => exact fun _ _ _ h => h
              case hy131 => (refine Or.inl ⟨by rfl, ?_⟩; intro w hSw; (try dsimp only at hSw); go_simp; try with_reducible rfl)
              try simp only [Act.put, List.setIfInBounds_toArray, List.set_cons_zero, List.set_cons_succ]
              refine wpAnyH_take (i := 32) (oi := ?oi132) (v := ?v132) ?hi132 (by kernel_rfl) (by kernel_rfl) (by kernel_rfl) ?hQ132 ?hy132 (by assumption) ?_
              case hi132 => (simp only [List.getElem?_toArray, List.getElem?_cons_succ, List.getElem?_cons_zero]; rfl)
              case hQ132 => exact fun _ _ _ h => h
              case hy132 => (refine Or.inl ⟨by rfl, ?_⟩; intro w hSw; (try dsimp only at hSw); go_simp; try with_reducible rfl)
              try simp only [Act.put, List.setIfInBounds_toArray, List.set_cons_zero, List.set_cons_succ]
              refine wpAnyH_take (i := 33) (oi := ?oi133) (v := ?v133) ?hi133 (by kernel_rfl) (by kernel_rfl) (by kernel_rfl) ?hQ133 ?hy133 (by assumption) ?_
              case hi133 => (simp only [List.getElem?_toArray, List.getElem?_cons_succ, List.getElem?_cons_zero]; rfl)
              case hQ133 => exact fun _ _ _ h => h
              case hy133 => (refine Or.inl ⟨by rfl, ?_⟩; intro w hSw; (try dsimp only at hSw); go_simp; try with_reducible rfl)
              try simp only [Act.put, List.setIfInBounds_toArray, List.set_cons_zero, List.set_cons_succ]
              refine wpAnyH_take (i := 34) (oi := ?oi134) (v := ?v134) ?hi134 (by kernel_rfl) (by kernel_rfl) (by kernel_rfl) ?hQ134 ?hy134 (by assumption) ?_
              case hi134 => (simp only [List.getElem?_toArray, List.getElem?_cons_succ, List.getElem?_cons_zero]; rfl)
              case hQ134 => exact fun _ _ _ h => h
              case hy134 => (refine Or.inl ⟨by rfl, ?_⟩; intro w hSw; (try dsimp only at hSw); go_simp; try with_reducible rfl)
              try simp only [Act.put, List.setIfInBounds_toArray, List.set_cons_zero, List.set_cons_succ]
              refine wpAnyH_take (i := 35) (oi := ?oi135) (v := ?v135) ?hi135 (by kernel_rfl) (by kernel_rfl) (by kernel_rfl) ?hQ135 ?hy135 (by assumption) ?_
              case hi135 => (simp only [List.getElem?_toArray, List.getElem?_cons_succ, List.getElem?_cons_zero]; rfl)
              case hQ135 => exact fun _ _ _ h => h
              case hy135 => (refine Or.inl ⟨by rfl, ?_⟩; intro w hSw; (try dsimp only at hSw); go_simp; try with_reducible rfl)
              try simp only [Act.put, List.setIfInBounds_toArray, List.set_cons_zero, List.set_cons_succ]
              refine wpAnyH_take (i := 36) (oi := ?oi136) (v := ?v136) ?hi136 (by kernel_rfl) (by kernel_rfl) (by kernel_rfl) ?hQ136 ?hy136 (by assumption) ?_
              case hi136 => (simp only [List.getElem?_toArray, List.getElem?_cons_succ, List.getElem?_cons_zero]; rfl)
              case hQ136 => exact fun _ _ _ h => h
              case hy136 => (refine Or.inl ⟨by rfl, ?_⟩; intro w hSw; (try dsimp only at hSw); go_simp; try with_reducible rfl)
              try simp only [Act.put, List.setIfInBounds_toArray, List.set_cons_zero, List.set_cons_succ]
              refine wpAnyH_take (i := 37) (oi := ?oi137) (v := ?v137) ?hi137 (by kernel_rfl) (by kernel_rfl) (by kernel_rfl) ?hQ137 ?hy137 (by assumption) ?_
              case hi137 => (simp only [List.getElem?_toArray, List.getElem?_cons_succ, List.getElem?_cons_zero]; rfl)
              case hQ137 => exact fun _ _ _ h => h
              case hy137 => (refine Or.inl ⟨by rfl, ?_⟩; intro w hSw; (try dsimp only at hSw); go_simp; try with_reducible rfl)
              try simp only [Act.put, List.setIfInBounds_toArray, List.set_cons_zero, List.set_cons_succ]
              refine wpAnyH_take (i := 38) (oi := ?oi138) (v := ?v138) ?hi138 (by kernel_rfl) (by kernel_rfl) (by kernel_rfl) ?hQ138 ?hy138 (by assumption) ?_
              case hi138 => (simp only [List.getElem?_toArray, List.getElem?_cons_succ, List.getElem?_cons_zero]; rfl)
              case hQ138 => exact fun _ _ _ h => h
              case hy138 => (refine Or.inl ⟨by rfl, ?_⟩; intro w hSw; (try dsimp only at hSw); go_simp; try with_reducible rfl)
              try simp only [Act.put, List.setIfInBounds_toArray, List.set_cons_zero, List.set_cons_succ]
              refine wpAnyH_take (i := 39) (oi := ?oi139) (v := ?v139) ?hi139 (by kernel_rfl) (by kernel_rfl) (by kernel_rfl) ?hQ139 ?hy139 (by assumption) ?_
              case hi139 => (simp only [List.getElem?_toArray, List.getElem?_cons_succ, List.getElem?_cons_zero]; rfl)
              case hQ139 => exact fun _ _ _ h => h
              case hy139 => (refine Or.inl ⟨by rfl, ?_⟩; intro w hSw; (try dsimp only at hSw); go_simp; try with_reducible rfl)
              try simp only [Act.put, List.setIfInBounds_toArray, List.set_cons_zero, List.set_cons_succ]
              refine wpAnyH_take (i := 40) (oi := ?oi140) (v := ?v140) ?hi140 (by kernel_rfl) (by kernel_rfl) (by kernel_rfl) ?hQ140 ?hy140 (by assumption) ?_
              case hi140 => (simp only [List.getElem?_toArray, List.getElem?_cons_succ, List.getElem?_cons_zero]; rfl)
              case hQ140 => exact fun _ _ _ h => h
              case hy140 => (refine Or.inl ⟨by rfl, ?_⟩; intro w hSw; (try dsimp only at hSw); go_simp; try with_reducible rfl)
              try simp only [Act.put, List.setIfInBounds_toArray, List.set_cons_zero, List.set_cons_succ]
              refine wpAnyH_take (i := 42) (oi := ?oi142) (v := ?v142) ?hi142 (by kernel_rfl) (by kernel_rfl) (by kernel_rfl) ?hQ142 ?hy142 (by assumption) ?_
              case hi142 => (simp only [List.getElem?_toArray, List.getElem?_cons_succ, List.getElem?_cons_zero]; rfl)
              case hQ142 => exact fun _ _ _ h => h
              case hy142 => (refine Or.inl ⟨by rfl, ?_⟩; intro w hSw; (try dsimp only at hSw); go_simp; try with_reducible rfl)
              try simp only [Act.put, List.setIfInBounds_toArray, List.set_cons_zero, List.set_cons_succ]
              refine wpAnyH_take (i := 43) (oi := ?oi143) (v := ?v143) ?hi143 (by kernel_rfl) (by kernel_rfl) (by kernel_rfl) ?hQ143 ?hy143 (by assumption) ?_
              case hi143 => (simp only [List.getElem?_toArray, List.getElem?_cons_succ, List.getElem?_cons_zero]; rfl)
              case hQ143 => exact fun _ _ _ h => h
              case hy143 => (refine Or.inl ⟨by rfl, ?_⟩; intro w hSw; (try dsimp only at hSw); go_simp; try with_reducible rfl)
              try simp only [Act.put, List.setIfInBounds_toArray, List.set_cons_zero, List.set_cons_succ]
              refine wpAnyH_take (i := 44) (oi := ?oi144) (v := ?v144) ?hi144 (by kernel_rfl) (by kernel_rfl) (by kernel_rfl) ?hQ144 ?hy144 (by assumption) ?_
              case hi144 => (simp only [List.getElem?_toArray, List.getElem?_cons_succ, List.getElem?_cons_zero]; rfl)
              case hQ144 => exact fun _ _ _ h => h
              case hy144 => (refine Or.inl ⟨by rfl, ?_⟩; intro w hSw; (try dsimp only at hSw); go_simp; try with_reducible rfl)
              try simp only [Act.put, List.setIfInBounds_toArray, List.set_cons_zero, List.set_cons_succ]
              refine wpAnyH_take (i := 45) (oi := ?oi145) (v := ?v145) ?hi145 (by kernel_rfl) (by kernel_rfl) (by kernel_rfl) ?hQ145 ?hy145 (by assumption) ?_
              case hi145 => (simp only [List.getElem?_toArray, List.getElem?_cons_succ, List.getElem?_cons_zero]; rfl)
              case hQ145 => exact fun _ _ _ h => h
              case hy145 => (refine Or.inl ⟨by rfl, ?_⟩; intro w hSw; (try dsimp only at hSw); go_simp; try with_reducible rfl)
              try simp only [Act.put, List.setIfInBounds_toArray, List.set_cons_zero, List.set_cons_succ]
              refine wpAnyH_take (i := 46) (oi := ?oi146) (v := ?v146) ?hi146 (by kernel_rfl) (by kernel_rfl) (by kernel_rfl) ?hQ146 ?hy146 (by assumption) ?_
              case hi146 => (simp only [List.getElem?_toArray, List.getElem?_cons_succ, List.getElem?_cons_zero]; rfl)
              case hQ146 => exact fun _ _ _ h => h
              case hy146 => (refine Or.inl ⟨by rfl, ?_⟩; intro w hSw; (try dsimp only at hSw); go_simp; try with_reducible rfl)
              try simp only [Act.put, List.setIfInBounds_toArray, List.set_cons_zero, List.set_cons_succ]
              refine wpAnyH_take (i := 47) (oi := ?oi147) (v := ?v147) ?hi147 (by kernel_rfl) (by kernel_rfl) (by kernel_rfl) ?hQ147 ?hy147 (by assumption) ?_
              case hi147 => (simp only [List.getElem?_toArray, List.getElem?_cons_succ, List.getElem?_cons_zero]; rfl)
              case hQ147 => exact fun _ _ _ h => h
              case hy147 => (refine Or.inl ⟨by rfl, ?_⟩; intro w hSw; (try dsimp only at hSw); go_simp; try with_reducible rfl)
              try simp only [Act.put, List.setIfInBounds_toArray, List.set_cons_zero, List.set_cons_succ]
              refine wpAnyH_take (i := 48) (oi := ?oi148) (v := ?v148) ?hi148 (by kernel_rfl) (by kernel_rfl) (by kernel_rfl) ?hQ148 ?hy148 (by assumption) ?_
              case hi148 => (simp only [List.getElem?_toArray, List.getElem?_cons_succ, List.getElem?_cons_zero]; rfl)
              case hQ148 => exact fun _ _ _ h => h
              case hy148 => (refine Or.inl ⟨by rfl, ?_⟩; intro w hSw; (try dsimp only at hSw); go_simp; try with_reducible rfl)
              try simp only [Act.put, List.setIfInBounds_toArray, List.set_cons_zero, List.set_cons_succ]
              refine wpAnyH_take (i := 49) (oi := ?oi149) (v := ?v149) ?hi149 (by kernel_rfl) (by kernel_rfl) (by kernel_rfl) ?hQ149 ?hy149 (by assumption) ?_
              case hi149 => (simp only [List.getElem?_toArray, List.getElem?_cons_succ, List.getElem?_cons_zero]; rfl)
              case hQ149 => exact fun _ _ _ h => h
              case hy149 => (refine Or.inl ⟨by rfl, ?_⟩; intro w hSw; (try dsimp only at hSw); go_simp; try with_reducible rfl)
              try simp only [Act.put, List.setIfInBounds_toArray, List.set_cons_zero, List.set_cons_succ]
              refine wpAnyH_ready (rs := [41]) (by kernel_rfl) (by simp) ?_
              refine AllReadyH.cons (o := ?oi141) ?ho141 (fun K hK => ?_) AllReadyH.nil
              case ho141 => (simp only [List.getElem?_toArray, List.getElem?_cons_succ, List.getElem?_cons_zero]; rfl)
              go_simp
              go_at_call 25; (with_reducible refine (cuts_any T ttl f2 tt lev now _ (HT7.out.same (sB _ (by assumption)))).mono ?_); rintro e wC ⟨rfl, hbC⟩; have hkC := sK _ _ hbC (by assumption)
              refine hK.out _ _ ?_ (fun hHeld => ?_)
              · (try dsimp only); (first | assumption | go_keep | (refine ⟨?_, ?_, ?_, ?_, ?_, ?_, ?_, ?_⟩ <;> assumption))
              clear hK K
              try simp only [Act.put, List.setIfInBounds_toArray, List.set_cons_zero, List.set_cons_succ]
              refine wpAnyH_ready (rs := [50]) (by kernel_rfl) (by simp) ?_
              refine AllReadyH.cons (o := ?oi150) ?ho150 (fun K hK => ?_) AllReadyH.nil
              case ho150 => (simp only [List.getElem?_toArray, List.getElem?_cons_succ, List.getElem?_cons_zero]; rfl)
              go_simp
              go_at_call 26; (with_reducible refine (rcuts_any v2 f2 ttl tt lev now _ (HK7.out.same (sB _ (by assumption))).at).mono ?_); rintro e wD ⟨rfl, hbD⟩; have hkD := sK _ _ hbD (by assumption)
              refine hK.out _ _ ?_ (fun hHeld => ?_)
              · (try dsimp only); (first | assumption | go_keep | (refine ⟨?_, ?_, ?_, ?_, ?_, ?_, ?_, ?_⟩ <;> assumption))
              clear hK K
              try simp only [Act.put, List.setIfInBounds_toArray, List.set_cons_zero, List.set_cons_succ]
              refine wpAnyH_take (i := 51) (oi := ?oi151) (v := ?v151) ?hi151 (by kernel_rfl) (by kernel_rfl) (by kernel_rfl) ?hQ151 ?hy151 (by assumption) ?_
              case hi151 => (simp only [List.getElem?_toArray, List.getElem?_cons_succ, List.getElem?_cons_zero]; rfl)
              case hQ151 => exact fun _ _ _ h => h
              case hy151 => (refine Or.inl ⟨by rfl, ?_⟩; intro w hSw; (try dsimp only at hSw); go_simp; try with_reducible rfl)
              try simp only [Act.put, List.setIfInBounds_toArray, List.set_cons_zero, List.set_cons_succ]
              refine wpAnyH_take (i := 52) (oi := ?oi152) (v := ?v152) ?hi152 (by kernel_rfl) (by kernel_rfl) (by kernel_rfl) ?hQ152 ?hy152 (by assumption) ?_
              case hi152 => (simp only [List.getElem?_toArray, List.getElem?_cons_succ, List.getElem?_cons_zero]; rfl)
              case hQ152 => exact fun _ _ _ h => h
              case hy152 => (refine Or.inl ⟨by rfl, ?_⟩; intro w hSw; (try dsimp only at hSw); go_simp; try with_reducible rfl)
              try simp only [Act.put, List.setIfInBounds_toArray, List.set_cons_zero, List.set_cons_succ]
              refine wpAnyH_done (by kernel_rfl) ?_ _
              have hfin := sB _ (by assumption)
              have HFin := Lib.hid hfin
              go_wp2
              exact ⟨⟨f2, k + 1, _, by omega, by go_num, rfl, TableAt.same HT7.out HFin.out, HK7.out.same HFin.out, HB7.out.trans (HFin.out.mono HB7.out.size)⟩, by simp only [intOf]; omega⟩
            · go_wp2_with fail
              refine (rallK_any v2 f2 ttl now _ HK4.out.at).mono ?_
              rintro e w5 ⟨v5, rfl, ⟨a5, c5, rfl, m1, m2, hA5⟩, hb5⟩
              have hX5 := IsObj.below HX4.out hb5 HX4.out.lt
              have HT5 := Lib.hid (TableAt.same HT4.out hb5)
              have HK5 := Lib.hid (HK4.out.same hb5)
              have HB5 := Lib.hid (HB4.out.trans (hb5.mono HB4.out.size))
              have HX5 := Lib.hid hX5
              have HA5 := Lib.hid hA5
              have x1 := IsObj.cell hX5 1
              have x4 := IsObj.cell hX5 4
              have x5 := IsObj.cell hX5 5
              simp only [List.getElem?_cons_succ, List.getElem?_cons_zero] at x1 x4 x5
              clear hX5 hA5 hb5 HT4 HK4 HX4 HB4
              have G := fun w h => get_any T ttl f2 tt now w h
              rw [hkn] at G
              unfold kv Option.isSome at G
              have HG := Lib.hid G
              clear G
              go_wp2_with fail
              refine (HG.out _ HT5.out).mono ?_
              rintro e w6 ⟨rfl, hb6⟩
              obtain ⟨W7, hW7⟩ : ∃ W7, W7 = w6.alloc (.cells [.int .i64 tt, .int .i64 e0.th, .int .i64 e0.ep, .int .i64 e0.tm].toArray 36) := ⟨_, rfl⟩
              have hb67 : Below w6.heap.size w6 W7 := by rw [hW7]; exact (Below.refl _ _).alloc (Nat.le_refl _) _
              have hY7 : IsObj W7 w6.heap.size 36 [.int .i64 tt, .int .i64 e0.th, .int .i64 e0.ep, .int .i64 e0.tm] := by rw [hW7]; exact IsObj.new w6 _ _
              have hX6 := IsObj.below HX5.out hb6 HX5.out.lt
              have r1 := IsObj.cell hX6 1
              have r4 := IsObj.cell hX6 4
              have r5 := IsObj.cell hX6 5
              have rl := IsObj.lt hX6
              simp only [List.getElem?_cons_succ, List.getElem?_cons_zero] at r1 r4 r5
              clear hX6
              have hb57 : Below w5.heap.size w5 W7 := hb6.trans (hb67.mono hb6.size)
              have HX7 := IsObj.below HX5.out hb57 HX5.out.lt
              have HT7 := Lib.hid (TableAt.same HT5.out hb57)
              have HK7 := Lib.hid (HK5.out.same hb57)
              have HB7 := Lib.hid (HB5.out.trans (hb57.mono HB5.out.size))
              have hA7 := HA5.out.same knCells_len hb57
              have HA7 := Lib.hid hA7
              have HFi := Lib.hid (rfind_any a5 c5 (knL (knNow f2 ttl now)) tt W7 (Nat.le_trans hlen5 (by decide)) hA7)
              rw [hfk] at HFi
              have y1 := IsObj.cell HX7 1
              have y4 := IsObj.cell HX7 4
              have y5 := IsObj.cell HX7 5
              have z0 := IsObj.cell hY7 0
              have z1 := IsObj.cell hY7 1
              have z2 := IsObj.cell hY7 2
              have z3 := IsObj.cell hY7 3
              simp only [List.getElem?_cons_succ, List.getElem?_cons_zero] at y1 y4 y5 z0 z1 z2 z3
              have hyl := IsObj.lt hY7
              have hxl := IsObj.lt HX7
              obtain ⟨b5, o5, hab5, hc5⟩ : ∃ b5 o5, a5 = some ⟨b5, o5, none⟩ ∧ ∀ i, i < (knL (knNow f2 ttl now)).length → ∀ q, q < 4 → W7.cell? ⟨b5, o5 + i * 4 + q, none⟩ = (knCells (nth (knL (knNow f2 ttl now)) i))[q]? := by
                rcases hA7 with h | ⟨b5, o5, h, hc⟩
                · have h' := congrArg List.length h
                  simp only [List.length_nil] at h'
                  have h2 : (knL (knNow f2 ttl now)).length = 0 := h'
                  rw [h2] at hj
                  exact absurd hj (Nat.not_lt_zero _)
                · exact ⟨b5, o5, h, hc⟩
              subst hab5
              obtain ⟨k0, k1, k2, k3⟩ := kn_cells hc5 j hj
              rw [hn] at k0 k1 k2 k3
              have kl := cell_lt k0
              simp only at k0 k1 k2 k3 kl
              have n1 : (0 : Int) ≤ (j : Int) := by omega
              have n2 : (j : Int) < ((knL (knNow f2 ttl now)).length : Int) := Int.ofNat_lt.2 hj
              have n3 : (j : Int) + 1 ≤ ((knL (knNow f2 ttl now)).length : Int) := by omega
              clear hc5 hn
              clear hb6 hb67 hb57 hY7 HX7 hA7 HT5 HK5 HX5 HB5 HA5 x1 x4 x5
              go_wp2_with fail
              rw [← hW7]
              clear r1 r4 r5 rl
              refine HFi.out.mono ?_
              rintro e w' ⟨rfl, rfl⟩
              obtain ⟨Y, hY⟩ : ∃ Y, Y = w6.heap.size := ⟨_, rfl⟩
              rw [← hY] at z0 z1 z2 z3 hyl ⊢
              clear hW7 hY HFi
              have hb77 : Below W7.heap.size W7 W7 := Below.refl _ _
              have sB : ∀ W, (W.cell? ⟨A, 1, none⟩ = some (.int .i64 tt) ∧ W.cell? ⟨A, 4, none⟩ = some (.int .i64 now) ∧ W.cell? ⟨A, 5, none⟩ = some (.int .i64 lev) ∧ W.cell? ⟨Y, 0, none⟩ = some (.int .i64 tt) ∧ W.cell? ⟨Y, 1, none⟩ = some (.int .i64 e0.th) ∧ W.cell? ⟨Y, 2, none⟩ = some (.int .i64 e0.ep) ∧ W.cell? ⟨Y, 3, none⟩ = some (.int .i64 e0.tm) ∧ W.cell? ⟨b5, o5 + j * 4, none⟩ = some (.int .i64 tt) ∧ W.cell? ⟨b5, o5 + j * 4 + 1, none⟩ = some (.int .i64 e0.th) ∧ W.cell? ⟨b5, o5 + j * 4 + 2, none⟩ = some (.int .i64 e0.ep) ∧ W.cell? ⟨b5, o5 + j * 4 + 3, none⟩ = some (.int .i64 e0.tm) ∧ Below W7.heap.size W7 W) → Below W7.heap.size W7 W := fun W h => h.2.2.2.2.2.2.2.2.2.2.2
              have sK : ∀ W W1, Below W.heap.size W W1 → (W.cell? ⟨A, 1, none⟩ = some (.int .i64 tt) ∧ W.cell? ⟨A, 4, none⟩ = some (.int .i64 now) ∧ W.cell? ⟨A, 5, none⟩ = some (.int .i64 lev) ∧ W.cell? ⟨Y, 0, none⟩ = some (.int .i64 tt) ∧ W.cell? ⟨Y, 1, none⟩ = some (.int .i64 e0.th) ∧ W.cell? ⟨Y, 2, none⟩ = some (.int .i64 e0.ep) ∧ W.cell? ⟨Y, 3, none⟩ = some (.int .i64 e0.tm) ∧ W.cell? ⟨b5, o5 + j * 4, none⟩ = some (.int .i64 tt) ∧ W.cell? ⟨b5, o5 + j * 4 + 1, none⟩ = some (.int .i64 e0.th) ∧ W.cell? ⟨b5, o5 + j * 4 + 2, none⟩ = some (.int .i64 e0.ep) ∧ W.cell? ⟨b5, o5 + j * 4 + 3, none⟩ = some (.int .i64 e0.tm) ∧ Below W7.heap.size W7 W) → (W1.cell? ⟨A, 1, none⟩ = some (.int .i64 tt) ∧ W1.cell? ⟨A, 4, none⟩ = some (.int .i64 now) ∧ W1.cell? ⟨A, 5, none⟩ = some (.int .i64 lev) ∧ W1.cell? ⟨Y, 0, none⟩ = some (.int .i64 tt) ∧ W1.cell? ⟨Y, 1, none⟩ = some (.int .i64 e0.th) ∧ W1.cell? ⟨Y, 2, none⟩ = some (.int .i64 e0.ep) ∧ W1.cell? ⟨Y, 3, none⟩ = some (.int .i64 e0.tm) ∧ W1.cell? ⟨b5, o5 + j * 4, none⟩ = some (.int .i64 tt) ∧ W1.cell? ⟨b5, o5 + j * 4 + 1, none⟩ = some (.int .i64 e0.th) ∧ W1.cell? ⟨b5, o5 + j * 4 + 2, none⟩ = some (.int .i64 e0.ep) ∧ W1.cell? ⟨b5, o5 + j * 4 + 3, none⟩ = some (.int .i64 e0.tm) ∧ Below W7.heap.size W7 W1) := fun W W1 hb h => ⟨cell_keep hb (h.1), cell_keep hb (h.2.1), cell_keep hb (h.2.2.1), cell_keep hb (h.2.2.2.1), cell_keep hb (h.2.2.2.2.1), cell_keep hb (h.2.2.2.2.2.1), cell_keep hb (h.2.2.2.2.2.2.1), cell_keep hb (h.2.2.2.2.2.2.2.1), cell_keep hb (h.2.2.2.2.2.2.2.2.1), cell_keep hb (h.2.2.2.2.2.2.2.2.2.1), cell_keep hb (h.2.2.2.2.2.2.2.2.2.2.1), (h.2.2.2.2.2.2.2.2.2.2.2).trans (hb.mono (h.2.2.2.2.2.2.2.2.2.2.2).size)⟩
              go_wp2_with fail
              have hb78 : Below W7.heap.size W7 W7.drew := (Below.refl _ _).drew
              refine wp_region_held_drew (S := fun w' => w'.cell? ⟨A, 1, none⟩ = some (.int .i64 tt) ∧ w'.cell? ⟨A, 4, none⟩ = some (.int .i64 now) ∧ w'.cell? ⟨A, 5, none⟩ = some (.int .i64 lev) ∧ w'.cell? ⟨Y, 0, none⟩ = some (.int .i64 tt) ∧ w'.cell? ⟨Y, 1, none⟩ = some (.int .i64 e0.th) ∧ w'.cell? ⟨Y, 2, none⟩ = some (.int .i64 e0.ep) ∧ w'.cell? ⟨Y, 3, none⟩ = some (.int .i64 e0.tm) ∧ w'.cell? ⟨b5, o5 + j * 4, none⟩ = some (.int .i64 tt) ∧ w'.cell? ⟨b5, o5 + j * 4 + 1, none⟩ = some (.int .i64 e0.th) ∧ w'.cell? ⟨b5, o5 + j * 4 + 2, none⟩ = some (.int .i64 e0.ep) ∧ w'.cell? ⟨b5, o5 + j * 4 + 3, none⟩ = some (.int .i64 e0.tm) ∧ Below W7.heap.size W7 w') (by kernel_rfl) ?_ (fun hHeld => ?_)
              · (try dsimp only); (first | assumption | go_keep | (refine ⟨?_, ?_, ?_, ?_, ?_, ?_, ?_, ?_, ?_, ?_, ?_, ?_⟩ <;> assumption))
              refine wpAnyH_take (i := 0) (oi := ?oi200) (v := ?v200) ?hi200 (by kernel_rfl) (by kernel_rfl) (by kernel_rfl) ?hQ200 ?hy200 (by assumption) ?_
              case hi200 => (simp only [List.getElem?_toArray, List.getElem?_cons_succ, List.getElem?_cons_zero]; rfl)
              case hQ200 => exact fun _ _ _ h => h
              case hy200 => (refine Or.inl ⟨by rfl, ?_⟩; intro w hSw; (try dsimp only at hSw); go_simp; try with_reducible rfl)
              try simp only [Act.put, List.setIfInBounds_toArray, List.set_cons_zero, List.set_cons_succ]
              refine wpAnyH_take (i := 1) (oi := ?oi201) (v := ?v201) ?hi201 (by kernel_rfl) (by kernel_rfl) (by kernel_rfl) ?hQ201 ?hy201 (by assumption) ?_
              case hi201 => (simp only [List.getElem?_toArray, List.getElem?_cons_succ, List.getElem?_cons_zero]; rfl)
              case hQ201 => exact fun _ _ _ h => h
              case hy201 => (refine Or.inl ⟨by rfl, ?_⟩; intro w hSw; (try dsimp only at hSw); go_simp; try with_reducible rfl)
              try simp only [Act.put, List.setIfInBounds_toArray, List.set_cons_zero, List.set_cons_succ]
              refine wpAnyH_take (i := 2) (oi := ?oi202) (v := ?v202) ?hi202 (by kernel_rfl) (by kernel_rfl) (by kernel_rfl) ?hQ202 ?hy202 (by assumption) ?_
              case hi202 => (simp only [List.getElem?_toArray, List.getElem?_cons_succ, List.getElem?_cons_zero]; rfl)
              case hQ202 => exact fun _ _ _ h => h
              case hy202 => (refine Or.inl ⟨by rfl, ?_⟩; intro w hSw; (try dsimp only at hSw); go_simp; try with_reducible rfl)
              try simp only [Act.put, List.setIfInBounds_toArray, List.set_cons_zero, List.set_cons_succ]
              refine wpAnyH_take (i := 4) (oi := ?oi204) (v := ?v204) ?hi204 (by kernel_rfl) (by kernel_rfl) (by kernel_rfl) ?hQ204 ?hy204 (by assumption) ?_
              case hi204 => (simp only [List.getElem?_toArray, List.getElem?_cons_succ, List.getElem?_cons_zero]; rfl)
              case hQ204 => exact fun _ _ _ h => h
              case hy204 => (refine Or.inl ⟨by rfl, ?_⟩; intro w hSw; (try dsimp only at hSw); go_simp; try with_reducible rfl)
              try simp only [Act.put, List.setIfInBounds_toArray, List.set_cons_zero, List.set_cons_succ]
              refine wpAnyH_ready (rs := [3]) (by kernel_rfl) (by simp) ?_
              refine AllReadyH.cons (o := ?oi203) ?ho203 (fun K hK => ?_) AllReadyH.nil
              case ho203 => (simp only [List.getElem?_toArray, List.getElem?_cons_succ, List.getElem?_cons_zero]; rfl)
              go_simp
              go_at_call 24; (with_reducible refine (tall_any T ttl f2 now _ (HT7.out.same (sB _ (by assumption)))).mono ?_); rintro e wA ⟨vA, rfl, ⟨aA, cA, rfl, p1, p2, hAA⟩, hbA⟩; have hkA := sK _ _ hbA (by assumption)
              refine hK.out _ _ ?_ (fun hHeld => ?_)
              · (try dsimp only); (first | assumption | go_keep | (refine ⟨?_, ?_, ?_, ?_, ?_, ?_, ?_, ?_, ?_, ?_, ?_, ?_⟩ <;> assumption))
              clear hK K
              try simp only [Act.put, List.setIfInBounds_toArray, List.set_cons_zero, List.set_cons_succ]
              refine wpAnyH_ready (rs := [5]) (by kernel_rfl) (by simp) ?_
              refine AllReadyH.cons (o := ?oi205) ?ho205 (fun K hK => ?_) AllReadyH.nil
              case ho205 => (simp only [List.getElem?_toArray, List.getElem?_cons_succ, List.getElem?_cons_zero]; rfl)
              go_simp
              go_at_call 23; (with_reducible refine (ksame_eq _ _ _ _ (knL (knNow f2 ttl now)) _ (Nat.le_trans hlen5 (by decide)) hAA (HA7.out.same knCells_len (sB _ (by assumption)))).mono ?_); rintro e wS ⟨rfl, hbS⟩; have hkS := sK _ _ hbS (by assumption)
              refine hK.out _ _ ?_ (fun hHeld => ?_)
              · (try dsimp only); (first | assumption | go_keep | (refine ⟨?_, ?_, ?_, ?_, ?_, ?_, ?_, ?_, ?_, ?_, ?_, ?_⟩ <;> assumption))
              clear hK K
              try simp only [Act.put, List.setIfInBounds_toArray, List.set_cons_zero, List.set_cons_succ]
              refine wpAnyH_take (i := 6) (oi := ?oi206) (v := ?v206) ?hi206 (by kernel_rfl) (by kernel_rfl) (by kernel_rfl) ?hQ206 ?hy206 (by assumption) ?_
              case hi206 => (simp only [List.getElem?_toArray, List.getElem?_cons_succ, List.getElem?_cons_zero]; rfl)
              case hQ206 => exact fun _ _ _ h => h
              case hy206 => (refine Or.inl ⟨by rfl, ?_⟩; intro w hSw; (try dsimp only at hSw); go_simp; try with_reducible rfl)
              try simp only [Act.put, List.setIfInBounds_toArray, List.set_cons_zero, List.set_cons_succ]
              refine wpAnyH_take (i := 7) (oi := ?oi207) (v := ?v207) ?hi207 (by kernel_rfl) (by kernel_rfl) (by kernel_rfl) ?hQ207 ?hy207 (by assumption) ?_
              case hi207 => (simp only [List.getElem?_toArray, List.getElem?_cons_succ, List.getElem?_cons_zero]; rfl)
              case hQ207 => exact fun _ _ _ h => h
              case hy207 => (refine Or.inl ⟨by rfl, ?_⟩; intro w hSw; (try dsimp only at hSw); go_simp; try with_reducible rfl)
              try simp only [Act.put, List.setIfInBounds_toArray, List.set_cons_zero, List.set_cons_succ]
              refine wpAnyH_take (i := 8) (oi := ?oi208) (v := ?v208) ?hi208 (by kernel_rfl) (by kernel_rfl) (by kernel_rfl) ?hQ208 ?hy208 (by assumption) ?_
              case hi208 => (simp only [List.getElem?_toArray, List.getElem?_cons_succ, List.getElem?_cons_zero]; rfl)
              case hQ208 => exact fun _ _ _ h => h
              case hy208 => (refine Or.inl ⟨by rfl, ?_⟩; intro w hSw; (try dsimp only at hSw); go_simp; try with_reducible rfl)
              try simp only [Act.put, List.setIfInBounds_toArray, List.set_cons_zero, List.set_cons_succ]
              refine wpAnyH_take (i := 9) (oi := ?oi209) (v := ?v209) ?hi209 (by kernel_rfl) (by kernel_rfl) (by kernel_rfl) ?hQ209 ?hy209 (by assumption) ?_
              case hi209 => (simp only [List.getElem?_toArray, List.getElem?_cons_succ, List.getElem?_cons_zero]; rfl)
              case hQ209 => exact fun _ _ _ h => h
              case hy209 => (refine Or.inl ⟨by rfl, ?_⟩; intro w hSw; (try dsimp only at hSw); go_simp; try with_reducible rfl)
              try simp only [Act.put, List.setIfInBounds_toArray, List.set_cons_zero, List.set_cons_succ]
              refine wpAnyH_take (i := 10) (oi := ?oi210) (v := ?v210) ?hi210 (by kernel_rfl) (by kernel_rfl) (by kernel_rfl) ?hQ210 ?hy210 (by assumption) ?_
              case hi210 => (simp only [List.getElem?_toArray, List.getElem?_cons_succ, List.getElem?_cons_zero]; rfl)
              case hQ210 => exact fun _ _ _ h => h
              case hy210 => (refine Or.inl ⟨by rfl, ?_⟩; intro w hSw; (try dsimp only at hSw); go_simp; try with_reducible rfl)
              try simp only [Act.put, List.setIfInBounds_toArray, List.set_cons_zero, List.set_cons_succ]
              refine wpAnyH_take (i := 11) (oi := ?oi211) (v := ?v211) ?hi211 (by kernel_rfl) (by kernel_rfl) (by kernel_rfl) ?hQ211 ?hy211 (by assumption) ?_
              case hi211 => (simp only [List.getElem?_toArray, List.getElem?_cons_succ, List.getElem?_cons_zero]; rfl)
              case hQ211 => exact fun _ _ _ h => h
              case hy211 => (refine Or.inl ⟨by rfl, ?_⟩; intro w hSw; (try dsimp only at hSw); go_simp; try with_reducible rfl)
              try simp only [Act.put, List.setIfInBounds_toArray, List.set_cons_zero, List.set_cons_succ]
              refine wpAnyH_take (i := 12) (oi := ?oi212) (v := ?v212) ?hi212 (by kernel_rfl) (by kernel_rfl) (by kernel_rfl) ?hQ212 ?hy212 (by assumption) ?_
              case hi212 => (simp only [List.getElem?_toArray, List.getElem?_cons_succ, List.getElem?_cons_zero]; rfl)
              case hQ212 => exact fun _ _ _ h => h
              case hy212 => (refine Or.inl ⟨by rfl, ?_⟩; intro w hSw; (try dsimp only at hSw); go_simp; try with_reducible rfl)
              try simp only [Act.put, List.setIfInBounds_toArray, List.set_cons_zero, List.set_cons_succ]
              refine wpAnyH_take (i := 13) (oi := ?oi213) (v := ?v213) ?hi213 (by kernel_rfl) (by kernel_rfl) (by kernel_rfl) ?hQ213 ?hy213 (by assumption) ?_
              case hi213 => (simp only [List.getElem?_toArray, List.getElem?_cons_succ, List.getElem?_cons_zero]; rfl)
              case hQ213 => exact fun _ _ _ h => h
              case hy213 => (refine Or.inl ⟨by rfl, ?_⟩; intro w hSw; (try dsimp only at hSw); go_simp; try with_reducible rfl)
              try simp only [Act.put, List.setIfInBounds_toArray, List.set_cons_zero, List.set_cons_succ]
              refine wpAnyH_take (i := 14) (oi := ?oi214) (v := ?v214) ?hi214 (by kernel_rfl) (by kernel_rfl) (by kernel_rfl) ?hQ214 ?hy214 (by assumption) ?_
              case hi214 => (simp only [List.getElem?_toArray, List.getElem?_cons_succ, List.getElem?_cons_zero]; rfl)
              case hQ214 => exact fun _ _ _ h => h
              case hy214 => (refine Or.inl ⟨by rfl, ?_⟩; intro w hSw; (try dsimp only at hSw); go_simp; try with_reducible rfl)
              try simp only [Act.put, List.setIfInBounds_toArray, List.set_cons_zero, List.set_cons_succ]
              refine wpAnyH_take (i := 15) (oi := ?oi215) (v := ?v215) ?hi215 (by kernel_rfl) (by kernel_rfl) (by kernel_rfl) ?hQ215 ?hy215 (by assumption) ?_
              case hi215 => (simp only [List.getElem?_toArray, List.getElem?_cons_succ, List.getElem?_cons_zero]; rfl)
              case hQ215 => exact fun _ _ _ h => h
              case hy215 => (refine Or.inl ⟨by rfl, ?_⟩; intro w hSw; (try dsimp only at hSw); go_simp; try with_reducible rfl)
              try simp only [Act.put, List.setIfInBounds_toArray, List.set_cons_zero, List.set_cons_succ]
              refine wpAnyH_take (i := 16) (oi := ?oi216) (v := ?v216) ?hi216 (by kernel_rfl) (by kernel_rfl) (by kernel_rfl) ?hQ216 ?hy216 (by assumption) ?_
              case hi216 => (simp only [List.getElem?_toArray, List.getElem?_cons_succ, List.getElem?_cons_zero]; rfl)
              case hQ216 => exact fun _ _ _ h => h
              case hy216 => (refine Or.inl ⟨by rfl, ?_⟩; intro w hSw; (try dsimp only at hSw); go_simp; try with_reducible rfl)
              try simp only [Act.put, List.setIfInBounds_toArray, List.set_cons_zero, List.set_cons_succ]
              refine wpAnyH_take (i := 17) (oi := ?oi217) (v := ?v217) ?hi217 (by kernel_rfl) (by kernel_rfl) (by kernel_rfl) ?hQ217 ?hy217 (by assumption) ?_
              case hi217 => (simp only [List.getElem?_toArray, List.getElem?_cons_succ, List.getElem?_cons_zero]; rfl)
              case hQ217 => exact fun _ _ _ h => h
              case hy217 => (refine Or.inl ⟨by rfl, ?_⟩; intro w hSw; (try dsimp only at hSw); go_simp; try with_reducible rfl)
              try simp only [Act.put, List.setIfInBounds_toArray, List.set_cons_zero, List.set_cons_succ]
              refine wpAnyH_take (i := 18) (oi := ?oi218) (v := ?v218) ?hi218 (by kernel_rfl) (by kernel_rfl) (by kernel_rfl) ?hQ218 ?hy218 (by assumption) ?_
              case hi218 => (simp only [List.getElem?_toArray, List.getElem?_cons_succ, List.getElem?_cons_zero]; rfl)
              case hQ218 => exact fun _ _ _ h => h
              case hy218 => (refine Or.inl ⟨by rfl, ?_⟩; intro w hSw; (try dsimp only at hSw); go_simp; try with_reducible rfl)
              try simp only [Act.put, List.setIfInBounds_toArray, List.set_cons_zero, List.set_cons_succ]
              refine wpAnyH_take (i := 19) (oi := ?oi219) (v := ?v219) ?hi219 (by kernel_rfl) (by kernel_rfl) (by kernel_rfl) ?hQ219 ?hy219 (by assumption) ?_
              case hi219 => (simp only [List.getElem?_toArray, List.getElem?_cons_succ, List.getElem?_cons_zero]; rfl)
              case hQ219 => exact fun _ _ _ h => h
              case hy219 => (refine Or.inl ⟨by rfl, ?_⟩; intro w hSw; (try dsimp only at hSw); go_simp; try with_reducible rfl)
              try simp only [Act.put, List.setIfInBounds_toArray, List.set_cons_zero, List.set_cons_succ]
              refine wpAnyH_take (i := 20) (oi := ?oi220) (v := ?v220) ?hi220 (by kernel_rfl) (by kernel_rfl) (by kernel_rfl) ?hQ220 ?hy220 (by assumption) ?_
              case hi220 => (simp only [List.getElem?_toArray, List.getElem?_cons_succ, List.getElem?_cons_zero]; rfl)
              case hQ220 => exact fun _ _ _ h => h
              case hy220 => (refine Or.inl ⟨by rfl, ?_⟩; intro w hSw; (try dsimp only at hSw); go_simp; try with_reducible rfl)
              try simp only [Act.put, List.setIfInBounds_toArray, List.set_cons_zero, List.set_cons_succ]
              refine wpAnyH_take (i := 21) (oi := ?oi221) (v := ?v221) ?hi221 (by kernel_rfl) (by kernel_rfl) (by kernel_rfl) ?hQ221 ?hy221 (by assumption) ?_
              case hi221 => (simp only [List.getElem?_toArray, List.getElem?_cons_succ, List.getElem?_cons_zero]; rfl)
              case hQ221 => exact fun _ _ _ h => h
              case hy221 => (refine Or.inl ⟨by rfl, ?_⟩; intro w hSw; (try dsimp only at hSw); go_simp; try with_reducible rfl)
              try simp only [Act.put, List.setIfInBounds_toArray, List.set_cons_zero, List.set_cons_succ]
              refine wpAnyH_take (i := 22) (oi := ?oi222) (v := ?v222) ?hi222 (by kernel_rfl) (by kernel_rfl) (by kernel_rfl) ?hQ222 ?hy222 (by assumption) ?_
              case hi222 => (simp only [List.getElem?_toArray, List.getElem?_cons_succ, List.getElem?_cons_zero]; rfl)
              case hQ222 => exact fun _ _ _ h => h
              case hy222 => (refine Or.inl ⟨by rfl, ?_⟩; intro w hSw; (try dsimp only at hSw); go_simp; try with_reducible rfl)
              try simp only [Act.put, List.setIfInBounds_toArray, List.set_cons_zero, List.set_cons_succ]
              refine wpAnyH_take (i := 23) (oi := ?oi223) (v := ?v223) ?hi223 (by kernel_rfl) (by kernel_rfl) (by kernel_rfl) ?hQ223 ?hy223 (by assumption) ?_
              case hi223 => (simp only [List.getElem?_toArray, List.getElem?_cons_succ, List.getElem?_cons_zero]; rfl)
              case hQ223 => exact fun _ _ _ h => h
              case hy223 => (refine Or.inl ⟨by rfl, ?_⟩; intro w hSw; (try dsimp only at hSw); go_simp; try with_reducible rfl)
              try simp only [Act.put, List.setIfInBounds_toArray, List.set_cons_zero, List.set_cons_succ]
              refine wpAnyH_take (i := 24) (oi := ?oi224) (v := ?v224) ?hi224 (by kernel_rfl) (by kernel_rfl) (by kernel_rfl) ?hQ224 ?hy224 (by assumption) ?_
              case hi224 => (simp only [List.getElem?_toArray, List.getElem?_cons_succ, List.getElem?_cons_zero]; rfl)
              case hQ224 => exact fun _ _ _ h => h
              case hy224 => (refine Or.inl ⟨by rfl, ?_⟩; intro w hSw; (try dsimp only at hSw); go_simp; try with_reducible rfl)
              try simp only [Act.put, List.setIfInBounds_toArray, List.set_cons_zero, List.set_cons_succ]
              refine wpAnyH_take (i := 25) (oi := ?oi225) (v := ?v225) ?hi225 (by kernel_rfl) (by kernel_rfl) (by kernel_rfl) ?hQ225 ?hy225 (by assumption) ?_
              case hi225 => (simp only [List.getElem?_toArray, List.getElem?_cons_succ, List.getElem?_cons_zero]; rfl)
              case hQ225 => exact fun _ _ _ h => h
              case hy225 => (refine Or.inl ⟨by rfl, ?_⟩; intro w hSw; (try dsimp only at hSw); go_simp; try with_reducible rfl)
              try simp only [Act.put, List.setIfInBounds_toArray, List.set_cons_zero, List.set_cons_succ]
              refine wpAnyH_take (i := 26) (oi := ?oi226) (v := ?v226) ?hi226 (by kernel_rfl) (by kernel_rfl) (by kernel_rfl) ?hQ226 ?hy226 (by assumption) ?_
              case hi226 => (simp only [List.getElem?_toArray, List.getElem?_cons_succ, List.getElem?_cons_zero]; rfl)
              case hQ226 => exact fun _ _ _ h => h
              case hy226 => (refine Or.inl ⟨by rfl, ?_⟩; intro w hSw; (try dsimp only at hSw); go_simp; try with_reducible rfl)
              try simp only [Act.put, List.setIfInBounds_toArray, List.set_cons_zero, List.set_cons_succ]
              refine wpAnyH_take (i := 27) (oi := ?oi227) (v := ?v227) ?hi227 (by kernel_rfl) (by kernel_rfl) (by kernel_rfl) ?hQ227 ?hy227 (by assumption) ?_
              case hi227 => (simp only [List.getElem?_toArray, List.getElem?_cons_succ, List.getElem?_cons_zero]; rfl)
              case hQ227 => exact fun _ _ _ h => h
              case hy227 => (refine Or.inl ⟨by rfl, ?_⟩; intro w hSw; (try dsimp only at hSw); go_simp; try with_reducible rfl)
              try simp only [Act.put, List.setIfInBounds_toArray, List.set_cons_zero, List.set_cons_succ]
              refine wpAnyH_take (i := 28) (oi := ?oi228) (v := undef) ?hi228 (by kernel_rfl) (by kernel_rfl) (by kernel_rfl) ?hQ228 ?hy228 (by assumption) ?_
              case hi228 => (simp only [List.getElem?_toArray, List.getElem?_cons_succ, List.getElem?_cons_zero]; rfl)
              case hQ228 => exact fun _ _ _ h => h
              case hy228 => exact Or.inr ⟨by rfl, rfl⟩
              try simp only [Act.put, List.setIfInBounds_toArray, List.set_cons_zero, List.set_cons_succ]
              refine wpAnyH_take (i := 29) (oi := ?oi229) (v := undef) ?hi229 (by kernel_rfl) (by kernel_rfl) (by kernel_rfl) ?hQ229 ?hy229 (by assumption) ?_
              case hi229 => (simp only [List.getElem?_toArray, List.getElem?_cons_succ, List.getElem?_cons_zero]; rfl)
              case hQ229 => exact fun _ _ _ h => h
              case hy229 => exact Or.inr ⟨by rfl, rfl⟩
              try simp only [Act.put, List.setIfInBounds_toArray, List.set_cons_zero, List.set_cons_succ]
              refine wpAnyH_take (i := 30) (oi := ?oi230) (v := undef) ?hi230 (by kernel_rfl) (by kernel_rfl) (by kernel_rfl) ?hQ230 ?hy230 (by assumption) ?_
              case hi230 => (simp only [List.getElem?_toArray, List.getElem?_cons_succ, List.getElem?_cons_zero]; rfl)
              case hQ230 => exact fun _ _ _ h => h
              case hy230 => exact Or.inr ⟨by rfl, rfl⟩
              try simp only [Act.put, List.setIfInBounds_toArray, List.set_cons_zero, List.set_cons_succ]
              refine wpAnyH_take (i := 31) (oi := ?oi231) (v := ?v231) ?hi231 (by kernel_rfl) (by kernel_rfl) (by kernel_rfl) ?hQ231 ?hy231 (by assumption) ?_
              case hi231 => (simp only [List.getElem?_toArray, List.getElem?_cons_succ, List.getElem?_cons_zero]; rfl)
              case hQ231 => exact fun _ _ _ h => h
              case hy231 => (refine Or.inl ⟨by rfl, ?_⟩; intro w hSw; (try dsimp only at hSw); go_simp; try with_reducible rfl)
              try simp only [Act.put, List.setIfInBounds_toArray, List.set_cons_zero, List.set_cons_succ]
              refine wpAnyH_take (i := 32) (oi := ?oi232) (v := ?v232) ?hi232 (by kernel_rfl) (by kernel_rfl) (by kernel_rfl) ?hQ232 ?hy232 (by assumption) ?_
              case hi232 => (simp only [List.getElem?_toArray, List.getElem?_cons_succ, List.getElem?_cons_zero]; rfl)
              case hQ232 => exact fun _ _ _ h => h
              case hy232 => (refine Or.inl ⟨by rfl, ?_⟩; intro w hSw; (try dsimp only at hSw); go_simp; try with_reducible rfl)
              try simp only [Act.put, List.setIfInBounds_toArray, List.set_cons_zero, List.set_cons_succ]
              refine wpAnyH_take (i := 33) (oi := ?oi233) (v := ?v233) ?hi233 (by kernel_rfl) (by kernel_rfl) (by kernel_rfl) ?hQ233 ?hy233 (by assumption) ?_
              case hi233 => (simp only [List.getElem?_toArray, List.getElem?_cons_succ, List.getElem?_cons_zero]; rfl)
              case hQ233 => exact fun _ _ _ h => h
              case hy233 => (refine Or.inl ⟨by rfl, ?_⟩; intro w hSw; (try dsimp only at hSw); go_simp; try with_reducible rfl)
              try simp only [Act.put, List.setIfInBounds_toArray, List.set_cons_zero, List.set_cons_succ]
              refine wpAnyH_take (i := 34) (oi := ?oi234) (v := ?v234) ?hi234 (by kernel_rfl) (by kernel_rfl) (by kernel_rfl) ?hQ234 ?hy234 (by assumption) ?_
              case hi234 => (simp only [List.getElem?_toArray, List.getElem?_cons_succ, List.getElem?_cons_zero]; rfl)
              case hQ234 => exact fun _ _ _ h => h
              case hy234 => (refine Or.inl ⟨by rfl, ?_⟩; intro w hSw; (try dsimp only at hSw); go_simp; try with_reducible rfl)
              try simp only [Act.put, List.setIfInBounds_toArray, List.set_cons_zero, List.set_cons_succ]
              refine wpAnyH_take (i := 35) (oi := ?oi235) (v := ?v235) ?hi235 (by kernel_rfl) (by kernel_rfl) (by kernel_rfl) ?hQ235 ?hy235 (by assumption) ?_
              case hi235 => (simp only [List.getElem?_toArray, List.getElem?_cons_succ, List.getElem?_cons_zero]; rfl)
              case hQ235 => exact fun _ _ _ h => h
              case hy235 => (refine Or.inl ⟨by rfl, ?_⟩; intro w hSw; (try dsimp only at hSw); go_simp; try with_reducible rfl)
              try simp only [Act.put, List.setIfInBounds_toArray, List.set_cons_zero, List.set_cons_succ]
              refine wpAnyH_take (i := 36) (oi := ?oi236) (v := ?v236) ?hi236 (by kernel_rfl) (by kernel_rfl) (by kernel_rfl) ?hQ236 ?hy236 (by assumption) ?_
              case hi236 => (simp only [List.getElem?_toArray, List.getElem?_cons_succ, List.getElem?_cons_zero]; rfl)
              case hQ236 => exact fun _ _ _ h => h
              case hy236 => (refine Or.inl ⟨by rfl, ?_⟩; intro w hSw; (try dsimp only at hSw); go_simp; try with_reducible rfl)
              try simp only [Act.put, List.setIfInBounds_toArray, List.set_cons_zero, List.set_cons_succ]
              refine wpAnyH_take (i := 37) (oi := ?oi237) (v := ?v237) ?hi237 (by kernel_rfl) (by kernel_rfl) (by kernel_rfl) ?hQ237 ?hy237 (by assumption) ?_
              case hi237 => (simp only [List.getElem?_toArray, List.getElem?_cons_succ, List.getElem?_cons_zero]; rfl)
              case hQ237 => exact fun _ _ _ h => h
              case hy237 => (refine Or.inl ⟨by rfl, ?_⟩; intro w hSw; (try dsimp only at hSw); go_simp; try with_reducible rfl)
              try simp only [Act.put, List.setIfInBounds_toArray, List.set_cons_zero, List.set_cons_succ]
              refine wpAnyH_take (i := 38) (oi := ?oi238) (v := ?v238) ?hi238 (by kernel_rfl) (by kernel_rfl) (by kernel_rfl) ?hQ238 ?hy238 (by assumption) ?_
              case hi238 => (simp only [List.getElem?_toArray, List.getElem?_cons_succ, List.getElem?_cons_zero]; rfl)
              case hQ238 => exact fun _ _ _ h => h
              case hy238 => (refine Or.inl ⟨by rfl, ?_⟩; intro w hSw; (try dsimp only at hSw); go_simp; try with_reducible rfl)
              try simp only [Act.put, List.setIfInBounds_toArray, List.set_cons_zero, List.set_cons_succ]
              refine wpAnyH_take (i := 39) (oi := ?oi239) (v := ?v239) ?hi239 (by kernel_rfl) (by kernel_rfl) (by kernel_rfl) ?hQ239 ?hy239 (by assumption) ?_
              case hi239 => (simp only [List.getElem?_toArray, List.getElem?_cons_succ, List.getElem?_cons_zero]; rfl)
              case hQ239 => exact fun _ _ _ h => h
              case hy239 => (refine Or.inl ⟨by rfl, ?_⟩; intro w hSw; (try dsimp only at hSw); go_simp; try with_reducible rfl)
              try simp only [Act.put, List.setIfInBounds_toArray, List.set_cons_zero, List.set_cons_succ]
              refine wpAnyH_take (i := 40) (oi := ?oi240) (v := ?v240) ?hi240 (by kernel_rfl) (by kernel_rfl) (by kernel_rfl) ?hQ240 ?hy240 (by assumption) ?_
              case hi240 => (simp only [List.getElem?_toArray, List.getElem?_cons_succ, List.getElem?_cons_zero]; rfl)
              case hQ240 => exact fun _ _ _ h => h
              case hy240 => (refine Or.inl ⟨by rfl, ?_⟩; intro w hSw; (try dsimp only at hSw); go_simp; try with_reducible rfl)
              try simp only [Act.put, List.setIfInBounds_toArray, List.set_cons_zero, List.set_cons_succ]
              refine wpAnyH_take (i := 42) (oi := ?oi242) (v := ?v242) ?hi242 (by kernel_rfl) (by kernel_rfl) (by kernel_rfl) ?hQ242 ?hy242 (by assumption) ?_
              case hi242 => (simp only [List.getElem?_toArray, List.getElem?_cons_succ, List.getElem?_cons_zero]; rfl)
              case hQ242 => exact fun _ _ _ h => h
              case hy242 => (refine Or.inl ⟨by rfl, ?_⟩; intro w hSw; (try dsimp only at hSw); go_simp; try with_reducible rfl)
              try simp only [Act.put, List.setIfInBounds_toArray, List.set_cons_zero, List.set_cons_succ]
              refine wpAnyH_take (i := 43) (oi := ?oi243) (v := ?v243) ?hi243 (by kernel_rfl) (by kernel_rfl) (by kernel_rfl) ?hQ243 ?hy243 (by assumption) ?_
              case hi243 => (simp only [List.getElem?_toArray, List.getElem?_cons_succ, List.getElem?_cons_zero]; rfl)
              case hQ243 => exact fun _ _ _ h => h
              case hy243 => (refine Or.inl ⟨by rfl, ?_⟩; intro w hSw; (try dsimp only at hSw); go_simp; try with_reducible rfl)
              try simp only [Act.put, List.setIfInBounds_toArray, List.set_cons_zero, List.set_cons_succ]
              refine wpAnyH_take (i := 44) (oi := ?oi244) (v := ?v244) ?hi244 (by kernel_rfl) (by kernel_rfl) (by kernel_rfl) ?hQ244 ?hy244 (by assumption) ?_
              case hi244 => (simp only [List.getElem?_toArray, List.getElem?_cons_succ, List.getElem?_cons_zero]; rfl)
              case hQ244 => exact fun _ _ _ h => h
              case hy244 => (refine Or.inl ⟨by rfl, ?_⟩; intro w hSw; (try dsimp only at hSw); go_simp; try with_reducible rfl)
              try simp only [Act.put, List.setIfInBounds_toArray, List.set_cons_zero, List.set_cons_succ]
              refine wpAnyH_take (i := 45) (oi := ?oi245) (v := ?v245) ?hi245 (by kernel_rfl) (by kernel_rfl) (by kernel_rfl) ?hQ245 ?hy245 (by assumption) ?_
              case hi245 => (simp only [List.getElem?_toArray, List.getElem?_cons_succ, List.getElem?_cons_zero]; rfl)
              case hQ245 => exact fun _ _ _ h => h
              case hy245 => (refine Or.inl ⟨by rfl, ?_⟩; intro w hSw; (try dsimp only at hSw); go_simp; try with_reducible rfl)
              try simp only [Act.put, List.setIfInBounds_toArray, List.set_cons_zero, List.set_cons_succ]
              refine wpAnyH_take (i := 46) (oi := ?oi246) (v := ?v246) ?hi246 (by kernel_rfl) (by kernel_rfl) (by kernel_rfl) ?hQ246 ?hy246 (by assumption) ?_
              case hi246 => (simp only [List.getElem?_toArray, List.getElem?_cons_succ, List.getElem?_cons_zero]; rfl)
              case hQ246 => exact fun _ _ _ h => h
              case hy246 => (refine Or.inl ⟨by rfl, ?_⟩; intro w hSw; (try dsimp only at hSw); go_simp; try with_reducible rfl)
              try simp only [Act.put, List.setIfInBounds_toArray, List.set_cons_zero, List.set_cons_succ]
              refine wpAnyH_take (i := 47) (oi := ?oi247) (v := ?v247) ?hi247 (by kernel_rfl) (by kernel_rfl) (by kernel_rfl) ?hQ247 ?hy247 (by assumption) ?_
              case hi247 => (simp only [List.getElem?_toArray, List.getElem?_cons_succ, List.getElem?_cons_zero]; rfl)
              case hQ247 => exact fun _ _ _ h => h
              case hy247 => (refine Or.inl ⟨by rfl, ?_⟩; intro w hSw; (try dsimp only at hSw); go_simp; try with_reducible rfl)
              try simp only [Act.put, List.setIfInBounds_toArray, List.set_cons_zero, List.set_cons_succ]
              refine wpAnyH_take (i := 48) (oi := ?oi248) (v := ?v248) ?hi248 (by kernel_rfl) (by kernel_rfl) (by kernel_rfl) ?hQ248 ?hy248 (by assumption) ?_
              case hi248 => (simp only [List.getElem?_toArray, List.getElem?_cons_succ, List.getElem?_cons_zero]; rfl)
              case hQ248 => exact fun _ _ _ h => h
              case hy248 => (refine Or.inl ⟨by rfl, ?_⟩; intro w hSw; (try dsimp only at hSw); go_simp; try with_reducible rfl)
              try simp only [Act.put, List.setIfInBounds_toArray, List.set_cons_zero, List.set_cons_succ]
              refine wpAnyH_take (i := 49) (oi := ?oi249) (v := ?v249) ?hi249 (by kernel_rfl) (by kernel_rfl) (by kernel_rfl) ?hQ249 ?hy249 (by assumption) ?_
              case hi249 => (simp only [List.getElem?_toArray, List.getElem?_cons_succ, List.getElem?_cons_zero]; rfl)
              case hQ249 => exact fun _ _ _ h => h
              case hy249 => (refine Or.inl ⟨by rfl, ?_⟩; intro w hSw; (try dsimp only at hSw); go_simp; try with_reducible rfl)
              try simp only [Act.put, List.setIfInBounds_toArray, List.set_cons_zero, List.set_cons_succ]
              refine wpAnyH_ready (rs := [41]) (by kernel_rfl) (by simp) ?_
              refine AllReadyH.cons (o := ?oi241) ?ho241 (fun K hK => ?_) AllReadyH.nil
              case ho241 => (simp only [List.getElem?_toArray, List.getElem?_cons_succ, List.getElem?_cons_zero]; rfl)
              go_simp
              go_at_call 25; (with_reducible refine (cuts_any T ttl f2 tt lev now _ (HT7.out.same (sB _ (by assumption)))).mono ?_); rintro e wC ⟨rfl, hbC⟩; have hkC := sK _ _ hbC (by assumption)
              refine hK.out _ _ ?_ (fun hHeld => ?_)
              · (try dsimp only); (first | assumption | go_keep | (refine ⟨?_, ?_, ?_, ?_, ?_, ?_, ?_, ?_, ?_, ?_, ?_, ?_⟩ <;> assumption))
              clear hK K
              try simp only [Act.put, List.setIfInBounds_toArray, List.set_cons_zero, List.set_cons_succ]
              refine wpAnyH_ready (rs := [50]) (by kernel_rfl) (by simp) ?_
              refine AllReadyH.cons (o := ?oi250) ?ho250 (fun K hK => ?_) AllReadyH.nil
              case ho250 => (simp only [List.getElem?_toArray, List.getElem?_cons_succ, List.getElem?_cons_zero]; rfl)
              go_simp
              go_at_call 26; (with_reducible refine (rcuts_any v2 f2 ttl tt lev now _ (HK7.out.same (sB _ (by assumption))).at).mono ?_); rintro e wD ⟨rfl, hbD⟩; have hkD := sK _ _ hbD (by assumption)
              refine hK.out _ _ ?_ (fun hHeld => ?_)
              · (try dsimp only); (first | assumption | go_keep | (refine ⟨?_, ?_, ?_, ?_, ?_, ?_, ?_, ?_, ?_, ?_, ?_, ?_⟩ <;> assumption))
              clear hK K
              try simp only [Act.put, List.setIfInBounds_toArray, List.set_cons_zero, List.set_cons_succ]
              refine wpAnyH_take (i := 51) (oi := ?oi251) (v := ?v251) ?hi251 (by kernel_rfl) (by kernel_rfl) (by kernel_rfl) ?hQ251 ?hy251 (by assumption) ?_
              case hi251 => (simp only [List.getElem?_toArray, List.getElem?_cons_succ, List.getElem?_cons_zero]; rfl)
              case hQ251 => exact fun _ _ _ h => h
              case hy251 => (refine Or.inl ⟨by rfl, ?_⟩; intro w hSw; (try dsimp only at hSw); go_simp; try with_reducible rfl)
              try simp only [Act.put, List.setIfInBounds_toArray, List.set_cons_zero, List.set_cons_succ]
              refine wpAnyH_take (i := 52) (oi := ?oi252) (v := ?v252) ?hi252 (by kernel_rfl) (by kernel_rfl) (by kernel_rfl) ?hQ252 ?hy252 (by assumption) ?_
              case hi252 => (simp only [List.getElem?_toArray, List.getElem?_cons_succ, List.getElem?_cons_zero]; rfl)
              case hQ252 => exact fun _ _ _ h => h
              case hy252 => (refine Or.inl ⟨by rfl, ?_⟩; intro w hSw; (try dsimp only at hSw); go_simp; try with_reducible rfl)
              try simp only [Act.put, List.setIfInBounds_toArray, List.set_cons_zero, List.set_cons_succ]
              refine wpAnyH_done (by kernel_rfl) ?_ _
              have hfin := sB _ (by assumption)
              have HFin := Lib.hid hfin
              go_wp2
              exact ⟨⟨f2, k + 1, _, by omega, by go_num, rfl, TableAt.same HT7.out HFin.out, HK7.out.same HFin.out, HB7.out.trans (HFin.out.mono HB7.out.size)⟩, by simp only [intOf]; omega⟩
          · by_cases hk1 : kd = 1
            · subst hk1
              obtain ⟨W2, hW2⟩ : ∃ W2, W2 = wr.alloc (.cells [.int .i64 1, .int .i64 tt, .int .i64 th, .int .i64 ep, .int .i64 now, .int .i64 lev].toArray 30) := ⟨_, rfl⟩
              have hbA : Below wr.heap.size wr W2 := by rw [hW2]; exact (Below.refl _ _).alloc (Nat.le_refl _) _
              have HX2 := Lib.hid (show IsObj W2 wr.heap.size 30 [.int .i64 1, .int .i64 tt, .int .i64 th, .int .i64 ep, .int .i64 now, .int .i64 lev] by rw [hW2]; exact IsObj.new wr _ _)
              have HT2 := Lib.hid (TableAt.same HTr.out hbA)
              have HK2 := Lib.hid (HKr.out.same hbA)
              have HB2 := Lib.hid (HBr.out.trans (hbA.mono HBr.out.size))
              have hszA : W2.heap.size = wr.heap.size + 1 := by rw [hW2]; simp
              clear hbA HTr HKr HBr
              obtain ⟨A, hAA⟩ : ∃ A, A = wr.heap.size := ⟨_, rfl⟩
              rw [← hAA] at HX2 hszA hTA
              obtain ⟨f2, hf2⟩ : ∃ f2 : Ents, f2 = fun _ => none := ⟨_, rfl⟩
              have TC := tclear_any T ttl f W2 HT2.out
              rw [← hf2] at TC
              have HTC := Lib.hid TC
              clear TC
              go_wp2_with fail
              rw [← hW2, ← hAA]
              clear hW2 hAA
              refine HTC.out.mono ?_
              rintro e w4 ⟨rfl, hT4, hO4⟩
              have hX4 := IsObj.only HX2.out hO4 (by omega)
              have HX4 := Lib.hid hX4
              have HT4 := Lib.hid hT4
              have HK4 := Lib.hid (show KnB (T + 1) w4 (.slice none 0 0) (knL f2) by rw [hf2]; exact KnB.nil (T + 1) w4)
              have HB4 := Lib.hid (HB2.out.trans (hO4.below hwT HB2.out.size))
              clear hT4 hO4 HX2 HT2 HK2 HB2 HTC hf2
              have u4 := IsObj.cell hX4 4
              simp only [List.getElem?_cons_succ, List.getElem?_cons_zero] at u4
              clear hX4
              have hlen5 : (knL (knNow f2 ttl now)).length ≤ 8 := knU_len _ 8
              rcases find_now f2 ttl tt now with ⟨hkn, hfk⟩ | ⟨e0, j, hkn, hfk, hj, _, hn⟩
              · go_wp2_with fail
                refine (rallK_any (.slice none 0 0) f2 ttl now _ HK4.out.at).mono ?_
                rintro e w5 ⟨v5, rfl, ⟨a5, c5, rfl, m1, m2, hA5⟩, hb5⟩
                have hX5 := IsObj.below HX4.out hb5 HX4.out.lt
                have HT5 := Lib.hid (TableAt.same HT4.out hb5)
                have HK5 := Lib.hid (HK4.out.same hb5)
                have HB5 := Lib.hid (HB4.out.trans (hb5.mono HB4.out.size))
                have HX5 := Lib.hid hX5
                have HA5 := Lib.hid hA5
                have x1 := IsObj.cell hX5 1
                have x4 := IsObj.cell hX5 4
                have x5 := IsObj.cell hX5 5
                simp only [List.getElem?_cons_succ, List.getElem?_cons_zero] at x1 x4 x5
                clear hX5 hA5 hb5 HT4 HK4 HX4 HB4
                have G := fun w h => get_any T ttl f2 tt now w h
                rw [hkn] at G
                unfold kv Option.isSome at G
                have HG := Lib.hid G
                clear G
                go_wp2_with fail
                refine (HG.out _ HT5.out).mono ?_
                rintro e w6 ⟨rfl, hb6⟩
                obtain ⟨W7, hW7⟩ : ∃ W7, W7 = w6.alloc (.cells [.int .i64 0, .int .i64 0, .int .i64 0, .int .i64 0].toArray 36) := ⟨_, rfl⟩
                have hb67 : Below w6.heap.size w6 W7 := by rw [hW7]; exact (Below.refl _ _).alloc (Nat.le_refl _) _
                have hY7 : IsObj W7 w6.heap.size 36 [.int .i64 0, .int .i64 0, .int .i64 0, .int .i64 0] := by rw [hW7]; exact IsObj.new w6 _ _
                have hX6 := IsObj.below HX5.out hb6 HX5.out.lt
                have r1 := IsObj.cell hX6 1
                have r4 := IsObj.cell hX6 4
                have r5 := IsObj.cell hX6 5
                have rl := IsObj.lt hX6
                simp only [List.getElem?_cons_succ, List.getElem?_cons_zero] at r1 r4 r5
                clear hX6
                have hb57 : Below w5.heap.size w5 W7 := hb6.trans (hb67.mono hb6.size)
                have HX7 := IsObj.below HX5.out hb57 HX5.out.lt
                have HT7 := Lib.hid (TableAt.same HT5.out hb57)
                have HK7 := Lib.hid (HK5.out.same hb57)
                have HB7 := Lib.hid (HB5.out.trans (hb57.mono HB5.out.size))
                have hA7 := HA5.out.same knCells_len hb57
                have HA7 := Lib.hid hA7
                have HFi := Lib.hid (rfind_any a5 c5 (knL (knNow f2 ttl now)) tt W7 (Nat.le_trans hlen5 (by decide)) hA7)
                rw [hfk] at HFi
                have y1 := IsObj.cell HX7 1
                have y4 := IsObj.cell HX7 4
                have y5 := IsObj.cell HX7 5
                have z0 := IsObj.cell hY7 0
                have z1 := IsObj.cell hY7 1
                have z2 := IsObj.cell hY7 2
                have z3 := IsObj.cell hY7 3
                simp only [List.getElem?_cons_succ, List.getElem?_cons_zero] at y1 y4 y5 z0 z1 z2 z3
                have hyl := IsObj.lt hY7
                have hxl := IsObj.lt HX7
                clear hb6 hb67 hb57 hY7 HX7 hA7 HT5 HK5 HX5 HB5 HA5 x1 x4 x5
                go_wp2_with fail
                rw [← hW7]
                clear r1 r4 r5 rl
                refine HFi.out.mono ?_
                rintro e w' ⟨rfl, rfl⟩
                obtain ⟨Y, hY⟩ : ∃ Y, Y = w6.heap.size := ⟨_, rfl⟩
                rw [← hY] at z0 z1 z2 z3 hyl ⊢
                clear hW7 hY HFi
                have hb77 : Below W7.heap.size W7 W7 := Below.refl _ _
                have sB : ∀ W, (W.cell? ⟨A, 1, none⟩ = some (.int .i64 tt) ∧ W.cell? ⟨A, 4, none⟩ = some (.int .i64 now) ∧ W.cell? ⟨A, 5, none⟩ = some (.int .i64 lev) ∧ W.cell? ⟨Y, 0, none⟩ = some (.int .i64 0) ∧ W.cell? ⟨Y, 1, none⟩ = some (.int .i64 0) ∧ W.cell? ⟨Y, 2, none⟩ = some (.int .i64 0) ∧ W.cell? ⟨Y, 3, none⟩ = some (.int .i64 0) ∧ Below W7.heap.size W7 W) → Below W7.heap.size W7 W := fun W h => h.2.2.2.2.2.2.2
                have sK : ∀ W W1, Below W.heap.size W W1 → (W.cell? ⟨A, 1, none⟩ = some (.int .i64 tt) ∧ W.cell? ⟨A, 4, none⟩ = some (.int .i64 now) ∧ W.cell? ⟨A, 5, none⟩ = some (.int .i64 lev) ∧ W.cell? ⟨Y, 0, none⟩ = some (.int .i64 0) ∧ W.cell? ⟨Y, 1, none⟩ = some (.int .i64 0) ∧ W.cell? ⟨Y, 2, none⟩ = some (.int .i64 0) ∧ W.cell? ⟨Y, 3, none⟩ = some (.int .i64 0) ∧ Below W7.heap.size W7 W) → (W1.cell? ⟨A, 1, none⟩ = some (.int .i64 tt) ∧ W1.cell? ⟨A, 4, none⟩ = some (.int .i64 now) ∧ W1.cell? ⟨A, 5, none⟩ = some (.int .i64 lev) ∧ W1.cell? ⟨Y, 0, none⟩ = some (.int .i64 0) ∧ W1.cell? ⟨Y, 1, none⟩ = some (.int .i64 0) ∧ W1.cell? ⟨Y, 2, none⟩ = some (.int .i64 0) ∧ W1.cell? ⟨Y, 3, none⟩ = some (.int .i64 0) ∧ Below W7.heap.size W7 W1) := fun W W1 hb h => ⟨cell_keep hb (h.1), cell_keep hb (h.2.1), cell_keep hb (h.2.2.1), cell_keep hb (h.2.2.2.1), cell_keep hb (h.2.2.2.2.1), cell_keep hb (h.2.2.2.2.2.1), cell_keep hb (h.2.2.2.2.2.2.1), (h.2.2.2.2.2.2.2).trans (hb.mono (h.2.2.2.2.2.2.2).size)⟩
                go_wp2_with fail
                have hb78 : Below W7.heap.size W7 W7.drew := (Below.refl _ _).drew
                refine wp_region_held_drew (S := fun w' => w'.cell? ⟨A, 1, none⟩ = some (.int .i64 tt) ∧ w'.cell? ⟨A, 4, none⟩ = some (.int .i64 now) ∧ w'.cell? ⟨A, 5, none⟩ = some (.int .i64 lev) ∧ w'.cell? ⟨Y, 0, none⟩ = some (.int .i64 0) ∧ w'.cell? ⟨Y, 1, none⟩ = some (.int .i64 0) ∧ w'.cell? ⟨Y, 2, none⟩ = some (.int .i64 0) ∧ w'.cell? ⟨Y, 3, none⟩ = some (.int .i64 0) ∧ Below W7.heap.size W7 w') (by kernel_rfl) ?_ (fun hHeld => ?_)
                · (try dsimp only); (first | assumption | go_keep | (refine ⟨?_, ?_, ?_, ?_, ?_, ?_, ?_, ?_⟩ <;> assumption))
                refine wpAnyH_take (i := 0) (oi := ?oi300) (v := ?v300) ?hi300 (by kernel_rfl) (by kernel_rfl) (by kernel_rfl) ?hQ300 ?hy300 (by assumption) ?_
                case hi300 => (simp only [List.getElem?_toArray, List.getElem?_cons_succ, List.getElem?_cons_zero]; rfl)
                case hQ300 => exact fun _ _ _ h => h
                case hy300 => (refine Or.inl ⟨by rfl, ?_⟩; intro w hSw; (try dsimp only at hSw); go_simp; try with_reducible rfl)
                try simp only [Act.put, List.setIfInBounds_toArray, List.set_cons_zero, List.set_cons_succ]
                refine wpAnyH_take (i := 1) (oi := ?oi301) (v := ?v301) ?hi301 (by kernel_rfl) (by kernel_rfl) (by kernel_rfl) ?hQ301 ?hy301 (by assumption) ?_
                case hi301 => (simp only [List.getElem?_toArray, List.getElem?_cons_succ, List.getElem?_cons_zero]; rfl)
                case hQ301 => exact fun _ _ _ h => h
                case hy301 => (refine Or.inl ⟨by rfl, ?_⟩; intro w hSw; (try dsimp only at hSw); go_simp; try with_reducible rfl)
                try simp only [Act.put, List.setIfInBounds_toArray, List.set_cons_zero, List.set_cons_succ]
                refine wpAnyH_take (i := 2) (oi := ?oi302) (v := ?v302) ?hi302 (by kernel_rfl) (by kernel_rfl) (by kernel_rfl) ?hQ302 ?hy302 (by assumption) ?_
                case hi302 => (simp only [List.getElem?_toArray, List.getElem?_cons_succ, List.getElem?_cons_zero]; rfl)
                case hQ302 => exact fun _ _ _ h => h
                case hy302 => (refine Or.inl ⟨by rfl, ?_⟩; intro w hSw; (try dsimp only at hSw); go_simp; try with_reducible rfl)
                try simp only [Act.put, List.setIfInBounds_toArray, List.set_cons_zero, List.set_cons_succ]
                refine wpAnyH_take (i := 4) (oi := ?oi304) (v := ?v304) ?hi304 (by kernel_rfl) (by kernel_rfl) (by kernel_rfl) ?hQ304 ?hy304 (by assumption) ?_
                case hi304 => (simp only [List.getElem?_toArray, List.getElem?_cons_succ, List.getElem?_cons_zero]; rfl)
                case hQ304 => exact fun _ _ _ h => h
                case hy304 => (refine Or.inl ⟨by rfl, ?_⟩; intro w hSw; (try dsimp only at hSw); go_simp; try with_reducible rfl)
                try simp only [Act.put, List.setIfInBounds_toArray, List.set_cons_zero, List.set_cons_succ]
                refine wpAnyH_ready (rs := [3]) (by kernel_rfl) (by simp) ?_
                refine AllReadyH.cons (o := ?oi303) ?ho303 (fun K hK => ?_) AllReadyH.nil
                case ho303 => (simp only [List.getElem?_toArray, List.getElem?_cons_succ, List.getElem?_cons_zero]; rfl)
                go_simp
                go_at_call 24; (with_reducible refine (tall_any T ttl f2 now _ (HT7.out.same (sB _ (by assumption)))).mono ?_); rintro e wA ⟨vA, rfl, ⟨aA, cA, rfl, p1, p2, hAA⟩, hbA⟩; have hkA := sK _ _ hbA (by assumption)
                refine hK.out _ _ ?_ (fun hHeld => ?_)
                · (try dsimp only); (first | assumption | go_keep | (refine ⟨?_, ?_, ?_, ?_, ?_, ?_, ?_, ?_⟩ <;> assumption))
                clear hK K
                try simp only [Act.put, List.setIfInBounds_toArray, List.set_cons_zero, List.set_cons_succ]
                refine wpAnyH_ready (rs := [5]) (by kernel_rfl) (by simp) ?_
                refine AllReadyH.cons (o := ?oi305) ?ho305 (fun K hK => ?_) AllReadyH.nil
                case ho305 => (simp only [List.getElem?_toArray, List.getElem?_cons_succ, List.getElem?_cons_zero]; rfl)
                go_simp
                go_at_call 23; (with_reducible refine (ksame_eq _ _ _ _ (knL (knNow f2 ttl now)) _ (Nat.le_trans hlen5 (by decide)) hAA (HA7.out.same knCells_len (sB _ (by assumption)))).mono ?_); rintro e wS ⟨rfl, hbS⟩; have hkS := sK _ _ hbS (by assumption)
                refine hK.out _ _ ?_ (fun hHeld => ?_)
                · (try dsimp only); (first | assumption | go_keep | (refine ⟨?_, ?_, ?_, ?_, ?_, ?_, ?_, ?_⟩ <;> assumption))
                clear hK K
                try simp only [Act.put, List.setIfInBounds_toArray, List.set_cons_zero, List.set_cons_succ]
                refine wpAnyH_take (i := 6) (oi := ?oi306) (v := ?v306) ?hi306 (by kernel_rfl) (by kernel_rfl) (by kernel_rfl) ?hQ306 ?hy306 (by assumption) ?_
                case hi306 => (simp only [List.getElem?_toArray, List.getElem?_cons_succ, List.getElem?_cons_zero]; rfl)
                case hQ306 => exact fun _ _ _ h => h
                case hy306 => (refine Or.inl ⟨by rfl, ?_⟩; intro w hSw; (try dsimp only at hSw); go_simp; try with_reducible rfl)
                try simp only [Act.put, List.setIfInBounds_toArray, List.set_cons_zero, List.set_cons_succ]
                refine wpAnyH_take (i := 7) (oi := ?oi307) (v := ?v307) ?hi307 (by kernel_rfl) (by kernel_rfl) (by kernel_rfl) ?hQ307 ?hy307 (by assumption) ?_
                case hi307 => (simp only [List.getElem?_toArray, List.getElem?_cons_succ, List.getElem?_cons_zero]; rfl)
                case hQ307 => exact fun _ _ _ h => h
                case hy307 => (refine Or.inl ⟨by rfl, ?_⟩; intro w hSw; (try dsimp only at hSw); go_simp; try with_reducible rfl)
                try simp only [Act.put, List.setIfInBounds_toArray, List.set_cons_zero, List.set_cons_succ]
                refine wpAnyH_take (i := 8) (oi := ?oi308) (v := ?v308) ?hi308 (by kernel_rfl) (by kernel_rfl) (by kernel_rfl) ?hQ308 ?hy308 (by assumption) ?_
                case hi308 => (simp only [List.getElem?_toArray, List.getElem?_cons_succ, List.getElem?_cons_zero]; rfl)
                case hQ308 => exact fun _ _ _ h => h
                case hy308 => (refine Or.inl ⟨by rfl, ?_⟩; intro w hSw; (try dsimp only at hSw); go_simp; try with_reducible rfl)
                try simp only [Act.put, List.setIfInBounds_toArray, List.set_cons_zero, List.set_cons_succ]
                refine wpAnyH_take (i := 9) (oi := ?oi309) (v := ?v309) ?hi309 (by kernel_rfl) (by kernel_rfl) (by kernel_rfl) ?hQ309 ?hy309 (by assumption) ?_
                case hi309 => (simp only [List.getElem?_toArray, List.getElem?_cons_succ, List.getElem?_cons_zero]; rfl)
                case hQ309 => exact fun _ _ _ h => h
                case hy309 => (refine Or.inl ⟨by rfl, ?_⟩; intro w hSw; (try dsimp only at hSw); go_simp; try with_reducible rfl)
                try simp only [Act.put, List.setIfInBounds_toArray, List.set_cons_zero, List.set_cons_succ]
                refine wpAnyH_take (i := 10) (oi := ?oi310) (v := ?v310) ?hi310 (by kernel_rfl) (by kernel_rfl) (by kernel_rfl) ?hQ310 ?hy310 (by assumption) ?_
                case hi310 => (simp only [List.getElem?_toArray, List.getElem?_cons_succ, List.getElem?_cons_zero]; rfl)
                case hQ310 => exact fun _ _ _ h => h
                case hy310 => (refine Or.inl ⟨by rfl, ?_⟩; intro w hSw; (try dsimp only at hSw); go_simp; try with_reducible rfl)
                try simp only [Act.put, List.setIfInBounds_toArray, List.set_cons_zero, List.set_cons_succ]
                refine wpAnyH_take (i := 11) (oi := ?oi311) (v := ?v311) ?hi311 (by kernel_rfl) (by kernel_rfl) (by kernel_rfl) ?hQ311 ?hy311 (by assumption) ?_
                case hi311 => (simp only [List.getElem?_toArray, List.getElem?_cons_succ, List.getElem?_cons_zero]; rfl)
                case hQ311 => exact fun _ _ _ h => h
                case hy311 => (refine Or.inl ⟨by rfl, ?_⟩; intro w hSw; (try dsimp only at hSw); go_simp; try with_reducible rfl)
                try simp only [Act.put, List.setIfInBounds_toArray, List.set_cons_zero, List.set_cons_succ]
                refine wpAnyH_take (i := 12) (oi := ?oi312) (v := ?v312) ?hi312 (by kernel_rfl) (by kernel_rfl) (by kernel_rfl) ?hQ312 ?hy312 (by assumption) ?_
                case hi312 => (simp only [List.getElem?_toArray, List.getElem?_cons_succ, List.getElem?_cons_zero]; rfl)
                case hQ312 => exact fun _ _ _ h => h
                case hy312 => (refine Or.inl ⟨by rfl, ?_⟩; intro w hSw; (try dsimp only at hSw); go_simp; try with_reducible rfl)
                try simp only [Act.put, List.setIfInBounds_toArray, List.set_cons_zero, List.set_cons_succ]
                refine wpAnyH_take (i := 13) (oi := ?oi313) (v := ?v313) ?hi313 (by kernel_rfl) (by kernel_rfl) (by kernel_rfl) ?hQ313 ?hy313 (by assumption) ?_
                case hi313 => (simp only [List.getElem?_toArray, List.getElem?_cons_succ, List.getElem?_cons_zero]; rfl)
                case hQ313 => exact fun _ _ _ h => h
                case hy313 => (refine Or.inl ⟨by rfl, ?_⟩; intro w hSw; (try dsimp only at hSw); go_simp; try with_reducible rfl)
                try simp only [Act.put, List.setIfInBounds_toArray, List.set_cons_zero, List.set_cons_succ]
                refine wpAnyH_take (i := 14) (oi := ?oi314) (v := ?v314) ?hi314 (by kernel_rfl) (by kernel_rfl) (by kernel_rfl) ?hQ314 ?hy314 (by assumption) ?_
                case hi314 => (simp only [List.getElem?_toArray, List.getElem?_cons_succ, List.getElem?_cons_zero]; rfl)
                case hQ314 => exact fun _ _ _ h => h
                case hy314 => (refine Or.inl ⟨by rfl, ?_⟩; intro w hSw; (try dsimp only at hSw); go_simp; try with_reducible rfl)
                try simp only [Act.put, List.setIfInBounds_toArray, List.set_cons_zero, List.set_cons_succ]
                refine wpAnyH_take (i := 15) (oi := ?oi315) (v := ?v315) ?hi315 (by kernel_rfl) (by kernel_rfl) (by kernel_rfl) ?hQ315 ?hy315 (by assumption) ?_
                case hi315 => (simp only [List.getElem?_toArray, List.getElem?_cons_succ, List.getElem?_cons_zero]; rfl)
                case hQ315 => exact fun _ _ _ h => h
                case hy315 => (refine Or.inl ⟨by rfl, ?_⟩; intro w hSw; (try dsimp only at hSw); go_simp; try with_reducible rfl)
                try simp only [Act.put, List.setIfInBounds_toArray, List.set_cons_zero, List.set_cons_succ]
                refine wpAnyH_take (i := 16) (oi := ?oi316) (v := undef) ?hi316 (by kernel_rfl) (by kernel_rfl) (by kernel_rfl) ?hQ316 ?hy316 (by assumption) ?_
                case hi316 => (simp only [List.getElem?_toArray, List.getElem?_cons_succ, List.getElem?_cons_zero]; rfl)
                case hQ316 => exact fun _ _ _ h => h
                case hy316 => exact Or.inr ⟨by rfl, rfl⟩
                try simp only [Act.put, List.setIfInBounds_toArray, List.set_cons_zero, List.set_cons_succ]
                refine wpAnyH_take (i := 17) (oi := ?oi317) (v := undef) ?hi317 (by kernel_rfl) (by kernel_rfl) (by kernel_rfl) ?hQ317 ?hy317 (by assumption) ?_
                case hi317 => (simp only [List.getElem?_toArray, List.getElem?_cons_succ, List.getElem?_cons_zero]; rfl)
                case hQ317 => exact fun _ _ _ h => h
                case hy317 => exact Or.inr ⟨by rfl, rfl⟩
                try simp only [Act.put, List.setIfInBounds_toArray, List.set_cons_zero, List.set_cons_succ]
                refine wpAnyH_take (i := 18) (oi := ?oi318) (v := undef) ?hi318 (by kernel_rfl) (by kernel_rfl) (by kernel_rfl) ?hQ318 ?hy318 (by assumption) ?_
                case hi318 => (simp only [List.getElem?_toArray, List.getElem?_cons_succ, List.getElem?_cons_zero]; rfl)
                case hQ318 => exact fun _ _ _ h => h
                case hy318 => exact Or.inr ⟨by rfl, rfl⟩
                try simp only [Act.put, List.setIfInBounds_toArray, List.set_cons_zero, List.set_cons_succ]
                refine wpAnyH_take (i := 19) (oi := ?oi319) (v := undef) ?hi319 (by kernel_rfl) (by kernel_rfl) (by kernel_rfl) ?hQ319 ?hy319 (by assumption) ?_
                case hi319 => (simp only [List.getElem?_toArray, List.getElem?_cons_succ, List.getElem?_cons_zero]; rfl)
                case hQ319 => exact fun _ _ _ h => h
                case hy319 => exact Or.inr ⟨by rfl, rfl⟩
                try simp only [Act.put, List.setIfInBounds_toArray, List.set_cons_zero, List.set_cons_succ]
                refine wpAnyH_take (i := 20) (oi := ?oi320) (v := undef) ?hi320 (by kernel_rfl) (by kernel_rfl) (by kernel_rfl) ?hQ320 ?hy320 (by assumption) ?_
                case hi320 => (simp only [List.getElem?_toArray, List.getElem?_cons_succ, List.getElem?_cons_zero]; rfl)
                case hQ320 => exact fun _ _ _ h => h
                case hy320 => exact Or.inr ⟨by rfl, rfl⟩
                try simp only [Act.put, List.setIfInBounds_toArray, List.set_cons_zero, List.set_cons_succ]
                refine wpAnyH_take (i := 21) (oi := ?oi321) (v := undef) ?hi321 (by kernel_rfl) (by kernel_rfl) (by kernel_rfl) ?hQ321 ?hy321 (by assumption) ?_
                case hi321 => (simp only [List.getElem?_toArray, List.getElem?_cons_succ, List.getElem?_cons_zero]; rfl)
                case hQ321 => exact fun _ _ _ h => h
                case hy321 => exact Or.inr ⟨by rfl, rfl⟩
                try simp only [Act.put, List.setIfInBounds_toArray, List.set_cons_zero, List.set_cons_succ]
                refine wpAnyH_take (i := 22) (oi := ?oi322) (v := ?v322) ?hi322 (by kernel_rfl) (by kernel_rfl) (by kernel_rfl) ?hQ322 ?hy322 (by assumption) ?_
                case hi322 => (simp only [List.getElem?_toArray, List.getElem?_cons_succ, List.getElem?_cons_zero]; rfl)
                case hQ322 => exact fun _ _ _ h => h
                case hy322 => (refine Or.inl ⟨by rfl, ?_⟩; intro w hSw; (try dsimp only at hSw); go_simp; try with_reducible rfl)
                try simp only [Act.put, List.setIfInBounds_toArray, List.set_cons_zero, List.set_cons_succ]
                refine wpAnyH_take (i := 23) (oi := ?oi323) (v := ?v323) ?hi323 (by kernel_rfl) (by kernel_rfl) (by kernel_rfl) ?hQ323 ?hy323 (by assumption) ?_
                case hi323 => (simp only [List.getElem?_toArray, List.getElem?_cons_succ, List.getElem?_cons_zero]; rfl)
                case hQ323 => exact fun _ _ _ h => h
                case hy323 => (refine Or.inl ⟨by rfl, ?_⟩; intro w hSw; (try dsimp only at hSw); go_simp; try with_reducible rfl)
                try simp only [Act.put, List.setIfInBounds_toArray, List.set_cons_zero, List.set_cons_succ]
                refine wpAnyH_take (i := 24) (oi := ?oi324) (v := ?v324) ?hi324 (by kernel_rfl) (by kernel_rfl) (by kernel_rfl) ?hQ324 ?hy324 (by assumption) ?_
                case hi324 => (simp only [List.getElem?_toArray, List.getElem?_cons_succ, List.getElem?_cons_zero]; rfl)
                case hQ324 => exact fun _ _ _ h => h
                case hy324 => (refine Or.inl ⟨by rfl, ?_⟩; intro w hSw; (try dsimp only at hSw); go_simp; try with_reducible rfl)
                try simp only [Act.put, List.setIfInBounds_toArray, List.set_cons_zero, List.set_cons_succ]
                refine wpAnyH_take (i := 25) (oi := ?oi325) (v := ?v325) ?hi325 (by kernel_rfl) (by kernel_rfl) (by kernel_rfl) ?hQ325 ?hy325 (by assumption) ?_
                case hi325 => (simp only [List.getElem?_toArray, List.getElem?_cons_succ, List.getElem?_cons_zero]; rfl)
                case hQ325 => exact fun _ _ _ h => h
                case hy325 => (refine Or.inl ⟨by rfl, ?_⟩; intro w hSw; (try dsimp only at hSw); go_simp; try with_reducible rfl)
                try simp only [Act.put, List.setIfInBounds_toArray, List.set_cons_zero, List.set_cons_succ]
                refine wpAnyH_take (i := 26) (oi := ?oi326) (v := ?v326) ?hi326 (by kernel_rfl) (by kernel_rfl) (by kernel_rfl) ?hQ326 ?hy326 (by assumption) ?_
                case hi326 => (simp only [List.getElem?_toArray, List.getElem?_cons_succ, List.getElem?_cons_zero]; rfl)
                case hQ326 => exact fun _ _ _ h => h
                case hy326 => (refine Or.inl ⟨by rfl, ?_⟩; intro w hSw; (try dsimp only at hSw); go_simp; try with_reducible rfl)
                try simp only [Act.put, List.setIfInBounds_toArray, List.set_cons_zero, List.set_cons_succ]
                refine wpAnyH_take (i := 27) (oi := ?oi327) (v := ?v327) ?hi327 (by kernel_rfl) (by kernel_rfl) (by kernel_rfl) ?hQ327 ?hy327 (by assumption) ?_
                case hi327 => (simp only [List.getElem?_toArray, List.getElem?_cons_succ, List.getElem?_cons_zero]; rfl)
                case hQ327 => exact fun _ _ _ h => h
                case hy327 => (refine Or.inl ⟨by rfl, ?_⟩; intro w hSw; (try dsimp only at hSw); go_simp; try with_reducible rfl)
                try simp only [Act.put, List.setIfInBounds_toArray, List.set_cons_zero, List.set_cons_succ]
                refine wpAnyH_take (i := 28) (oi := ?oi328) (v := ?v328) ?hi328 (by kernel_rfl) (by kernel_rfl) (by kernel_rfl) ?hQ328 ?hy328 (by assumption) ?_
                case hi328 => (simp only [List.getElem?_toArray, List.getElem?_cons_succ, List.getElem?_cons_zero]; rfl)
                case hQ328 => exact fun _ _ _ h => h
                case hy328 => (refine Or.inl ⟨by rfl, ?_⟩; intro w hSw; (try dsimp only at hSw); go_simp; try with_reducible rfl)
                try simp only [Act.put, List.setIfInBounds_toArray, List.set_cons_zero, List.set_cons_succ]
                refine wpAnyH_take (i := 29) (oi := ?oi329) (v := ?v329) ?hi329 (by kernel_rfl) (by kernel_rfl) (by kernel_rfl) ?hQ329 ?hy329 (by assumption) ?_
                case hi329 => (simp only [List.getElem?_toArray, List.getElem?_cons_succ, List.getElem?_cons_zero]; rfl)
                case hQ329 => exact fun _ _ _ h => h
                case hy329 => (refine Or.inl ⟨by rfl, ?_⟩; intro w hSw; (try dsimp only at hSw); go_simp; try with_reducible rfl)
                try simp only [Act.put, List.setIfInBounds_toArray, List.set_cons_zero, List.set_cons_succ]
                refine wpAnyH_take (i := 30) (oi := ?oi330) (v := ?v330) ?hi330 (by kernel_rfl) (by kernel_rfl) (by kernel_rfl) ?hQ330 ?hy330 (by assumption) ?_
                case hi330 => (simp only [List.getElem?_toArray, List.getElem?_cons_succ, List.getElem?_cons_zero]; rfl)
                case hQ330 => exact fun _ _ _ h => h
                case hy330 => (refine Or.inl ⟨by rfl, ?_⟩; intro w hSw; (try dsimp only at hSw); go_simp; try with_reducible rfl)
                try simp only [Act.put, List.setIfInBounds_toArray, List.set_cons_zero, List.set_cons_succ]
                refine wpAnyH_take (i := 31) (oi := ?oi331) (v := ?v331) ?hi331 (by kernel_rfl) (by kernel_rfl) (by kernel_rfl) ?hQ331 ?hy331 (by assumption) ?_
                case hi331 => (simp only [List.getElem?_toArray, List.getElem?_cons_succ, List.getElem?_cons_zero]; rfl)
                case hQ331 => exact fun _ _ _ h => h
                case hy331 => (refine Or.inl ⟨by rfl, ?_⟩; intro w hSw; (try dsimp only at hSw); go_simp; try with_reducible rfl)
                try simp only [Act.put, List.setIfInBounds_toArray, List.set_cons_zero, List.set_cons_succ]
                refine wpAnyH_take (i := 32) (oi := ?oi332) (v := ?v332) ?hi332 (by kernel_rfl) (by kernel_rfl) (by kernel_rfl) ?hQ332 ?hy332 (by assumption) ?_
                case hi332 => (simp only [List.getElem?_toArray, List.getElem?_cons_succ, List.getElem?_cons_zero]; rfl)
                case hQ332 => exact fun _ _ _ h => h
                case hy332 => (refine Or.inl ⟨by rfl, ?_⟩; intro w hSw; (try dsimp only at hSw); go_simp; try with_reducible rfl)
                try simp only [Act.put, List.setIfInBounds_toArray, List.set_cons_zero, List.set_cons_succ]
                refine wpAnyH_take (i := 33) (oi := ?oi333) (v := ?v333) ?hi333 (by kernel_rfl) (by kernel_rfl) (by kernel_rfl) ?hQ333 ?hy333 (by assumption) ?_
                case hi333 => (simp only [List.getElem?_toArray, List.getElem?_cons_succ, List.getElem?_cons_zero]; rfl)
                case hQ333 => exact fun _ _ _ h => h
                case hy333 => (refine Or.inl ⟨by rfl, ?_⟩; intro w hSw; (try dsimp only at hSw); go_simp; try with_reducible rfl)
                try simp only [Act.put, List.setIfInBounds_toArray, List.set_cons_zero, List.set_cons_succ]
                refine wpAnyH_take (i := 34) (oi := ?oi334) (v := ?v334) ?hi334 (by kernel_rfl) (by kernel_rfl) (by kernel_rfl) ?hQ334 ?hy334 (by assumption) ?_
                case hi334 => (simp only [List.getElem?_toArray, List.getElem?_cons_succ, List.getElem?_cons_zero]; rfl)
                case hQ334 => exact fun _ _ _ h => h
                case hy334 => (refine Or.inl ⟨by rfl, ?_⟩; intro w hSw; (try dsimp only at hSw); go_simp; try with_reducible rfl)
                try simp only [Act.put, List.setIfInBounds_toArray, List.set_cons_zero, List.set_cons_succ]
                refine wpAnyH_take (i := 35) (oi := ?oi335) (v := ?v335) ?hi335 (by kernel_rfl) (by kernel_rfl) (by kernel_rfl) ?hQ335 ?hy335 (by assumption) ?_
                case hi335 => (simp only [List.getElem?_toArray, List.getElem?_cons_succ, List.getElem?_cons_zero]; rfl)
                case hQ335 => exact fun _ _ _ h => h
                case hy335 => (refine Or.inl ⟨by rfl, ?_⟩; intro w hSw; (try dsimp only at hSw); go_simp; try with_reducible rfl)
                try simp only [Act.put, List.setIfInBounds_toArray, List.set_cons_zero, List.set_cons_succ]
                refine wpAnyH_take (i := 36) (oi := ?oi336) (v := ?v336) ?hi336 (by kernel_rfl) (by kernel_rfl) (by kernel_rfl) ?hQ336 ?hy336 (by assumption) ?_
                case hi336 => (simp only [List.getElem?_toArray, List.getElem?_cons_succ, List.getElem?_cons_zero]; rfl)
                case hQ336 => exact fun _ _ _ h => h
                case hy336 => (refine Or.inl ⟨by rfl, ?_⟩; intro w hSw; (try dsimp only at hSw); go_simp; try with_reducible rfl)
                try simp only [Act.put, List.setIfInBounds_toArray, List.set_cons_zero, List.set_cons_succ]
                refine wpAnyH_take (i := 37) (oi := ?oi337) (v := ?v337) ?hi337 (by kernel_rfl) (by kernel_rfl) (by kernel_rfl) ?hQ337 ?hy337 (by assumption) ?_
                case hi337 => (simp only [List.getElem?_toArray, List.getElem?_cons_succ, List.getElem?_cons_zero]; rfl)
                case hQ337 => exact fun _ _ _ h => h
                case hy337 => (refine Or.inl ⟨by rfl, ?_⟩; intro w hSw; (try dsimp only at hSw); go_simp; try with_reducible rfl)
                try simp only [Act.put, List.setIfInBounds_toArray, List.set_cons_zero, List.set_cons_succ]
                refine wpAnyH_take (i := 38) (oi := ?oi338) (v := ?v338) ?hi338 (by kernel_rfl) (by kernel_rfl) (by kernel_rfl) ?hQ338 ?hy338 (by assumption) ?_
                case hi338 => (simp only [List.getElem?_toArray, List.getElem?_cons_succ, List.getElem?_cons_zero]; rfl)
                case hQ338 => exact fun _ _ _ h => h
                case hy338 => (refine Or.inl ⟨by rfl, ?_⟩; intro w hSw; (try dsimp only at hSw); go_simp; try with_reducible rfl)
                try simp only [Act.put, List.setIfInBounds_toArray, List.set_cons_zero, List.set_cons_succ]
                refine wpAnyH_take (i := 39) (oi := ?oi339) (v := ?v339) ?hi339 (by kernel_rfl) (by kernel_rfl) (by kernel_rfl) ?hQ339 ?hy339 (by assumption) ?_
                case hi339 => (simp only [List.getElem?_toArray, List.getElem?_cons_succ, List.getElem?_cons_zero]; rfl)
                case hQ339 => exact fun _ _ _ h => h
                case hy339 => (refine Or.inl ⟨by rfl, ?_⟩; intro w hSw; (try dsimp only at hSw); go_simp; try with_reducible rfl)
                try simp only [Act.put, List.setIfInBounds_toArray, List.set_cons_zero, List.set_cons_succ]
                refine wpAnyH_take (i := 40) (oi := ?oi340) (v := ?v340) ?hi340 (by kernel_rfl) (by kernel_rfl) (by kernel_rfl) ?hQ340 ?hy340 (by assumption) ?_
                case hi340 => (simp only [List.getElem?_toArray, List.getElem?_cons_succ, List.getElem?_cons_zero]; rfl)
                case hQ340 => exact fun _ _ _ h => h
                case hy340 => (refine Or.inl ⟨by rfl, ?_⟩; intro w hSw; (try dsimp only at hSw); go_simp; try with_reducible rfl)
                try simp only [Act.put, List.setIfInBounds_toArray, List.set_cons_zero, List.set_cons_succ]
                refine wpAnyH_take (i := 42) (oi := ?oi342) (v := ?v342) ?hi342 (by kernel_rfl) (by kernel_rfl) (by kernel_rfl) ?hQ342 ?hy342 (by assumption) ?_
                case hi342 => (simp only [List.getElem?_toArray, List.getElem?_cons_succ, List.getElem?_cons_zero]; rfl)
                case hQ342 => exact fun _ _ _ h => h
                case hy342 => (refine Or.inl ⟨by rfl, ?_⟩; intro w hSw; (try dsimp only at hSw); go_simp; try with_reducible rfl)
                try simp only [Act.put, List.setIfInBounds_toArray, List.set_cons_zero, List.set_cons_succ]
                refine wpAnyH_take (i := 43) (oi := ?oi343) (v := ?v343) ?hi343 (by kernel_rfl) (by kernel_rfl) (by kernel_rfl) ?hQ343 ?hy343 (by assumption) ?_
                case hi343 => (simp only [List.getElem?_toArray, List.getElem?_cons_succ, List.getElem?_cons_zero]; rfl)
                case hQ343 => exact fun _ _ _ h => h
                case hy343 => (refine Or.inl ⟨by rfl, ?_⟩; intro w hSw; (try dsimp only at hSw); go_simp; try with_reducible rfl)
                try simp only [Act.put, List.setIfInBounds_toArray, List.set_cons_zero, List.set_cons_succ]
                refine wpAnyH_take (i := 44) (oi := ?oi344) (v := ?v344) ?hi344 (by kernel_rfl) (by kernel_rfl) (by kernel_rfl) ?hQ344 ?hy344 (by assumption) ?_
                case hi344 => (simp only [List.getElem?_toArray, List.getElem?_cons_succ, List.getElem?_cons_zero]; rfl)
                case hQ344 => exact fun _ _ _ h => h
                case hy344 => (refine Or.inl ⟨by rfl, ?_⟩; intro w hSw; (try dsimp only at hSw); go_simp; try with_reducible rfl)
                try simp only [Act.put, List.setIfInBounds_toArray, List.set_cons_zero, List.set_cons_succ]
                refine wpAnyH_take (i := 45) (oi := ?oi345) (v := ?v345) ?hi345 (by kernel_rfl) (by kernel_rfl) (by kernel_rfl) ?hQ345 ?hy345 (by assumption) ?_
                case hi345 => (simp only [List.getElem?_toArray, List.getElem?_cons_succ, List.getElem?_cons_zero]; rfl)
                case hQ345 => exact fun _ _ _ h => h
                case hy345 => (refine Or.inl ⟨by rfl, ?_⟩; intro w hSw; (try dsimp only at hSw); go_simp; try with_reducible rfl)
                try simp only [Act.put, List.setIfInBounds_toArray, List.set_cons_zero, List.set_cons_succ]
                refine wpAnyH_take (i := 46) (oi := ?oi346) (v := ?v346) ?hi346 (by kernel_rfl) (by kernel_rfl) (by kernel_rfl) ?hQ346 ?hy346 (by assumption) ?_
                case hi346 => (simp only [List.getElem?_toArray, List.getElem?_cons_succ, List.getElem?_cons_zero]; rfl)
                case hQ346 => exact fun _ _ _ h => h
                case hy346 => (refine Or.inl ⟨by rfl, ?_⟩; intro w hSw; (try dsimp only at hSw); go_simp; try with_reducible rfl)
                try simp only [Act.put, List.setIfInBounds_toArray, List.set_cons_zero, List.set_cons_succ]
                refine wpAnyH_take (i := 47) (oi := ?oi347) (v := ?v347) ?hi347 (by kernel_rfl) (by kernel_rfl) (by kernel_rfl) ?hQ347 ?hy347 (by assumption) ?_
                case hi347 => (simp only [List.getElem?_toArray, List.getElem?_cons_succ, List.getElem?_cons_zero]; rfl)
                case hQ347 => exact fun _ _ _ h => h
                case hy347 => (refine Or.inl ⟨by rfl, ?_⟩; intro w hSw; (try dsimp only at hSw); go_simp; try with_reducible rfl)
                try simp only [Act.put, List.setIfInBounds_toArray, List.set_cons_zero, List.set_cons_succ]
                refine wpAnyH_take (i := 48) (oi := ?oi348) (v := ?v348) ?hi348 (by kernel_rfl) (by kernel_rfl) (by kernel_rfl) ?hQ348 ?hy348 (by assumption) ?_
                case hi348 => (simp only [List.getElem?_toArray, List.getElem?_cons_succ, List.getElem?_cons_zero]; rfl)
                case hQ348 => exact fun _ _ _ h => h
                case hy348 => (refine Or.inl ⟨by rfl, ?_⟩; intro w hSw; (try dsimp only at hSw); go_simp; try with_reducible rfl)
                try simp only [Act.put, List.setIfInBounds_toArray, List.set_cons_zero, List.set_cons_succ]
                refine wpAnyH_take (i := 49) (oi := ?oi349) (v := ?v349) ?hi349 (by kernel_rfl) (by kernel_rfl) (by kernel_rfl) ?hQ349 ?hy349 (by assumption) ?_
                case hi349 => (simp only [List.getElem?_toArray, List.getElem?_cons_succ, List.getElem?_cons_zero]; rfl)
                case hQ349 => exact fun _ _ _ h => h
                case hy349 => (refine Or.inl ⟨by rfl, ?_⟩; intro w hSw; (try dsimp only at hSw); go_simp; try with_reducible rfl)
                try simp only [Act.put, List.setIfInBounds_toArray, List.set_cons_zero, List.set_cons_succ]
                refine wpAnyH_ready (rs := [41]) (by kernel_rfl) (by simp) ?_
                refine AllReadyH.cons (o := ?oi341) ?ho341 (fun K hK => ?_) AllReadyH.nil
                case ho341 => (simp only [List.getElem?_toArray, List.getElem?_cons_succ, List.getElem?_cons_zero]; rfl)
                go_simp
                go_at_call 25; (with_reducible refine (cuts_any T ttl f2 tt lev now _ (HT7.out.same (sB _ (by assumption)))).mono ?_); rintro e wC ⟨rfl, hbC⟩; have hkC := sK _ _ hbC (by assumption)
                refine hK.out _ _ ?_ (fun hHeld => ?_)
                · (try dsimp only); (first | assumption | go_keep | (refine ⟨?_, ?_, ?_, ?_, ?_, ?_, ?_, ?_⟩ <;> assumption))
                clear hK K
                try simp only [Act.put, List.setIfInBounds_toArray, List.set_cons_zero, List.set_cons_succ]
                refine wpAnyH_ready (rs := [50]) (by kernel_rfl) (by simp) ?_
                refine AllReadyH.cons (o := ?oi350) ?ho350 (fun K hK => ?_) AllReadyH.nil
                case ho350 => (simp only [List.getElem?_toArray, List.getElem?_cons_succ, List.getElem?_cons_zero]; rfl)
                go_simp
                go_at_call 26; (with_reducible refine (rcuts_any (.slice none 0 0) f2 ttl tt lev now _ (HK7.out.same (sB _ (by assumption))).at).mono ?_); rintro e wD ⟨rfl, hbD⟩; have hkD := sK _ _ hbD (by assumption)
                refine hK.out _ _ ?_ (fun hHeld => ?_)
                · (try dsimp only); (first | assumption | go_keep | (refine ⟨?_, ?_, ?_, ?_, ?_, ?_, ?_, ?_⟩ <;> assumption))
                clear hK K
                try simp only [Act.put, List.setIfInBounds_toArray, List.set_cons_zero, List.set_cons_succ]
                refine wpAnyH_take (i := 51) (oi := ?oi351) (v := ?v351) ?hi351 (by kernel_rfl) (by kernel_rfl) (by kernel_rfl) ?hQ351 ?hy351 (by assumption) ?_
                case hi351 => (simp only [List.getElem?_toArray, List.getElem?_cons_succ, List.getElem?_cons_zero]; rfl)
                case hQ351 => exact fun _ _ _ h => h
                case hy351 => (refine Or.inl ⟨by rfl, ?_⟩; intro w hSw; (try dsimp only at hSw); go_simp; try with_reducible rfl)
                try simp only [Act.put, List.setIfInBounds_toArray, List.set_cons_zero, List.set_cons_succ]
                refine wpAnyH_take (i := 52) (oi := ?oi352) (v := ?v352) ?hi352 (by kernel_rfl) (by kernel_rfl) (by kernel_rfl) ?hQ352 ?hy352 (by assumption) ?_
                case hi352 => (simp only [List.getElem?_toArray, List.getElem?_cons_succ, List.getElem?_cons_zero]; rfl)
                case hQ352 => exact fun _ _ _ h => h
                case hy352 => (refine Or.inl ⟨by rfl, ?_⟩; intro w hSw; (try dsimp only at hSw); go_simp; try with_reducible rfl)
                try simp only [Act.put, List.setIfInBounds_toArray, List.set_cons_zero, List.set_cons_succ]
                refine wpAnyH_done (by kernel_rfl) ?_ _
                have hfin := sB _ (by assumption)
                have HFin := Lib.hid hfin
                go_wp2
                exact ⟨⟨f2, k + 1, _, by omega, by go_num, rfl, TableAt.same HT7.out HFin.out, HK7.out.same HFin.out, HB7.out.trans (HFin.out.mono HB7.out.size)⟩, by simp only [intOf]; omega⟩
              · go_wp2_with fail
                refine (rallK_any (.slice none 0 0) f2 ttl now _ HK4.out.at).mono ?_
                rintro e w5 ⟨v5, rfl, ⟨a5, c5, rfl, m1, m2, hA5⟩, hb5⟩
                have hX5 := IsObj.below HX4.out hb5 HX4.out.lt
                have HT5 := Lib.hid (TableAt.same HT4.out hb5)
                have HK5 := Lib.hid (HK4.out.same hb5)
                have HB5 := Lib.hid (HB4.out.trans (hb5.mono HB4.out.size))
                have HX5 := Lib.hid hX5
                have HA5 := Lib.hid hA5
                have x1 := IsObj.cell hX5 1
                have x4 := IsObj.cell hX5 4
                have x5 := IsObj.cell hX5 5
                simp only [List.getElem?_cons_succ, List.getElem?_cons_zero] at x1 x4 x5
                clear hX5 hA5 hb5 HT4 HK4 HX4 HB4
                have G := fun w h => get_any T ttl f2 tt now w h
                rw [hkn] at G
                unfold kv Option.isSome at G
                have HG := Lib.hid G
                clear G
                go_wp2_with fail
                refine (HG.out _ HT5.out).mono ?_
                rintro e w6 ⟨rfl, hb6⟩
                obtain ⟨W7, hW7⟩ : ∃ W7, W7 = w6.alloc (.cells [.int .i64 tt, .int .i64 e0.th, .int .i64 e0.ep, .int .i64 e0.tm].toArray 36) := ⟨_, rfl⟩
                have hb67 : Below w6.heap.size w6 W7 := by rw [hW7]; exact (Below.refl _ _).alloc (Nat.le_refl _) _
                have hY7 : IsObj W7 w6.heap.size 36 [.int .i64 tt, .int .i64 e0.th, .int .i64 e0.ep, .int .i64 e0.tm] := by rw [hW7]; exact IsObj.new w6 _ _
                have hX6 := IsObj.below HX5.out hb6 HX5.out.lt
                have r1 := IsObj.cell hX6 1
                have r4 := IsObj.cell hX6 4
                have r5 := IsObj.cell hX6 5
                have rl := IsObj.lt hX6
                simp only [List.getElem?_cons_succ, List.getElem?_cons_zero] at r1 r4 r5
                clear hX6
                have hb57 : Below w5.heap.size w5 W7 := hb6.trans (hb67.mono hb6.size)
                have HX7 := IsObj.below HX5.out hb57 HX5.out.lt
                have HT7 := Lib.hid (TableAt.same HT5.out hb57)
                have HK7 := Lib.hid (HK5.out.same hb57)
                have HB7 := Lib.hid (HB5.out.trans (hb57.mono HB5.out.size))
                have hA7 := HA5.out.same knCells_len hb57
                have HA7 := Lib.hid hA7
                have HFi := Lib.hid (rfind_any a5 c5 (knL (knNow f2 ttl now)) tt W7 (Nat.le_trans hlen5 (by decide)) hA7)
                rw [hfk] at HFi
                have y1 := IsObj.cell HX7 1
                have y4 := IsObj.cell HX7 4
                have y5 := IsObj.cell HX7 5
                have z0 := IsObj.cell hY7 0
                have z1 := IsObj.cell hY7 1
                have z2 := IsObj.cell hY7 2
                have z3 := IsObj.cell hY7 3
                simp only [List.getElem?_cons_succ, List.getElem?_cons_zero] at y1 y4 y5 z0 z1 z2 z3
                have hyl := IsObj.lt hY7
                have hxl := IsObj.lt HX7
                obtain ⟨b5, o5, hab5, hc5⟩ : ∃ b5 o5, a5 = some ⟨b5, o5, none⟩ ∧ ∀ i, i < (knL (knNow f2 ttl now)).length → ∀ q, q < 4 → W7.cell? ⟨b5, o5 + i * 4 + q, none⟩ = (knCells (nth (knL (knNow f2 ttl now)) i))[q]? := by
                  rcases hA7 with h | ⟨b5, o5, h, hc⟩
                  · have h' := congrArg List.length h
                    simp only [List.length_nil] at h'
                    have h2 : (knL (knNow f2 ttl now)).length = 0 := h'
                    rw [h2] at hj
                    exact absurd hj (Nat.not_lt_zero _)
                  · exact ⟨b5, o5, h, hc⟩
                subst hab5
                obtain ⟨k0, k1, k2, k3⟩ := kn_cells hc5 j hj
                rw [hn] at k0 k1 k2 k3
                have kl := cell_lt k0
                simp only at k0 k1 k2 k3 kl
                have n1 : (0 : Int) ≤ (j : Int) := by omega
                have n2 : (j : Int) < ((knL (knNow f2 ttl now)).length : Int) := Int.ofNat_lt.2 hj
                have n3 : (j : Int) + 1 ≤ ((knL (knNow f2 ttl now)).length : Int) := by omega
                clear hc5 hn
                clear hb6 hb67 hb57 hY7 HX7 hA7 HT5 HK5 HX5 HB5 HA5 x1 x4 x5
                go_wp2_with fail
                rw [← hW7]
                clear r1 r4 r5 rl
                refine HFi.out.mono ?_
                rintro e w' ⟨rfl, rfl⟩
                obtain ⟨Y, hY⟩ : ∃ Y, Y = w6.heap.size := ⟨_, rfl⟩
                rw [← hY] at z0 z1 z2 z3 hyl ⊢
                clear hW7 hY HFi
                have hb77 : Below W7.heap.size W7 W7 := Below.refl _ _
                have sB : ∀ W, (W.cell? ⟨A, 1, none⟩ = some (.int .i64 tt) ∧ W.cell? ⟨A, 4, none⟩ = some (.int .i64 now) ∧ W.cell? ⟨A, 5, none⟩ = some (.int .i64 lev) ∧ W.cell? ⟨Y, 0, none⟩ = some (.int .i64 tt) ∧ W.cell? ⟨Y, 1, none⟩ = some (.int .i64 e0.th) ∧ W.cell? ⟨Y, 2, none⟩ = some (.int .i64 e0.ep) ∧ W.cell? ⟨Y, 3, none⟩ = some (.int .i64 e0.tm) ∧ W.cell? ⟨b5, o5 + j * 4, none⟩ = some (.int .i64 tt) ∧ W.cell? ⟨b5, o5 + j * 4 + 1, none⟩ = some (.int .i64 e0.th) ∧ W.cell? ⟨b5, o5 + j * 4 + 2, none⟩ = some (.int .i64 e0.ep) ∧ W.cell? ⟨b5, o5 + j * 4 + 3, none⟩ = some (.int .i64 e0.tm) ∧ Below W7.heap.size W7 W) → Below W7.heap.size W7 W := fun W h => h.2.2.2.2.2.2.2.2.2.2.2
                have sK : ∀ W W1, Below W.heap.size W W1 → (W.cell? ⟨A, 1, none⟩ = some (.int .i64 tt) ∧ W.cell? ⟨A, 4, none⟩ = some (.int .i64 now) ∧ W.cell? ⟨A, 5, none⟩ = some (.int .i64 lev) ∧ W.cell? ⟨Y, 0, none⟩ = some (.int .i64 tt) ∧ W.cell? ⟨Y, 1, none⟩ = some (.int .i64 e0.th) ∧ W.cell? ⟨Y, 2, none⟩ = some (.int .i64 e0.ep) ∧ W.cell? ⟨Y, 3, none⟩ = some (.int .i64 e0.tm) ∧ W.cell? ⟨b5, o5 + j * 4, none⟩ = some (.int .i64 tt) ∧ W.cell? ⟨b5, o5 + j * 4 + 1, none⟩ = some (.int .i64 e0.th) ∧ W.cell? ⟨b5, o5 + j * 4 + 2, none⟩ = some (.int .i64 e0.ep) ∧ W.cell? ⟨b5, o5 + j * 4 + 3, none⟩ = some (.int .i64 e0.tm) ∧ Below W7.heap.size W7 W) → (W1.cell? ⟨A, 1, none⟩ = some (.int .i64 tt) ∧ W1.cell? ⟨A, 4, none⟩ = some (.int .i64 now) ∧ W1.cell? ⟨A, 5, none⟩ = some (.int .i64 lev) ∧ W1.cell? ⟨Y, 0, none⟩ = some (.int .i64 tt) ∧ W1.cell? ⟨Y, 1, none⟩ = some (.int .i64 e0.th) ∧ W1.cell? ⟨Y, 2, none⟩ = some (.int .i64 e0.ep) ∧ W1.cell? ⟨Y, 3, none⟩ = some (.int .i64 e0.tm) ∧ W1.cell? ⟨b5, o5 + j * 4, none⟩ = some (.int .i64 tt) ∧ W1.cell? ⟨b5, o5 + j * 4 + 1, none⟩ = some (.int .i64 e0.th) ∧ W1.cell? ⟨b5, o5 + j * 4 + 2, none⟩ = some (.int .i64 e0.ep) ∧ W1.cell? ⟨b5, o5 + j * 4 + 3, none⟩ = some (.int .i64 e0.tm) ∧ Below W7.heap.size W7 W1) := fun W W1 hb h => ⟨cell_keep hb (h.1), cell_keep hb (h.2.1), cell_keep hb (h.2.2.1), cell_keep hb (h.2.2.2.1), cell_keep hb (h.2.2.2.2.1), cell_keep hb (h.2.2.2.2.2.1), cell_keep hb (h.2.2.2.2.2.2.1), cell_keep hb (h.2.2.2.2.2.2.2.1), cell_keep hb (h.2.2.2.2.2.2.2.2.1), cell_keep hb (h.2.2.2.2.2.2.2.2.2.1), cell_keep hb (h.2.2.2.2.2.2.2.2.2.2.1), (h.2.2.2.2.2.2.2.2.2.2.2).trans (hb.mono (h.2.2.2.2.2.2.2.2.2.2.2).size)⟩
                go_wp2_with fail
                have hb78 : Below W7.heap.size W7 W7.drew := (Below.refl _ _).drew
                refine wp_region_held_drew (S := fun w' => w'.cell? ⟨A, 1, none⟩ = some (.int .i64 tt) ∧ w'.cell? ⟨A, 4, none⟩ = some (.int .i64 now) ∧ w'.cell? ⟨A, 5, none⟩ = some (.int .i64 lev) ∧ w'.cell? ⟨Y, 0, none⟩ = some (.int .i64 tt) ∧ w'.cell? ⟨Y, 1, none⟩ = some (.int .i64 e0.th) ∧ w'.cell? ⟨Y, 2, none⟩ = some (.int .i64 e0.ep) ∧ w'.cell? ⟨Y, 3, none⟩ = some (.int .i64 e0.tm) ∧ w'.cell? ⟨b5, o5 + j * 4, none⟩ = some (.int .i64 tt) ∧ w'.cell? ⟨b5, o5 + j * 4 + 1, none⟩ = some (.int .i64 e0.th) ∧ w'.cell? ⟨b5, o5 + j * 4 + 2, none⟩ = some (.int .i64 e0.ep) ∧ w'.cell? ⟨b5, o5 + j * 4 + 3, none⟩ = some (.int .i64 e0.tm) ∧ Below W7.heap.size W7 w') (by kernel_rfl) ?_ (fun hHeld => ?_)
                · (try dsimp only); (first | assumption | go_keep | (refine ⟨?_, ?_, ?_, ?_, ?_, ?_, ?_, ?_, ?_, ?_, ?_, ?_⟩ <;> assumption))
                refine wpAnyH_take (i := 0) (oi := ?oi400) (v := ?v400) ?hi400 (by kernel_rfl) (by kernel_rfl) (by kernel_rfl) ?hQ400 ?hy400 (by assumption) ?_
                case hi400 => (simp only [List.getElem?_toArray, List.getElem?_cons_succ, List.getElem?_cons_zero]; rfl)
                case hQ400 => exact fun _ _ _ h => h
                case hy400 => (refine Or.inl ⟨by rfl, ?_⟩; intro w hSw; (try dsimp only at hSw); go_simp; try with_reducible rfl)
                try simp only [Act.put, List.setIfInBounds_toArray, List.set_cons_zero, List.set_cons_succ]
                refine wpAnyH_take (i := 1) (oi := ?oi401) (v := ?v401) ?hi401 (by kernel_rfl) (by kernel_rfl) (by kernel_rfl) ?hQ401 ?hy401 (by assumption) ?_
                case hi401 => (simp only [List.getElem?_toArray, List.getElem?_cons_succ, List.getElem?_cons_zero]; rfl)
                case hQ401 => exact fun _ _ _ h => h
                case hy401 => (refine Or.inl ⟨by rfl, ?_⟩; intro w hSw; (try dsimp only at hSw); go_simp; try with_reducible rfl)
                try simp only [Act.put, List.setIfInBounds_toArray, List.set_cons_zero, List.set_cons_succ]
                refine wpAnyH_take (i := 2) (oi := ?oi402) (v := ?v402) ?hi402 (by kernel_rfl) (by kernel_rfl) (by kernel_rfl) ?hQ402 ?hy402 (by assumption) ?_
                case hi402 => (simp only [List.getElem?_toArray, List.getElem?_cons_succ, List.getElem?_cons_zero]; rfl)
                case hQ402 => exact fun _ _ _ h => h
                case hy402 => (refine Or.inl ⟨by rfl, ?_⟩; intro w hSw; (try dsimp only at hSw); go_simp; try with_reducible rfl)
                try simp only [Act.put, List.setIfInBounds_toArray, List.set_cons_zero, List.set_cons_succ]
                refine wpAnyH_take (i := 4) (oi := ?oi404) (v := ?v404) ?hi404 (by kernel_rfl) (by kernel_rfl) (by kernel_rfl) ?hQ404 ?hy404 (by assumption) ?_
                case hi404 => (simp only [List.getElem?_toArray, List.getElem?_cons_succ, List.getElem?_cons_zero]; rfl)
                case hQ404 => exact fun _ _ _ h => h
                case hy404 => (refine Or.inl ⟨by rfl, ?_⟩; intro w hSw; (try dsimp only at hSw); go_simp; try with_reducible rfl)
                try simp only [Act.put, List.setIfInBounds_toArray, List.set_cons_zero, List.set_cons_succ]
                refine wpAnyH_ready (rs := [3]) (by kernel_rfl) (by simp) ?_
                refine AllReadyH.cons (o := ?oi403) ?ho403 (fun K hK => ?_) AllReadyH.nil
                case ho403 => (simp only [List.getElem?_toArray, List.getElem?_cons_succ, List.getElem?_cons_zero]; rfl)
                go_simp
                go_at_call 24; (with_reducible refine (tall_any T ttl f2 now _ (HT7.out.same (sB _ (by assumption)))).mono ?_); rintro e wA ⟨vA, rfl, ⟨aA, cA, rfl, p1, p2, hAA⟩, hbA⟩; have hkA := sK _ _ hbA (by assumption)
                refine hK.out _ _ ?_ (fun hHeld => ?_)
                · (try dsimp only); (first | assumption | go_keep | (refine ⟨?_, ?_, ?_, ?_, ?_, ?_, ?_, ?_, ?_, ?_, ?_, ?_⟩ <;> assumption))
                clear hK K
                try simp only [Act.put, List.setIfInBounds_toArray, List.set_cons_zero, List.set_cons_succ]
                refine wpAnyH_ready (rs := [5]) (by kernel_rfl) (by simp) ?_
                refine AllReadyH.cons (o := ?oi405) ?ho405 (fun K hK => ?_) AllReadyH.nil
                case ho405 => (simp only [List.getElem?_toArray, List.getElem?_cons_succ, List.getElem?_cons_zero]; rfl)
                go_simp
                go_at_call 23; (with_reducible refine (ksame_eq _ _ _ _ (knL (knNow f2 ttl now)) _ (Nat.le_trans hlen5 (by decide)) hAA (HA7.out.same knCells_len (sB _ (by assumption)))).mono ?_); rintro e wS ⟨rfl, hbS⟩; have hkS := sK _ _ hbS (by assumption)
                refine hK.out _ _ ?_ (fun hHeld => ?_)
                · (try dsimp only); (first | assumption | go_keep | (refine ⟨?_, ?_, ?_, ?_, ?_, ?_, ?_, ?_, ?_, ?_, ?_, ?_⟩ <;> assumption))
                clear hK K
                try simp only [Act.put, List.setIfInBounds_toArray, List.set_cons_zero, List.set_cons_succ]
                refine wpAnyH_take (i := 6) (oi := ?oi406) (v := ?v406) ?hi406 (by kernel_rfl) (by kernel_rfl) (by kernel_rfl) ?hQ406 ?hy406 (by assumption) ?_
                case hi406 => (simp only [List.getElem?_toArray, List.getElem?_cons_succ, List.getElem?_cons_zero]; rfl)
                case hQ406 => exact fun _ _ _ h => h
                case hy406 => (refine Or.inl ⟨by rfl, ?_⟩; intro w hSw; (try dsimp only at hSw); go_simp; try with_reducible rfl)
                try simp only [Act.put, List.setIfInBounds_toArray, List.set_cons_zero, List.set_cons_succ]
                refine wpAnyH_take (i := 7) (oi := ?oi407) (v := ?v407) ?hi407 (by kernel_rfl) (by kernel_rfl) (by kernel_rfl) ?hQ407 ?hy407 (by assumption) ?_
                case hi407 => (simp only [List.getElem?_toArray, List.getElem?_cons_succ, List.getElem?_cons_zero]; rfl)
                case hQ407 => exact fun _ _ _ h => h
                case hy407 => (refine Or.inl ⟨by rfl, ?_⟩; intro w hSw; (try dsimp only at hSw); go_simp; try with_reducible rfl)
                try simp only [Act.put, List.setIfInBounds_toArray, List.set_cons_zero, List.set_cons_succ]
                refine wpAnyH_take (i := 8) (oi := ?oi408) (v := ?v408) ?hi408 (by kernel_rfl) (by kernel_rfl) (by kernel_rfl) ?hQ408 ?hy408 (by assumption) ?_
                case hi408 => (simp only [List.getElem?_toArray, List.getElem?_cons_succ, List.getElem?_cons_zero]; rfl)
                case hQ408 => exact fun _ _ _ h => h
                case hy408 => (refine Or.inl ⟨by rfl, ?_⟩; intro w hSw; (try dsimp only at hSw); go_simp; try with_reducible rfl)
                try simp only [Act.put, List.setIfInBounds_toArray, List.set_cons_zero, List.set_cons_succ]
                refine wpAnyH_take (i := 9) (oi := ?oi409) (v := ?v409) ?hi409 (by kernel_rfl) (by kernel_rfl) (by kernel_rfl) ?hQ409 ?hy409 (by assumption) ?_
                case hi409 => (simp only [List.getElem?_toArray, List.getElem?_cons_succ, List.getElem?_cons_zero]; rfl)
                case hQ409 => exact fun _ _ _ h => h
                case hy409 => (refine Or.inl ⟨by rfl, ?_⟩; intro w hSw; (try dsimp only at hSw); go_simp; try with_reducible rfl)
                try simp only [Act.put, List.setIfInBounds_toArray, List.set_cons_zero, List.set_cons_succ]
                refine wpAnyH_take (i := 10) (oi := ?oi410) (v := ?v410) ?hi410 (by kernel_rfl) (by kernel_rfl) (by kernel_rfl) ?hQ410 ?hy410 (by assumption) ?_
                case hi410 => (simp only [List.getElem?_toArray, List.getElem?_cons_succ, List.getElem?_cons_zero]; rfl)
                case hQ410 => exact fun _ _ _ h => h
                case hy410 => (refine Or.inl ⟨by rfl, ?_⟩; intro w hSw; (try dsimp only at hSw); go_simp; try with_reducible rfl)
                try simp only [Act.put, List.setIfInBounds_toArray, List.set_cons_zero, List.set_cons_succ]
                refine wpAnyH_take (i := 11) (oi := ?oi411) (v := ?v411) ?hi411 (by kernel_rfl) (by kernel_rfl) (by kernel_rfl) ?hQ411 ?hy411 (by assumption) ?_
                case hi411 => (simp only [List.getElem?_toArray, List.getElem?_cons_succ, List.getElem?_cons_zero]; rfl)
                case hQ411 => exact fun _ _ _ h => h
                case hy411 => (refine Or.inl ⟨by rfl, ?_⟩; intro w hSw; (try dsimp only at hSw); go_simp; try with_reducible rfl)
                try simp only [Act.put, List.setIfInBounds_toArray, List.set_cons_zero, List.set_cons_succ]
                refine wpAnyH_take (i := 12) (oi := ?oi412) (v := ?v412) ?hi412 (by kernel_rfl) (by kernel_rfl) (by kernel_rfl) ?hQ412 ?hy412 (by assumption) ?_
                case hi412 => (simp only [List.getElem?_toArray, List.getElem?_cons_succ, List.getElem?_cons_zero]; rfl)
                case hQ412 => exact fun _ _ _ h => h
                case hy412 => (refine Or.inl ⟨by rfl, ?_⟩; intro w hSw; (try dsimp only at hSw); go_simp; try with_reducible rfl)
                try simp only [Act.put, List.setIfInBounds_toArray, List.set_cons_zero, List.set_cons_succ]
                refine wpAnyH_take (i := 13) (oi := ?oi413) (v := ?v413) ?hi413 (by kernel_rfl) (by kernel_rfl) (by kernel_rfl) ?hQ413 ?hy413 (by assumption) ?_
                case hi413 => (simp only [List.getElem?_toArray, List.getElem?_cons_succ, List.getElem?_cons_zero]; rfl)
                case hQ413 => exact fun _ _ _ h => h
                case hy413 => (refine Or.inl ⟨by rfl, ?_⟩; intro w hSw; (try dsimp only at hSw); go_simp; try with_reducible rfl)
                try simp only [Act.put, List.setIfInBounds_toArray, List.set_cons_zero, List.set_cons_succ]
                refine wpAnyH_take (i := 14) (oi := ?oi414) (v := ?v414) ?hi414 (by kernel_rfl) (by kernel_rfl) (by kernel_rfl) ?hQ414 ?hy414 (by assumption) ?_
                case hi414 => (simp only [List.getElem?_toArray, List.getElem?_cons_succ, List.getElem?_cons_zero]; rfl)
                case hQ414 => exact fun _ _ _ h => h
                case hy414 => (refine Or.inl ⟨by rfl, ?_⟩; intro w hSw; (try dsimp only at hSw); go_simp; try with_reducible rfl)
                try simp only [Act.put, List.setIfInBounds_toArray, List.set_cons_zero, List.set_cons_succ]
                refine wpAnyH_take (i := 15) (oi := ?oi415) (v := ?v415) ?hi415 (by kernel_rfl) (by kernel_rfl) (by kernel_rfl) ?hQ415 ?hy415 (by assumption) ?_
                case hi415 => (simp only [List.getElem?_toArray, List.getElem?_cons_succ, List.getElem?_cons_zero]; rfl)
                case hQ415 => exact fun _ _ _ h => h
                case hy415 => (refine Or.inl ⟨by rfl, ?_⟩; intro w hSw; (try dsimp only at hSw); go_simp; try with_reducible rfl)
                try simp only [Act.put, List.setIfInBounds_toArray, List.set_cons_zero, List.set_cons_succ]
                refine wpAnyH_take (i := 16) (oi := ?oi416) (v := ?v416) ?hi416 (by kernel_rfl) (by kernel_rfl) (by kernel_rfl) ?hQ416 ?hy416 (by assumption) ?_
                case hi416 => (simp only [List.getElem?_toArray, List.getElem?_cons_succ, List.getElem?_cons_zero]; rfl)
                case hQ416 => exact fun _ _ _ h => h
                case hy416 => (refine Or.inl ⟨by rfl, ?_⟩; intro w hSw; (try dsimp only at hSw); go_simp; try with_reducible rfl)
                try simp only [Act.put, List.setIfInBounds_toArray, List.set_cons_zero, List.set_cons_succ]
                refine wpAnyH_take (i := 17) (oi := ?oi417) (v := ?v417) ?hi417 (by kernel_rfl) (by kernel_rfl) (by kernel_rfl) ?hQ417 ?hy417 (by assumption) ?_
                case hi417 => (simp only [List.getElem?_toArray, List.getElem?_cons_succ, List.getElem?_cons_zero]; rfl)
                case hQ417 => exact fun _ _ _ h => h
                case hy417 => (refine Or.inl ⟨by rfl, ?_⟩; intro w hSw; (try dsimp only at hSw); go_simp; try with_reducible rfl)
                try simp only [Act.put, List.setIfInBounds_toArray, List.set_cons_zero, List.set_cons_succ]
                refine wpAnyH_take (i := 18) (oi := ?oi418) (v := ?v418) ?hi418 (by kernel_rfl) (by kernel_rfl) (by kernel_rfl) ?hQ418 ?hy418 (by assumption) ?_
                case hi418 => (simp only [List.getElem?_toArray, List.getElem?_cons_succ, List.getElem?_cons_zero]; rfl)
                case hQ418 => exact fun _ _ _ h => h
                case hy418 => (refine Or.inl ⟨by rfl, ?_⟩; intro w hSw; (try dsimp only at hSw); go_simp; try with_reducible rfl)
                try simp only [Act.put, List.setIfInBounds_toArray, List.set_cons_zero, List.set_cons_succ]
                refine wpAnyH_take (i := 19) (oi := ?oi419) (v := ?v419) ?hi419 (by kernel_rfl) (by kernel_rfl) (by kernel_rfl) ?hQ419 ?hy419 (by assumption) ?_
                case hi419 => (simp only [List.getElem?_toArray, List.getElem?_cons_succ, List.getElem?_cons_zero]; rfl)
                case hQ419 => exact fun _ _ _ h => h
                case hy419 => (refine Or.inl ⟨by rfl, ?_⟩; intro w hSw; (try dsimp only at hSw); go_simp; try with_reducible rfl)
                try simp only [Act.put, List.setIfInBounds_toArray, List.set_cons_zero, List.set_cons_succ]
                refine wpAnyH_take (i := 20) (oi := ?oi420) (v := ?v420) ?hi420 (by kernel_rfl) (by kernel_rfl) (by kernel_rfl) ?hQ420 ?hy420 (by assumption) ?_
                case hi420 => (simp only [List.getElem?_toArray, List.getElem?_cons_succ, List.getElem?_cons_zero]; rfl)
                case hQ420 => exact fun _ _ _ h => h
                case hy420 => (refine Or.inl ⟨by rfl, ?_⟩; intro w hSw; (try dsimp only at hSw); go_simp; try with_reducible rfl)
                try simp only [Act.put, List.setIfInBounds_toArray, List.set_cons_zero, List.set_cons_succ]
                refine wpAnyH_take (i := 21) (oi := ?oi421) (v := ?v421) ?hi421 (by kernel_rfl) (by kernel_rfl) (by kernel_rfl) ?hQ421 ?hy421 (by assumption) ?_
                case hi421 => (simp only [List.getElem?_toArray, List.getElem?_cons_succ, List.getElem?_cons_zero]; rfl)
                case hQ421 => exact fun _ _ _ h => h
                case hy421 => (refine Or.inl ⟨by rfl, ?_⟩; intro w hSw; (try dsimp only at hSw); go_simp; try with_reducible rfl)
                try simp only [Act.put, List.setIfInBounds_toArray, List.set_cons_zero, List.set_cons_succ]
                refine wpAnyH_take (i := 22) (oi := ?oi422) (v := ?v422) ?hi422 (by kernel_rfl) (by kernel_rfl) (by kernel_rfl) ?hQ422 ?hy422 (by assumption) ?_
                case hi422 => (simp only [List.getElem?_toArray, List.getElem?_cons_succ, List.getElem?_cons_zero]; rfl)
                case hQ422 => exact fun _ _ _ h => h
                case hy422 => (refine Or.inl ⟨by rfl, ?_⟩; intro w hSw; (try dsimp only at hSw); go_simp; try with_reducible rfl)
                try simp only [Act.put, List.setIfInBounds_toArray, List.set_cons_zero, List.set_cons_succ]
                refine wpAnyH_take (i := 23) (oi := ?oi423) (v := ?v423) ?hi423 (by kernel_rfl) (by kernel_rfl) (by kernel_rfl) ?hQ423 ?hy423 (by assumption) ?_
                case hi423 => (simp only [List.getElem?_toArray, List.getElem?_cons_succ, List.getElem?_cons_zero]; rfl)
                case hQ423 => exact fun _ _ _ h => h
                case hy423 => (refine Or.inl ⟨by rfl, ?_⟩; intro w hSw; (try dsimp only at hSw); go_simp; try with_reducible rfl)
                try simp only [Act.put, List.setIfInBounds_toArray, List.set_cons_zero, List.set_cons_succ]
                refine wpAnyH_take (i := 24) (oi := ?oi424) (v := ?v424) ?hi424 (by kernel_rfl) (by kernel_rfl) (by kernel_rfl) ?hQ424 ?hy424 (by assumption) ?_
                case hi424 => (simp only [List.getElem?_toArray, List.getElem?_cons_succ, List.getElem?_cons_zero]; rfl)
                case hQ424 => exact fun _ _ _ h => h
                case hy424 => (refine Or.inl ⟨by rfl, ?_⟩; intro w hSw; (try dsimp only at hSw); go_simp; try with_reducible rfl)
                try simp only [Act.put, List.setIfInBounds_toArray, List.set_cons_zero, List.set_cons_succ]
                refine wpAnyH_take (i := 25) (oi := ?oi425) (v := ?v425) ?hi425 (by kernel_rfl) (by kernel_rfl) (by kernel_rfl) ?hQ425 ?hy425 (by assumption) ?_
                case hi425 => (simp only [List.getElem?_toArray, List.getElem?_cons_succ, List.getElem?_cons_zero]; rfl)
                case hQ425 => exact fun _ _ _ h => h
                case hy425 => (refine Or.inl ⟨by rfl, ?_⟩; intro w hSw; (try dsimp only at hSw); go_simp; try with_reducible rfl)
                try simp only [Act.put, List.setIfInBounds_toArray, List.set_cons_zero, List.set_cons_succ]
                refine wpAnyH_take (i := 26) (oi := ?oi426) (v := ?v426) ?hi426 (by kernel_rfl) (by kernel_rfl) (by kernel_rfl) ?hQ426 ?hy426 (by assumption) ?_
                case hi426 => (simp only [List.getElem?_toArray, List.getElem?_cons_succ, List.getElem?_cons_zero]; rfl)
                case hQ426 => exact fun _ _ _ h => h
                case hy426 => (refine Or.inl ⟨by rfl, ?_⟩; intro w hSw; (try dsimp only at hSw); go_simp; try with_reducible rfl)
                try simp only [Act.put, List.setIfInBounds_toArray, List.set_cons_zero, List.set_cons_succ]
                refine wpAnyH_take (i := 27) (oi := ?oi427) (v := ?v427) ?hi427 (by kernel_rfl) (by kernel_rfl) (by kernel_rfl) ?hQ427 ?hy427 (by assumption) ?_
                case hi427 => (simp only [List.getElem?_toArray, List.getElem?_cons_succ, List.getElem?_cons_zero]; rfl)
                case hQ427 => exact fun _ _ _ h => h
                case hy427 => (refine Or.inl ⟨by rfl, ?_⟩; intro w hSw; (try dsimp only at hSw); go_simp; try with_reducible rfl)
                try simp only [Act.put, List.setIfInBounds_toArray, List.set_cons_zero, List.set_cons_succ]
                refine wpAnyH_take (i := 28) (oi := ?oi428) (v := undef) ?hi428 (by kernel_rfl) (by kernel_rfl) (by kernel_rfl) ?hQ428 ?hy428 (by assumption) ?_
                case hi428 => (simp only [List.getElem?_toArray, List.getElem?_cons_succ, List.getElem?_cons_zero]; rfl)
                case hQ428 => exact fun _ _ _ h => h
                case hy428 => exact Or.inr ⟨by rfl, rfl⟩
                try simp only [Act.put, List.setIfInBounds_toArray, List.set_cons_zero, List.set_cons_succ]
                refine wpAnyH_take (i := 29) (oi := ?oi429) (v := undef) ?hi429 (by kernel_rfl) (by kernel_rfl) (by kernel_rfl) ?hQ429 ?hy429 (by assumption) ?_
                case hi429 => (simp only [List.getElem?_toArray, List.getElem?_cons_succ, List.getElem?_cons_zero]; rfl)
                case hQ429 => exact fun _ _ _ h => h
                case hy429 => exact Or.inr ⟨by rfl, rfl⟩
                try simp only [Act.put, List.setIfInBounds_toArray, List.set_cons_zero, List.set_cons_succ]
                refine wpAnyH_take (i := 30) (oi := ?oi430) (v := undef) ?hi430 (by kernel_rfl) (by kernel_rfl) (by kernel_rfl) ?hQ430 ?hy430 (by assumption) ?_
                case hi430 => (simp only [List.getElem?_toArray, List.getElem?_cons_succ, List.getElem?_cons_zero]; rfl)
                case hQ430 => exact fun _ _ _ h => h
                case hy430 => exact Or.inr ⟨by rfl, rfl⟩
                try simp only [Act.put, List.setIfInBounds_toArray, List.set_cons_zero, List.set_cons_succ]
                refine wpAnyH_take (i := 31) (oi := ?oi431) (v := ?v431) ?hi431 (by kernel_rfl) (by kernel_rfl) (by kernel_rfl) ?hQ431 ?hy431 (by assumption) ?_
                case hi431 => (simp only [List.getElem?_toArray, List.getElem?_cons_succ, List.getElem?_cons_zero]; rfl)
                case hQ431 => exact fun _ _ _ h => h
                case hy431 => (refine Or.inl ⟨by rfl, ?_⟩; intro w hSw; (try dsimp only at hSw); go_simp; try with_reducible rfl)
                try simp only [Act.put, List.setIfInBounds_toArray, List.set_cons_zero, List.set_cons_succ]
                refine wpAnyH_take (i := 32) (oi := ?oi432) (v := ?v432) ?hi432 (by kernel_rfl) (by kernel_rfl) (by kernel_rfl) ?hQ432 ?hy432 (by assumption) ?_
                case hi432 => (simp only [List.getElem?_toArray, List.getElem?_cons_succ, List.getElem?_cons_zero]; rfl)
                case hQ432 => exact fun _ _ _ h => h
                case hy432 => (refine Or.inl ⟨by rfl, ?_⟩; intro w hSw; (try dsimp only at hSw); go_simp; try with_reducible rfl)
                try simp only [Act.put, List.setIfInBounds_toArray, List.set_cons_zero, List.set_cons_succ]
                refine wpAnyH_take (i := 33) (oi := ?oi433) (v := ?v433) ?hi433 (by kernel_rfl) (by kernel_rfl) (by kernel_rfl) ?hQ433 ?hy433 (by assumption) ?_
                case hi433 => (simp only [List.getElem?_toArray, List.getElem?_cons_succ, List.getElem?_cons_zero]; rfl)
                case hQ433 => exact fun _ _ _ h => h
                case hy433 => (refine Or.inl ⟨by rfl, ?_⟩; intro w hSw; (try dsimp only at hSw); go_simp; try with_reducible rfl)
                try simp only [Act.put, List.setIfInBounds_toArray, List.set_cons_zero, List.set_cons_succ]
                refine wpAnyH_take (i := 34) (oi := ?oi434) (v := ?v434) ?hi434 (by kernel_rfl) (by kernel_rfl) (by kernel_rfl) ?hQ434 ?hy434 (by assumption) ?_
                case hi434 => (simp only [List.getElem?_toArray, List.getElem?_cons_succ, List.getElem?_cons_zero]; rfl)
                case hQ434 => exact fun _ _ _ h => h
                case hy434 => (refine Or.inl ⟨by rfl, ?_⟩; intro w hSw; (try dsimp only at hSw); go_simp; try with_reducible rfl)
                try simp only [Act.put, List.setIfInBounds_toArray, List.set_cons_zero, List.set_cons_succ]
                refine wpAnyH_take (i := 35) (oi := ?oi435) (v := ?v435) ?hi435 (by kernel_rfl) (by kernel_rfl) (by kernel_rfl) ?hQ435 ?hy435 (by assumption) ?_
                case hi435 => (simp only [List.getElem?_toArray, List.getElem?_cons_succ, List.getElem?_cons_zero]; rfl)
                case hQ435 => exact fun _ _ _ h => h
                case hy435 => (refine Or.inl ⟨by rfl, ?_⟩; intro w hSw; (try dsimp only at hSw); go_simp; try with_reducible rfl)
                try simp only [Act.put, List.setIfInBounds_toArray, List.set_cons_zero, List.set_cons_succ]
                refine wpAnyH_take (i := 36) (oi := ?oi436) (v := ?v436) ?hi436 (by kernel_rfl) (by kernel_rfl) (by kernel_rfl) ?hQ436 ?hy436 (by assumption) ?_
                case hi436 => (simp only [List.getElem?_toArray, List.getElem?_cons_succ, List.getElem?_cons_zero]; rfl)
                case hQ436 => exact fun _ _ _ h => h
                case hy436 => (refine Or.inl ⟨by rfl, ?_⟩; intro w hSw; (try dsimp only at hSw); go_simp; try with_reducible rfl)
                try simp only [Act.put, List.setIfInBounds_toArray, List.set_cons_zero, List.set_cons_succ]
                refine wpAnyH_take (i := 37) (oi := ?oi437) (v := ?v437) ?hi437 (by kernel_rfl) (by kernel_rfl) (by kernel_rfl) ?hQ437 ?hy437 (by assumption) ?_
                case hi437 => (simp only [List.getElem?_toArray, List.getElem?_cons_succ, List.getElem?_cons_zero]; rfl)
                case hQ437 => exact fun _ _ _ h => h
                case hy437 => (refine Or.inl ⟨by rfl, ?_⟩; intro w hSw; (try dsimp only at hSw); go_simp; try with_reducible rfl)
                try simp only [Act.put, List.setIfInBounds_toArray, List.set_cons_zero, List.set_cons_succ]
                refine wpAnyH_take (i := 38) (oi := ?oi438) (v := ?v438) ?hi438 (by kernel_rfl) (by kernel_rfl) (by kernel_rfl) ?hQ438 ?hy438 (by assumption) ?_
                case hi438 => (simp only [List.getElem?_toArray, List.getElem?_cons_succ, List.getElem?_cons_zero]; rfl)
                case hQ438 => exact fun _ _ _ h => h
                case hy438 => (refine Or.inl ⟨by rfl, ?_⟩; intro w hSw; (try dsimp only at hSw); go_simp; try with_reducible rfl)
                try simp only [Act.put, List.setIfInBounds_toArray, List.set_cons_zero, List.set_cons_succ]
                refine wpAnyH_take (i := 39) (oi := ?oi439) (v := ?v439) ?hi439 (by kernel_rfl) (by kernel_rfl) (by kernel_rfl) ?hQ439 ?hy439 (by assumption) ?_
                case hi439 => (simp only [List.getElem?_toArray, List.getElem?_cons_succ, List.getElem?_cons_zero]; rfl)
                case hQ439 => exact fun _ _ _ h => h
                case hy439 => (refine Or.inl ⟨by rfl, ?_⟩; intro w hSw; (try dsimp only at hSw); go_simp; try with_reducible rfl)
                try simp only [Act.put, List.setIfInBounds_toArray, List.set_cons_zero, List.set_cons_succ]
                refine wpAnyH_take (i := 40) (oi := ?oi440) (v := ?v440) ?hi440 (by kernel_rfl) (by kernel_rfl) (by kernel_rfl) ?hQ440 ?hy440 (by assumption) ?_
                case hi440 => (simp only [List.getElem?_toArray, List.getElem?_cons_succ, List.getElem?_cons_zero]; rfl)
                case hQ440 => exact fun _ _ _ h => h
                case hy440 => (refine Or.inl ⟨by rfl, ?_⟩; intro w hSw; (try dsimp only at hSw); go_simp; try with_reducible rfl)
                try simp only [Act.put, List.setIfInBounds_toArray, List.set_cons_zero, List.set_cons_succ]
                refine wpAnyH_take (i := 42) (oi := ?oi442) (v := ?v442) ?hi442 (by kernel_rfl) (by kernel_rfl) (by kernel_rfl) ?hQ442 ?hy442 (by assumption) ?_
                case hi442 => (simp only [List.getElem?_toArray, List.getElem?_cons_succ, List.getElem?_cons_zero]; rfl)
                case hQ442 => exact fun _ _ _ h => h
                case hy442 => (refine Or.inl ⟨by rfl, ?_⟩; intro w hSw; (try dsimp only at hSw); go_simp; try with_reducible rfl)
                try simp only [Act.put, List.setIfInBounds_toArray, List.set_cons_zero, List.set_cons_succ]
                refine wpAnyH_take (i := 43) (oi := ?oi443) (v := ?v443) ?hi443 (by kernel_rfl) (by kernel_rfl) (by kernel_rfl) ?hQ443 ?hy443 (by assumption) ?_
                case hi443 => (simp only [List.getElem?_toArray, List.getElem?_cons_succ, List.getElem?_cons_zero]; rfl)
                case hQ443 => exact fun _ _ _ h => h
                case hy443 => (refine Or.inl ⟨by rfl, ?_⟩; intro w hSw; (try dsimp only at hSw); go_simp; try with_reducible rfl)
                try simp only [Act.put, List.setIfInBounds_toArray, List.set_cons_zero, List.set_cons_succ]
                refine wpAnyH_take (i := 44) (oi := ?oi444) (v := ?v444) ?hi444 (by kernel_rfl) (by kernel_rfl) (by kernel_rfl) ?hQ444 ?hy444 (by assumption) ?_
                case hi444 => (simp only [List.getElem?_toArray, List.getElem?_cons_succ, List.getElem?_cons_zero]; rfl)
                case hQ444 => exact fun _ _ _ h => h
                case hy444 => (refine Or.inl ⟨by rfl, ?_⟩; intro w hSw; (try dsimp only at hSw); go_simp; try with_reducible rfl)
                try simp only [Act.put, List.setIfInBounds_toArray, List.set_cons_zero, List.set_cons_succ]
                refine wpAnyH_take (i := 45) (oi := ?oi445) (v := ?v445) ?hi445 (by kernel_rfl) (by kernel_rfl) (by kernel_rfl) ?hQ445 ?hy445 (by assumption) ?_
                case hi445 => (simp only [List.getElem?_toArray, List.getElem?_cons_succ, List.getElem?_cons_zero]; rfl)
                case hQ445 => exact fun _ _ _ h => h
                case hy445 => (refine Or.inl ⟨by rfl, ?_⟩; intro w hSw; (try dsimp only at hSw); go_simp; try with_reducible rfl)
                try simp only [Act.put, List.setIfInBounds_toArray, List.set_cons_zero, List.set_cons_succ]
                refine wpAnyH_take (i := 46) (oi := ?oi446) (v := ?v446) ?hi446 (by kernel_rfl) (by kernel_rfl) (by kernel_rfl) ?hQ446 ?hy446 (by assumption) ?_
                case hi446 => (simp only [List.getElem?_toArray, List.getElem?_cons_succ, List.getElem?_cons_zero]; rfl)
                case hQ446 => exact fun _ _ _ h => h
                case hy446 => (refine Or.inl ⟨by rfl, ?_⟩; intro w hSw; (try dsimp only at hSw); go_simp; try with_reducible rfl)
                try simp only [Act.put, List.setIfInBounds_toArray, List.set_cons_zero, List.set_cons_succ]
                refine wpAnyH_take (i := 47) (oi := ?oi447) (v := ?v447) ?hi447 (by kernel_rfl) (by kernel_rfl) (by kernel_rfl) ?hQ447 ?hy447 (by assumption) ?_
                case hi447 => (simp only [List.getElem?_toArray, List.getElem?_cons_succ, List.getElem?_cons_zero]; rfl)
                case hQ447 => exact fun _ _ _ h => h
                case hy447 => (refine Or.inl ⟨by rfl, ?_⟩; intro w hSw; (try dsimp only at hSw); go_simp; try with_reducible rfl)
                try simp only [Act.put, List.setIfInBounds_toArray, List.set_cons_zero, List.set_cons_succ]
                refine wpAnyH_take (i := 48) (oi := ?oi448) (v := ?v448) ?hi448 (by kernel_rfl) (by kernel_rfl) (by kernel_rfl) ?hQ448 ?hy448 (by assumption) ?_
                case hi448 => (simp only [List.getElem?_toArray, List.getElem?_cons_succ, List.getElem?_cons_zero]; rfl)
                case hQ448 => exact fun _ _ _ h => h
                case hy448 => (refine Or.inl ⟨by rfl, ?_⟩; intro w hSw; (try dsimp only at hSw); go_simp; try with_reducible rfl)
                try simp only [Act.put, List.setIfInBounds_toArray, List.set_cons_zero, List.set_cons_succ]
                refine wpAnyH_take (i := 49) (oi := ?oi449) (v := ?v449) ?hi449 (by kernel_rfl) (by kernel_rfl) (by kernel_rfl) ?hQ449 ?hy449 (by assumption) ?_
                case hi449 => (simp only [List.getElem?_toArray, List.getElem?_cons_succ, List.getElem?_cons_zero]; rfl)
                case hQ449 => exact fun _ _ _ h => h
                case hy449 => (refine Or.inl ⟨by rfl, ?_⟩; intro w hSw; (try dsimp only at hSw); go_simp; try with_reducible rfl)
                try simp only [Act.put, List.setIfInBounds_toArray, List.set_cons_zero, List.set_cons_succ]
                refine wpAnyH_ready (rs := [41]) (by kernel_rfl) (by simp) ?_
                refine AllReadyH.cons (o := ?oi441) ?ho441 (fun K hK => ?_) AllReadyH.nil
                case ho441 => (simp only [List.getElem?_toArray, List.getElem?_cons_succ, List.getElem?_cons_zero]; rfl)
                go_simp
                go_at_call 25; (with_reducible refine (cuts_any T ttl f2 tt lev now _ (HT7.out.same (sB _ (by assumption)))).mono ?_); rintro e wC ⟨rfl, hbC⟩; have hkC := sK _ _ hbC (by assumption)
                refine hK.out _ _ ?_ (fun hHeld => ?_)
                · (try dsimp only); (first | assumption | go_keep | (refine ⟨?_, ?_, ?_, ?_, ?_, ?_, ?_, ?_, ?_, ?_, ?_, ?_⟩ <;> assumption))
                clear hK K
                try simp only [Act.put, List.setIfInBounds_toArray, List.set_cons_zero, List.set_cons_succ]
                refine wpAnyH_ready (rs := [50]) (by kernel_rfl) (by simp) ?_
                refine AllReadyH.cons (o := ?oi450) ?ho450 (fun K hK => ?_) AllReadyH.nil
                case ho450 => (simp only [List.getElem?_toArray, List.getElem?_cons_succ, List.getElem?_cons_zero]; rfl)
                go_simp
                go_at_call 26; (with_reducible refine (rcuts_any (.slice none 0 0) f2 ttl tt lev now _ (HK7.out.same (sB _ (by assumption))).at).mono ?_); rintro e wD ⟨rfl, hbD⟩; have hkD := sK _ _ hbD (by assumption)
                refine hK.out _ _ ?_ (fun hHeld => ?_)
                · (try dsimp only); (first | assumption | go_keep | (refine ⟨?_, ?_, ?_, ?_, ?_, ?_, ?_, ?_, ?_, ?_, ?_, ?_⟩ <;> assumption))
                clear hK K
                try simp only [Act.put, List.setIfInBounds_toArray, List.set_cons_zero, List.set_cons_succ]
                refine wpAnyH_take (i := 51) (oi := ?oi451) (v := ?v451) ?hi451 (by kernel_rfl) (by kernel_rfl) (by kernel_rfl) ?hQ451 ?hy451 (by assumption) ?_
                case hi451 => (simp only [List.getElem?_toArray, List.getElem?_cons_succ, List.getElem?_cons_zero]; rfl)
                case hQ451 => exact fun _ _ _ h => h
                case hy451 => (refine Or.inl ⟨by rfl, ?_⟩; intro w hSw; (try dsimp only at hSw); go_simp; try with_reducible rfl)
                try simp only [Act.put, List.setIfInBounds_toArray, List.set_cons_zero, List.set_cons_succ]
                refine wpAnyH_take (i := 52) (oi := ?oi452) (v := ?v452) ?hi452 (by kernel_rfl) (by kernel_rfl) (by kernel_rfl) ?hQ452 ?hy452 (by assumption) ?_
                case hi452 => (simp only [List.getElem?_toArray, List.getElem?_cons_succ, List.getElem?_cons_zero]; rfl)
                case hQ452 => exact fun _ _ _ h => h
                case hy452 => (refine Or.inl ⟨by rfl, ?_⟩; intro w hSw; (try dsimp only at hSw); go_simp; try with_reducible rfl)
                try simp only [Act.put, List.setIfInBounds_toArray, List.set_cons_zero, List.set_cons_succ]
                refine wpAnyH_done (by kernel_rfl) ?_ _
                have hfin := sB _ (by assumption)
                have HFin := Lib.hid hfin
                go_wp2
                exact ⟨⟨f2, k + 1, _, by omega, by go_num, rfl, TableAt.same HT7.out HFin.out, HK7.out.same HFin.out, HB7.out.trans (HFin.out.mono HB7.out.size)⟩, by simp only [intOf]; omega⟩
            · have hkb0 : (kd == 0) = false := by simpa using hk0
              have hkb1 : (kd == 1) = false := by simpa using hk1
              obtain ⟨W2, hW2⟩ : ∃ W2, W2 = wr.alloc (.cells [.int .i64 kd, .int .i64 tt, .int .i64 th, .int .i64 ep, .int .i64 now, .int .i64 lev].toArray 30) := ⟨_, rfl⟩
              have hbA : Below wr.heap.size wr W2 := by rw [hW2]; exact (Below.refl _ _).alloc (Nat.le_refl _) _
              have HX2 := Lib.hid (show IsObj W2 wr.heap.size 30 [.int .i64 kd, .int .i64 tt, .int .i64 th, .int .i64 ep, .int .i64 now, .int .i64 lev] by rw [hW2]; exact IsObj.new wr _ _)
              have HT2 := Lib.hid (TableAt.same HTr.out hbA)
              have HK2 := Lib.hid (HKr.out.same hbA)
              have HB2 := Lib.hid (HBr.out.trans (hbA.mono HBr.out.size))
              have hszA : W2.heap.size = wr.heap.size + 1 := by rw [hW2]; simp
              clear hbA HTr HKr HBr
              obtain ⟨A, hAA⟩ : ∃ A, A = wr.heap.size := ⟨_, rfl⟩
              rw [← hAA] at HX2 hszA hTA
              obtain ⟨f2, hf2⟩ : ∃ f2 : Ents, f2 = f := ⟨_, rfl⟩
              subst hf2
              obtain ⟨v2, hv2⟩ : ∃ v2 : Value, v2 = v := ⟨_, rfl⟩
              subst hv2
              have w4 := W2
              have HX4 := HX2
              have HT4 := HT2
              have HK4 := HK2
              have HB4 := HB2
              clear HX2 HT2 HK2 HB2 w4
              have hlen5 : (knL (knNow f2 ttl now)).length ≤ 8 := knU_len _ 8
              rcases find_now f2 ttl tt now with ⟨hkn, hfk⟩ | ⟨e0, j, hkn, hfk, hj, _, hn⟩
              · go_wp2_with fail
                rw [← hW2, ← hAA]
                clear hW2 hAA
                refine (rallK_any v2 f2 ttl now _ HK4.out.at).mono ?_
                rintro e w5 ⟨v5, rfl, ⟨a5, c5, rfl, m1, m2, hA5⟩, hb5⟩
                have hX5 := IsObj.below HX4.out hb5 HX4.out.lt
                have HT5 := Lib.hid (TableAt.same HT4.out hb5)
                have HK5 := Lib.hid (HK4.out.same hb5)
                have HB5 := Lib.hid (HB4.out.trans (hb5.mono HB4.out.size))
                have HX5 := Lib.hid hX5
                have HA5 := Lib.hid hA5
                have x1 := IsObj.cell hX5 1
                have x4 := IsObj.cell hX5 4
                have x5 := IsObj.cell hX5 5
                simp only [List.getElem?_cons_succ, List.getElem?_cons_zero] at x1 x4 x5
                clear hX5 hA5 hb5 HT4 HK4 HX4 HB4
                have G := fun w h => get_any T ttl f2 tt now w h
                rw [hkn] at G
                unfold kv Option.isSome at G
                have HG := Lib.hid G
                clear G
                go_wp2_with fail
                refine (HG.out _ HT5.out).mono ?_
                rintro e w6 ⟨rfl, hb6⟩
                obtain ⟨W7, hW7⟩ : ∃ W7, W7 = w6.alloc (.cells [.int .i64 0, .int .i64 0, .int .i64 0, .int .i64 0].toArray 36) := ⟨_, rfl⟩
                have hb67 : Below w6.heap.size w6 W7 := by rw [hW7]; exact (Below.refl _ _).alloc (Nat.le_refl _) _
                have hY7 : IsObj W7 w6.heap.size 36 [.int .i64 0, .int .i64 0, .int .i64 0, .int .i64 0] := by rw [hW7]; exact IsObj.new w6 _ _
                have hX6 := IsObj.below HX5.out hb6 HX5.out.lt
                have r1 := IsObj.cell hX6 1
                have r4 := IsObj.cell hX6 4
                have r5 := IsObj.cell hX6 5
                have rl := IsObj.lt hX6
                simp only [List.getElem?_cons_succ, List.getElem?_cons_zero] at r1 r4 r5
                clear hX6
                have hb57 : Below w5.heap.size w5 W7 := hb6.trans (hb67.mono hb6.size)
                have HX7 := IsObj.below HX5.out hb57 HX5.out.lt
                have HT7 := Lib.hid (TableAt.same HT5.out hb57)
                have HK7 := Lib.hid (HK5.out.same hb57)
                have HB7 := Lib.hid (HB5.out.trans (hb57.mono HB5.out.size))
                have hA7 := HA5.out.same knCells_len hb57
                have HA7 := Lib.hid hA7
                have HFi := Lib.hid (rfind_any a5 c5 (knL (knNow f2 ttl now)) tt W7 (Nat.le_trans hlen5 (by decide)) hA7)
                rw [hfk] at HFi
                have y1 := IsObj.cell HX7 1
                have y4 := IsObj.cell HX7 4
                have y5 := IsObj.cell HX7 5
                have z0 := IsObj.cell hY7 0
                have z1 := IsObj.cell hY7 1
                have z2 := IsObj.cell hY7 2
                have z3 := IsObj.cell hY7 3
                simp only [List.getElem?_cons_succ, List.getElem?_cons_zero] at y1 y4 y5 z0 z1 z2 z3
                have hyl := IsObj.lt hY7
                have hxl := IsObj.lt HX7
                clear hb6 hb67 hb57 hY7 HX7 hA7 HT5 HK5 HX5 HB5 HA5 x1 x4 x5
                go_wp2_with fail
                rw [← hW7]
                clear r1 r4 r5 rl
                refine HFi.out.mono ?_
                rintro e w' ⟨rfl, rfl⟩
                obtain ⟨Y, hY⟩ : ∃ Y, Y = w6.heap.size := ⟨_, rfl⟩
                rw [← hY] at z0 z1 z2 z3 hyl ⊢
                clear hW7 hY HFi
                have hb77 : Below W7.heap.size W7 W7 := Below.refl _ _
                have sB : ∀ W, (W.cell? ⟨A, 1, none⟩ = some (.int .i64 tt) ∧ W.cell? ⟨A, 4, none⟩ = some (.int .i64 now) ∧ W.cell? ⟨A, 5, none⟩ = some (.int .i64 lev) ∧ W.cell? ⟨Y, 0, none⟩ = some (.int .i64 0) ∧ W.cell? ⟨Y, 1, none⟩ = some (.int .i64 0) ∧ W.cell? ⟨Y, 2, none⟩ = some (.int .i64 0) ∧ W.cell? ⟨Y, 3, none⟩ = some (.int .i64 0) ∧ Below W7.heap.size W7 W) → Below W7.heap.size W7 W := fun W h => h.2.2.2.2.2.2.2
                have sK : ∀ W W1, Below W.heap.size W W1 → (W.cell? ⟨A, 1, none⟩ = some (.int .i64 tt) ∧ W.cell? ⟨A, 4, none⟩ = some (.int .i64 now) ∧ W.cell? ⟨A, 5, none⟩ = some (.int .i64 lev) ∧ W.cell? ⟨Y, 0, none⟩ = some (.int .i64 0) ∧ W.cell? ⟨Y, 1, none⟩ = some (.int .i64 0) ∧ W.cell? ⟨Y, 2, none⟩ = some (.int .i64 0) ∧ W.cell? ⟨Y, 3, none⟩ = some (.int .i64 0) ∧ Below W7.heap.size W7 W) → (W1.cell? ⟨A, 1, none⟩ = some (.int .i64 tt) ∧ W1.cell? ⟨A, 4, none⟩ = some (.int .i64 now) ∧ W1.cell? ⟨A, 5, none⟩ = some (.int .i64 lev) ∧ W1.cell? ⟨Y, 0, none⟩ = some (.int .i64 0) ∧ W1.cell? ⟨Y, 1, none⟩ = some (.int .i64 0) ∧ W1.cell? ⟨Y, 2, none⟩ = some (.int .i64 0) ∧ W1.cell? ⟨Y, 3, none⟩ = some (.int .i64 0) ∧ Below W7.heap.size W7 W1) := fun W W1 hb h => ⟨cell_keep hb (h.1), cell_keep hb (h.2.1), cell_keep hb (h.2.2.1), cell_keep hb (h.2.2.2.1), cell_keep hb (h.2.2.2.2.1), cell_keep hb (h.2.2.2.2.2.1), cell_keep hb (h.2.2.2.2.2.2.1), (h.2.2.2.2.2.2.2).trans (hb.mono (h.2.2.2.2.2.2.2).size)⟩
                go_wp2_with fail
                have hb78 : Below W7.heap.size W7 W7.drew := (Below.refl _ _).drew
                refine wp_region_held_drew (S := fun w' => w'.cell? ⟨A, 1, none⟩ = some (.int .i64 tt) ∧ w'.cell? ⟨A, 4, none⟩ = some (.int .i64 now) ∧ w'.cell? ⟨A, 5, none⟩ = some (.int .i64 lev) ∧ w'.cell? ⟨Y, 0, none⟩ = some (.int .i64 0) ∧ w'.cell? ⟨Y, 1, none⟩ = some (.int .i64 0) ∧ w'.cell? ⟨Y, 2, none⟩ = some (.int .i64 0) ∧ w'.cell? ⟨Y, 3, none⟩ = some (.int .i64 0) ∧ Below W7.heap.size W7 w') (by kernel_rfl) ?_ (fun hHeld => ?_)
                · (try dsimp only); (first | assumption | go_keep | (refine ⟨?_, ?_, ?_, ?_, ?_, ?_, ?_, ?_⟩ <;> assumption))
                refine wpAnyH_take (i := 0) (oi := ?oi500) (v := ?v500) ?hi500 (by kernel_rfl) (by kernel_rfl) (by kernel_rfl) ?hQ500 ?hy500 (by assumption) ?_
                case hi500 => (simp only [List.getElem?_toArray, List.getElem?_cons_succ, List.getElem?_cons_zero]; rfl)
                case hQ500 => exact fun _ _ _ h => h
                case hy500 => (refine Or.inl ⟨by rfl, ?_⟩; intro w hSw; (try dsimp only at hSw); go_simp; try with_reducible rfl)
                try simp only [Act.put, List.setIfInBounds_toArray, List.set_cons_zero, List.set_cons_succ]
                refine wpAnyH_take (i := 1) (oi := ?oi501) (v := ?v501) ?hi501 (by kernel_rfl) (by kernel_rfl) (by kernel_rfl) ?hQ501 ?hy501 (by assumption) ?_
                case hi501 => (simp only [List.getElem?_toArray, List.getElem?_cons_succ, List.getElem?_cons_zero]; rfl)
                case hQ501 => exact fun _ _ _ h => h
                case hy501 => (refine Or.inl ⟨by rfl, ?_⟩; intro w hSw; (try dsimp only at hSw); go_simp; try with_reducible rfl)
                try simp only [Act.put, List.setIfInBounds_toArray, List.set_cons_zero, List.set_cons_succ]
                refine wpAnyH_take (i := 2) (oi := ?oi502) (v := ?v502) ?hi502 (by kernel_rfl) (by kernel_rfl) (by kernel_rfl) ?hQ502 ?hy502 (by assumption) ?_
                case hi502 => (simp only [List.getElem?_toArray, List.getElem?_cons_succ, List.getElem?_cons_zero]; rfl)
                case hQ502 => exact fun _ _ _ h => h
                case hy502 => (refine Or.inl ⟨by rfl, ?_⟩; intro w hSw; (try dsimp only at hSw); go_simp; try with_reducible rfl)
                try simp only [Act.put, List.setIfInBounds_toArray, List.set_cons_zero, List.set_cons_succ]
                refine wpAnyH_take (i := 4) (oi := ?oi504) (v := ?v504) ?hi504 (by kernel_rfl) (by kernel_rfl) (by kernel_rfl) ?hQ504 ?hy504 (by assumption) ?_
                case hi504 => (simp only [List.getElem?_toArray, List.getElem?_cons_succ, List.getElem?_cons_zero]; rfl)
                case hQ504 => exact fun _ _ _ h => h
                case hy504 => (refine Or.inl ⟨by rfl, ?_⟩; intro w hSw; (try dsimp only at hSw); go_simp; try with_reducible rfl)
                try simp only [Act.put, List.setIfInBounds_toArray, List.set_cons_zero, List.set_cons_succ]
                refine wpAnyH_ready (rs := [3]) (by kernel_rfl) (by simp) ?_
                refine AllReadyH.cons (o := ?oi503) ?ho503 (fun K hK => ?_) AllReadyH.nil
                case ho503 => (simp only [List.getElem?_toArray, List.getElem?_cons_succ, List.getElem?_cons_zero]; rfl)
                go_simp
                go_at_call 24; (with_reducible refine (tall_any T ttl f2 now _ (HT7.out.same (sB _ (by assumption)))).mono ?_); rintro e wA ⟨vA, rfl, ⟨aA, cA, rfl, p1, p2, hAA⟩, hbA⟩; have hkA := sK _ _ hbA (by assumption)
                refine hK.out _ _ ?_ (fun hHeld => ?_)
                · (try dsimp only); (first | assumption | go_keep | (refine ⟨?_, ?_, ?_, ?_, ?_, ?_, ?_, ?_⟩ <;> assumption))
                clear hK K
                try simp only [Act.put, List.setIfInBounds_toArray, List.set_cons_zero, List.set_cons_succ]
                refine wpAnyH_ready (rs := [5]) (by kernel_rfl) (by simp) ?_
                refine AllReadyH.cons (o := ?oi505) ?ho505 (fun K hK => ?_) AllReadyH.nil
                case ho505 => (simp only [List.getElem?_toArray, List.getElem?_cons_succ, List.getElem?_cons_zero]; rfl)
                go_simp
                go_at_call 23; (with_reducible refine (ksame_eq _ _ _ _ (knL (knNow f2 ttl now)) _ (Nat.le_trans hlen5 (by decide)) hAA (HA7.out.same knCells_len (sB _ (by assumption)))).mono ?_); rintro e wS ⟨rfl, hbS⟩; have hkS := sK _ _ hbS (by assumption)
                refine hK.out _ _ ?_ (fun hHeld => ?_)
                · (try dsimp only); (first | assumption | go_keep | (refine ⟨?_, ?_, ?_, ?_, ?_, ?_, ?_, ?_⟩ <;> assumption))
                clear hK K
                try simp only [Act.put, List.setIfInBounds_toArray, List.set_cons_zero, List.set_cons_succ]
                refine wpAnyH_take (i := 6) (oi := ?oi506) (v := ?v506) ?hi506 (by kernel_rfl) (by kernel_rfl) (by kernel_rfl) ?hQ506 ?hy506 (by assumption) ?_
                case hi506 => (simp only [List.getElem?_toArray, List.getElem?_cons_succ, List.getElem?_cons_zero]; rfl)
                case hQ506 => exact fun _ _ _ h => h
                case hy506 => (refine Or.inl ⟨by rfl, ?_⟩; intro w hSw; (try dsimp only at hSw); go_simp; try with_reducible rfl)
                try simp only [Act.put, List.setIfInBounds_toArray, List.set_cons_zero, List.set_cons_succ]
                refine wpAnyH_take (i := 7) (oi := ?oi507) (v := ?v507) ?hi507 (by kernel_rfl) (by kernel_rfl) (by kernel_rfl) ?hQ507 ?hy507 (by assumption) ?_
                case hi507 => (simp only [List.getElem?_toArray, List.getElem?_cons_succ, List.getElem?_cons_zero]; rfl)
                case hQ507 => exact fun _ _ _ h => h
                case hy507 => (refine Or.inl ⟨by rfl, ?_⟩; intro w hSw; (try dsimp only at hSw); go_simp; try with_reducible rfl)
                try simp only [Act.put, List.setIfInBounds_toArray, List.set_cons_zero, List.set_cons_succ]
                refine wpAnyH_take (i := 8) (oi := ?oi508) (v := ?v508) ?hi508 (by kernel_rfl) (by kernel_rfl) (by kernel_rfl) ?hQ508 ?hy508 (by assumption) ?_
                case hi508 => (simp only [List.getElem?_toArray, List.getElem?_cons_succ, List.getElem?_cons_zero]; rfl)
                case hQ508 => exact fun _ _ _ h => h
                case hy508 => (refine Or.inl ⟨by rfl, ?_⟩; intro w hSw; (try dsimp only at hSw); go_simp; try with_reducible rfl)
                try simp only [Act.put, List.setIfInBounds_toArray, List.set_cons_zero, List.set_cons_succ]
                refine wpAnyH_take (i := 9) (oi := ?oi509) (v := ?v509) ?hi509 (by kernel_rfl) (by kernel_rfl) (by kernel_rfl) ?hQ509 ?hy509 (by assumption) ?_
                case hi509 => (simp only [List.getElem?_toArray, List.getElem?_cons_succ, List.getElem?_cons_zero]; rfl)
                case hQ509 => exact fun _ _ _ h => h
                case hy509 => (refine Or.inl ⟨by rfl, ?_⟩; intro w hSw; (try dsimp only at hSw); go_simp; try with_reducible rfl)
                try simp only [Act.put, List.setIfInBounds_toArray, List.set_cons_zero, List.set_cons_succ]
                refine wpAnyH_take (i := 10) (oi := ?oi510) (v := ?v510) ?hi510 (by kernel_rfl) (by kernel_rfl) (by kernel_rfl) ?hQ510 ?hy510 (by assumption) ?_
                case hi510 => (simp only [List.getElem?_toArray, List.getElem?_cons_succ, List.getElem?_cons_zero]; rfl)
                case hQ510 => exact fun _ _ _ h => h
                case hy510 => (refine Or.inl ⟨by rfl, ?_⟩; intro w hSw; (try dsimp only at hSw); go_simp; try with_reducible rfl)
                try simp only [Act.put, List.setIfInBounds_toArray, List.set_cons_zero, List.set_cons_succ]
                refine wpAnyH_take (i := 11) (oi := ?oi511) (v := ?v511) ?hi511 (by kernel_rfl) (by kernel_rfl) (by kernel_rfl) ?hQ511 ?hy511 (by assumption) ?_
                case hi511 => (simp only [List.getElem?_toArray, List.getElem?_cons_succ, List.getElem?_cons_zero]; rfl)
                case hQ511 => exact fun _ _ _ h => h
                case hy511 => (refine Or.inl ⟨by rfl, ?_⟩; intro w hSw; (try dsimp only at hSw); go_simp; try with_reducible rfl)
                try simp only [Act.put, List.setIfInBounds_toArray, List.set_cons_zero, List.set_cons_succ]
                refine wpAnyH_take (i := 12) (oi := ?oi512) (v := ?v512) ?hi512 (by kernel_rfl) (by kernel_rfl) (by kernel_rfl) ?hQ512 ?hy512 (by assumption) ?_
                case hi512 => (simp only [List.getElem?_toArray, List.getElem?_cons_succ, List.getElem?_cons_zero]; rfl)
                case hQ512 => exact fun _ _ _ h => h
                case hy512 => (refine Or.inl ⟨by rfl, ?_⟩; intro w hSw; (try dsimp only at hSw); go_simp; try with_reducible rfl)
                try simp only [Act.put, List.setIfInBounds_toArray, List.set_cons_zero, List.set_cons_succ]
                refine wpAnyH_take (i := 13) (oi := ?oi513) (v := ?v513) ?hi513 (by kernel_rfl) (by kernel_rfl) (by kernel_rfl) ?hQ513 ?hy513 (by assumption) ?_
                case hi513 => (simp only [List.getElem?_toArray, List.getElem?_cons_succ, List.getElem?_cons_zero]; rfl)
                case hQ513 => exact fun _ _ _ h => h
                case hy513 => (refine Or.inl ⟨by rfl, ?_⟩; intro w hSw; (try dsimp only at hSw); go_simp; try with_reducible rfl)
                try simp only [Act.put, List.setIfInBounds_toArray, List.set_cons_zero, List.set_cons_succ]
                refine wpAnyH_take (i := 14) (oi := ?oi514) (v := ?v514) ?hi514 (by kernel_rfl) (by kernel_rfl) (by kernel_rfl) ?hQ514 ?hy514 (by assumption) ?_
                case hi514 => (simp only [List.getElem?_toArray, List.getElem?_cons_succ, List.getElem?_cons_zero]; rfl)
                case hQ514 => exact fun _ _ _ h => h
                case hy514 => (refine Or.inl ⟨by rfl, ?_⟩; intro w hSw; (try dsimp only at hSw); go_simp; try with_reducible rfl)
                try simp only [Act.put, List.setIfInBounds_toArray, List.set_cons_zero, List.set_cons_succ]
                refine wpAnyH_take (i := 15) (oi := ?oi515) (v := ?v515) ?hi515 (by kernel_rfl) (by kernel_rfl) (by kernel_rfl) ?hQ515 ?hy515 (by assumption) ?_
                case hi515 => (simp only [List.getElem?_toArray, List.getElem?_cons_succ, List.getElem?_cons_zero]; rfl)
                case hQ515 => exact fun _ _ _ h => h
                case hy515 => (refine Or.inl ⟨by rfl, ?_⟩; intro w hSw; (try dsimp only at hSw); go_simp; try with_reducible rfl)
                try simp only [Act.put, List.setIfInBounds_toArray, List.set_cons_zero, List.set_cons_succ]
                refine wpAnyH_take (i := 16) (oi := ?oi516) (v := undef) ?hi516 (by kernel_rfl) (by kernel_rfl) (by kernel_rfl) ?hQ516 ?hy516 (by assumption) ?_
                case hi516 => (simp only [List.getElem?_toArray, List.getElem?_cons_succ, List.getElem?_cons_zero]; rfl)
                case hQ516 => exact fun _ _ _ h => h
                case hy516 => exact Or.inr ⟨by rfl, rfl⟩
                try simp only [Act.put, List.setIfInBounds_toArray, List.set_cons_zero, List.set_cons_succ]
                refine wpAnyH_take (i := 17) (oi := ?oi517) (v := undef) ?hi517 (by kernel_rfl) (by kernel_rfl) (by kernel_rfl) ?hQ517 ?hy517 (by assumption) ?_
                case hi517 => (simp only [List.getElem?_toArray, List.getElem?_cons_succ, List.getElem?_cons_zero]; rfl)
                case hQ517 => exact fun _ _ _ h => h
                case hy517 => exact Or.inr ⟨by rfl, rfl⟩
                try simp only [Act.put, List.setIfInBounds_toArray, List.set_cons_zero, List.set_cons_succ]
                refine wpAnyH_take (i := 18) (oi := ?oi518) (v := undef) ?hi518 (by kernel_rfl) (by kernel_rfl) (by kernel_rfl) ?hQ518 ?hy518 (by assumption) ?_
                case hi518 => (simp only [List.getElem?_toArray, List.getElem?_cons_succ, List.getElem?_cons_zero]; rfl)
                case hQ518 => exact fun _ _ _ h => h
                case hy518 => exact Or.inr ⟨by rfl, rfl⟩
                try simp only [Act.put, List.setIfInBounds_toArray, List.set_cons_zero, List.set_cons_succ]
                refine wpAnyH_take (i := 19) (oi := ?oi519) (v := undef) ?hi519 (by kernel_rfl) (by kernel_rfl) (by kernel_rfl) ?hQ519 ?hy519 (by assumption) ?_
                case hi519 => (simp only [List.getElem?_toArray, List.getElem?_cons_succ, List.getElem?_cons_zero]; rfl)
                case hQ519 => exact fun _ _ _ h => h
                case hy519 => exact Or.inr ⟨by rfl, rfl⟩
                try simp only [Act.put, List.setIfInBounds_toArray, List.set_cons_zero, List.set_cons_succ]
                refine wpAnyH_take (i := 20) (oi := ?oi520) (v := undef) ?hi520 (by kernel_rfl) (by kernel_rfl) (by kernel_rfl) ?hQ520 ?hy520 (by assumption) ?_
                case hi520 => (simp only [List.getElem?_toArray, List.getElem?_cons_succ, List.getElem?_cons_zero]; rfl)
                case hQ520 => exact fun _ _ _ h => h
                case hy520 => exact Or.inr ⟨by rfl, rfl⟩
                try simp only [Act.put, List.setIfInBounds_toArray, List.set_cons_zero, List.set_cons_succ]
                refine wpAnyH_take (i := 21) (oi := ?oi521) (v := undef) ?hi521 (by kernel_rfl) (by kernel_rfl) (by kernel_rfl) ?hQ521 ?hy521 (by assumption) ?_
                case hi521 => (simp only [List.getElem?_toArray, List.getElem?_cons_succ, List.getElem?_cons_zero]; rfl)
                case hQ521 => exact fun _ _ _ h => h
                case hy521 => exact Or.inr ⟨by rfl, rfl⟩
                try simp only [Act.put, List.setIfInBounds_toArray, List.set_cons_zero, List.set_cons_succ]
                refine wpAnyH_take (i := 22) (oi := ?oi522) (v := ?v522) ?hi522 (by kernel_rfl) (by kernel_rfl) (by kernel_rfl) ?hQ522 ?hy522 (by assumption) ?_
                case hi522 => (simp only [List.getElem?_toArray, List.getElem?_cons_succ, List.getElem?_cons_zero]; rfl)
                case hQ522 => exact fun _ _ _ h => h
                case hy522 => (refine Or.inl ⟨by rfl, ?_⟩; intro w hSw; (try dsimp only at hSw); go_simp; try with_reducible rfl)
                try simp only [Act.put, List.setIfInBounds_toArray, List.set_cons_zero, List.set_cons_succ]
                refine wpAnyH_take (i := 23) (oi := ?oi523) (v := ?v523) ?hi523 (by kernel_rfl) (by kernel_rfl) (by kernel_rfl) ?hQ523 ?hy523 (by assumption) ?_
                case hi523 => (simp only [List.getElem?_toArray, List.getElem?_cons_succ, List.getElem?_cons_zero]; rfl)
                case hQ523 => exact fun _ _ _ h => h
                case hy523 => (refine Or.inl ⟨by rfl, ?_⟩; intro w hSw; (try dsimp only at hSw); go_simp; try with_reducible rfl)
                try simp only [Act.put, List.setIfInBounds_toArray, List.set_cons_zero, List.set_cons_succ]
                refine wpAnyH_take (i := 24) (oi := ?oi524) (v := ?v524) ?hi524 (by kernel_rfl) (by kernel_rfl) (by kernel_rfl) ?hQ524 ?hy524 (by assumption) ?_
                case hi524 => (simp only [List.getElem?_toArray, List.getElem?_cons_succ, List.getElem?_cons_zero]; rfl)
                case hQ524 => exact fun _ _ _ h => h
                case hy524 => (refine Or.inl ⟨by rfl, ?_⟩; intro w hSw; (try dsimp only at hSw); go_simp; try with_reducible rfl)
                try simp only [Act.put, List.setIfInBounds_toArray, List.set_cons_zero, List.set_cons_succ]
                refine wpAnyH_take (i := 25) (oi := ?oi525) (v := ?v525) ?hi525 (by kernel_rfl) (by kernel_rfl) (by kernel_rfl) ?hQ525 ?hy525 (by assumption) ?_
                case hi525 => (simp only [List.getElem?_toArray, List.getElem?_cons_succ, List.getElem?_cons_zero]; rfl)
                case hQ525 => exact fun _ _ _ h => h
                case hy525 => (refine Or.inl ⟨by rfl, ?_⟩; intro w hSw; (try dsimp only at hSw); go_simp; try with_reducible rfl)
                try simp only [Act.put, List.setIfInBounds_toArray, List.set_cons_zero, List.set_cons_succ]
                refine wpAnyH_take (i := 26) (oi := ?oi526) (v := ?v526) ?hi526 (by kernel_rfl) (by kernel_rfl) (by kernel_rfl) ?hQ526 ?hy526 (by assumption) ?_
                case hi526 => (simp only [List.getElem?_toArray, List.getElem?_cons_succ, List.getElem?_cons_zero]; rfl)
                case hQ526 => exact fun _ _ _ h => h
                case hy526 => (refine Or.inl ⟨by rfl, ?_⟩; intro w hSw; (try dsimp only at hSw); go_simp; try with_reducible rfl)
                try simp only [Act.put, List.setIfInBounds_toArray, List.set_cons_zero, List.set_cons_succ]
                refine wpAnyH_take (i := 27) (oi := ?oi527) (v := ?v527) ?hi527 (by kernel_rfl) (by kernel_rfl) (by kernel_rfl) ?hQ527 ?hy527 (by assumption) ?_
                case hi527 => (simp only [List.getElem?_toArray, List.getElem?_cons_succ, List.getElem?_cons_zero]; rfl)
                case hQ527 => exact fun _ _ _ h => h
                case hy527 => (refine Or.inl ⟨by rfl, ?_⟩; intro w hSw; (try dsimp only at hSw); go_simp; try with_reducible rfl)
                try simp only [Act.put, List.setIfInBounds_toArray, List.set_cons_zero, List.set_cons_succ]
                refine wpAnyH_take (i := 28) (oi := ?oi528) (v := ?v528) ?hi528 (by kernel_rfl) (by kernel_rfl) (by kernel_rfl) ?hQ528 ?hy528 (by assumption) ?_
                case hi528 => (simp only [List.getElem?_toArray, List.getElem?_cons_succ, List.getElem?_cons_zero]; rfl)
                case hQ528 => exact fun _ _ _ h => h
                case hy528 => (refine Or.inl ⟨by rfl, ?_⟩; intro w hSw; (try dsimp only at hSw); go_simp; try with_reducible rfl)
                try simp only [Act.put, List.setIfInBounds_toArray, List.set_cons_zero, List.set_cons_succ]
                refine wpAnyH_take (i := 29) (oi := ?oi529) (v := ?v529) ?hi529 (by kernel_rfl) (by kernel_rfl) (by kernel_rfl) ?hQ529 ?hy529 (by assumption) ?_
                case hi529 => (simp only [List.getElem?_toArray, List.getElem?_cons_succ, List.getElem?_cons_zero]; rfl)
                case hQ529 => exact fun _ _ _ h => h
                case hy529 => (refine Or.inl ⟨by rfl, ?_⟩; intro w hSw; (try dsimp only at hSw); go_simp; try with_reducible rfl)
                try simp only [Act.put, List.setIfInBounds_toArray, List.set_cons_zero, List.set_cons_succ]
                refine wpAnyH_take (i := 30) (oi := ?oi530) (v := ?v530) ?hi530 (by kernel_rfl) (by kernel_rfl) (by kernel_rfl) ?hQ530 ?hy530 (by assumption) ?_
                case hi530 => (simp only [List.getElem?_toArray, List.getElem?_cons_succ, List.getElem?_cons_zero]; rfl)
                case hQ530 => exact fun _ _ _ h => h
                case hy530 => (refine Or.inl ⟨by rfl, ?_⟩; intro w hSw; (try dsimp only at hSw); go_simp; try with_reducible rfl)
                try simp only [Act.put, List.setIfInBounds_toArray, List.set_cons_zero, List.set_cons_succ]
                refine wpAnyH_take (i := 31) (oi := ?oi531) (v := ?v531) ?hi531 (by kernel_rfl) (by kernel_rfl) (by kernel_rfl) ?hQ531 ?hy531 (by assumption) ?_
                case hi531 => (simp only [List.getElem?_toArray, List.getElem?_cons_succ, List.getElem?_cons_zero]; rfl)
                case hQ531 => exact fun _ _ _ h => h
                case hy531 => (refine Or.inl ⟨by rfl, ?_⟩; intro w hSw; (try dsimp only at hSw); go_simp; try with_reducible rfl)
                try simp only [Act.put, List.setIfInBounds_toArray, List.set_cons_zero, List.set_cons_succ]
                refine wpAnyH_take (i := 32) (oi := ?oi532) (v := ?v532) ?hi532 (by kernel_rfl) (by kernel_rfl) (by kernel_rfl) ?hQ532 ?hy532 (by assumption) ?_
                case hi532 => (simp only [List.getElem?_toArray, List.getElem?_cons_succ, List.getElem?_cons_zero]; rfl)
                case hQ532 => exact fun _ _ _ h => h
                case hy532 => (refine Or.inl ⟨by rfl, ?_⟩; intro w hSw; (try dsimp only at hSw); go_simp; try with_reducible rfl)
                try simp only [Act.put, List.setIfInBounds_toArray, List.set_cons_zero, List.set_cons_succ]
                refine wpAnyH_take (i := 33) (oi := ?oi533) (v := ?v533) ?hi533 (by kernel_rfl) (by kernel_rfl) (by kernel_rfl) ?hQ533 ?hy533 (by assumption) ?_
                case hi533 => (simp only [List.getElem?_toArray, List.getElem?_cons_succ, List.getElem?_cons_zero]; rfl)
                case hQ533 => exact fun _ _ _ h => h
                case hy533 => (refine Or.inl ⟨by rfl, ?_⟩; intro w hSw; (try dsimp only at hSw); go_simp; try with_reducible rfl)
                try simp only [Act.put, List.setIfInBounds_toArray, List.set_cons_zero, List.set_cons_succ]
                refine wpAnyH_take (i := 34) (oi := ?oi534) (v := ?v534) ?hi534 (by kernel_rfl) (by kernel_rfl) (by kernel_rfl) ?hQ534 ?hy534 (by assumption) ?_
                case hi534 => (simp only [List.getElem?_toArray, List.getElem?_cons_succ, List.getElem?_cons_zero]; rfl)
                case hQ534 => exact fun _ _ _ h => h
                case hy534 => (refine Or.inl ⟨by rfl, ?_⟩; intro w hSw; (try dsimp only at hSw); go_simp; try with_reducible rfl)
                try simp only [Act.put, List.setIfInBounds_toArray, List.set_cons_zero, List.set_cons_succ]
                refine wpAnyH_take (i := 35) (oi := ?oi535) (v := ?v535) ?hi535 (by kernel_rfl) (by kernel_rfl) (by kernel_rfl) ?hQ535 ?hy535 (by assumption) ?_
                case hi535 => (simp only [List.getElem?_toArray, List.getElem?_cons_succ, List.getElem?_cons_zero]; rfl)
                case hQ535 => exact fun _ _ _ h => h
                case hy535 => (refine Or.inl ⟨by rfl, ?_⟩; intro w hSw; (try dsimp only at hSw); go_simp; try with_reducible rfl)
                try simp only [Act.put, List.setIfInBounds_toArray, List.set_cons_zero, List.set_cons_succ]
                refine wpAnyH_take (i := 36) (oi := ?oi536) (v := ?v536) ?hi536 (by kernel_rfl) (by kernel_rfl) (by kernel_rfl) ?hQ536 ?hy536 (by assumption) ?_
                case hi536 => (simp only [List.getElem?_toArray, List.getElem?_cons_succ, List.getElem?_cons_zero]; rfl)
                case hQ536 => exact fun _ _ _ h => h
                case hy536 => (refine Or.inl ⟨by rfl, ?_⟩; intro w hSw; (try dsimp only at hSw); go_simp; try with_reducible rfl)
                try simp only [Act.put, List.setIfInBounds_toArray, List.set_cons_zero, List.set_cons_succ]
                refine wpAnyH_take (i := 37) (oi := ?oi537) (v := ?v537) ?hi537 (by kernel_rfl) (by kernel_rfl) (by kernel_rfl) ?hQ537 ?hy537 (by assumption) ?_
                case hi537 => (simp only [List.getElem?_toArray, List.getElem?_cons_succ, List.getElem?_cons_zero]; rfl)
                case hQ537 => exact fun _ _ _ h => h
                case hy537 => (refine Or.inl ⟨by rfl, ?_⟩; intro w hSw; (try dsimp only at hSw); go_simp; try with_reducible rfl)
                try simp only [Act.put, List.setIfInBounds_toArray, List.set_cons_zero, List.set_cons_succ]
                refine wpAnyH_take (i := 38) (oi := ?oi538) (v := ?v538) ?hi538 (by kernel_rfl) (by kernel_rfl) (by kernel_rfl) ?hQ538 ?hy538 (by assumption) ?_
                case hi538 => (simp only [List.getElem?_toArray, List.getElem?_cons_succ, List.getElem?_cons_zero]; rfl)
                case hQ538 => exact fun _ _ _ h => h
                case hy538 => (refine Or.inl ⟨by rfl, ?_⟩; intro w hSw; (try dsimp only at hSw); go_simp; try with_reducible rfl)
                try simp only [Act.put, List.setIfInBounds_toArray, List.set_cons_zero, List.set_cons_succ]
                refine wpAnyH_take (i := 39) (oi := ?oi539) (v := ?v539) ?hi539 (by kernel_rfl) (by kernel_rfl) (by kernel_rfl) ?hQ539 ?hy539 (by assumption) ?_
                case hi539 => (simp only [List.getElem?_toArray, List.getElem?_cons_succ, List.getElem?_cons_zero]; rfl)
                case hQ539 => exact fun _ _ _ h => h
                case hy539 => (refine Or.inl ⟨by rfl, ?_⟩; intro w hSw; (try dsimp only at hSw); go_simp; try with_reducible rfl)
                try simp only [Act.put, List.setIfInBounds_toArray, List.set_cons_zero, List.set_cons_succ]
                refine wpAnyH_take (i := 40) (oi := ?oi540) (v := ?v540) ?hi540 (by kernel_rfl) (by kernel_rfl) (by kernel_rfl) ?hQ540 ?hy540 (by assumption) ?_
                case hi540 => (simp only [List.getElem?_toArray, List.getElem?_cons_succ, List.getElem?_cons_zero]; rfl)
                case hQ540 => exact fun _ _ _ h => h
                case hy540 => (refine Or.inl ⟨by rfl, ?_⟩; intro w hSw; (try dsimp only at hSw); go_simp; try with_reducible rfl)
                try simp only [Act.put, List.setIfInBounds_toArray, List.set_cons_zero, List.set_cons_succ]
                refine wpAnyH_take (i := 42) (oi := ?oi542) (v := ?v542) ?hi542 (by kernel_rfl) (by kernel_rfl) (by kernel_rfl) ?hQ542 ?hy542 (by assumption) ?_
                case hi542 => (simp only [List.getElem?_toArray, List.getElem?_cons_succ, List.getElem?_cons_zero]; rfl)
                case hQ542 => exact fun _ _ _ h => h
                case hy542 => (refine Or.inl ⟨by rfl, ?_⟩; intro w hSw; (try dsimp only at hSw); go_simp; try with_reducible rfl)
                try simp only [Act.put, List.setIfInBounds_toArray, List.set_cons_zero, List.set_cons_succ]
                refine wpAnyH_take (i := 43) (oi := ?oi543) (v := ?v543) ?hi543 (by kernel_rfl) (by kernel_rfl) (by kernel_rfl) ?hQ543 ?hy543 (by assumption) ?_
                case hi543 => (simp only [List.getElem?_toArray, List.getElem?_cons_succ, List.getElem?_cons_zero]; rfl)
                case hQ543 => exact fun _ _ _ h => h
                case hy543 => (refine Or.inl ⟨by rfl, ?_⟩; intro w hSw; (try dsimp only at hSw); go_simp; try with_reducible rfl)
                try simp only [Act.put, List.setIfInBounds_toArray, List.set_cons_zero, List.set_cons_succ]
                refine wpAnyH_take (i := 44) (oi := ?oi544) (v := ?v544) ?hi544 (by kernel_rfl) (by kernel_rfl) (by kernel_rfl) ?hQ544 ?hy544 (by assumption) ?_
                case hi544 => (simp only [List.getElem?_toArray, List.getElem?_cons_succ, List.getElem?_cons_zero]; rfl)
                case hQ544 => exact fun _ _ _ h => h
                case hy544 => (refine Or.inl ⟨by rfl, ?_⟩; intro w hSw; (try dsimp only at hSw); go_simp; try with_reducible rfl)
                try simp only [Act.put, List.setIfInBounds_toArray, List.set_cons_zero, List.set_cons_succ]
                refine wpAnyH_take (i := 45) (oi := ?oi545) (v := ?v545) ?hi545 (by kernel_rfl) (by kernel_rfl) (by kernel_rfl) ?hQ545 ?hy545 (by assumption) ?_
                case hi545 => (simp only [List.getElem?_toArray, List.getElem?_cons_succ, List.getElem?_cons_zero]; rfl)
                case hQ545 => exact fun _ _ _ h => h
                case hy545 => (refine Or.inl ⟨by rfl, ?_⟩; intro w hSw; (try dsimp only at hSw); go_simp; try with_reducible rfl)
                try simp only [Act.put, List.setIfInBounds_toArray, List.set_cons_zero, List.set_cons_succ]
                refine wpAnyH_take (i := 46) (oi := ?oi546) (v := ?v546) ?hi546 (by kernel_rfl) (by kernel_rfl) (by kernel_rfl) ?hQ546 ?hy546 (by assumption) ?_
                case hi546 => (simp only [List.getElem?_toArray, List.getElem?_cons_succ, List.getElem?_cons_zero]; rfl)
                case hQ546 => exact fun _ _ _ h => h
                case hy546 => (refine Or.inl ⟨by rfl, ?_⟩; intro w hSw; (try dsimp only at hSw); go_simp; try with_reducible rfl)
                try simp only [Act.put, List.setIfInBounds_toArray, List.set_cons_zero, List.set_cons_succ]
                refine wpAnyH_take (i := 47) (oi := ?oi547) (v := ?v547) ?hi547 (by kernel_rfl) (by kernel_rfl) (by kernel_rfl) ?hQ547 ?hy547 (by assumption) ?_
                case hi547 => (simp only [List.getElem?_toArray, List.getElem?_cons_succ, List.getElem?_cons_zero]; rfl)
                case hQ547 => exact fun _ _ _ h => h
                case hy547 => (refine Or.inl ⟨by rfl, ?_⟩; intro w hSw; (try dsimp only at hSw); go_simp; try with_reducible rfl)
                try simp only [Act.put, List.setIfInBounds_toArray, List.set_cons_zero, List.set_cons_succ]
                refine wpAnyH_take (i := 48) (oi := ?oi548) (v := ?v548) ?hi548 (by kernel_rfl) (by kernel_rfl) (by kernel_rfl) ?hQ548 ?hy548 (by assumption) ?_
                case hi548 => (simp only [List.getElem?_toArray, List.getElem?_cons_succ, List.getElem?_cons_zero]; rfl)
                case hQ548 => exact fun _ _ _ h => h
                case hy548 => (refine Or.inl ⟨by rfl, ?_⟩; intro w hSw; (try dsimp only at hSw); go_simp; try with_reducible rfl)
                try simp only [Act.put, List.setIfInBounds_toArray, List.set_cons_zero, List.set_cons_succ]
                refine wpAnyH_take (i := 49) (oi := ?oi549) (v := ?v549) ?hi549 (by kernel_rfl) (by kernel_rfl) (by kernel_rfl) ?hQ549 ?hy549 (by assumption) ?_
                case hi549 => (simp only [List.getElem?_toArray, List.getElem?_cons_succ, List.getElem?_cons_zero]; rfl)
                case hQ549 => exact fun _ _ _ h => h
                case hy549 => (refine Or.inl ⟨by rfl, ?_⟩; intro w hSw; (try dsimp only at hSw); go_simp; try with_reducible rfl)
                try simp only [Act.put, List.setIfInBounds_toArray, List.set_cons_zero, List.set_cons_succ]
                refine wpAnyH_ready (rs := [41]) (by kernel_rfl) (by simp) ?_
                refine AllReadyH.cons (o := ?oi541) ?ho541 (fun K hK => ?_) AllReadyH.nil
                case ho541 => (simp only [List.getElem?_toArray, List.getElem?_cons_succ, List.getElem?_cons_zero]; rfl)
                go_simp
                go_at_call 25; (with_reducible refine (cuts_any T ttl f2 tt lev now _ (HT7.out.same (sB _ (by assumption)))).mono ?_); rintro e wC ⟨rfl, hbC⟩; have hkC := sK _ _ hbC (by assumption)
                refine hK.out _ _ ?_ (fun hHeld => ?_)
                · (try dsimp only); (first | assumption | go_keep | (refine ⟨?_, ?_, ?_, ?_, ?_, ?_, ?_, ?_⟩ <;> assumption))
                clear hK K
                try simp only [Act.put, List.setIfInBounds_toArray, List.set_cons_zero, List.set_cons_succ]
                refine wpAnyH_ready (rs := [50]) (by kernel_rfl) (by simp) ?_
                refine AllReadyH.cons (o := ?oi550) ?ho550 (fun K hK => ?_) AllReadyH.nil
                case ho550 => (simp only [List.getElem?_toArray, List.getElem?_cons_succ, List.getElem?_cons_zero]; rfl)
                go_simp
                go_at_call 26; (with_reducible refine (rcuts_any v2 f2 ttl tt lev now _ (HK7.out.same (sB _ (by assumption))).at).mono ?_); rintro e wD ⟨rfl, hbD⟩; have hkD := sK _ _ hbD (by assumption)
                refine hK.out _ _ ?_ (fun hHeld => ?_)
                · (try dsimp only); (first | assumption | go_keep | (refine ⟨?_, ?_, ?_, ?_, ?_, ?_, ?_, ?_⟩ <;> assumption))
                clear hK K
                try simp only [Act.put, List.setIfInBounds_toArray, List.set_cons_zero, List.set_cons_succ]
                refine wpAnyH_take (i := 51) (oi := ?oi551) (v := ?v551) ?hi551 (by kernel_rfl) (by kernel_rfl) (by kernel_rfl) ?hQ551 ?hy551 (by assumption) ?_
                case hi551 => (simp only [List.getElem?_toArray, List.getElem?_cons_succ, List.getElem?_cons_zero]; rfl)
                case hQ551 => exact fun _ _ _ h => h
                case hy551 => (refine Or.inl ⟨by rfl, ?_⟩; intro w hSw; (try dsimp only at hSw); go_simp; try with_reducible rfl)
                try simp only [Act.put, List.setIfInBounds_toArray, List.set_cons_zero, List.set_cons_succ]
                refine wpAnyH_take (i := 52) (oi := ?oi552) (v := ?v552) ?hi552 (by kernel_rfl) (by kernel_rfl) (by kernel_rfl) ?hQ552 ?hy552 (by assumption) ?_
                case hi552 => (simp only [List.getElem?_toArray, List.getElem?_cons_succ, List.getElem?_cons_zero]; rfl)
                case hQ552 => exact fun _ _ _ h => h
                case hy552 => (refine Or.inl ⟨by rfl, ?_⟩; intro w hSw; (try dsimp only at hSw); go_simp; try with_reducible rfl)
                try simp only [Act.put, List.setIfInBounds_toArray, List.set_cons_zero, List.set_cons_succ]
                refine wpAnyH_done (by kernel_rfl) ?_ _
                have hfin := sB _ (by assumption)
                have HFin := Lib.hid hfin
                go_wp2
                exact ⟨⟨f2, k + 1, _, by omega, by go_num, rfl, TableAt.same HT7.out HFin.out, HK7.out.same HFin.out, HB7.out.trans (HFin.out.mono HB7.out.size)⟩, by simp only [intOf]; omega⟩
              · go_wp2_with fail
                rw [← hW2, ← hAA]
                clear hW2 hAA
                refine (rallK_any v2 f2 ttl now _ HK4.out.at).mono ?_
                rintro e w5 ⟨v5, rfl, ⟨a5, c5, rfl, m1, m2, hA5⟩, hb5⟩
                have hX5 := IsObj.below HX4.out hb5 HX4.out.lt
                have HT5 := Lib.hid (TableAt.same HT4.out hb5)
                have HK5 := Lib.hid (HK4.out.same hb5)
                have HB5 := Lib.hid (HB4.out.trans (hb5.mono HB4.out.size))
                have HX5 := Lib.hid hX5
                have HA5 := Lib.hid hA5
                have x1 := IsObj.cell hX5 1
                have x4 := IsObj.cell hX5 4
                have x5 := IsObj.cell hX5 5
                simp only [List.getElem?_cons_succ, List.getElem?_cons_zero] at x1 x4 x5
                clear hX5 hA5 hb5 HT4 HK4 HX4 HB4
                have G := fun w h => get_any T ttl f2 tt now w h
                rw [hkn] at G
                unfold kv Option.isSome at G
                have HG := Lib.hid G
                clear G
                go_wp2_with fail
                refine (HG.out _ HT5.out).mono ?_
                rintro e w6 ⟨rfl, hb6⟩
                obtain ⟨W7, hW7⟩ : ∃ W7, W7 = w6.alloc (.cells [.int .i64 tt, .int .i64 e0.th, .int .i64 e0.ep, .int .i64 e0.tm].toArray 36) := ⟨_, rfl⟩
                have hb67 : Below w6.heap.size w6 W7 := by rw [hW7]; exact (Below.refl _ _).alloc (Nat.le_refl _) _
                have hY7 : IsObj W7 w6.heap.size 36 [.int .i64 tt, .int .i64 e0.th, .int .i64 e0.ep, .int .i64 e0.tm] := by rw [hW7]; exact IsObj.new w6 _ _
                have hX6 := IsObj.below HX5.out hb6 HX5.out.lt
                have r1 := IsObj.cell hX6 1
                have r4 := IsObj.cell hX6 4
                have r5 := IsObj.cell hX6 5
                have rl := IsObj.lt hX6
                simp only [List.getElem?_cons_succ, List.getElem?_cons_zero] at r1 r4 r5
                clear hX6
                have hb57 : Below w5.heap.size w5 W7 := hb6.trans (hb67.mono hb6.size)
                have HX7 := IsObj.below HX5.out hb57 HX5.out.lt
                have HT7 := Lib.hid (TableAt.same HT5.out hb57)
                have HK7 := Lib.hid (HK5.out.same hb57)
                have HB7 := Lib.hid (HB5.out.trans (hb57.mono HB5.out.size))
                have hA7 := HA5.out.same knCells_len hb57
                have HA7 := Lib.hid hA7
                have HFi := Lib.hid (rfind_any a5 c5 (knL (knNow f2 ttl now)) tt W7 (Nat.le_trans hlen5 (by decide)) hA7)
                rw [hfk] at HFi
                have y1 := IsObj.cell HX7 1
                have y4 := IsObj.cell HX7 4
                have y5 := IsObj.cell HX7 5
                have z0 := IsObj.cell hY7 0
                have z1 := IsObj.cell hY7 1
                have z2 := IsObj.cell hY7 2
                have z3 := IsObj.cell hY7 3
                simp only [List.getElem?_cons_succ, List.getElem?_cons_zero] at y1 y4 y5 z0 z1 z2 z3
                have hyl := IsObj.lt hY7
                have hxl := IsObj.lt HX7
                obtain ⟨b5, o5, hab5, hc5⟩ : ∃ b5 o5, a5 = some ⟨b5, o5, none⟩ ∧ ∀ i, i < (knL (knNow f2 ttl now)).length → ∀ q, q < 4 → W7.cell? ⟨b5, o5 + i * 4 + q, none⟩ = (knCells (nth (knL (knNow f2 ttl now)) i))[q]? := by
                  rcases hA7 with h | ⟨b5, o5, h, hc⟩
                  · have h' := congrArg List.length h
                    simp only [List.length_nil] at h'
                    have h2 : (knL (knNow f2 ttl now)).length = 0 := h'
                    rw [h2] at hj
                    exact absurd hj (Nat.not_lt_zero _)
                  · exact ⟨b5, o5, h, hc⟩
                subst hab5
                obtain ⟨k0, k1, k2, k3⟩ := kn_cells hc5 j hj
                rw [hn] at k0 k1 k2 k3
                have kl := cell_lt k0
                simp only at k0 k1 k2 k3 kl
                have n1 : (0 : Int) ≤ (j : Int) := by omega
                have n2 : (j : Int) < ((knL (knNow f2 ttl now)).length : Int) := Int.ofNat_lt.2 hj
                have n3 : (j : Int) + 1 ≤ ((knL (knNow f2 ttl now)).length : Int) := by omega
                clear hc5 hn
                clear hb6 hb67 hb57 hY7 HX7 hA7 HT5 HK5 HX5 HB5 HA5 x1 x4 x5
                go_wp2_with fail
                rw [← hW7]
                clear r1 r4 r5 rl
                refine HFi.out.mono ?_
                rintro e w' ⟨rfl, rfl⟩
                obtain ⟨Y, hY⟩ : ∃ Y, Y = w6.heap.size := ⟨_, rfl⟩
                rw [← hY] at z0 z1 z2 z3 hyl ⊢
                clear hW7 hY HFi
                have hb77 : Below W7.heap.size W7 W7 := Below.refl _ _
                have sB : ∀ W, (W.cell? ⟨A, 1, none⟩ = some (.int .i64 tt) ∧ W.cell? ⟨A, 4, none⟩ = some (.int .i64 now) ∧ W.cell? ⟨A, 5, none⟩ = some (.int .i64 lev) ∧ W.cell? ⟨Y, 0, none⟩ = some (.int .i64 tt) ∧ W.cell? ⟨Y, 1, none⟩ = some (.int .i64 e0.th) ∧ W.cell? ⟨Y, 2, none⟩ = some (.int .i64 e0.ep) ∧ W.cell? ⟨Y, 3, none⟩ = some (.int .i64 e0.tm) ∧ W.cell? ⟨b5, o5 + j * 4, none⟩ = some (.int .i64 tt) ∧ W.cell? ⟨b5, o5 + j * 4 + 1, none⟩ = some (.int .i64 e0.th) ∧ W.cell? ⟨b5, o5 + j * 4 + 2, none⟩ = some (.int .i64 e0.ep) ∧ W.cell? ⟨b5, o5 + j * 4 + 3, none⟩ = some (.int .i64 e0.tm) ∧ Below W7.heap.size W7 W) → Below W7.heap.size W7 W := fun W h => h.2.2.2.2.2.2.2.2.2.2.2
                have sK : ∀ W W1, Below W.heap.size W W1 → (W.cell? ⟨A, 1, none⟩ = some (.int .i64 tt) ∧ W.cell? ⟨A, 4, none⟩ = some (.int .i64 now) ∧ W.cell? ⟨A, 5, none⟩ = some (.int .i64 lev) ∧ W.cell? ⟨Y, 0, none⟩ = some (.int .i64 tt) ∧ W.cell? ⟨Y, 1, none⟩ = some (.int .i64 e0.th) ∧ W.cell? ⟨Y, 2, none⟩ = some (.int .i64 e0.ep) ∧ W.cell? ⟨Y, 3, none⟩ = some (.int .i64 e0.tm) ∧ W.cell? ⟨b5, o5 + j * 4, none⟩ = some (.int .i64 tt) ∧ W.cell? ⟨b5, o5 + j * 4 + 1, none⟩ = some (.int .i64 e0.th) ∧ W.cell? ⟨b5, o5 + j * 4 + 2, none⟩ = some (.int .i64 e0.ep) ∧ W.cell? ⟨b5, o5 + j * 4 + 3, none⟩ = some (.int .i64 e0.tm) ∧ Below W7.heap.size W7 W) → (W1.cell? ⟨A, 1, none⟩ = some (.int .i64 tt) ∧ W1.cell? ⟨A, 4, none⟩ = some (.int .i64 now) ∧ W1.cell? ⟨A, 5, none⟩ = some (.int .i64 lev) ∧ W1.cell? ⟨Y, 0, none⟩ = some (.int .i64 tt) ∧ W1.cell? ⟨Y, 1, none⟩ = some (.int .i64 e0.th) ∧ W1.cell? ⟨Y, 2, none⟩ = some (.int .i64 e0.ep) ∧ W1.cell? ⟨Y, 3, none⟩ = some (.int .i64 e0.tm) ∧ W1.cell? ⟨b5, o5 + j * 4, none⟩ = some (.int .i64 tt) ∧ W1.cell? ⟨b5, o5 + j * 4 + 1, none⟩ = some (.int .i64 e0.th) ∧ W1.cell? ⟨b5, o5 + j * 4 + 2, none⟩ = some (.int .i64 e0.ep) ∧ W1.cell? ⟨b5, o5 + j * 4 + 3, none⟩ = some (.int .i64 e0.tm) ∧ Below W7.heap.size W7 W1) := fun W W1 hb h => ⟨cell_keep hb (h.1), cell_keep hb (h.2.1), cell_keep hb (h.2.2.1), cell_keep hb (h.2.2.2.1), cell_keep hb (h.2.2.2.2.1), cell_keep hb (h.2.2.2.2.2.1), cell_keep hb (h.2.2.2.2.2.2.1), cell_keep hb (h.2.2.2.2.2.2.2.1), cell_keep hb (h.2.2.2.2.2.2.2.2.1), cell_keep hb (h.2.2.2.2.2.2.2.2.2.1), cell_keep hb (h.2.2.2.2.2.2.2.2.2.2.1), (h.2.2.2.2.2.2.2.2.2.2.2).trans (hb.mono (h.2.2.2.2.2.2.2.2.2.2.2).size)⟩
                go_wp2_with fail
                have hb78 : Below W7.heap.size W7 W7.drew := (Below.refl _ _).drew
                refine wp_region_held_drew (S := fun w' => w'.cell? ⟨A, 1, none⟩ = some (.int .i64 tt) ∧ w'.cell? ⟨A, 4, none⟩ = some (.int .i64 now) ∧ w'.cell? ⟨A, 5, none⟩ = some (.int .i64 lev) ∧ w'.cell? ⟨Y, 0, none⟩ = some (.int .i64 tt) ∧ w'.cell? ⟨Y, 1, none⟩ = some (.int .i64 e0.th) ∧ w'.cell? ⟨Y, 2, none⟩ = some (.int .i64 e0.ep) ∧ w'.cell? ⟨Y, 3, none⟩ = some (.int .i64 e0.tm) ∧ w'.cell? ⟨b5, o5 + j * 4, none⟩ = some (.int .i64 tt) ∧ w'.cell? ⟨b5, o5 + j * 4 + 1, none⟩ = some (.int .i64 e0.th) ∧ w'.cell? ⟨b5, o5 + j * 4 + 2, none⟩ = some (.int .i64 e0.ep) ∧ w'.cell? ⟨b5, o5 + j * 4 + 3, none⟩ = some (.int .i64 e0.tm) ∧ Below W7.heap.size W7 w') (by kernel_rfl) ?_ (fun hHeld => ?_)
                · (try dsimp only); (first | assumption | go_keep | (refine ⟨?_, ?_, ?_, ?_, ?_, ?_, ?_, ?_, ?_, ?_, ?_, ?_⟩ <;> assumption))
                refine wpAnyH_take (i := 0) (oi := ?oi600) (v := ?v600) ?hi600 (by kernel_rfl) (by kernel_rfl) (by kernel_rfl) ?hQ600 ?hy600 (by assumption) ?_
                case hi600 => (simp only [List.getElem?_toArray, List.getElem?_cons_succ, List.getElem?_cons_zero]; rfl)
                case hQ600 => exact fun _ _ _ h => h
                case hy600 => (refine Or.inl ⟨by rfl, ?_⟩; intro w hSw; (try dsimp only at hSw); go_simp; try with_reducible rfl)
                try simp only [Act.put, List.setIfInBounds_toArray, List.set_cons_zero, List.set_cons_succ]
                refine wpAnyH_take (i := 1) (oi := ?oi601) (v := ?v601) ?hi601 (by kernel_rfl) (by kernel_rfl) (by kernel_rfl) ?hQ601 ?hy601 (by assumption) ?_
                case hi601 => (simp only [List.getElem?_toArray, List.getElem?_cons_succ, List.getElem?_cons_zero]; rfl)
                case hQ601 => exact fun _ _ _ h => h
                case hy601 => (refine Or.inl ⟨by rfl, ?_⟩; intro w hSw; (try dsimp only at hSw); go_simp; try with_reducible rfl)
                try simp only [Act.put, List.setIfInBounds_toArray, List.set_cons_zero, List.set_cons_succ]
                refine wpAnyH_take (i := 2) (oi := ?oi602) (v := ?v602) ?hi602 (by kernel_rfl) (by kernel_rfl) (by kernel_rfl) ?hQ602 ?hy602 (by assumption) ?_
                case hi602 => (simp only [List.getElem?_toArray, List.getElem?_cons_succ, List.getElem?_cons_zero]; rfl)
                case hQ602 => exact fun _ _ _ h => h
                case hy602 => (refine Or.inl ⟨by rfl, ?_⟩; intro w hSw; (try dsimp only at hSw); go_simp; try with_reducible rfl)
                try simp only [Act.put, List.setIfInBounds_toArray, List.set_cons_zero, List.set_cons_succ]
                refine wpAnyH_take (i := 4) (oi := ?oi604) (v := ?v604) ?hi604 (by kernel_rfl) (by kernel_rfl) (by kernel_rfl) ?hQ604 ?hy604 (by assumption) ?_
                case hi604 => (simp only [List.getElem?_toArray, List.getElem?_cons_succ, List.getElem?_cons_zero]; rfl)
                case hQ604 => exact fun _ _ _ h => h
                case hy604 => (refine Or.inl ⟨by rfl, ?_⟩; intro w hSw; (try dsimp only at hSw); go_simp; try with_reducible rfl)
                try simp only [Act.put, List.setIfInBounds_toArray, List.set_cons_zero, List.set_cons_succ]
                refine wpAnyH_ready (rs := [3]) (by kernel_rfl) (by simp) ?_
                refine AllReadyH.cons (o := ?oi603) ?ho603 (fun K hK => ?_) AllReadyH.nil
                case ho603 => (simp only [List.getElem?_toArray, List.getElem?_cons_succ, List.getElem?_cons_zero]; rfl)
                go_simp
                go_at_call 24; (with_reducible refine (tall_any T ttl f2 now _ (HT7.out.same (sB _ (by assumption)))).mono ?_); rintro e wA ⟨vA, rfl, ⟨aA, cA, rfl, p1, p2, hAA⟩, hbA⟩; have hkA := sK _ _ hbA (by assumption)
                refine hK.out _ _ ?_ (fun hHeld => ?_)
                · (try dsimp only); (first | assumption | go_keep | (refine ⟨?_, ?_, ?_, ?_, ?_, ?_, ?_, ?_, ?_, ?_, ?_, ?_⟩ <;> assumption))
                clear hK K
                try simp only [Act.put, List.setIfInBounds_toArray, List.set_cons_zero, List.set_cons_succ]
                refine wpAnyH_ready (rs := [5]) (by kernel_rfl) (by simp) ?_
                refine AllReadyH.cons (o := ?oi605) ?ho605 (fun K hK => ?_) AllReadyH.nil
                case ho605 => (simp only [List.getElem?_toArray, List.getElem?_cons_succ, List.getElem?_cons_zero]; rfl)
                go_simp
                go_at_call 23; (with_reducible refine (ksame_eq _ _ _ _ (knL (knNow f2 ttl now)) _ (Nat.le_trans hlen5 (by decide)) hAA (HA7.out.same knCells_len (sB _ (by assumption)))).mono ?_); rintro e wS ⟨rfl, hbS⟩; have hkS := sK _ _ hbS (by assumption)
                refine hK.out _ _ ?_ (fun hHeld => ?_)
                · (try dsimp only); (first | assumption | go_keep | (refine ⟨?_, ?_, ?_, ?_, ?_, ?_, ?_, ?_, ?_, ?_, ?_, ?_⟩ <;> assumption))
                clear hK K
                try simp only [Act.put, List.setIfInBounds_toArray, List.set_cons_zero, List.set_cons_succ]
                refine wpAnyH_take (i := 6) (oi := ?oi606) (v := ?v606) ?hi606 (by kernel_rfl) (by kernel_rfl) (by kernel_rfl) ?hQ606 ?hy606 (by assumption) ?_
                case hi606 => (simp only [List.getElem?_toArray, List.getElem?_cons_succ, List.getElem?_cons_zero]; rfl)
                case hQ606 => exact fun _ _ _ h => h
                case hy606 => (refine Or.inl ⟨by rfl, ?_⟩; intro w hSw; (try dsimp only at hSw); go_simp; try with_reducible rfl)
                try simp only [Act.put, List.setIfInBounds_toArray, List.set_cons_zero, List.set_cons_succ]
                refine wpAnyH_take (i := 7) (oi := ?oi607) (v := ?v607) ?hi607 (by kernel_rfl) (by kernel_rfl) (by kernel_rfl) ?hQ607 ?hy607 (by assumption) ?_
                case hi607 => (simp only [List.getElem?_toArray, List.getElem?_cons_succ, List.getElem?_cons_zero]; rfl)
                case hQ607 => exact fun _ _ _ h => h
                case hy607 => (refine Or.inl ⟨by rfl, ?_⟩; intro w hSw; (try dsimp only at hSw); go_simp; try with_reducible rfl)
                try simp only [Act.put, List.setIfInBounds_toArray, List.set_cons_zero, List.set_cons_succ]
                refine wpAnyH_take (i := 8) (oi := ?oi608) (v := ?v608) ?hi608 (by kernel_rfl) (by kernel_rfl) (by kernel_rfl) ?hQ608 ?hy608 (by assumption) ?_
                case hi608 => (simp only [List.getElem?_toArray, List.getElem?_cons_succ, List.getElem?_cons_zero]; rfl)
                case hQ608 => exact fun _ _ _ h => h
                case hy608 => (refine Or.inl ⟨by rfl, ?_⟩; intro w hSw; (try dsimp only at hSw); go_simp; try with_reducible rfl)
                try simp only [Act.put, List.setIfInBounds_toArray, List.set_cons_zero, List.set_cons_succ]
                refine wpAnyH_take (i := 9) (oi := ?oi609) (v := ?v609) ?hi609 (by kernel_rfl) (by kernel_rfl) (by kernel_rfl) ?hQ609 ?hy609 (by assumption) ?_
                case hi609 => (simp only [List.getElem?_toArray, List.getElem?_cons_succ, List.getElem?_cons_zero]; rfl)
                case hQ609 => exact fun _ _ _ h => h
                case hy609 => (refine Or.inl ⟨by rfl, ?_⟩; intro w hSw; (try dsimp only at hSw); go_simp; try with_reducible rfl)
                try simp only [Act.put, List.setIfInBounds_toArray, List.set_cons_zero, List.set_cons_succ]
                refine wpAnyH_take (i := 10) (oi := ?oi610) (v := ?v610) ?hi610 (by kernel_rfl) (by kernel_rfl) (by kernel_rfl) ?hQ610 ?hy610 (by assumption) ?_
                case hi610 => (simp only [List.getElem?_toArray, List.getElem?_cons_succ, List.getElem?_cons_zero]; rfl)
                case hQ610 => exact fun _ _ _ h => h
                case hy610 => (refine Or.inl ⟨by rfl, ?_⟩; intro w hSw; (try dsimp only at hSw); go_simp; try with_reducible rfl)
                try simp only [Act.put, List.setIfInBounds_toArray, List.set_cons_zero, List.set_cons_succ]
                refine wpAnyH_take (i := 11) (oi := ?oi611) (v := ?v611) ?hi611 (by kernel_rfl) (by kernel_rfl) (by kernel_rfl) ?hQ611 ?hy611 (by assumption) ?_
                case hi611 => (simp only [List.getElem?_toArray, List.getElem?_cons_succ, List.getElem?_cons_zero]; rfl)
                case hQ611 => exact fun _ _ _ h => h
                case hy611 => (refine Or.inl ⟨by rfl, ?_⟩; intro w hSw; (try dsimp only at hSw); go_simp; try with_reducible rfl)
                try simp only [Act.put, List.setIfInBounds_toArray, List.set_cons_zero, List.set_cons_succ]
                refine wpAnyH_take (i := 12) (oi := ?oi612) (v := ?v612) ?hi612 (by kernel_rfl) (by kernel_rfl) (by kernel_rfl) ?hQ612 ?hy612 (by assumption) ?_
                case hi612 => (simp only [List.getElem?_toArray, List.getElem?_cons_succ, List.getElem?_cons_zero]; rfl)
                case hQ612 => exact fun _ _ _ h => h
                case hy612 => (refine Or.inl ⟨by rfl, ?_⟩; intro w hSw; (try dsimp only at hSw); go_simp; try with_reducible rfl)
                try simp only [Act.put, List.setIfInBounds_toArray, List.set_cons_zero, List.set_cons_succ]
                refine wpAnyH_take (i := 13) (oi := ?oi613) (v := ?v613) ?hi613 (by kernel_rfl) (by kernel_rfl) (by kernel_rfl) ?hQ613 ?hy613 (by assumption) ?_
                case hi613 => (simp only [List.getElem?_toArray, List.getElem?_cons_succ, List.getElem?_cons_zero]; rfl)
                case hQ613 => exact fun _ _ _ h => h
                case hy613 => (refine Or.inl ⟨by rfl, ?_⟩; intro w hSw; (try dsimp only at hSw); go_simp; try with_reducible rfl)
                try simp only [Act.put, List.setIfInBounds_toArray, List.set_cons_zero, List.set_cons_succ]
                refine wpAnyH_take (i := 14) (oi := ?oi614) (v := ?v614) ?hi614 (by kernel_rfl) (by kernel_rfl) (by kernel_rfl) ?hQ614 ?hy614 (by assumption) ?_
                case hi614 => (simp only [List.getElem?_toArray, List.getElem?_cons_succ, List.getElem?_cons_zero]; rfl)
                case hQ614 => exact fun _ _ _ h => h
                case hy614 => (refine Or.inl ⟨by rfl, ?_⟩; intro w hSw; (try dsimp only at hSw); go_simp; try with_reducible rfl)
                try simp only [Act.put, List.setIfInBounds_toArray, List.set_cons_zero, List.set_cons_succ]
                refine wpAnyH_take (i := 15) (oi := ?oi615) (v := ?v615) ?hi615 (by kernel_rfl) (by kernel_rfl) (by kernel_rfl) ?hQ615 ?hy615 (by assumption) ?_
                case hi615 => (simp only [List.getElem?_toArray, List.getElem?_cons_succ, List.getElem?_cons_zero]; rfl)
                case hQ615 => exact fun _ _ _ h => h
                case hy615 => (refine Or.inl ⟨by rfl, ?_⟩; intro w hSw; (try dsimp only at hSw); go_simp; try with_reducible rfl)
                try simp only [Act.put, List.setIfInBounds_toArray, List.set_cons_zero, List.set_cons_succ]
                refine wpAnyH_take (i := 16) (oi := ?oi616) (v := ?v616) ?hi616 (by kernel_rfl) (by kernel_rfl) (by kernel_rfl) ?hQ616 ?hy616 (by assumption) ?_
                case hi616 => (simp only [List.getElem?_toArray, List.getElem?_cons_succ, List.getElem?_cons_zero]; rfl)
                case hQ616 => exact fun _ _ _ h => h
                case hy616 => (refine Or.inl ⟨by rfl, ?_⟩; intro w hSw; (try dsimp only at hSw); go_simp; try with_reducible rfl)
                try simp only [Act.put, List.setIfInBounds_toArray, List.set_cons_zero, List.set_cons_succ]
                refine wpAnyH_take (i := 17) (oi := ?oi617) (v := ?v617) ?hi617 (by kernel_rfl) (by kernel_rfl) (by kernel_rfl) ?hQ617 ?hy617 (by assumption) ?_
                case hi617 => (simp only [List.getElem?_toArray, List.getElem?_cons_succ, List.getElem?_cons_zero]; rfl)
                case hQ617 => exact fun _ _ _ h => h
                case hy617 => (refine Or.inl ⟨by rfl, ?_⟩; intro w hSw; (try dsimp only at hSw); go_simp; try with_reducible rfl)
                try simp only [Act.put, List.setIfInBounds_toArray, List.set_cons_zero, List.set_cons_succ]
                refine wpAnyH_take (i := 18) (oi := ?oi618) (v := ?v618) ?hi618 (by kernel_rfl) (by kernel_rfl) (by kernel_rfl) ?hQ618 ?hy618 (by assumption) ?_
                case hi618 => (simp only [List.getElem?_toArray, List.getElem?_cons_succ, List.getElem?_cons_zero]; rfl)
                case hQ618 => exact fun _ _ _ h => h
                case hy618 => (refine Or.inl ⟨by rfl, ?_⟩; intro w hSw; (try dsimp only at hSw); go_simp; try with_reducible rfl)
                try simp only [Act.put, List.setIfInBounds_toArray, List.set_cons_zero, List.set_cons_succ]
                refine wpAnyH_take (i := 19) (oi := ?oi619) (v := ?v619) ?hi619 (by kernel_rfl) (by kernel_rfl) (by kernel_rfl) ?hQ619 ?hy619 (by assumption) ?_
                case hi619 => (simp only [List.getElem?_toArray, List.getElem?_cons_succ, List.getElem?_cons_zero]; rfl)
                case hQ619 => exact fun _ _ _ h => h
                case hy619 => (refine Or.inl ⟨by rfl, ?_⟩; intro w hSw; (try dsimp only at hSw); go_simp; try with_reducible rfl)
                try simp only [Act.put, List.setIfInBounds_toArray, List.set_cons_zero, List.set_cons_succ]
                refine wpAnyH_take (i := 20) (oi := ?oi620) (v := ?v620) ?hi620 (by kernel_rfl) (by kernel_rfl) (by kernel_rfl) ?hQ620 ?hy620 (by assumption) ?_
                case hi620 => (simp only [List.getElem?_toArray, List.getElem?_cons_succ, List.getElem?_cons_zero]; rfl)
                case hQ620 => exact fun _ _ _ h => h
                case hy620 => (refine Or.inl ⟨by rfl, ?_⟩; intro w hSw; (try dsimp only at hSw); go_simp; try with_reducible rfl)
                try simp only [Act.put, List.setIfInBounds_toArray, List.set_cons_zero, List.set_cons_succ]
                refine wpAnyH_take (i := 21) (oi := ?oi621) (v := ?v621) ?hi621 (by kernel_rfl) (by kernel_rfl) (by kernel_rfl) ?hQ621 ?hy621 (by assumption) ?_
                case hi621 => (simp only [List.getElem?_toArray, List.getElem?_cons_succ, List.getElem?_cons_zero]; rfl)
                case hQ621 => exact fun _ _ _ h => h
                case hy621 => (refine Or.inl ⟨by rfl, ?_⟩; intro w hSw; (try dsimp only at hSw); go_simp; try with_reducible rfl)
                try simp only [Act.put, List.setIfInBounds_toArray, List.set_cons_zero, List.set_cons_succ]
                refine wpAnyH_take (i := 22) (oi := ?oi622) (v := ?v622) ?hi622 (by kernel_rfl) (by kernel_rfl) (by kernel_rfl) ?hQ622 ?hy622 (by assumption) ?_
                case hi622 => (simp only [List.getElem?_toArray, List.getElem?_cons_succ, List.getElem?_cons_zero]; rfl)
                case hQ622 => exact fun _ _ _ h => h
                case hy622 => (refine Or.inl ⟨by rfl, ?_⟩; intro w hSw; (try dsimp only at hSw); go_simp; try with_reducible rfl)
                try simp only [Act.put, List.setIfInBounds_toArray, List.set_cons_zero, List.set_cons_succ]
                refine wpAnyH_take (i := 23) (oi := ?oi623) (v := ?v623) ?hi623 (by kernel_rfl) (by kernel_rfl) (by kernel_rfl) ?hQ623 ?hy623 (by assumption) ?_
                case hi623 => (simp only [List.getElem?_toArray, List.getElem?_cons_succ, List.getElem?_cons_zero]; rfl)
                case hQ623 => exact fun _ _ _ h => h
                case hy623 => (refine Or.inl ⟨by rfl, ?_⟩; intro w hSw; (try dsimp only at hSw); go_simp; try with_reducible rfl)
                try simp only [Act.put, List.setIfInBounds_toArray, List.set_cons_zero, List.set_cons_succ]
                refine wpAnyH_take (i := 24) (oi := ?oi624) (v := ?v624) ?hi624 (by kernel_rfl) (by kernel_rfl) (by kernel_rfl) ?hQ624 ?hy624 (by assumption) ?_
                case hi624 => (simp only [List.getElem?_toArray, List.getElem?_cons_succ, List.getElem?_cons_zero]; rfl)
                case hQ624 => exact fun _ _ _ h => h
                case hy624 => (refine Or.inl ⟨by rfl, ?_⟩; intro w hSw; (try dsimp only at hSw); go_simp; try with_reducible rfl)
                try simp only [Act.put, List.setIfInBounds_toArray, List.set_cons_zero, List.set_cons_succ]
                refine wpAnyH_take (i := 25) (oi := ?oi625) (v := ?v625) ?hi625 (by kernel_rfl) (by kernel_rfl) (by kernel_rfl) ?hQ625 ?hy625 (by assumption) ?_
                case hi625 => (simp only [List.getElem?_toArray, List.getElem?_cons_succ, List.getElem?_cons_zero]; rfl)
                case hQ625 => exact fun _ _ _ h => h
                case hy625 => (refine Or.inl ⟨by rfl, ?_⟩; intro w hSw; (try dsimp only at hSw); go_simp; try with_reducible rfl)
                try simp only [Act.put, List.setIfInBounds_toArray, List.set_cons_zero, List.set_cons_succ]
                refine wpAnyH_take (i := 26) (oi := ?oi626) (v := ?v626) ?hi626 (by kernel_rfl) (by kernel_rfl) (by kernel_rfl) ?hQ626 ?hy626 (by assumption) ?_
                case hi626 => (simp only [List.getElem?_toArray, List.getElem?_cons_succ, List.getElem?_cons_zero]; rfl)
                case hQ626 => exact fun _ _ _ h => h
                case hy626 => (refine Or.inl ⟨by rfl, ?_⟩; intro w hSw; (try dsimp only at hSw); go_simp; try with_reducible rfl)
                try simp only [Act.put, List.setIfInBounds_toArray, List.set_cons_zero, List.set_cons_succ]
                refine wpAnyH_take (i := 27) (oi := ?oi627) (v := ?v627) ?hi627 (by kernel_rfl) (by kernel_rfl) (by kernel_rfl) ?hQ627 ?hy627 (by assumption) ?_
                case hi627 => (simp only [List.getElem?_toArray, List.getElem?_cons_succ, List.getElem?_cons_zero]; rfl)
                case hQ627 => exact fun _ _ _ h => h
                case hy627 => (refine Or.inl ⟨by rfl, ?_⟩; intro w hSw; (try dsimp only at hSw); go_simp; try with_reducible rfl)
                try simp only [Act.put, List.setIfInBounds_toArray, List.set_cons_zero, List.set_cons_succ]
                refine wpAnyH_take (i := 28) (oi := ?oi628) (v := undef) ?hi628 (by kernel_rfl) (by kernel_rfl) (by kernel_rfl) ?hQ628 ?hy628 (by assumption) ?_
                case hi628 => (simp only [List.getElem?_toArray, List.getElem?_cons_succ, List.getElem?_cons_zero]; rfl)
                case hQ628 => exact fun _ _ _ h => h
                case hy628 => exact Or.inr ⟨by rfl, rfl⟩
                try simp only [Act.put, List.setIfInBounds_toArray, List.set_cons_zero, List.set_cons_succ]
                refine wpAnyH_take (i := 29) (oi := ?oi629) (v := undef) ?hi629 (by kernel_rfl) (by kernel_rfl) (by kernel_rfl) ?hQ629 ?hy629 (by assumption) ?_
                case hi629 => (simp only [List.getElem?_toArray, List.getElem?_cons_succ, List.getElem?_cons_zero]; rfl)
                case hQ629 => exact fun _ _ _ h => h
                case hy629 => exact Or.inr ⟨by rfl, rfl⟩
                try simp only [Act.put, List.setIfInBounds_toArray, List.set_cons_zero, List.set_cons_succ]
                refine wpAnyH_take (i := 30) (oi := ?oi630) (v := undef) ?hi630 (by kernel_rfl) (by kernel_rfl) (by kernel_rfl) ?hQ630 ?hy630 (by assumption) ?_
                case hi630 => (simp only [List.getElem?_toArray, List.getElem?_cons_succ, List.getElem?_cons_zero]; rfl)
                case hQ630 => exact fun _ _ _ h => h
                case hy630 => exact Or.inr ⟨by rfl, rfl⟩
                try simp only [Act.put, List.setIfInBounds_toArray, List.set_cons_zero, List.set_cons_succ]
                refine wpAnyH_take (i := 31) (oi := ?oi631) (v := ?v631) ?hi631 (by kernel_rfl) (by kernel_rfl) (by kernel_rfl) ?hQ631 ?hy631 (by assumption) ?_
                case hi631 => (simp only [List.getElem?_toArray, List.getElem?_cons_succ, List.getElem?_cons_zero]; rfl)
                case hQ631 => exact fun _ _ _ h => h
                case hy631 => (refine Or.inl ⟨by rfl, ?_⟩; intro w hSw; (try dsimp only at hSw); go_simp; try with_reducible rfl)
                try simp only [Act.put, List.setIfInBounds_toArray, List.set_cons_zero, List.set_cons_succ]
                refine wpAnyH_take (i := 32) (oi := ?oi632) (v := ?v632) ?hi632 (by kernel_rfl) (by kernel_rfl) (by kernel_rfl) ?hQ632 ?hy632 (by assumption) ?_
                case hi632 => (simp only [List.getElem?_toArray, List.getElem?_cons_succ, List.getElem?_cons_zero]; rfl)
                case hQ632 => exact fun _ _ _ h => h
                case hy632 => (refine Or.inl ⟨by rfl, ?_⟩; intro w hSw; (try dsimp only at hSw); go_simp; try with_reducible rfl)
                try simp only [Act.put, List.setIfInBounds_toArray, List.set_cons_zero, List.set_cons_succ]
                refine wpAnyH_take (i := 33) (oi := ?oi633) (v := ?v633) ?hi633 (by kernel_rfl) (by kernel_rfl) (by kernel_rfl) ?hQ633 ?hy633 (by assumption) ?_
                case hi633 => (simp only [List.getElem?_toArray, List.getElem?_cons_succ, List.getElem?_cons_zero]; rfl)
                case hQ633 => exact fun _ _ _ h => h
                case hy633 => (refine Or.inl ⟨by rfl, ?_⟩; intro w hSw; (try dsimp only at hSw); go_simp; try with_reducible rfl)
                try simp only [Act.put, List.setIfInBounds_toArray, List.set_cons_zero, List.set_cons_succ]
                refine wpAnyH_take (i := 34) (oi := ?oi634) (v := ?v634) ?hi634 (by kernel_rfl) (by kernel_rfl) (by kernel_rfl) ?hQ634 ?hy634 (by assumption) ?_
                case hi634 => (simp only [List.getElem?_toArray, List.getElem?_cons_succ, List.getElem?_cons_zero]; rfl)
                case hQ634 => exact fun _ _ _ h => h
                case hy634 => (refine Or.inl ⟨by rfl, ?_⟩; intro w hSw; (try dsimp only at hSw); go_simp; try with_reducible rfl)
                try simp only [Act.put, List.setIfInBounds_toArray, List.set_cons_zero, List.set_cons_succ]
                refine wpAnyH_take (i := 35) (oi := ?oi635) (v := ?v635) ?hi635 (by kernel_rfl) (by kernel_rfl) (by kernel_rfl) ?hQ635 ?hy635 (by assumption) ?_
                case hi635 => (simp only [List.getElem?_toArray, List.getElem?_cons_succ, List.getElem?_cons_zero]; rfl)
                case hQ635 => exact fun _ _ _ h => h
                case hy635 => (refine Or.inl ⟨by rfl, ?_⟩; intro w hSw; (try dsimp only at hSw); go_simp; try with_reducible rfl)
                try simp only [Act.put, List.setIfInBounds_toArray, List.set_cons_zero, List.set_cons_succ]
                refine wpAnyH_take (i := 36) (oi := ?oi636) (v := ?v636) ?hi636 (by kernel_rfl) (by kernel_rfl) (by kernel_rfl) ?hQ636 ?hy636 (by assumption) ?_
                case hi636 => (simp only [List.getElem?_toArray, List.getElem?_cons_succ, List.getElem?_cons_zero]; rfl)
                case hQ636 => exact fun _ _ _ h => h
                case hy636 => (refine Or.inl ⟨by rfl, ?_⟩; intro w hSw; (try dsimp only at hSw); go_simp; try with_reducible rfl)
                try simp only [Act.put, List.setIfInBounds_toArray, List.set_cons_zero, List.set_cons_succ]
                refine wpAnyH_take (i := 37) (oi := ?oi637) (v := ?v637) ?hi637 (by kernel_rfl) (by kernel_rfl) (by kernel_rfl) ?hQ637 ?hy637 (by assumption) ?_
                case hi637 => (simp only [List.getElem?_toArray, List.getElem?_cons_succ, List.getElem?_cons_zero]; rfl)
                case hQ637 => exact fun _ _ _ h => h
                case hy637 => (refine Or.inl ⟨by rfl, ?_⟩; intro w hSw; (try dsimp only at hSw); go_simp; try with_reducible rfl)
                try simp only [Act.put, List.setIfInBounds_toArray, List.set_cons_zero, List.set_cons_succ]
                refine wpAnyH_take (i := 38) (oi := ?oi638) (v := ?v638) ?hi638 (by kernel_rfl) (by kernel_rfl) (by kernel_rfl) ?hQ638 ?hy638 (by assumption) ?_
                case hi638 => (simp only [List.getElem?_toArray, List.getElem?_cons_succ, List.getElem?_cons_zero]; rfl)
                case hQ638 => exact fun _ _ _ h => h
                case hy638 => (refine Or.inl ⟨by rfl, ?_⟩; intro w hSw; (try dsimp only at hSw); go_simp; try with_reducible rfl)
                try simp only [Act.put, List.setIfInBounds_toArray, List.set_cons_zero, List.set_cons_succ]
                refine wpAnyH_take (i := 39) (oi := ?oi639) (v := ?v639) ?hi639 (by kernel_rfl) (by kernel_rfl) (by kernel_rfl) ?hQ639 ?hy639 (by assumption) ?_
                case hi639 => (simp only [List.getElem?_toArray, List.getElem?_cons_succ, List.getElem?_cons_zero]; rfl)
                case hQ639 => exact fun _ _ _ h => h
                case hy639 => (refine Or.inl ⟨by rfl, ?_⟩; intro w hSw; (try dsimp only at hSw); go_simp; try with_reducible rfl)
                try simp only [Act.put, List.setIfInBounds_toArray, List.set_cons_zero, List.set_cons_succ]
                refine wpAnyH_take (i := 40) (oi := ?oi640) (v := ?v640) ?hi640 (by kernel_rfl) (by kernel_rfl) (by kernel_rfl) ?hQ640 ?hy640 (by assumption) ?_
                case hi640 => (simp only [List.getElem?_toArray, List.getElem?_cons_succ, List.getElem?_cons_zero]; rfl)
                case hQ640 => exact fun _ _ _ h => h
                case hy640 => (refine Or.inl ⟨by rfl, ?_⟩; intro w hSw; (try dsimp only at hSw); go_simp; try with_reducible rfl)
                try simp only [Act.put, List.setIfInBounds_toArray, List.set_cons_zero, List.set_cons_succ]
                refine wpAnyH_take (i := 42) (oi := ?oi642) (v := ?v642) ?hi642 (by kernel_rfl) (by kernel_rfl) (by kernel_rfl) ?hQ642 ?hy642 (by assumption) ?_
                case hi642 => (simp only [List.getElem?_toArray, List.getElem?_cons_succ, List.getElem?_cons_zero]; rfl)
                case hQ642 => exact fun _ _ _ h => h
                case hy642 => (refine Or.inl ⟨by rfl, ?_⟩; intro w hSw; (try dsimp only at hSw); go_simp; try with_reducible rfl)
                try simp only [Act.put, List.setIfInBounds_toArray, List.set_cons_zero, List.set_cons_succ]
                refine wpAnyH_take (i := 43) (oi := ?oi643) (v := ?v643) ?hi643 (by kernel_rfl) (by kernel_rfl) (by kernel_rfl) ?hQ643 ?hy643 (by assumption) ?_
                case hi643 => (simp only [List.getElem?_toArray, List.getElem?_cons_succ, List.getElem?_cons_zero]; rfl)
                case hQ643 => exact fun _ _ _ h => h
                case hy643 => (refine Or.inl ⟨by rfl, ?_⟩; intro w hSw; (try dsimp only at hSw); go_simp; try with_reducible rfl)
                try simp only [Act.put, List.setIfInBounds_toArray, List.set_cons_zero, List.set_cons_succ]
                refine wpAnyH_take (i := 44) (oi := ?oi644) (v := ?v644) ?hi644 (by kernel_rfl) (by kernel_rfl) (by kernel_rfl) ?hQ644 ?hy644 (by assumption) ?_
                case hi644 => (simp only [List.getElem?_toArray, List.getElem?_cons_succ, List.getElem?_cons_zero]; rfl)
                case hQ644 => exact fun _ _ _ h => h
                case hy644 => (refine Or.inl ⟨by rfl, ?_⟩; intro w hSw; (try dsimp only at hSw); go_simp; try with_reducible rfl)
                try simp only [Act.put, List.setIfInBounds_toArray, List.set_cons_zero, List.set_cons_succ]
                refine wpAnyH_take (i := 45) (oi := ?oi645) (v := ?v645) ?hi645 (by kernel_rfl) (by kernel_rfl) (by kernel_rfl) ?hQ645 ?hy645 (by assumption) ?_
                case hi645 => (simp only [List.getElem?_toArray, List.getElem?_cons_succ, List.getElem?_cons_zero]; rfl)
                case hQ645 => exact fun _ _ _ h => h
                case hy645 => (refine Or.inl ⟨by rfl, ?_⟩; intro w hSw; (try dsimp only at hSw); go_simp; try with_reducible rfl)
                try simp only [Act.put, List.setIfInBounds_toArray, List.set_cons_zero, List.set_cons_succ]
                refine wpAnyH_take (i := 46) (oi := ?oi646) (v := ?v646) ?hi646 (by kernel_rfl) (by kernel_rfl) (by kernel_rfl) ?hQ646 ?hy646 (by assumption) ?_
                case hi646 => (simp only [List.getElem?_toArray, List.getElem?_cons_succ, List.getElem?_cons_zero]; rfl)
                case hQ646 => exact fun _ _ _ h => h
                case hy646 => (refine Or.inl ⟨by rfl, ?_⟩; intro w hSw; (try dsimp only at hSw); go_simp; try with_reducible rfl)
                try simp only [Act.put, List.setIfInBounds_toArray, List.set_cons_zero, List.set_cons_succ]
                refine wpAnyH_take (i := 47) (oi := ?oi647) (v := ?v647) ?hi647 (by kernel_rfl) (by kernel_rfl) (by kernel_rfl) ?hQ647 ?hy647 (by assumption) ?_
                case hi647 => (simp only [List.getElem?_toArray, List.getElem?_cons_succ, List.getElem?_cons_zero]; rfl)
                case hQ647 => exact fun _ _ _ h => h
                case hy647 => (refine Or.inl ⟨by rfl, ?_⟩; intro w hSw; (try dsimp only at hSw); go_simp; try with_reducible rfl)
                try simp only [Act.put, List.setIfInBounds_toArray, List.set_cons_zero, List.set_cons_succ]
                refine wpAnyH_take (i := 48) (oi := ?oi648) (v := ?v648) ?hi648 (by kernel_rfl) (by kernel_rfl) (by kernel_rfl) ?hQ648 ?hy648 (by assumption) ?_
                case hi648 => (simp only [List.getElem?_toArray, List.getElem?_cons_succ, List.getElem?_cons_zero]; rfl)
                case hQ648 => exact fun _ _ _ h => h
                case hy648 => (refine Or.inl ⟨by rfl, ?_⟩; intro w hSw; (try dsimp only at hSw); go_simp; try with_reducible rfl)
                try simp only [Act.put, List.setIfInBounds_toArray, List.set_cons_zero, List.set_cons_succ]
                refine wpAnyH_take (i := 49) (oi := ?oi649) (v := ?v649) ?hi649 (by kernel_rfl) (by kernel_rfl) (by kernel_rfl) ?hQ649 ?hy649 (by assumption) ?_
                case hi649 => (simp only [List.getElem?_toArray, List.getElem?_cons_succ, List.getElem?_cons_zero]; rfl)
                case hQ649 => exact fun _ _ _ h => h
                case hy649 => (refine Or.inl ⟨by rfl, ?_⟩; intro w hSw; (try dsimp only at hSw); go_simp; try with_reducible rfl)
                try simp only [Act.put, List.setIfInBounds_toArray, List.set_cons_zero, List.set_cons_succ]
                refine wpAnyH_ready (rs := [41]) (by kernel_rfl) (by simp) ?_
                refine AllReadyH.cons (o := ?oi641) ?ho641 (fun K hK => ?_) AllReadyH.nil
                case ho641 => (simp only [List.getElem?_toArray, List.getElem?_cons_succ, List.getElem?_cons_zero]; rfl)
                go_simp
                go_at_call 25; (with_reducible refine (cuts_any T ttl f2 tt lev now _ (HT7.out.same (sB _ (by assumption)))).mono ?_); rintro e wC ⟨rfl, hbC⟩; have hkC := sK _ _ hbC (by assumption)
                refine hK.out _ _ ?_ (fun hHeld => ?_)
                · (try dsimp only); (first | assumption | go_keep | (refine ⟨?_, ?_, ?_, ?_, ?_, ?_, ?_, ?_, ?_, ?_, ?_, ?_⟩ <;> assumption))
                clear hK K
                try simp only [Act.put, List.setIfInBounds_toArray, List.set_cons_zero, List.set_cons_succ]
                refine wpAnyH_ready (rs := [50]) (by kernel_rfl) (by simp) ?_
                refine AllReadyH.cons (o := ?oi650) ?ho650 (fun K hK => ?_) AllReadyH.nil
                case ho650 => (simp only [List.getElem?_toArray, List.getElem?_cons_succ, List.getElem?_cons_zero]; rfl)
                go_simp
                go_at_call 26; (with_reducible refine (rcuts_any v2 f2 ttl tt lev now _ (HK7.out.same (sB _ (by assumption))).at).mono ?_); rintro e wD ⟨rfl, hbD⟩; have hkD := sK _ _ hbD (by assumption)
                refine hK.out _ _ ?_ (fun hHeld => ?_)
                · (try dsimp only); (first | assumption | go_keep | (refine ⟨?_, ?_, ?_, ?_, ?_, ?_, ?_, ?_, ?_, ?_, ?_, ?_⟩ <;> assumption))
                clear hK K
                try simp only [Act.put, List.setIfInBounds_toArray, List.set_cons_zero, List.set_cons_succ]
                refine wpAnyH_take (i := 51) (oi := ?oi651) (v := ?v651) ?hi651 (by kernel_rfl) (by kernel_rfl) (by kernel_rfl) ?hQ651 ?hy651 (by assumption) ?_
                case hi651 => (simp only [List.getElem?_toArray, List.getElem?_cons_succ, List.getElem?_cons_zero]; rfl)
                case hQ651 => exact fun _ _ _ h => h
                case hy651 => (refine Or.inl ⟨by rfl, ?_⟩; intro w hSw; (try dsimp only at hSw); go_simp; try with_reducible rfl)
                try simp only [Act.put, List.setIfInBounds_toArray, List.set_cons_zero, List.set_cons_succ]
                refine wpAnyH_take (i := 52) (oi := ?oi652) (v := ?v652) ?hi652 (by kernel_rfl) (by kernel_rfl) (by kernel_rfl) ?hQ652 ?hy652 (by assumption) ?_
                case hi652 => (simp only [List.getElem?_toArray, List.getElem?_cons_succ, List.getElem?_cons_zero]; rfl)
                case hQ652 => exact fun _ _ _ h => h
                case hy652 => (refine Or.inl ⟨by rfl, ?_⟩; intro w hSw; (try dsimp only at hSw); go_simp; try with_reducible rfl)
                try simp only [Act.put, List.setIfInBounds_toArray, List.set_cons_zero, List.set_cons_succ]
                refine wpAnyH_done (by kernel_rfl) ?_ _
                have hfin := sB _ (by assumption)
                have HFin := Lib.hid hfin
                go_wp2
                exact ⟨⟨f2, k + 1, _, by omega, by go_num, rfl, TableAt.same HT7.out HFin.out, HK7.out.same HFin.out, HB7.out.trans (HFin.out.mono HB7.out.size)⟩, by simp only [intOf]; omega⟩
        · obtain rfl : k = l.length := by omega
          clear hArow
          go_wp2_with (go_at_call 15; refine (HZ.out _).mono ?_; rintro e w5 ⟨rfl, hb5⟩)
          go_ret
          exact ⟨rfl, HBr.out.trans (hb5.mono HBr.out.size)⟩

theorem tlearns_done : Walk 3 Try.f3 := by
  intro W args hs hc
  rw [Try.params3] at hs hc
  obtain ⟨l⟩ := args
  match l, hs with
  | [v0, v1], _ =>
    obtain ⟨n, rfl, _⟩ := came_int Try.underlying3 (hc 0 3 v0 rfl rfl)
    obtain ⟨a, c, l, rfl, g1, g2, _, hl⟩ := row_of_sl (k := 6) (cells := tactCells) (fun _ => True) (by omega) tact_of (came_slice Try.underlying22 (ps := [IsI .i64, IsI .i64, IsI .i64, IsI .i64, IsI .i64, IsI .i64]) (by kernel_rfl) opens_tact (hc 1 22 v1 rfl rfl))
    exact tlearns_walk n a c l W g1 g2 hl
end Go.Proofs.Ytjifgeplgohpeaa
