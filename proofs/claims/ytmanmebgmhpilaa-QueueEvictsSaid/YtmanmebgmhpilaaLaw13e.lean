/-
  The statement QueueEvicts of layer 13 (queue). No condition.
-/
import Derived.Test.YtmanmebgmhpilaaQp
import Derived.Deep.CutBlock
import Derived.Deep.CutRange
namespace Go.Proofs.Ytmanmebgmhpilaa
open Go.RowKit
set_option linter.unusedVariables false
set_option linter.unusedSimpArgs false

structure QeAt (w wr : World) (q p M : Nat) (most : Int) (tv : Value) (T X : List It) : Prop where
  Q : QAt wr q p M most tv T
  hp : Heap T
  m : Mir T X
  B : Below w.heap.size w wr
  ge : w.heap.size ≤ M ∧ w.heap.size ≤ p
  lm : (T.length : Int) ≤ most
theorem QeAt.same {w wr w' : World} {q p M : Nat} {most : Int} {tv : Value} {T X : List It} (h : QeAt w wr q p M most tv T X) (hb : Below wr.heap.size wr w') : QeAt w w' q p M most tv T X :=
  ⟨h.Q.same hb, h.hp, h.m, h.B.trans (hb.mono h.B.size), h.ge, h.lm⟩
theorem QeAt.under {w wr w' : World} {q p M : Nat} {most : Int} {tv tv' : Value} {T X : List It} (h : QeAt w wr q p M most tv T X) (f : Frp p M tv tv' wr w') : Below w.heap.size w w' := f.under h.Q.h h.B h.ge
theorem QeAt.len {w wr : World} {q p M : Nat} {most : Int} {tv : Value} {T X : List It} (h : QeAt w wr q p M most tv T X) : X.length ≤ 64 := by
  rw [h.m.len]
  exact h.Q.h.len64
/-- None of these is worse than the one that must go, none is of a greater level, none has its id. -/
def Least (X : List It) (y : It) : Prop := ∀ i, i < X.length → wrs (nth X i) y = false ∧ (nth X i).lev ≤ y.lev ∧ (nth X i).id ≠ y.id
theorem not_wrs {z y : It} (h : wrs z y = false) : z.lev ≤ y.lev := by
  rw [Bool.eq_false_iff, ne_eq, wrs_iff] at h
  unfold Wors at h
  omega
theorem mem_at {X : List It} {z : It} (h : z ∈ X) : ∃ i, i < X.length ∧ nth X i = z := by
  obtain ⟨i, hi, he⟩ := List.mem_iff_getElem.1 h
  exact ⟨i, hi, by rw [nth_lt X i hi]; exact he⟩
theorem keep_least {X : List It} {x : It} (hin : x.id ∉ X.map It.id) (h : vict (X ++ [x]) (X.length + 1) = X.length) : Least X x := by
  intro i hi
  have h2 := (vict_worst (X ++ [x]) (X.length + 1) (by omega)).2.1 i (by omega)
  rw [h, nth_app_old hi, nth_app_new] at h2
  exact ⟨h2, not_wrs h2, fun he => hin (by rw [← he]; exact nth_mem hi)⟩
theorem evict_least {X : List It} {x : It} {k : Nat} (hk : k < X.length) (hv : vict (X ++ [x]) (X.length + 1) = k) (hn : (X.map It.id).Nodup) (hin : x.id ∉ X.map It.id) : Least (ssort ((X.take k ++ X.drop (k + 1)) ++ [x])) (nth X k) := by
  intro i hi
  have hm : nth (ssort ((X.take k ++ X.drop (k + 1)) ++ [x])) i ∈ (X.take k ++ X.drop (k + 1)) ++ [x] := (ssort_perm _).mem_iff.1 (nth_in hi)
  generalize nth (ssort ((X.take k ++ X.drop (k + 1)) ++ [x])) i = z at *
  have hw := (vict_worst (X ++ [x]) (X.length + 1) (by omega)).2.1
  rw [hv, nth_app_old hk] at hw
  have hsplit : X = X.take k ++ nth X k :: X.drop (k + 1) := by
    rw [nth_lt X k hk, List.getElem_cons_drop, List.take_append_drop]
  have hne : ∀ u ∈ X.take k ++ X.drop (k + 1), u.id ≠ (nth X k).id := by
    intro u hu he
    generalize nth X k = y at *
    rw [hsplit, List.map_append, List.map_cons] at hn
    obtain ⟨_, h2, h3⟩ := List.nodup_append.1 hn
    rcases List.mem_append.1 hu with hu | hu
    · exact h3 _ (List.mem_map_of_mem hu) _ (List.mem_cons_self ..) he
    · exact (List.nodup_cons.1 h2).1 (by rw [← he]; exact List.mem_map_of_mem hu)
  rcases List.mem_append.1 hm with h | h
  · have hX : z ∈ X := by
      rcases List.mem_append.1 h with h | h
      · exact List.mem_of_mem_take h
      · exact List.mem_of_mem_drop h
    obtain ⟨j, hj, rfl⟩ := mem_at hX
    have h2 := hw j (by omega)
    rw [nth_app_old hj] at h2
    exact ⟨h2, not_wrs h2, hne _ h⟩
  · obtain rfl := List.mem_singleton.1 h
    have h2 := hw X.length (by omega)
    rw [nth_app_new] at h2
    exact ⟨h2, not_wrs h2, fun he => hin (by rw [he]; exact nth_mem hk)⟩
theorem stays_end (now : Int) (X : List It) : ∀ i, i < (stays now X).length → endV (nth (stays now X) i) now = 0 := by
  intro i hi
  have h := nth_in hi
  generalize nth (stays now X) i = z at *
  unfold stays at h
  have h2 := (List.mem_filter.1 h).2
  simpa [over] using h2

set_option maxRecDepth 100000 in
set_option maxHeartbeats 16000000 in
theorem qevicts_walk (m8 : Int) (hm0 : 0 ≤ m8) (hm8 : m8 < 256) (a : Option Addr) (c : Nat) (l : List Ad) (w : World) (hc : l.length ≤ c) (hcm : c ≤ 9223372036854775807) (hwf : ∀ i, i < l.length → IdOk (nth l i).x.id) (hA : RowOf adCells 9 w a l) :
    Calls Try.prog 7 #[.int .u8 m8, .slice a l.length c] w fun e w' => e = .returned (.bool true) ∧ Below w.heap.size w w' := by
  by_cases h100 : 100 < l.length
  · have hz : (100 : Int) < (l.length : Int) := by omega
    clear hA
    go_enter Try.func7, Try.ntmps7
    go_wp2_with (go_at_call 29; refine (awake13 _).mono ?_; rintro e w1 ⟨rfl, hb⟩)
    go_ret
    exact ⟨rfl, hb⟩
  · have hz : ¬ (100 : Int) < (l.length : Int) := by omega
    obtain ⟨most, hmost⟩ : ∃ most, most = 1 + m8 % 64 := ⟨_, rfl⟩
    have hw0 : IntKind.i64.wrap m8 = m8 := IntWalk.i64_in _ (by omega)
    have ht : 0 ≤ m8 % 64 ∧ m8 % 64 < 64 := by omega
    have hw1 : IntKind.i64.wrap (m8 % 64) = m8 % 64 := IntWalk.i64_in _ (by omega)
    have hw2 : IntKind.i64.wrap (1 + m8 % 64) = 1 + m8 % 64 := IntWalk.i64_in _ (by omega)
    have h0 : 1 ≤ most := by omega
    have h64 : most ≤ 64 := by omega
    have HA := Lib.hid hA
    have KN := qnew_ok most w h0 h64
    clear hA
    go_enter Try.func7, Try.ntmps7
    go_upto_region 4 with (fail)
    rw [← hmost]
    clear hw0 hw1 hw2 ht hm0 hm8 hmost
    go_wp2_with (go_at_call 30; refine KN.mono ?_; rintro e w1 ⟨q, p, M, rfl, h1, b1, gM, gp, gq⟩)
    have hst : QeAt w w1 q p M most (.slice none 0 0) [] [] := ⟨h1, heap_nil, mir_nil, b1, ⟨gM, gp⟩, by simp; omega⟩
    have HST : Aside _ := hst
    clear KN hst h1 b1
    go_loopg [8] l.length (fun kx s8 wr => ∃ (i : Nat) (T X : List It) (tv : Value), i ≤ l.length ∧ l.length - i ≤ kx ∧ s8 = .int .i64 i ∧ Aside (QeAt w wr q p M most tv T X))
    case atStart => exact ⟨0, [], [], _, Nat.zero_le _, Nat.le_refl _, rfl, HST⟩
    case round =>
      clear HST
      obtain ⟨i, T, X, tv, hil, hkx, rfl, HP⟩ := hrel
      by_cases hlt : i < l.length
      · have hltz : (i : Int) < (l.length : Int) := by omega
        have hiz : (0 : Int) ≤ (i : Int) := by omega
        obtain ⟨b, off, rfl, hcell⟩ : ∃ b off, a = some ⟨b, off, none⟩ ∧ ∀ i, i < l.length → ∀ j, j < 9 → wr.cell? ⟨b, off + i * 9 + j, none⟩ = (adCells (nth l i))[j]? := by
          rcases HA.out.same adCells_len HP.out.B with rfl | ⟨b, off, rfl, hc⟩
          · simp at hlt
          · exact ⟨b, off, rfl, hc⟩
        obtain ⟨y0, y1, y2, y3, y4, y5, y6, y7, y8⟩ := ad_cells hcell i hlt
        have hx : IdOk (nth l i).x.id := hwf i hlt
        generalize (nth l i).k = k at *
        generalize (nth l i).now = now at *
        generalize (nth l i).x = x at *
        clear hcell
        obtain ⟨A, hAA⟩ : ∃ A, A = wr.heap.size := ⟨_, rfl⟩
        have HAA := Lib.hid hAA
        have BA := Lib.hid (show Below wr.heap.size wr (wr.alloc (.cells #[.int .i64 k, .int .i64 now, .int .i64 x.id, .int .i64 x.lev, .int .i64 x.frm, .int .i64 x.dl, .int .i64 x.bud, .int .i64 x.since, .int .i64 x.seq] 66)) from (Below.refl _ _).alloc (Nat.le_refl _) _)
        have VA := Lib.hid (show IsObj (wr.alloc (.cells #[.int .i64 k, .int .i64 now, .int .i64 x.id, .int .i64 x.lev, .int .i64 x.frm, .int .i64 x.dl, .int .i64 x.bud, .int .i64 x.since, .int .i64 x.seq] 66)) A 66 (adCells ⟨k, now, x⟩) by rw [hAA]; exact IsObj.new wr _ (adCells ⟨k, now, x⟩))
        have YA := Lib.hid (HP.out.Q.h.young hAA)
        clear hAA
        go_upto_region 9 with (fail)
        rw [← HAA.out]
        generalize wr.alloc (.cells #[.int .i64 k, .int .i64 now, .int .i64 x.id, .int .i64 x.lev, .int .i64 x.frm, .int .i64 x.dl, .int .i64 x.bud, .int .i64 x.since, .int .i64 x.seq] 66) = wz at *
        have Pz := Lib.hid (HP.out.same BA.out)
        have VAz := VA
        have h64m := h64
        have hXz := Pz.out.len
        have KA := Lib.hid (show Calls Try.prog 31 #[.pointer (some ⟨q, 0, none⟩)] wz fun e w' => ∃ (a : Option Addr) (c : Nat), e = .returned (.slice a X.length c) ∧ Below wz.heap.size wz w' from (qall_any Pz.out.Q).mono (by
          rintro e w' ⟨v, rfl, ho, hb⟩
          rw [Pz.out.m.all Pz.out.Q.h.nd] at ho
          obtain ⟨a, c, rfl, hr⟩ := own_row ho
          exact ⟨a, c, rfl, hb⟩))
        clear HP VA BA y0 y1 y2 y3 y4 y5 y6 y7 y8 h64 HAA
        go_upto_region 10 with (go_at_call 31; refine KA.out.mono ?_; rintro e w1 ⟨aw, cw, rfl, b1⟩)
        have P0 := Lib.hid (Pz.out.same b1)
        have VA0 := Lib.hid (IsObj.below VAz.out b1 VAz.out.lt)
        have v0 : w1.cell? ⟨A, 0, none⟩ = some (.int .i64 k) := VA0.out.cell 0
        clear KA Pz VAz b1
        go_upto_if 46 with (fail)
        go_cut [] from 31 to 143 (fun wx => ∃ (T X : List It) (tv : Value), Aside (QeAt w wx q p M most tv T X ∧ IsObj wx A 66 (adCells ⟨k, now, x⟩) ∧ A ≠ p ∧ A ≠ M ∧ some A ≠ tv.ownBlock) ∧ Hid (k = 3 → ∀ i, i < X.length → endV (nth X i) now = 0))
        case first =>
          by_cases k3 : k = 3
          · have P1 := P0
            have VA1 := VA0
            clear P0 VA0
            subst k3
            have HLEN := Lib.hid P1.out.m.len
            have v1 : w1.cell? ⟨A, 1, none⟩ = some (.int .i64 now) := VA1.out.cell 1
            go_wp2_with fail
            refine (qsweep_any now P1.out.Q P1.out.hp P1.out.m).mono ?_
            rintro e w3 ⟨T3, tv3, v3, rfl, hq3, f3, hm3, hh3, ho3, _⟩
            have VA3 := Lib.hid (f3.isObj VA1.out YA.out.1 YA.out.2.1 YA.out.2.2)
            have YA3 := Lib.hid (SeAt.far f3 VA1.out.lt YA.out)
            have P3 := Lib.hid (show QeAt w w3 q p M most tv3 T3 (stays now X) from ⟨hq3, hh3, hm3, P1.out.under f3, P1.out.ge, by
              have h1 := hm3.len
              have h2 : (stays now X).length ≤ X.length := List.length_filter_le _ _
              have h3 := P1.out.lm
              have h4 := HLEN.out
              omega⟩)
            have HZ := Lib.hid (stays_end now X)
            clear hq3 f3 hm3 hh3 ho3 P1 VA1 YA v1
            go_wp2_with fail
            go_meet
            case rel => exact ⟨T3, stays now X, tv3, ⟨P3.out, VA3.out, YA3.out⟩, (fun _ => HZ.out)⟩
          · have k3b : (k == 3) = false := by simpa using k3
            by_cases k1 : k = 1
            · have P1 := P0
              have VA1 := VA0
              clear P0 VA0
              subst k1
              have HLEN := Lib.hid P1.out.m.len
              by_cases hX : X = []
              · subst hX
                have hT : T = [] := List.eq_nil_of_length_eq_zero (by rw [← HLEN.out]; rfl)
                subst hT
                go_wp2_with fail
                refine (qnext_empty P1.out.Q).mono ?_
                rintro e w2 ⟨rfl, b2⟩
                have P2 := Lib.hid (P1.out.same b2)
                have VA2 := Lib.hid (IsObj.below VA1.out b2 VA1.out.lt)
                clear P1 VA1
                clear b2
                go_wp2_with fail
                go_meet
                case rel => exact ⟨[], [], tv, ⟨P2.out, VA2.out, YA.out⟩, (fun h => by cases h)⟩
              · have hX0 : 0 < X.length := List.length_pos_iff.2 hX
                have hT0 : 0 < T.length := by have := HLEN.out; omega
                have HM2 := Lib.hid (P1.out.m.pop P1.out.Q.h.nd P1.out.hp hT0)
                go_wp2_with fail
                refine (qnext_any P1.out.Q hT0).mono ?_
                rintro e w2 ⟨rfl, tv2, h2, f2⟩
                have VA2 := Lib.hid (f2.isObj VA1.out YA.out.1 YA.out.2.1 YA.out.2.2)
                have YA2 := Lib.hid (SeAt.far f2 VA1.out.lt YA.out)
                have P2 := Lib.hid (show QeAt w w2 q p M most tv2 (outT T 0) (X.drop 1) from ⟨h2, out_heap P1.out.hp hT0, HM2.out, P1.out.under f2, P1.out.ge, by have h3 := out_len hT0; have h4 := P1.out.lm; omega⟩)
                clear h2 f2 P1 VA1 YA
                go_wp2_with fail
                go_meet
                case rel => exact ⟨_, X.drop 1, tv2, ⟨P2.out, VA2.out, YA2.out⟩, (fun h => by cases h)⟩
            · have k1b : (k == 1) = false := by simpa using k1
              go_upto_region 14 with (fail)
              have P1 := P0
              have VA1 := VA0
              clear P0 VA0
              go_cut [11, 12, 13] from 31 to 143 (fun s11 s12 s13 wx => ∃ (T1 X1 : List It) (tv1 : Value) (Y : Nat) (y : It) (g : Bool) (f : Int), s11 = .pointer (some ⟨Y, 0, none⟩) ∧ s12 = .bool g ∧ s13 = .int .i64 f ∧ Aside (QeAt w wx q p M most tv1 T1 X1 ∧ IsObj wx A 66 (adCells ⟨k, now, x⟩) ∧ A ≠ p ∧ A ≠ M ∧ some A ≠ tv1.ownBlock) ∧ Aside (IsObj wx Y 31 (itCells y)) ∧ Hid (g = true → Least X1 y) ∧ Hid (g = ((f == 0) && ((X.length : Int) == most))))
              case first =>
                clear v0 k3b k1b
                have hmem := mem_ids P1.out.m x.id
                have HLEN := Lib.hid P1.out.m.len
                have h64 := P1.out.len
                have v2 : w1.cell? ⟨A, 2, none⟩ = some (.int .i64 x.id) := VA1.out.cell 2
                have v3 : w1.cell? ⟨A, 3, none⟩ = some (.int .i64 x.lev) := VA1.out.cell 3
                have v4 : w1.cell? ⟨A, 4, none⟩ = some (.int .i64 x.frm) := VA1.out.cell 4
                have v5 : w1.cell? ⟨A, 5, none⟩ = some (.int .i64 x.dl) := VA1.out.cell 5
                have v6 : w1.cell? ⟨A, 6, none⟩ = some (.int .i64 x.bud) := VA1.out.cell 6
                have v7 : w1.cell? ⟨A, 7, none⟩ = some (.int .i64 x.since) := VA1.out.cell 7
                have v8 : w1.cell? ⟨A, 8, none⟩ = some (.int .i64 x.seq) := VA1.out.cell 8
                by_cases hin : x.id ∈ X.map It.id
                · obtain ⟨j, hjT, hjid0⟩ := mem_nth (hmem.1 hin)
                  have HJ := Lib.hid hjid0
                  clear hjid0 hmem
                  go_wp2_with fail
                  refine (qadd_twice x j P1.out.Q hjT HJ.out).mono ?_
                  rintro e w2 ⟨rfl, b2⟩
                  have P2 := Lib.hid (P1.out.same b2)
                  have VA2 := Lib.hid (IsObj.below VA1.out b2 VA1.out.lt)
                  clear P1 VA1
                  clear v2 v3 v4 v5 v6 v7 v8
                  clear b2
                  have hNV := newvar w2 (itCells it0) [.int .i64 0, .int .i64 0, .int .i64 0, .int .i64 0, .int .i64 0, .int .i64 0, .int .i64 0] 31 rfl
                  obtain ⟨Y, hY⟩ : ∃ Y, Y = w2.heap.size := ⟨_, rfl⟩
                  have HY := Lib.hid hY
                  have TH := Lib.hid hNV.1
                  have BN := Lib.hid hNV.2.2
                  have VY := Lib.hid (show IsObj ((w2.alloc (.cells #[.int .i64 0, .int .i64 0, .int .i64 0, .int .i64 0, .int .i64 0, .int .i64 0, .int .i64 0] 31)).setCells w2.heap.size 0 (itCells it0).toArray.toList) Y 31 (itCells it0) by rw [hY]; exact hNV.2.1)
                  clear hNV hY
                  go_wp2_with (refine wpList_store_mid (by rfl) 31 _ _ (by rfl) w2.heap.size 0 (itCells it0).toArray (by rfl) (by rfl) (by exact TH.out) (by kernel_rfl) (it_one _) ?_; generalize (w2.alloc (.cells #[.int .i64 0, .int .i64 0, .int .i64 0, .int .i64 0, .int .i64 0, .int .i64 0, .int .i64 0] 31)).setCells w2.heap.size 0 (itCells it0).toArray.toList = w3 at *)
                  rw [← HY.out]
                  clear TH
                  have P3 := Lib.hid (P2.out.same BN.out)
                  have VA3 := Lib.hid (IsObj.below VA2.out BN.out VA2.out.lt)
                  clear P2 VA2
                  clear BN
                  go_meet
                  case rel => exact ⟨T, X, tv, Y, it0, false, 8, rfl, rfl, rfl, ⟨P3.out, VA3.out, YA.out⟩, VY.out, (fun h => Bool.noConfusion h), rfl⟩
                · have hnT : x.id ∉ T.map It.id := fun hm => hin (hmem.2 hm)
                  clear hmem
                  by_cases hfull : most ≤ (X.length : Int)
                  · have hmq : most = (T.length : Int) := by have h1 := P1.out.lm; have h2 := HLEN.out; omega
                    have hmn : (true : Bool) = (((0 : Int) == 0) && ((X.length : Int) == most)) := by
                      rw [show ((X.length : Int) == most) = true by have h2 := HLEN.out; simpa using (by omega : (X.length : Int) = most)]; rfl
                    have HMN := Lib.hid hmn
                    clear hmn
                    have hvl := vict_lt' X x
                    by_cases hkeep : vict (X ++ [x]) (X.length + 1) = X.length
                    · have HLE := Lib.hid (keep_least hin hkeep)
                      have hAll : ∀ w', Below w1.heap.size w1 w' → Calls Try.prog 27 #[.pointer (some ⟨p, 0, none⟩)] w' fun e w2 => ∃ v, e = .returned v ∧ w2.ownsRow w'.heap.size 31 7 v X.length (X.flatMap itCells) ∧ Below w'.heap.size w' w2 := fun w' hb => by
                        have h1 := pall_own (P1.out.Q.h.same hb)
                        rw [P1.out.m.all P1.out.Q.h.nd] at h1
                        exact h1
                      have KQ := qadd_keep _ _ x X w1 P1.out.Q.items (fun w' hb => ppush_full x (P1.out.Q.h.same hb) hx hnT (by omega)) hAll h64 hkeep
                      clear hAll hkeep hvl hmq
                      go_wp2_with fail
                      refine KQ.mono ?_
                      rintro e w2 ⟨rfl, b2⟩
                      have P2 := Lib.hid (P1.out.same b2)
                      have VA2 := Lib.hid (IsObj.below VA1.out b2 VA1.out.lt)
                      clear P1 VA1
                      clear v2 v3 v4 v5 v6 v7 v8
                      clear b2 KQ
                      have hNV := newvar w2 (itCells x) [.int .i64 0, .int .i64 0, .int .i64 0, .int .i64 0, .int .i64 0, .int .i64 0, .int .i64 0] 31 rfl
                      obtain ⟨Y, hY⟩ : ∃ Y, Y = w2.heap.size := ⟨_, rfl⟩
                      have HY := Lib.hid hY
                      have TH := Lib.hid hNV.1
                      have BN := Lib.hid hNV.2.2
                      have VY := Lib.hid (show IsObj ((w2.alloc (.cells #[.int .i64 0, .int .i64 0, .int .i64 0, .int .i64 0, .int .i64 0, .int .i64 0, .int .i64 0] 31)).setCells w2.heap.size 0 (itCells x).toArray.toList) Y 31 (itCells x) by rw [hY]; exact hNV.2.1)
                      clear hNV hY
                      go_wp2_with (refine wpList_store_mid (by rfl) 31 _ _ (by rfl) w2.heap.size 0 (itCells x).toArray (by rfl) (by rfl) (by exact TH.out) (by kernel_rfl) (it_one _) ?_; generalize (w2.alloc (.cells #[.int .i64 0, .int .i64 0, .int .i64 0, .int .i64 0, .int .i64 0, .int .i64 0, .int .i64 0] 31)).setCells w2.heap.size 0 (itCells x).toArray.toList = w3 at *)
                      rw [← HY.out]
                      clear TH
                      have P3 := Lib.hid (P2.out.same BN.out)
                      have VA3 := Lib.hid (IsObj.below VA2.out BN.out VA2.out.lt)
                      clear P2 VA2
                      clear BN
                      go_meet
                      case rel => exact ⟨T, X, tv, Y, x, true, 0, rfl, rfl, rfl, ⟨P3.out, VA3.out, YA.out⟩, VY.out, (fun _ => HLE.out), HMN.out⟩
                    · obtain ⟨kv, hkv⟩ : ∃ kv, vict (X ++ [x]) (X.length + 1) = kv := ⟨_, rfl⟩
                      have hkX : kv < X.length := by omega
                      have HLE := Lib.hid (evict_least hkX hkv (nd_perm P1.out.m.perm P1.out.Q.h.nd) hin)
                      obtain ⟨j, hjT, hjid⟩ := mem_nth ((mem_ids P1.out.m (nth X kv).id).1 (nth_mem hkX))
                      obtain ⟨heq, hM2⟩ := P1.out.m.out P1.out.Q.h.nd hjT hkX hjid.symm
                      have KQ := qadd_evict x X kv j P1.out.Q (P1.out.m.all P1.out.Q.h.nd) hx hnT hmq hkv hkX hjT heq.symm
                      have HM2 := Lib.hid (hM2.push x)
                      clear heq hM2 hjid hkeep hvl hkv
                      go_wp2_with fail
                      refine KQ.mono ?_
                      rintro e w2 ⟨rfl, tv2, h2, f2⟩
                      have VA2 := Lib.hid (f2.isObj VA1.out YA.out.1 YA.out.2.1 YA.out.2.2)
                      have YA2 := Lib.hid (SeAt.far f2 VA1.out.lt YA.out)
                      have P2 := Lib.hid (show QeAt w w2 q p M most tv2 (upT (outT T j ++ [x]) (outT T j).length) (ssort ((X.take kv ++ X.drop (kv + 1)) ++ [x])) from ⟨h2, push_heap (out_heap P1.out.hp hjT) x, HM2.out, P1.out.under f2, P1.out.ge, by
                        have h3 := (upT_perm _ (outT T j ++ [x]) (outT T j).length (Nat.le_refl _) (by simp)).length_eq
                        have h4 := out_len hjT
                        rw [h3, List.length_append, List.length_singleton, h4, hmq]
                        exact Int.le_refl _⟩)
                      generalize nth X kv = y at *
                      generalize ssort ((X.take kv ++ X.drop (kv + 1)) ++ [x]) = X2 at *
                      clear v2 v3 v4 v5 v6 v7 v8
                      clear h2 f2 P1 VA1 YA KQ hmq HM2
                      have hNV := newvar w2 (itCells y) [.int .i64 0, .int .i64 0, .int .i64 0, .int .i64 0, .int .i64 0, .int .i64 0, .int .i64 0] 31 rfl
                      obtain ⟨Y, hY⟩ : ∃ Y, Y = w2.heap.size := ⟨_, rfl⟩
                      have HY := Lib.hid hY
                      have TH := Lib.hid hNV.1
                      have BN := Lib.hid hNV.2.2
                      have VY := Lib.hid (show IsObj ((w2.alloc (.cells #[.int .i64 0, .int .i64 0, .int .i64 0, .int .i64 0, .int .i64 0, .int .i64 0, .int .i64 0] 31)).setCells w2.heap.size 0 (itCells y).toArray.toList) Y 31 (itCells y) by rw [hY]; exact hNV.2.1)
                      clear hNV hY
                      go_wp2_with (refine wpList_store_mid (by rfl) 31 _ _ (by rfl) w2.heap.size 0 (itCells y).toArray (by rfl) (by rfl) (by exact TH.out) (by kernel_rfl) (it_one _) ?_; generalize (w2.alloc (.cells #[.int .i64 0, .int .i64 0, .int .i64 0, .int .i64 0, .int .i64 0, .int .i64 0, .int .i64 0] 31)).setCells w2.heap.size 0 (itCells y).toArray.toList = w3 at *)
                      rw [← HY.out]
                      clear TH
                      have P3 := Lib.hid (P2.out.same BN.out)
                      have VA3 := Lib.hid (IsObj.below VA2.out BN.out VA2.out.lt)
                      clear P2 VA2
                      clear BN
                      go_meet
                      case rel => exact ⟨_, X2, tv2, Y, y, true, 0, rfl, rfl, rfl, ⟨P3.out, VA3.out, YA2.out⟩, VY.out, (fun _ => HLE.out), HMN.out⟩
                  · have hroom : (T.length : Int) < most := by have h2 := HLEN.out; omega
                    have hmn : (false : Bool) = (((0 : Int) == 0) && ((X.length : Int) == most)) := by
                      rw [show ((X.length : Int) == most) = false by simpa using (by omega : (X.length : Int) ≠ most)]; rfl
                    have HMN := Lib.hid hmn
                    have KQ := qadd_ok x P1.out.Q hx hnT hroom h64m
                    have HM2 := Lib.hid (P1.out.m.push x)
                    clear hmn
                    go_wp2_with fail
                    refine KQ.mono ?_
                    rintro e w2 ⟨rfl, tv2, h2, f2⟩
                    have VA2 := Lib.hid (f2.isObj VA1.out YA.out.1 YA.out.2.1 YA.out.2.2)
                    have YA2 := Lib.hid (SeAt.far f2 VA1.out.lt YA.out)
                    have P2 := Lib.hid (show QeAt w w2 q p M most tv2 (upT (T ++ [x]) T.length) (ssort (X ++ [x])) from ⟨h2, push_heap P1.out.hp x, HM2.out, P1.out.under f2, P1.out.ge, by
                      have h3 := (upT_perm _ (T ++ [x]) T.length (Nat.le_refl _) (by simp)).length_eq
                      rw [h3, List.length_append, List.length_singleton]
                      omega⟩)
                    generalize ssort (X ++ [x]) = X2 at *
                    clear v2 v3 v4 v5 v6 v7 v8
                    clear h2 f2 P1 VA1 YA KQ HM2 hroom
                    have hNV := newvar w2 (itCells it0) [.int .i64 0, .int .i64 0, .int .i64 0, .int .i64 0, .int .i64 0, .int .i64 0, .int .i64 0] 31 rfl
                    obtain ⟨Y, hY⟩ : ∃ Y, Y = w2.heap.size := ⟨_, rfl⟩
                    have HY := Lib.hid hY
                    have TH := Lib.hid hNV.1
                    have BN := Lib.hid hNV.2.2
                    have VY := Lib.hid (show IsObj ((w2.alloc (.cells #[.int .i64 0, .int .i64 0, .int .i64 0, .int .i64 0, .int .i64 0, .int .i64 0, .int .i64 0] 31)).setCells w2.heap.size 0 (itCells it0).toArray.toList) Y 31 (itCells it0) by rw [hY]; exact hNV.2.1)
                    clear hNV hY
                    go_wp2_with (refine wpList_store_mid (by rfl) 31 _ _ (by rfl) w2.heap.size 0 (itCells it0).toArray (by rfl) (by rfl) (by exact TH.out) (by kernel_rfl) (it_one _) ?_; generalize (w2.alloc (.cells #[.int .i64 0, .int .i64 0, .int .i64 0, .int .i64 0, .int .i64 0, .int .i64 0, .int .i64 0] 31)).setCells w2.heap.size 0 (itCells it0).toArray.toList = w3 at *)
                    rw [← HY.out]
                    clear TH
                    have P3 := Lib.hid (P2.out.same BN.out)
                    have VA3 := Lib.hid (IsObj.below VA2.out BN.out VA2.out.lt)
                    clear P2 VA2
                    clear BN
                    go_meet
                    case rel => exact ⟨_, X2, tv2, Y, it0, false, 0, rfl, rfl, rfl, ⟨P3.out, VA3.out, YA2.out⟩, VY.out, (fun h => Bool.noConfusion h), HMN.out⟩
              case rest =>
                obtain ⟨T2, X2, tv2, Y, y, g, f, rfl, rfl, rfl, HP5, HY5, HLE, HG⟩ := hcut
                generalize wc = w5 at *
                clear P1 VA1 YA
                have hX64 := HP5.out.1.len
                have KA := Lib.hid (show Calls Try.prog 31 #[.pointer (some ⟨q, 0, none⟩)] w5 fun e w' => ∃ (a : Option Addr) (c : Nat), e = .returned (.slice a X2.length c) ∧ RowOf itCells 7 w' a X2 ∧ Below w5.heap.size w5 w' from (qall_any HP5.out.1.Q).mono (by
                  rintro e w' ⟨v, rfl, ho, hb⟩
                  rw [HP5.out.1.m.all HP5.out.1.Q.h.nd] at ho
                  obtain ⟨a, c, rfl, hr⟩ := own_row ho
                  exact ⟨a, c, rfl, hr, hb⟩))
                go_wp2_with fail
                refine KA.out.mono ?_
                rintro e w6 ⟨a6, c6, rfl, hr6, b6⟩
                have HR6 := Lib.hid hr6
                have HP6 := Lib.hid (show QeAt w w6 q p M most tv2 T2 X2 ∧ IsObj w6 A 66 (adCells ⟨k, now, x⟩) ∧ A ≠ p ∧ A ≠ M ∧ some A ≠ tv2.ownBlock from ⟨HP5.out.1.same b6, IsObj.below HP5.out.2.1 b6 HP5.out.2.1.lt, HP5.out.2.2⟩)
                have HY6 := Lib.hid (IsObj.below HY5.out b6 HY5.out.lt)
                clear hr6 b6 KA HP5 HY5
                cases g with
                | false =>
                  have HE := Lib.hid (show ((f == 0) && ((X.length : Int) == most)) = false from HG.out.symm)
                  clear HG HLE
                  go_wp2_with fail
                  go_loopg [15] 0 (fun kx s15 wr => s15 = .int .i64 0 ∧ wr = w6)
                  case atStart => exact ⟨rfl, rfl⟩
                  case round =>
                    obtain ⟨rfl, rfl⟩ := hrel
                    go_upto_region 21 with (fail)
                    by_cases hf : f = 0
                    · subst hf
                      have hn : ((X.length : Int) == most) = false := by simpa using HE.out
                      go_wp2_with fail
                      go_meet
                      case rel => exact ⟨T2, X2, tv2, ⟨HP6.out.1, HP6.out.2.1, HP6.out.2.2⟩, (fun h => absurd h k3)⟩
                    · have hf0 : (f == 0) = false := by simpa using hf
                      go_wp2_with fail
                      go_meet
                      case rel => exact ⟨T2, X2, tv2, ⟨HP6.out.1, HP6.out.2.1, HP6.out.2.2⟩, (fun h => absurd h k3)⟩
                | true =>
                  have hE := (show ((f == 0) && ((X.length : Int) == most)) = true from HG.out.symm)
                  rw [Bool.and_eq_true] at hE
                  obtain rfl : f = 0 := by simpa using hE.1
                  have HNM := Lib.hid hE.2
                  have HLV := Lib.hid (HLE.out rfl)
                  clear HG HLE hE
                  go_wp2_with fail
                  go_loopg [15] X2.length (fun kx s15 wr => ∃ j : Nat, j ≤ X2.length ∧ X2.length - j ≤ kx ∧ s15 = .int .i64 j ∧ Aside (Below w6.heap.size w6 wr))
                  case atStart => exact ⟨0, Nat.zero_le _, Nat.le_refl _, rfl, Below.refl _ _⟩
                  case round =>
                    obtain ⟨j, hjl, hjx, rfl, HB⟩ := hrel
                    have hjz : (0 : Int) ≤ (j : Int) := by omega
                    by_cases hlt : j < X2.length
                    · have hltz : (j : Int) < (X2.length : Int) := by omega
                      obtain ⟨b, off, rfl, hc⟩ : ∃ b off, a6 = some ⟨b, off, none⟩ ∧ ∀ i, i < X2.length → ∀ j, j < 7 → wr.cell? ⟨b, off + i * 7 + j, none⟩ = (itCells (nth X2 i))[j]? := by
                        rcases HR6.out.same itCells_len HB.out with rfl | ⟨b, off, rfl, hc⟩
                        · simp at hlt
                        · exact ⟨b, off, rfl, hc⟩
                      obtain ⟨x0, x1, x2, x3, x4, x5, x6⟩ := item_cells hc j hlt
                      have HYr := Lib.hid (IsObj.below HY6.out HB.out HY6.out.lt)
                      have y0 : wr.cell? ⟨Y, 0, none⟩ = some (.int .i64 y.id) := HYr.out.cell 0
                      have y1 : wr.cell? ⟨Y, 1, none⟩ = some (.int .i64 y.lev) := HYr.out.cell 1
                      have y2 : wr.cell? ⟨Y, 2, none⟩ = some (.int .i64 y.frm) := HYr.out.cell 2
                      have y3 : wr.cell? ⟨Y, 3, none⟩ = some (.int .i64 y.dl) := HYr.out.cell 3
                      have y4 : wr.cell? ⟨Y, 4, none⟩ = some (.int .i64 y.bud) := HYr.out.cell 4
                      have y5 : wr.cell? ⟨Y, 5, none⟩ = some (.int .i64 y.since) := HYr.out.cell 5
                      have y6 : wr.cell? ⟨Y, 6, none⟩ = some (.int .i64 y.seq) := HYr.out.cell 6
                      have t1 := cell_lt x0
                      simp only at t1
                      have t2 := cell_lt y0
                      simp only at t2
                      obtain ⟨l1, l2, l3⟩ := HLV.out j hlt
                      generalize nth X2 j = z at *
                      have HW := Lib.hid l1
                      have e1 : decide (y.lev < z.lev) = false := decide_eq_false (by omega)
                      have e2 : (z.id == y.id) = false := by simpa using l3
                      clear hc l1 l2 l3
                      have KW := fun W => (HW.out ▸ rworse_any z y W)
                      go_upto_region 19 with (fail)
                      ((first | (with_reducible refine region_ext2 (by kernel_rfl) (by kernel_rfl) ?_) | (refine region_ext (by kernel_rfl) (by kernel_rfl) ?_)); (repeat ((with_reducible refine wpQuiet_step (fun K hK => ?_)); go_simp; (first | ((refine hK _ ?_); clear hK K) | ((apply Exists.intro); (refine ⟨fun _ => ?_, hK _ ?_⟩); (first | (go_at_call 35; with_reducible exact ext_below (KW _))); clear hK K)))); refine wpQuiet_nil ?_; rintro _ ⟨uq, rfl⟩)
                      have HB3 : Aside (Below w6.heap.size w6 (ext wr uq)) := below_ext _ HB.out HB.out.size
                      go_wp2_with fail
                      go_roundg (X2.length - (j + 1))
                      case measure => omega
                      case rel => exact ⟨j + 1, by omega, Nat.le_refl _, by first | rfl | go_num | (congr 1; omega), HB3⟩
                    · obtain rfl : j = X2.length := by omega
                      have HP7 := Lib.hid (show QeAt w wr q p M most tv2 T2 X2 ∧ IsObj wr A 66 (adCells ⟨k, now, x⟩) ∧ A ≠ p ∧ A ≠ M ∧ some A ≠ tv2.ownBlock from ⟨HP6.out.1.same HB.out, IsObj.below HP6.out.2.1 HB.out HP6.out.2.1.lt, HP6.out.2.2⟩)
                      have hn : ((X.length : Int) == most) = true := HNM.out
                      go_wp2_with fail
                      go_meet
                      case rel => exact ⟨T2, X2, tv2, ⟨HP7.out.1, HP7.out.2.1, HP7.out.2.2⟩, (fun h => absurd h k3)⟩
        case rest =>
          obtain ⟨T2, X2, tv2, HP5, HEN⟩ := hcut
          generalize wc = w5 at *
          clear P0 VA0 YA
          have hX64 := HP5.out.1.len
          have KA := Lib.hid (show Calls Try.prog 31 #[.pointer (some ⟨q, 0, none⟩)] w5 fun e w' => ∃ (a : Option Addr) (c : Nat), e = .returned (.slice a X2.length c) ∧ RowOf itCells 7 w' a X2 ∧ Below w5.heap.size w5 w' from (qall_any HP5.out.1.Q).mono (by
            rintro e w' ⟨v, rfl, ho, hb⟩
            rw [HP5.out.1.m.all HP5.out.1.Q.h.nd] at ho
            obtain ⟨a, c, rfl, hr⟩ := own_row ho
            exact ⟨a, c, rfl, hr, hb⟩))
          go_wp2_with fail
          refine KA.out.mono ?_
          rintro e w6 ⟨a6, c6, rfl, hr6, b6⟩
          have HR6 := Lib.hid hr6
          have HP6 := Lib.hid (show QeAt w w6 q p M most tv2 T2 X2 ∧ IsObj w6 A 66 (adCells ⟨k, now, x⟩) ∧ A ≠ p ∧ A ≠ M ∧ some A ≠ tv2.ownBlock from ⟨HP5.out.1.same b6, IsObj.below HP5.out.2.1 b6 HP5.out.2.1.lt, HP5.out.2.2⟩)
          clear hr6 b6 KA HP5
          go_wp2_with fail
          go_loopg [17] X2.length (fun kx s17 wr => ∃ j : Nat, j ≤ X2.length ∧ X2.length - j ≤ kx ∧ s17 = .int .i64 j ∧ Aside (Below w6.heap.size w6 wr))
          case atStart => exact ⟨0, Nat.zero_le _, Nat.le_refl _, rfl, Below.refl _ _⟩
          case round =>
            obtain ⟨j, hjl, hjx, rfl, HB⟩ := hrel
            have hjz : (0 : Int) ≤ (j : Int) := by omega
            by_cases hlt : j < X2.length
            · have hltz : (j : Int) < (X2.length : Int) := by omega
              have HAr := Lib.hid (IsObj.below HP6.out.2.1 HB.out HP6.out.2.1.lt)
              have v0 : wr.cell? ⟨A, 0, none⟩ = some (.int .i64 k) := HAr.out.cell 0
              have t2 := cell_lt v0
              simp only at t2
              go_upto_region 27 with (fail)
              by_cases k3 : k = 3
              · obtain ⟨b, off, rfl, hc⟩ : ∃ b off, a6 = some ⟨b, off, none⟩ ∧ ∀ i, i < X2.length → ∀ j, j < 7 → wr.cell? ⟨b, off + i * 7 + j, none⟩ = (itCells (nth X2 i))[j]? := by
                  rcases HR6.out.same itCells_len HB.out with rfl | ⟨b, off, rfl, hc⟩
                  · simp at hlt
                  · exact ⟨b, off, rfl, hc⟩
                obtain ⟨x0, x1, x2, x3, x4, x5, x6⟩ := item_cells hc j hlt
                have v1 : wr.cell? ⟨A, 1, none⟩ = some (.int .i64 now) := HAr.out.cell 1
                have t1 := cell_lt x0
                simp only at t1
                have HZ := Lib.hid (HEN.out k3 j hlt)
                generalize nth X2 j = z at *
                have k3b : (k == 3) = true := by simpa using k3
                clear hc
                have KW := fun W => (HZ.out ▸ rends_any z now W)
                ((first | (with_reducible refine region_ext2 (by kernel_rfl) (by kernel_rfl) ?_) | (refine region_ext (by kernel_rfl) (by kernel_rfl) ?_)); (repeat ((with_reducible refine wpQuiet_step (fun K hK => ?_)); go_simp; (first | ((refine hK _ ?_); clear hK K) | ((apply Exists.intro); (refine ⟨fun _ => ?_, hK _ ?_⟩); (first | (go_at_call 36; with_reducible exact ext_below (KW _))); clear hK K)))); refine wpQuiet_nil ?_; rintro _ ⟨uq, rfl⟩)
                have HB3 : Aside (Below w6.heap.size w6 (ext wr uq)) := below_ext _ HB.out HB.out.size
                go_wp2_with fail
                go_roundg (X2.length - (j + 1))
                case measure => omega
                case rel => exact ⟨j + 1, by omega, Nat.le_refl _, by first | rfl | go_num | (congr 1; omega), HB3⟩
              · have k3b : (k == 3) = false := by simpa using k3
                ((first | (with_reducible refine region_ext2 (by kernel_rfl) (by kernel_rfl) ?_) | (refine region_ext (by kernel_rfl) (by kernel_rfl) ?_)); (repeat ((with_reducible refine wpQuiet_step (fun K hK => ?_)); go_simp; (first | ((refine hK _ ?_); clear hK K) | ((apply Exists.intro); (refine ⟨fun _ => ?_, hK _ ?_⟩); (first | (go_at_call 36; with_reducible exact ext_below (rends_any _ _ _))); clear hK K)))); refine wpQuiet_nil ?_; rintro _ ⟨uq, rfl⟩)
                have HB3 : Aside (Below w6.heap.size w6 (ext wr uq)) := below_ext _ HB.out HB.out.size
                go_wp2_with fail
                go_roundg (X2.length - (j + 1))
                case measure => omega
                case rel => exact ⟨j + 1, by omega, Nat.le_refl _, by first | rfl | go_num | (congr 1; omega), HB3⟩
            · obtain rfl : j = X2.length := by omega
              have HP7 := Lib.hid (HP6.out.1.same HB.out)
              have hlm : ¬ most < (X2.length : Int) := by have h1 := HP7.out.lm; have h2 := HP7.out.m.len; omega
              have hwr : IntKind.i64.wrap (most - (X2.length : Int)) = most - (X2.length : Int) := IntWalk.i64_in _ (by omega)
              have KR := Lib.hid (show Calls Try.prog 37 #[.pointer (some ⟨q, 0, none⟩)] wr fun e w' => e = .returned (.int .i64 (most - X2.length)) ∧ Below wr.heap.size wr w' from by
                have h := qroom_at HP7.out.Q ⟨by omega, h64m⟩
                rw [← HP7.out.m.len] at h
                exact h)
              have HX0 := Lib.hid HEN
              clear HEN HP6 HB
              go_wp2_with (go_at_call 37; refine KR.out.mono ?_; rintro e w8 ⟨rfl, b8⟩)
              have HP8 : Aside _ := HP7.out.same b8
              clear b8 KR
              go_wp2_with fail
              go_roundg (l.length - (i + 1))
              case measure => omega
              case rel => exact ⟨i + 1, T2, X2, tv2, by omega, Nat.le_refl _, by first | rfl | go_num | (congr 1; omega), HP8⟩
      · obtain rfl : i = l.length := by omega
        go_wp2_with (go_at_call 29; refine (awake13 _).mono ?_; rintro e w1 ⟨rfl, hb⟩)
        go_ret
        exact ⟨rfl, HP.out.B.trans (hb.mono HP.out.B.size)⟩
theorem qevicts_done : Walk 7 Try.f7 := by
  intro W args hs hc
  rw [Try.params7] at hs hc
  obtain ⟨l⟩ := args
  match l, hs with
  | [v0, v1], _ =>
    obtain ⟨m8, rfl, hr⟩ := came_int Try.underlying5 (hc 0 5 v0 rfl rfl)
    obtain ⟨a, c, l, rfl, g1, g2, hwf, hl⟩ := row_of_sl (k := 9) (cells := adCells) (fun a => IdOk a.x.id) (by omega) ad_ok (came_slice Try.underlying61 (ps := adShape) (by kernel_rfl) opens_ad (hc 1 61 v1 rfl rfl))
    have hb := bounds_u8 hr
    exact qevicts_walk m8 (by omega) (by omega) a c l W g1 g2 hwf hl
end Go.Proofs.Ytmanmebgmhpilaa
