/-
  Layer 13 (queue): Sweep.
-/
import Derived.Test.YtmanmebgmhpilaaQue6
namespace Go.Proofs.Ytmanmebgmhpilaa
open Go.RowKit
set_option linter.unusedVariables false
set_option linter.unusedSimpArgs false

def over (now : Int) (x : It) : Bool := endV x now != 0
def stays (now : Int) (X : List It) : List It := X.filter fun x => !over now x
def goes (now : Int) (X : List It) : List It := X.filter fun x => over now x
/-- What is left when i of X have been looked at. -/
def midX (now : Int) (X : List It) (i : Nat) : List It := stays now (X.take i) ++ X.drop i
theorem midX_end (now : Int) (X : List It) : midX now X X.length = stays now X := by unfold midX; rw [List.take_length, List.drop_length, List.append_nil]
theorem midX_at (now : Int) (X : List It) (i : Nat) (h : i < X.length) : midX now X i = stays now (X.take i) ++ nth X i :: X.drop (i + 1) := by
  unfold midX
  rw [List.drop_eq_getElem_cons h, nth_lt X i h]
theorem stays_snoc (now : Int) (X : List It) (i : Nat) (h : i < X.length) : stays now (X.take (i + 1)) = stays now (X.take i) ++ (if over now (nth X i) = true then [] else [nth X i]) := by
  unfold stays
  rw [take_nth X i h, List.filter_append]
  congr 1
  by_cases ho : over now (nth X i) = true <;> simp [ho]
theorem goes_snoc (now : Int) (X : List It) (i : Nat) (h : i < X.length) : goes now (X.take (i + 1)) = goes now (X.take i) ++ (if over now (nth X i) = true then [nth X i] else []) := by
  unfold goes
  rw [take_nth X i h, List.filter_append]
  congr 1
  by_cases ho : over now (nth X i) = true <;> simp [ho]
theorem midX_stay (now : Int) (X : List It) (i : Nat) (h : i < X.length) (ho : over now (nth X i) = false) : midX now X (i + 1) = midX now X i := by
  rw [midX_at now X i h]
  unfold midX
  rw [stays_snoc now X i h, ho, if_neg (by decide), List.append_assoc]
  rfl
theorem midX_go {now : Int} {X T : List It} {i : Nat} (h : i < X.length) (ho : over now (nth X i) = true) (m : Mir T (midX now X i)) (hn : (T.map It.id).Nodup) : ∃ j, j < T.length ∧ nth T j = nth X i ∧ Mir (outT T j) (midX now X (i + 1)) := by
  have e := midX_at now X i h
  have e2 : midX now X (i + 1) = stays now (X.take i) ++ X.drop (i + 1) := by
    unfold midX
    rw [stays_snoc now X i h, if_pos ho, List.append_nil]
  have hl : (stays now (X.take i)).length < (midX now X i).length := by rw [e, List.length_append]; simp
  have hat : nth (midX now X i) (stays now (X.take i)).length = nth X i := by
    rw [nth_lt _ _ hl]
    simp only [e]
    rw [List.getElem_append_right (Nat.le_refl _)]
    simp
  have hin : (nth X i).id ∈ T.map It.id := (mem_ids m _).1 (by rw [← hat]; exact nth_mem hl)
  obtain ⟨j, hj, hjid⟩ := mem_nth hin
  obtain ⟨h1, h2⟩ := m.out hn hj hl (by rw [hat, hjid])
  refine ⟨j, hj, by rw [← h1, hat], ?_⟩
  rw [e2]
  have e3 : (midX now X i).take (stays now (X.take i)).length = stays now (X.take i) := by rw [e, List.take_left]
  have e4 : (midX now X i).drop ((stays now (X.take i)).length + 1) = X.drop (i + 1) := by
    rw [e, ← List.drop_drop, List.drop_left]
    rfl
  rw [e3, e4] at h2
  exact h2
theorem goes_le (now : Int) (X : List It) : (goes now X).length ≤ X.length := List.length_filter_le _ _

set_option maxRecDepth 100000 in
set_option maxHeartbeats 2000000 in
theorem each_sweep {w wr : World} {q p M : Nat} {most : Int} {tv0 tv : Value} {T X : List It} {nb qb ov : Nat} {now : Int} (h : SwAt w wr q p M most tv0 tv T nb qb ov now (.slice none 0 0) []) (hp : Heap T) (m : Mir T X) :
    Calls Try.prog 57 #[.pointer (some ⟨q, 0, none⟩), .func (.func 58) #[] #[.pointer (some ⟨nb, 0, none⟩), .pointer (some ⟨qb, 0, none⟩), .pointer (some ⟨ov, 0, none⟩)]] wr fun e w' => e = .returned (.tuple #[]) ∧ ∃ T' tv' v', SwAt w w' q p M most tv0 tv' T' nb qb ov now v' (goes now X) ∧ Mir T' (stays now X) ∧ Heap T' := by
  have h64 : X.length ≤ 64 := by rw [m.len]; exact h.Q.h.len64
  have KA := qall_any h.Q
  rw [m.all h.Q.h.nd] at KA
  have HS0 := Lib.hid h
  have HM := Lib.hid (And.intro m hp)
  have HTL := Lib.hid m.len
  clear h m hp
  go_enter Try.func57, Try.ntmps57
  go_wp2_with fail
  refine KA.mono ?_
  rintro e w1 ⟨v, rfl, hown, b1⟩
  obtain ⟨ax, cx, rfl, hr⟩ := RowX.young HS0.out.Q.h hown
  have hfar0 : Far ax X ov (.slice none 0 0) := fun b off e h0 => by
    subst e
    have hge := (own_row hown)
    refine ⟨?_, by simp [Value.ownBlock]⟩
    have h1 := (hown.lt b rfl).1
    have h2 := HS0.out.o.lt
    omega
  have HST : Aside (_ ∧ _ ∧ _) := And.intro (HS0.out.same b1) (And.intro hr hfar0)
  clear hown b1 hr hfar0 KA HS0
  have h64z : (X.length : Int) ≤ 64 := by omega
  go_wp2_with fail
  go_loopg [9] X.length (fun kx s9 wr => ∃ (i : Nat) (T : List It) (tv v : Value), i ≤ X.length ∧ X.length - i ≤ kx ∧ s9 = .int .i64 i ∧ Aside (SwAt w wr q p M most tv0 tv T nb qb ov now v (goes now (X.take i)) ∧ RowX wr p M tv ax cx X ∧ Far ax X ov v) ∧ Hid (Mir T (midX now X i) ∧ Heap T))
  case atStart => exact ⟨0, T, tv, .slice none 0 0, Nat.zero_le _, Nat.le_refl _, rfl, HST, (⟨by unfold midX; simpa [stays] using HM.out.1, HM.out.2⟩ : Mir T (midX now X 0) ∧ Heap T)⟩
  case round =>
    clear HST HM
    obtain ⟨i, T2, tv2, v2, hil, hkx, rfl, HS, HM⟩ := hrel
    by_cases hlt : i < X.length
    · have hltz : (i : Int) < (X.length : Int) := by omega
      have hiz : (0 : Int) ≤ (i : Int) := by omega
      obtain ⟨b, off, rfl, hc⟩ : ∃ b off, ax = some ⟨b, off, none⟩ ∧ ∀ i, i < X.length → ∀ j, j < 7 → wr.cell? ⟨b, off + i * 7 + j, none⟩ = (itCells (nth X i))[j]? := by
        rcases HS.out.2.1.row with h | h
        · rw [h] at hlt; simp at hlt
        · exact h
      obtain ⟨x0, x1, x2, x3, x4, x5, x6⟩ := item_cells hc i hlt
      clear hc
      obtain ⟨x, hx⟩ : ∃ x, x = nth X i := ⟨_, rfl⟩
      rw [← hx] at x0 x1 x2 x3 x4 x5 x6
      have HX := Lib.hid hx
      clear hx
      have B0 := Lib.hid (show Below wr.heap.size wr (wr.alloc (.cells #[.int .i64 x.id, .int .i64 x.lev, .int .i64 x.frm, .int .i64 x.dl, .int .i64 x.bud, .int .i64 x.since, .int .i64 x.seq] 31)) from (Below.refl _ wr).alloc (Nat.le_refl _) _)
      have HS1 := Lib.hid (HS.out.1.same B0.out)
      have HR1 := Lib.hid (HS.out.2.1.same B0.out)
      cases ho : over now x with
      | false =>
        have he : endV x now = 0 := by unfold over at ho; simpa using ho
        have KC := sweep1_stay x HS1.out he
        have HO := Lib.hid (show goes now (X.take (i + 1)) = goes now (X.take i) ∧ midX now X (i + 1) = midX now X i from ⟨by rw [goes_snoc now X i hlt, ← HX.out, ho, if_neg (by decide), List.append_nil], midX_stay now X i hlt (by rw [← HX.out]; exact ho)⟩)
        clear ho he
        go_wp2_with (go_at_call 58; refine KC.mono ?_; rintro e w2 ⟨rfl, b2⟩)
        have HS2 : Aside (SwAt w w2 q p M most tv0 tv2 T2 nb qb ov now v2 (goes now (X.take (i + 1))) ∧ RowX w2 p M tv2 (some ⟨b, off, none⟩) cx X ∧ Far (some ⟨b, off, none⟩) X ov v2) := ⟨by rw [HO.out.1]; exact HS1.out.same b2, HR1.out.same b2, HS.out.2.2⟩
        clear b2 KC
        go_wp2
        go_roundg (X.length - (i + 1))
        case measure => omega
        case rel => exact ⟨i + 1, T2, tv2, v2, by omega, Nat.le_refl _, by first | rfl | go_num | (congr 1; omega), HS2, (⟨by rw [HO.out.2]; exact HM.out.1, HM.out.2⟩ : Mir T2 (midX now X (i + 1)) ∧ Heap T2)⟩
      | true =>
        have he : endV x now ≠ 0 := by unfold over at ho; simpa using ho
        obtain ⟨j, hj, hjx, hM2⟩ := midX_go hlt (by rw [← HX.out]; exact ho) HM.out.1 HS.out.1.Q.h.nd
        have hgl : (goes now (X.take i)).length ≤ 64 := Nat.le_trans (goes_le _ _) (by rw [List.length_take]; omega)
        have KC := sweep1_goes x j HS1.out he hj (by rw [hjx, ← HX.out]) hgl HR1.out HS.out.2.2
        have HO := Lib.hid (show goes now (X.take (i + 1)) = goes now (X.take i) ++ [x] by rw [goes_snoc now X i hlt, ← HX.out, ho, if_pos rfl])
        have HM2 := Lib.hid (And.intro hM2 (out_heap HM.out.2 hj))
        clear ho he hjx hM2 hgl
        go_wp2_with (go_at_call 58; refine KC.mono ?_; rintro e w2 ⟨rfl, tv3, v3, hs3, hr3, hf3⟩)
        have HS2 : Aside (SwAt w w2 q p M most tv0 tv3 (outT T2 j) nb qb ov now v3 (goes now (X.take (i + 1))) ∧ RowX w2 p M tv3 (some ⟨b, off, none⟩) cx X ∧ Far (some ⟨b, off, none⟩) X ov v3) := ⟨by rw [HO.out]; exact hs3, hr3, hf3⟩
        clear hs3 hr3 hf3 KC
        go_wp2
        go_roundg (X.length - (i + 1))
        case measure => omega
        case rel => exact ⟨i + 1, outT T2 j, tv3, v3, by omega, Nat.le_refl _, by first | rfl | go_num | (congr 1; omega), HS2, HM2.out⟩
    · obtain rfl : i = X.length := by omega
      go_wp2
      go_end0
      refine ⟨rfl, T2, tv2, v2, ?_, ?_, HM.out.2⟩
      · have h1 := HS.out.1
        rw [List.take_length] at h1
        exact h1
      · rw [← midX_end]; exact HM.out.1
set_option maxRecDepth 100000 in
set_option maxHeartbeats 2000000 in
theorem qsweep_any {w : World} {q p M : Nat} {most : Int} {tv : Value} {T X : List It} (now : Int) (h : QAt w q p M most tv T) (hp : Heap T) (m : Mir T X) :
    Calls Try.prog 32 #[.pointer (some ⟨q, 0, none⟩), .int .i64 now] w fun e w' => ∃ T' tv' v, e = .returned v ∧ QAt w' q p M most tv' T' ∧ Frp p M tv tv' w w' ∧ Mir T' (stays now X) ∧ Heap T' ∧ w'.ownsRow w.heap.size 31 7 v (goes now X).length ((goes now X).flatMap itCells) ∧ ∀ g, v.ownBlock = some g → g ≠ q ∧ g ≠ p ∧ g ≠ M ∧ some g ≠ tv'.ownBlock := by
  have hB : Below w.heap.size w (((w.alloc (.cells #[.pointer (some ⟨q, 0, none⟩)] 62)).alloc (.cells #[.int .i64 now] 3)).alloc (.cells #[.slice none 0 0] 22)) := (((Below.refl _ w).alloc (Nat.le_refl _) _).alloc (by simp) _).alloc (by simp; omega) _
  have hu : IsObj (((w.alloc (.cells #[.pointer (some ⟨q, 0, none⟩)] 62)).alloc (.cells #[.int .i64 now] 3)).alloc (.cells #[.slice none 0 0] 22)) w.heap.size 62 [.pointer (some ⟨q, 0, none⟩)] := ((IsObj.new w _ [.pointer (some ⟨q, 0, none⟩)]).alloc _).alloc _
  have hn : IsObj (((w.alloc (.cells #[.pointer (some ⟨q, 0, none⟩)] 62)).alloc (.cells #[.int .i64 now] 3)).alloc (.cells #[.slice none 0 0] 22)) (w.heap.size + 1) 3 [.int .i64 now] := by
    have h := (IsObj.new (w.alloc (.cells #[.pointer (some ⟨q, 0, none⟩)] 62)) 3 [.int .i64 now])
    rw [World.size_alloc] at h
    exact h.alloc _
  have ho : IsObj (((w.alloc (.cells #[.pointer (some ⟨q, 0, none⟩)] 62)).alloc (.cells #[.int .i64 now] 3)).alloc (.cells #[.slice none 0 0] 22)) (w.heap.size + 1 + 1) 22 [.slice none 0 0] := by
    have h := IsObj.new ((w.alloc (.cells #[.pointer (some ⟨q, 0, none⟩)] 62)).alloc (.cells #[.int .i64 now] 3)) 22 [.slice none 0 0]
    rw [World.size_alloc, World.size_alloc] at h
    exact h
  have hy : ∀ g, w.heap.size ≤ g → g ≠ q ∧ g ≠ p ∧ g ≠ M ∧ some g ≠ tv.ownBlock := fun g hg => by
    obtain ⟨D, hr, _⟩ := h.h.raw
    have h1 := hr.o.lt
    have h2 := hr.m.lt
    have h3 := h.o.lt
    exact ⟨by omega, by omega, by omega, fun e => by have := (hr.t.lt g e.symm).2; omega⟩
  have hs : SwAt w (((w.alloc (.cells #[.pointer (some ⟨q, 0, none⟩)] 62)).alloc (.cells #[.int .i64 now] 3)).alloc (.cells #[.slice none 0 0] 22)) q p M most tv tv T (w.heap.size + 1) w.heap.size (w.heap.size + 1 + 1) now (.slice none 0 0) [] :=
    ⟨h.same hB, Frp.below hB, hn, hu, ho, World.ownsRow_nil _ _ _ _, ⟨by omega, by omega, by omega, by omega, Nat.le_refl _⟩, fun g hg => by
      rcases hg with rfl | rfl | rfl | hg
      · exact hy _ (by omega)
      · exact hy _ (Nat.le_refl _)
      · exact hy _ (by omega)
      · simp [Value.ownBlock] at hg⟩
  have KE := each_sweep hs hp m
  have hO := hs.ord
  clear hB hn ho hy hs h hu hp m
  go_enter Try.func32, Try.ntmps32
  go_wp2_with fail
  refine KE.mono ?_
  rintro e w1 ⟨rfl, T', tv', v', hs, hm, hh⟩
  have HS := Lib.hid hs
  have HM := Lib.hid (And.intro hm hh)
  have c0 : w1.cell? ⟨w.heap.size + 1 + 1, 0, none⟩ = some v' := hs.o.cell 0
  obtain ⟨av, mv, cv, rfl⟩ := own_sl7 hs.r
  clear hs hm hh KE
  go_wp2_with fail
  go_ret
  exact ⟨T', tv', _, rfl, HS.out.Q, HS.out.f, HM.out.1, HM.out.2, own_mono HS.out.r (by omega), fun g hg => HS.out.ap g (.inr (.inr (.inr hg)))⟩
end Go.Proofs.Ytmanmebgmhpilaa
