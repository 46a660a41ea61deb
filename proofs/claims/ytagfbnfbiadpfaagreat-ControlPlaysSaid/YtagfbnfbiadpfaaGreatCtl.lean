/-
  control.Control at work: five objects; what is told of it.
-/
import Derived.Test.YtagfbnfbiadpfaaGreatWalk2
import Derived.Test.YtagfbnfbiadpfaaGreatTurn
import Derived.Test.YtagfbnfbiadpfaaGreatDim
import Derived.Test.YtagfbnfbiadpfaaGreatLoad
import Derived.Test.YtagfbnfbiadpfaaGreatCalm
import Derived.Test.YtagfbnfbiadpfaaGreatKnob
namespace Go.Proofs.YtagfbnfbiadpfaaGreat
open Go.RowKit Go.Shelf
set_option linter.unusedVariables false
set_option linter.unusedSimpArgs false

/-- A controller: how many levels, how many tiers, its settings; what was seen, what was waited; threshold, epoch; way and for how long; tier and for how long. -/
structure CSt where
  lv : Nat
  tr : Int
  k : Kb
  c : List Int
  m : Int
  s : Int
  x : Int
  th : Int
  ep : Int
  way : Int
  held : Int
  ti : Int
  dh : Int
abbrev ctlCells (T D S L : Nat) (z : CSt) : List Value := [.pointer (some ⟨T, 0, none⟩), .pointer (some ⟨D, 0, none⟩), .int .i64 z.lv, .int .i64 z.tr, .int .i64 z.k.k0, .int .i64 z.k.k1, .int .i64 z.k.k2, .int .i64 z.k.k3, .int .i64 z.k.k4, .int .i64 z.k.k5, .int .i64 z.k.k6, .pointer (some ⟨S, 0, none⟩), .pointer (some ⟨L, 0, none⟩), .int .i64 z.th, .int .i64 z.ep]
/-- What always holds of a controller. -/
structure COk (z : CSt) : Prop where
  l1 : 1 ≤ z.lv
  l2 : z.lv ≤ 128
  t0 : 0 ≤ z.tr
  t1 : z.tr ≤ 7
  h0 : 0 ≤ z.th
  h1 : z.th ≤ z.lv
  e0 : 1 ≤ z.ep
  e1 : z.ep ≤ 4294967295
  tok : TOk z.way z.held
  dok : DOk z.tr z.ti
structure CtlAt (w : World) (C T D S L : Nat) (z : CSt) : Prop where
  o : IsObj w C 70 (ctlCells T D S L z)
  t : TurnAt w T z.way z.held
  d : DimAt w D z.tr z.ti z.dh
  h : HistAt w S z.lv z.c
  l : LoadAt w L z.m z.s z.x
  ord : S < D ∧ D < T ∧ T < L ∧ L < C
  ok : COk z
/-- Only these five may have changed. -/
structure Fr5 (C T D S L : Nat) (w w' : World) : Prop where
  os : w'.os = w.os
  tape : w'.tape = w.tape
  output : w'.output = w.output
  size : w.heap.size ≤ w'.heap.size
  block : ∀ k, k < w.heap.size → k ≠ C → k ≠ T → k ≠ D → k ≠ S → k ≠ L → w'.heap[k]? = w.heap[k]?
section
variable {C T D S L : Nat}
theorem Fr5.refl (w : World) : Fr5 C T D S L w w := ⟨rfl, rfl, rfl, Nat.le_refl _, fun _ _ _ _ _ _ _ => rfl⟩
theorem Fr5.trans {u v w : World} (h : Fr5 C T D S L u v) (k : Fr5 C T D S L v w) : Fr5 C T D S L u w :=
  ⟨k.os.trans h.os, k.tape.trans h.tape, k.output.trans h.output, Nat.le_trans h.size k.size, fun i hi a b c d e => (k.block i (Nat.lt_of_lt_of_le hi h.size) a b c d e).trans (h.block i hi a b c d e)⟩
theorem Fr5.only {w w' : World} {b : Nat} (h : Only b w w') (hb : b = C ∨ b = T ∨ b = D ∨ b = S ∨ b = L) : Fr5 C T D S L w w' :=
  ⟨h.os, h.tape, h.output, h.size, fun i hi a1 a2 a3 a4 a5 => h.block i hi (by simp; intro e; subst e; rcases hb with e | e | e | e | e <;> omega)⟩
theorem Fr5.below {w w' : World} (h : Below w.heap.size w w') : Fr5 C T D S L w w' := ⟨h.os, h.tape, h.output, h.size, fun i hi _ _ _ _ _ => h.block i hi⟩
theorem Fr5.isObj {w w' : World} {b : Nat} {ty : TypeId} {cs : List Value} (f : Fr5 C T D S L w w') (h : IsObj w b ty cs) (hb : b ≠ C ∧ b ≠ T ∧ b ≠ D ∧ b ≠ S ∧ b ≠ L) : IsObj w' b ty cs :=
  (f.block b h.lt hb.1 hb.2.1 hb.2.2.1 hb.2.2.2.1 hb.2.2.2.2).trans h
theorem Fr5.to {w w' : World} {H : Nat} (f : Fr5 C T D S L w w') (ord : S < D ∧ D < T ∧ T < L ∧ L < C) (h1 : H ≤ S) (h2 : H ≤ w.heap.size) : Below H w w' :=
  ⟨f.os, f.tape, f.output, f.size, fun i hi => f.block i (by omega) (by omega) (by omega) (by omega) (by omega) (by omega)⟩
theorem CtlAt.same {w w' : World} {z : CSt} (h : CtlAt w C T D S L z) (hb : Below w.heap.size w w') : CtlAt w' C T D S L z :=
  ⟨IsObj.below h.o hb h.o.lt, h.t.same hb, h.d.same hb, h.h.same hb, IsObj.below h.l hb h.l.lt, h.ord, h.ok⟩
theorem CtlAt.drewN {w : World} {z : CSt} (h : CtlAt w C T D S L z) (n : Nat) : CtlAt (w.drewN n) C T D S L z := h.same (below_drewN (Below.refl _ _) n)
theorem CtlAt.lt {w : World} {z : CSt} (h : CtlAt w C T D S L z) : C < w.heap.size := h.o.lt
section
variable {w : World} {z : CSt}
theorem c_made (h : CtlAt w C T D S L z) : Calls Tryz.prog 35 #[.pointer (some ⟨C, 0, none⟩)] w fun e w' => e = .returned (.bool true) ∧ w = w' := by
  have c0 : w.cell? ⟨C, 11, none⟩ = some (.pointer (some ⟨S, 0, none⟩)) := h.o.cell 11
  clear h
  go_enter Tryz.func35, Tryz.ntmps35
  go_wp2
  go_ret
  exact ⟨rfl, rfl⟩
theorem c_threshold (h : CtlAt w C T D S L z) : Calls Tryz.prog 27 #[.pointer (some ⟨C, 0, none⟩)] w fun e w' => e = .returned (.int .i64 z.th) ∧ w = w' := by
  have c0 : w.cell? ⟨C, 13, none⟩ = some (.int .i64 z.th) := h.o.cell 13
  clear h
  go_enter Tryz.func27, Tryz.ntmps27
  go_wp2
  go_ret
  exact ⟨rfl, rfl⟩
theorem c_epoch (h : CtlAt w C T D S L z) : Calls Tryz.prog 29 #[.pointer (some ⟨C, 0, none⟩)] w fun e w' => e = .returned (.int .i64 z.ep) ∧ w = w' := by
  have c0 : w.cell? ⟨C, 14, none⟩ = some (.int .i64 z.ep) := h.o.cell 14
  clear h
  go_enter Tryz.func29, Tryz.ntmps29
  go_wp2
  go_ret
  exact ⟨rfl, rfl⟩
theorem c_tier (h : CtlAt w C T D S L z) : Calls Tryz.prog 28 #[.pointer (some ⟨C, 0, none⟩)] w fun e w' => e = .returned (.int .i64 z.ti) ∧ w = w' := by
  have c0 : w.cell? ⟨C, 1, none⟩ = some (.pointer (some ⟨D, 0, none⟩)) := h.o.cell 1
  have H := Lib.hid h.d
  clear h
  go_enter Tryz.func28, Tryz.ntmps28
  go_wp2_with (go_at_call 56; (with_reducible refine (dtier_any _ _ _ _ _ H.out).mono ?_); rintro e w' ⟨rfl, rfl⟩)
  go_ret
  exact ⟨rfl, rfl⟩
theorem c_way (h : CtlAt w C T D S L z) : Calls Tryz.prog 30 #[.pointer (some ⟨C, 0, none⟩)] w fun e w' => e = .returned (.int .i64 z.way) ∧ w = w' := by
  have c0 : w.cell? ⟨C, 0, none⟩ = some (.pointer (some ⟨T, 0, none⟩)) := h.o.cell 0
  have H := Lib.hid h.t
  clear h
  go_enter Tryz.func30, Tryz.ntmps30
  go_wp2_with (go_at_call 57; (with_reducible refine (way_any _ _ _ _ H.out).mono ?_); rintro e w' ⟨rfl, rfl⟩)
  go_ret
  exact ⟨rfl, rfl⟩
theorem lpasses_any (n t : Int) (w : World) : Calls Tryz.prog 54 #[.int .i64 n, .int .i64 t] w fun e w' => e = .returned (.bool (decide (0 ≤ n) && decide (n < t))) ∧ w = w' := by
  go_enter Tryz.func54, Tryz.ntmps54
  go_wp2
  all_goals
    go_ret
    exact ⟨ret_bool (by first | (simp_all; done) | (simp; omega)), rfl⟩
theorem c_passes (n : Int) (h : CtlAt w C T D S L z) : Calls Tryz.prog 19 #[.pointer (some ⟨C, 0, none⟩), .int .i64 n] w fun e w' => e = .returned (.bool (decide (0 ≤ n) && decide (n < z.th))) ∧ w = w' := by
  have H := Lib.hid h
  clear h
  go_enter Tryz.func19, Tryz.ntmps19
  go_wp2_with (first | (go_at_call 27; (with_reducible refine (c_threshold H.out).mono ?_); rintro e w' ⟨rfl, rfl⟩) | (go_at_call 54; (with_reducible refine (lpasses_any _ _ _).mono ?_); rintro e w' ⟨rfl, rfl⟩))
  go_ret
  exact ⟨rfl, rfl⟩
theorem c_permits (n : Int) (h : CtlAt w C T D S L z) : Calls Tryz.prog 20 #[.pointer (some ⟨C, 0, none⟩), .int .i64 n] w fun e w' => e = .returned (.bool (decide (n ≤ z.ti))) ∧ w = w' := by
  have H := Lib.hid h
  clear h
  go_enter Tryz.func20, Tryz.ntmps20
  go_wp2_with (go_at_call 28; (with_reducible refine (c_tier H.out).mono ?_); rintro e w' ⟨rfl, rfl⟩)
  go_ret
  exact ⟨rfl, rfl⟩
theorem c_saw (n : Int) (h : CtlAt w C T D S L z) : Calls Tryz.prog 9 #[.pointer (some ⟨C, 0, none⟩), .int .i64 n] w fun e w' => e = .returned (.bool (hasL z.lv n)) ∧ CtlAt w' C T D S L { z with c := hadd z.lv z.c n 1 } ∧ Fr5 C T D S L w w' := by
  have c0 : w.cell? ⟨C, 11, none⟩ = some (.pointer (some ⟨S, 0, none⟩)) := h.o.cell 11
  have H := Lib.hid h
  have ho := h.ord
  clear h
  go_enter Tryz.func9, Tryz.ntmps9
  go_wp2_with (go_at_call 35; (with_reducible refine (c_made H.out).mono ?_); rintro e w' ⟨rfl, rfl⟩)
  refine (count_any S z.lv z.c n w H.out.h).mono ?_
  rintro e w1 ⟨rfl, h1, o1⟩
  have H1 := Lib.hid (show CtlAt w1 C T D S L { z with c := hadd z.lv z.c n 1 } from ⟨IsObj.only H.out.o o1 (by omega), H.out.t.only o1 (by omega), H.out.d.only o1 (by omega), h1, IsObj.only H.out.l o1 (by omega), ho, ⟨H.out.ok.l1, H.out.ok.l2, H.out.ok.t0, H.out.ok.t1, H.out.ok.h0, H.out.ok.h1, H.out.ok.e0, H.out.ok.e1, H.out.ok.tok, H.out.ok.dok⟩⟩)
  have F1 := Lib.hid (Fr5.only (C := C) (T := T) (D := D) (L := L) o1 (.inr (.inr (.inr (.inl rfl)))))
  clear h1 o1
  go_wp2_with fail
  go_ret
  exact ⟨rfl, H1.out, F1.out⟩
theorem c_waited (n : Int) (h : CtlAt w C T D S L z) : Calls Tryz.prog 10 #[.pointer (some ⟨C, 0, none⟩), .int .i64 n] w fun e w' => e = .returned (.tuple #[]) ∧ CtlAt w' C T D S L { z with m := bAdd z.m 1, s := bAdd z.s n, x := max z.x (cnt n) } ∧ Fr5 C T D S L w w' := by
  have c0 : w.cell? ⟨C, 12, none⟩ = some (.pointer (some ⟨L, 0, none⟩)) := h.o.cell 12
  have H := Lib.hid h
  have ho := h.ord
  clear h
  go_enter Tryz.func10, Tryz.ntmps10
  go_wp2_with (go_at_call 35; (with_reducible refine (c_made H.out).mono ?_); rintro e w' ⟨rfl, rfl⟩)
  refine (wait_any L z.m z.s z.x n w H.out.l).mono ?_
  rintro e w1 ⟨rfl, h1, o1⟩
  have H1 := Lib.hid (show CtlAt w1 C T D S L { z with m := bAdd z.m 1, s := bAdd z.s n, x := max z.x (cnt n) } from ⟨IsObj.only H.out.o o1 (by omega), H.out.t.only o1 (by omega), H.out.d.only o1 (by omega), ⟨IsObj.only H.out.h.o o1 (by omega), H.out.h.l, H.out.h.n⟩, h1, ho, ⟨H.out.ok.l1, H.out.ok.l2, H.out.ok.t0, H.out.ok.t1, H.out.ok.h0, H.out.ok.h1, H.out.ok.e0, H.out.ok.e1, H.out.ok.tok, H.out.ok.dok⟩⟩)
  have F1 := Lib.hid (Fr5.only (C := C) (T := T) (D := D) (S := S) o1 (.inr (.inr (.inr (.inr rfl)))))
  clear h1 o1
  go_wp2_with fail
  go_end0
  exact ⟨rfl, H1.out, F1.out⟩
/-- The next epoch. -/
def laterE (e : Int) : Int := keep (e + 1) 4294967295
theorem c_later (h : CtlAt w C T D S L z) : Calls Tryz.prog 51 #[.pointer (some ⟨C, 0, none⟩)] w fun e w' => e = .returned (.tuple #[]) ∧ CtlAt w' C T D S L { z with ep := laterE z.ep } ∧ Fr5 C T D S L w w' := by
  have c0 : w.cell? ⟨C, 14, none⟩ = some (.int .i64 z.ep) := h.o.cell 14
  have f0 := h.o.free 14
  have H := Lib.hid h
  have ho := h.ord
  have e0 := h.ok.e0
  have e1 := h.ok.e1
  have e2 := keep_le (z.ep + 1) 4294967295 (by omega)
  have e3 : keep (z.ep + 1) 4294967295 = min (z.ep + 1) 4294967295 := by unfold keep; omega
  have H1 := Lib.hid (show CtlAt (w.setCell ⟨C, 14, none⟩ (.int .i64 (keep (z.ep + 1) 4294967295))) C T D S L { z with ep := laterE z.ep } from ⟨h.o.set 14 (.int .i64 (keep (z.ep + 1) 4294967295)), h.t.setOther ⟨C, 14, none⟩ _ (by simp; omega), h.d.setOther ⟨C, 14, none⟩ _ (by simp; omega), ⟨h.h.o.setOther ⟨C, 14, none⟩ _ (by simp; omega), h.h.l, h.h.n⟩, h.l.setOther ⟨C, 14, none⟩ _ (by simp; omega), ho, ⟨H.out.ok.l1, H.out.ok.l2, H.out.ok.t0, H.out.ok.t1, H.out.ok.h0, H.out.ok.h1, by show 1 ≤ keep (z.ep + 1) 4294967295; omega, e2, H.out.ok.tok, H.out.ok.dok⟩⟩)
  have F1 := Lib.hid (Fr5.only (C := C) (T := T) (D := D) (S := S) (L := L) ((Only.refl C w).setCell (p := ⟨C, 14, none⟩) (.inl rfl) (.int .i64 (keep (z.ep + 1) 4294967295))) (.inl rfl))
  clear h e2 e3
  go_enter Tryz.func51, Tryz.ntmps51
  go_wp2_with (go_at_call 64; (with_reducible refine (keep_any _ _ _).mono ?_); rintro e w' ⟨rfl, rfl⟩)
  go_end0
  exact ⟨rfl, H1.out, F1.out⟩
theorem c_fresh (h : CtlAt w C T D S L z) : Calls Tryz.prog 50 #[.pointer (some ⟨C, 0, none⟩)] w fun e w' => e = .returned (.tuple #[]) ∧ CtlAt w' C T D S L { z with c := zeros, m := 0, s := 0, x := 0 } ∧ Fr5 C T D S L w w' := by
  have c0 : w.cell? ⟨C, 11, none⟩ = some (.pointer (some ⟨S, 0, none⟩)) := h.o.cell 11
  have H := Lib.hid h
  have ho := h.ord
  clear h
  go_enter Tryz.func50, Tryz.ntmps50
  go_wp2_with fail
  refine (hclear_any S z.lv z.c w H.out.h).mono ?_
  rintro e w1 ⟨rfl, h1, o1⟩
  have O1 := Lib.hid (IsObj.only H.out.o o1 (by omega))
  have T1 := Lib.hid (H.out.t.only o1 (by omega))
  have D1 := Lib.hid (H.out.d.only o1 (by omega))
  have L1 := Lib.hid (IsObj.only H.out.l o1 (by omega))
  have H1 := Lib.hid h1
  have F1 := Lib.hid (Fr5.only (C := C) (T := T) (D := D) (L := L) o1 (.inr (.inr (.inr (.inl rfl)))))
  clear h1 o1 c0
  have c0 : w1.cell? ⟨C, 12, none⟩ = some (.pointer (some ⟨L, 0, none⟩)) := O1.out.cell 12
  go_wp2_with fail
  refine (clear_any L z.m z.s z.x w1 L1.out).mono ?_
  rintro e w2 ⟨rfl, h2, o2⟩
  have H2 := Lib.hid (show CtlAt w2 C T D S L { z with c := zeros, m := 0, s := 0, x := 0 } from ⟨IsObj.only O1.out o2 (by omega), T1.out.only o2 (by omega), D1.out.only o2 (by omega), ⟨IsObj.only H1.out.o o2 (by omega), H1.out.l, H1.out.n⟩, h2, ho, ⟨H.out.ok.l1, H.out.ok.l2, H.out.ok.t0, H.out.ok.t1, H.out.ok.h0, H.out.ok.h1, H.out.ok.e0, H.out.ok.e1, H.out.ok.tok, H.out.ok.dok⟩⟩)
  have F2 := Lib.hid (F1.out.trans (Fr5.only (C := C) (T := T) (D := D) (S := S) o2 (.inr (.inr (.inr (.inr rfl))))))
  clear h2 o2
  go_wp2_with fail
  go_end0
  exact ⟨rfl, H2.out, F2.out⟩
end
end
end Go.Proofs.YtagfbnfbiadpfaaGreat
