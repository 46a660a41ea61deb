/-
  The statement ControlPlays of layer 20 (control): the walk. No condition.
-/
import Derived.Test.YtagfbnfbiadpfaaGreatRefD
import Derived.Test.YtagfbnfbiadpfaaGreatRefE
import Derived.Test.YtagfbnfbiadpfaaGreatSame20
namespace Go.Proofs.YtagfbnfbiadpfaaGreat
open Go.RowKit Go.Shelf
set_option linter.unusedVariables false
set_option linter.unusedSimpArgs false

theorem wpList_load_if {ops : Array Oper} {rest : List Oper} {op : Oper} {a : Act} {w : World} {Q : Exit → Act → World → Prop} (hw : Region.wanted op (yielded ops a.tmps) = true) (ty : TypeId) (x : Operand) (ho : op.op = .load ty x)
    (b o : Nat) (hx : a.eval x = .pointer (some ⟨b, o, none⟩)) (cs : List Value) (d : TypeDesc) (hc : w.rangeAt b o cs)
    (hu : Tryz.prog.underlying ty = some d) (hd : d.isRow = true) (hi : (Tryz.prog.info? ty).map (·.size) = some cs.length)
    (h : wpList Tryz.prog ops Q rest (a.put op.dst (.agg cs.toArray)) w) : wpList Tryz.prog ops Q (op :: rest) a w :=
  wpList_step fun K hK => by rw [if_pos hw]; exact wp_load_mid ty x ho b o hx cs d hc hu hd hi (hK _ _ h)
/-- A variable that is made and filled. -/
theorem newvar (W : World) (cs zs : List Value) (ty : TypeId) (hl : cs.length = zs.length) : (W.alloc (.cells zs.toArray ty)).there W.heap.size 0 cs.toArray.size ∧ IsObj ((W.alloc (.cells zs.toArray ty)).setCells W.heap.size 0 cs.toArray.toList) W.heap.size ty cs ∧ Below W.heap.size W ((W.alloc (.cells zs.toArray ty)).setCells W.heap.size 0 cs.toArray.toList) := by
  have o := IsObj.new W ty zs
  have hO := Only.setCells (b := W.heap.size) cs 0 (Only.refl W.heap.size (W.alloc (.cells zs.toArray ty)))
  have b1 : Below W.heap.size W (W.alloc (.cells zs.toArray ty)) := (Below.refl _ W).alloc (Nat.le_refl _) _
  exact ⟨IsObj.there o 0 cs.length (by omega), IsObj.setAll o hl, b1.trans (hO.below (Nat.le_refl _) (by simp))⟩
theorem setvar {W : World} {X : Nat} {cs zs : List Value} {ty : TypeId} (o : IsObj W X ty zs) (hl : cs.length = zs.length) : W.there X 0 cs.toArray.size ∧ IsObj (W.setCells X 0 cs.toArray.toList) X ty cs ∧ Only X W (W.setCells X 0 cs.toArray.toList) :=
  ⟨IsObj.there o 0 cs.length (by omega), IsObj.setAll o hl, Only.setCells (b := X) cs 0 (Only.refl X W)⟩
theorem RSt.move {Q : Nat → Prop} {N : Nat} {w w' : World} {z : CSt} {sv wv : Value} (h : RSt Q N w z sv wv) (hb : ∀ k, k < w.heap.size → Q k → w'.heap[k]? = w.heap[k]?) : RSt Q N w' z sv wv := by
  have key : ∀ a l, IntsAt w a l → (∀ x, a = some x → Q x.block) → IntsAt w' a l := by
    intro a l hi hq
    rcases hi with hi | ⟨g, off, rfl, hc⟩
    · exact .inl hi
    · refine .inr ⟨g, off, rfl, fun i hlt => ?_⟩
      have h1 := hc i hlt
      rw [World.cell?_of_block (w := w) (w' := w') (hb g (cell_lt h1) (hq _ rfl))]
      exact h1
  obtain ⟨a, c, e, hi⟩ := h.s
  obtain ⟨ws, ⟨a2, c2, e2, l2, l3, h1⟩, h2⟩ := h.w
  exact ⟨h.l2, h.lc, ⟨a, c, e, key _ _ hi (fun x hx => h.sq x _ _ (by rw [e, hx]))⟩, h.sq, ⟨ws, ⟨a2, c2, e2, l2, l3, key _ _ h1 (fun x hx => h.wq x _ _ (by rw [e2, hx]))⟩, h2⟩, h.wq⟩
theorem RSt.fr5 {C T D S L X N : Nat} {w w' : World} {z : CSt} {sv wv : Value} (h : RSt (fun k => C < k ∧ k ≠ X) N w z sv wv) (f : Fr5 C T D S L w w') (ord : S < D ∧ D < T ∧ T < L ∧ L < C) : RSt (fun k => C < k ∧ k ≠ X) N w' z sv wv :=
  h.move (fun k hk hq => f.block k hk (by omega) (by omega) (by omega) (by omega) (by omega))
theorem RSt.up {Q : Nat → Prop} {N M : Nat} {w : World} {z : CSt} {sv wv : Value} (h : RSt Q N w z sv wv) (hN : N ≤ M) : RSt Q M w z sv wv := by
  obtain ⟨ws, h1, h2, h3, h4⟩ := h.w
  exact ⟨h.l2, h.lc, h.s, h.sq, ⟨ws, h1, h2, h3, by omega⟩, h.wq⟩
theorem RSt.ne {Q : Nat → Prop} {N : Nat} {w : World} {z : CSt} {sv : Value} (h : RSt Q N w z sv (.slice none 0 0)) (l1 : 1 ≤ z.lv) : RSt (fun k => Q k ∧ k ≠ w.heap.size) N w z sv (.slice none 0 0) := by
  obtain ⟨a, c, e, hi⟩ := h.s
  refine ⟨h.l2, h.lc, ⟨a, c, e, hi⟩, fun x n d hx => ⟨h.sq x n d hx, ?_⟩, h.w, fun x n d hx => by cases hx⟩
  have hlc := h.lc
  rcases hi with hi | ⟨g, off, rfl, hc⟩
  · have h0 := congrArg List.length hi
    rw [List.length_take, List.length_nil] at h0
    omega
  · have h1 := cell_lt (hc 0 (by simp; omega))
    rw [e] at hx
    cases hx
    exact Nat.ne_of_lt h1
/-- The six cells of what a window's end tells. -/
def cW (z : CSt) : List Value := [.int .i64 (clV z), .int .i64 (clZ z).th, .int .i64 (clZ z).ti, .int .i64 (clZ z).ep, .bool (mvB (clT z) (clA z)), .bool (clD z).is]
theorem cW_one (z : CSt) : (cW z).toArray.all (·.oneCell') = true := by kernel_rfl
theorem cW_cells {W : World} {b : Nat} {ty : TypeId} {z : CSt} (h : IsObj W b ty (cW z)) : W.cell? ⟨b, 0, none⟩ = some (.int .i64 (clV z)) ∧ W.cell? ⟨b, 1, none⟩ = some (.int .i64 (clZ z).th) ∧ W.cell? ⟨b, 2, none⟩ = some (.int .i64 (clZ z).ti) ∧ W.cell? ⟨b, 3, none⟩ = some (.int .i64 (clZ z).ep) ∧ W.cell? ⟨b, 4, none⟩ = some (.bool (mvB (clT z) (clA z))) ∧ W.cell? ⟨b, 5, none⟩ = some (.bool (clD z).is) :=
  ⟨h.cell 0, h.cell 1, h.cell 2, h.cell 3, h.cell 4, h.cell 5⟩
def kC (k : Kb) : List Value := [.int .i64 k.k0, .int .i64 k.k1, .int .i64 k.k2, .int .i64 k.k3, .int .i64 k.k4, .int .i64 k.k5, .int .i64 k.k6]
theorem RSt.setK {Q : Nat → Prop} {N : Nat} {w : World} {z : CSt} {sv wv : Value} (h : RSt Q N w z sv wv) (k : Kb) : RSt Q N w { z with k := k } sv wv := ⟨h.l2, h.lc, h.s, h.sq, h.w, h.wq⟩
/-- What the loop holds. -/
structure PlAt (w3 : World) (C T D S L X lv N : Nat) (z : CSt) (sv wv : Value) (wr : World) : Prop where
  c : CtlAt wr C T D S L z
  x : IsObj wr X 38 (zC z sv wv)
  r : RSt (fun k => C < k ∧ k ≠ X) N wr z sv wv
  lv : z.lv = lv
  cx : C < X
  b : Below S w3 wr
theorem PlAt.same {w3 : World} {C T D S L X lv N : Nat} {z : CSt} {sv wv : Value} {wr w' : World} (h : PlAt w3 C T D S L X lv N z sv wv wr) (hb : Below wr.heap.size wr w') : PlAt w3 C T D S L X lv N z sv wv w' :=
  have ho := h.c.ord
  have hl := h.c.lt
  ⟨h.c.same hb, IsObj.below h.x hb h.x.lt, h.r.same hb, h.lv, h.cx, h.b.trans (hb.mono (by omega))⟩
theorem PlAt.hq {w3 : World} {C T D S L X lv N : Nat} {z : CSt} {sv wv : Value} {wr : World} (h : PlAt w3 C T D S L X lv N z sv wv wr) : ∀ b, wr.heap.size ≤ b → C < b ∧ b ≠ X := by
  intro b hb
  have h1 := h.c.lt
  have h2 := h.x.lt
  omega
/-- Behind the document's move, made its own: the variable is filled anew. -/
theorem PlAt.put {w3 : World} {C T D S L X lv N : Nat} {z z' : CSt} {sv wv sv' wv' : Value} {wr w' : World} (h : PlAt w3 C T D S L X lv N z sv wv wr) (ho : Only X wr w') (hx : IsObj w' X 38 (zC z' sv' wv')) : CtlAt w' C T D S L z ∧ IsObj w' X 38 (zC z' sv' wv') ∧ Below S w3 w' :=
  have hc := h.cx
  have hord := h.c.ord
  have hl := h.x.lt
  ⟨h.c.onlyX ho h.cx, hx, h.b.trans (ho.below (by omega) (by omega))⟩
set_option maxRecDepth 100000 in
set_option maxHeartbeats 4000000 in
theorem plays_walk (lvI tr : Int) (k : Kb) (a : Option Addr) (cap : Nat) (l : List CAct) (w : World) (g1 : l.length ≤ cap) (g2 : cap ≤ 9223372036854775807) (hA : RowOf cactCells 9 w a l) :
    Calls Tryz.prog 3 #[.agg #[.int .i64 lvI, .int .i64 tr, .int .i64 k.k0, .int .i64 k.k1, .int .i64 k.k2, .int .i64 k.k3, .int .i64 k.k4, .int .i64 k.k5, .int .i64 k.k6], .slice a l.length cap] w fun e w' => e = .returned (.bool true) ∧ Below w.heap.size w w' := by
  obtain ⟨k0, k1, k2, k3, k4, k5, k6⟩ := k
  have HA := Lib.hid hA
  clear hA
  obtain ⟨R, hR⟩ : ∃ R, R = w.heap.size := ⟨_, rfl⟩
  obtain ⟨W0, hW0⟩ : ∃ W0, W0 = w.alloc (.cells #[.int .i64 lvI, .int .i64 tr, .int .i64 k0, .int .i64 k1, .int .i64 k2, .int .i64 k3, .int .i64 k4, .int .i64 k5, .int .i64 k6] 25) := ⟨_, rfl⟩
  have o := Lib.hid (show IsObj W0 R 25 [.int .i64 lvI, .int .i64 tr, .int .i64 k0, .int .i64 k1, .int .i64 k2, .int .i64 k3, .int .i64 k4, .int .i64 k5, .int .i64 k6] by rw [hR, hW0]; exact IsObj.new w _ [.int .i64 lvI, .int .i64 tr, .int .i64 k0, .int .i64 k1, .int .i64 k2, .int .i64 k3, .int .i64 k4, .int .i64 k5, .int .i64 k6])
  have B := Lib.hid (show Below R w W0 by rw [hR, hW0]; exact (Below.refl _ _).alloc (Nat.le_refl _) _)
  have hs0 : R < W0.heap.size := o.out.lt
  have HR := Lib.hid hR
  have HW := Lib.hid hW0
  have hn1 : R ≤ w.heap.size := by omega
  have hn2 : w.heap.size ≤ R := by omega
  clear hR hW0
  by_cases hl : 150 < l.length
  · have i1 : (150 : Int) < (l.length : Int) := by omega
    go_enter Tryz.func3, Tryz.ntmps3
    go_wp2_with fail
    rw [← HW.out]
    refine (awake20 _).mono ?_
    rintro e w1 ⟨rfl, b1⟩
    go_wp2_with fail
    go_ret
    exact ⟨rfl, (B.out.mono hn2).trans (b1.mono (by omega))⟩
  · have i1 : (l.length : Int) ≤ 150 := by omega
    have q0 : W0.cell? ⟨R, 0, none⟩ = some (.int .i64 lvI) := o.out.cell 0
    have q1 : W0.cell? ⟨R, 1, none⟩ = some (.int .i64 tr) := o.out.cell 1
    have q2 : W0.cell? ⟨R, 2, none⟩ = some (.int .i64 k0) := o.out.cell 2
    have q3 : W0.cell? ⟨R, 3, none⟩ = some (.int .i64 k1) := o.out.cell 3
    have q4 : W0.cell? ⟨R, 4, none⟩ = some (.int .i64 k2) := o.out.cell 4
    have q5 : W0.cell? ⟨R, 5, none⟩ = some (.int .i64 k3) := o.out.cell 5
    have q6 : W0.cell? ⟨R, 6, none⟩ = some (.int .i64 k4) := o.out.cell 6
    have q7 : W0.cell? ⟨R, 7, none⟩ = some (.int .i64 k5) := o.out.cell 7
    have q8 : W0.cell? ⟨R, 8, none⟩ = some (.int .i64 k6) := o.out.cell 8
    go_enter Tryz.func3, Tryz.ntmps3
    go_upto_region 1 with (fail)
    rw [← HW.out, ← HR.out]
    go_wp2_with fail
    by_cases hnew : (1 ≤ lvI ∧ lvI ≤ 128) ∧ (0 ≤ tr ∧ tr ≤ 7)
    · obtain ⟨lv, rfl⟩ : ∃ lv : Nat, lvI = lv := ⟨lvI.toNat, by omega⟩
      refine (c_new lv tr ⟨k0, k1, k2, k3, k4, k5, k6⟩ W0 (by omega) (by omega) hnew.2.1 hnew.2.2).mono ?_
      rintro e w3 ⟨b3, hh⟩
      have B3 := Lib.hid (B.out.trans (b3.mono (by omega)))
      rcases hh with ⟨hkno, rfl⟩ | ⟨hkok, C, T, D, S, L, rfl, h3, hS⟩
      · as_aux_lemma =>
          have O3 := Lib.hid (IsObj.below o.out b3 o.out.lt)
          have hs3 : R ≤ w3.heap.size := by have := b3.size; omega
          clear b3
          clear q0 q1 q2 q3 q4 q5 q6 q7 q8
          have q0 : w3.cell? ⟨R, 0, none⟩ = some (.int .i64 lv) := O3.out.cell 0
          have q1 : w3.cell? ⟨R, 1, none⟩ = some (.int .i64 tr) := O3.out.cell 1
          have q2 : w3.cell? ⟨R, 2, none⟩ = some (.int .i64 k0) := O3.out.cell 2
          have q3 : w3.cell? ⟨R, 3, none⟩ = some (.int .i64 k1) := O3.out.cell 3
          have q4 : w3.cell? ⟨R, 4, none⟩ = some (.int .i64 k2) := O3.out.cell 4
          have q5 : w3.cell? ⟨R, 5, none⟩ = some (.int .i64 k3) := O3.out.cell 5
          have q6 : w3.cell? ⟨R, 6, none⟩ = some (.int .i64 k4) := O3.out.cell 6
          have q7 : w3.cell? ⟨R, 7, none⟩ = some (.int .i64 k5) := O3.out.cell 7
          have q8 : w3.cell? ⟨R, 8, none⟩ = some (.int .i64 k6) := O3.out.cell 8
          go_upto_region 4 with (fail)
          go_upto_region 5 with (fail)
          refine (rnew_no (Q := fun _ => True) lv tr k0 k1 k2 k3 k4 k5 k6 w3 (by omega) (by omega) hnew.2.1 hnew.2.2 hkno (fun _ _ => trivial)).mono ?_
          rintro e w4 ⟨rfl, b4⟩
          have B4 := Lib.hid (B3.out.trans (b4.mono (by omega)))
          clear b4
          clear q0 q1 q2 q3 q4 q5 q6 q7 q8
          have hNV := newvar w4 z0C [.int .i64 0, .int .i64 0, .int .i64 0, .int .i64 0, .int .i64 0, .int .i64 0, .int .i64 0, .int .i64 0, .slice none 0 0, .slice none 0 0, .int .i64 0, .int .i64 0, .int .i64 0, .int .i64 0, .int .i64 0, .int .i64 0, .int .i64 0] 38 rfl
          have TH := Lib.hid hNV.1
          have B5 := Lib.hid (B4.out.trans (hNV.2.2.mono (by have := B4.out.size; omega)))
          clear hNV
          go_upto_region 5 with (refine wpList_store_mid (by rfl) 38 _ _ (by rfl) w4.heap.size 0 z0C.toArray (by rfl) (by rfl) (by exact TH.out) zinfo z0_one ?_; generalize (w4.alloc (.cells #[.int .i64 0, .int .i64 0, .int .i64 0, .int .i64 0, .int .i64 0, .int .i64 0, .int .i64 0, .int .i64 0, .slice none 0 0, .slice none 0 0, .int .i64 0, .int .i64 0, .int .i64 0, .int .i64 0, .int .i64 0, .int .i64 0, .int .i64 0] 38)).setCells w4.heap.size 0 z0C.toArray.toList = w5 at *)
          go_wp2_with fail
          refine (awake20 _).mono ?_
          rintro e w1 ⟨rfl, b1⟩
          go_wp2_with fail
          go_ret
          exact ⟨rfl, (B5.out.mono hn2).trans (b1.mono (by have := B5.out.size; omega))⟩
      · focus
          have O3 := Lib.hid (IsObj.below o.out b3 o.out.lt)
          have hC3 := h3.lt
          have hord := h3.ord
          have H3 := Lib.hid h3
          have hs3 : R < S := by omega
          clear h3 b3
          clear q0 q1 q2 q3 q4 q5 q6 q7 q8
          have q0 : w3.cell? ⟨R, 0, none⟩ = some (.int .i64 lv) := O3.out.cell 0
          have q1 : w3.cell? ⟨R, 1, none⟩ = some (.int .i64 tr) := O3.out.cell 1
          have q2 : w3.cell? ⟨R, 2, none⟩ = some (.int .i64 k0) := O3.out.cell 2
          have q3 : w3.cell? ⟨R, 3, none⟩ = some (.int .i64 k1) := O3.out.cell 3
          have q4 : w3.cell? ⟨R, 4, none⟩ = some (.int .i64 k2) := O3.out.cell 4
          have q5 : w3.cell? ⟨R, 5, none⟩ = some (.int .i64 k3) := O3.out.cell 5
          have q6 : w3.cell? ⟨R, 6, none⟩ = some (.int .i64 k4) := O3.out.cell 6
          have q7 : w3.cell? ⟨R, 7, none⟩ = some (.int .i64 k5) := O3.out.cell 7
          have q8 : w3.cell? ⟨R, 8, none⟩ = some (.int .i64 k6) := O3.out.cell 8
          go_upto_region 4 with (fail)
          go_upto_region 5 with (fail)
          refine (rnew_yes (Q := fun k => C < k) lv tr k0 k1 k2 k3 k4 k5 k6 w3 (by omega) (by omega) hnew.2.1 hnew.2.2 hkok (fun b hb => by omega)).mono ?_
          rintro e w4 ⟨sv, rfl, r4, b4⟩
          have R4 := r4.ne (by show 1 ≤ lv; omega)
          have H4 := H3.out.same b4
          have b34 : Below S w3 w4 := b4.mono (by omega)
          have B4 := Lib.hid (B3.out.trans (b4.mono (by omega)))
          have O4 := Lib.hid (IsObj.below O3.out b4 O3.out.lt)
          have hX4 : C < w4.heap.size := by have := b4.size; omega
          have so := r4.so
          clear q0 q1 q2 q3 q4 q5 q6 q7 q8
          have hNV := newvar w4 (zC (newSt lv tr ⟨k0, k1, k2, k3, k4, k5, k6⟩) sv (.slice none 0 0)) [.int .i64 0, .int .i64 0, .int .i64 0, .int .i64 0, .int .i64 0, .int .i64 0, .int .i64 0, .int .i64 0, .slice none 0 0, .slice none 0 0, .int .i64 0, .int .i64 0, .int .i64 0, .int .i64 0, .int .i64 0, .int .i64 0, .int .i64 0] 38 rfl
          have TH := Lib.hid hNV.1
          obtain ⟨X, hX⟩ : ∃ X, X = w4.heap.size := ⟨_, rfl⟩
          have HX := Lib.hid hX
          have O5 := Lib.hid (IsObj.below O4.out hNV.2.2 O4.out.lt)
          have B5 := Lib.hid (B4.out.trans (hNV.2.2.mono (by have := B4.out.size; omega)))
          have HK := Lib.hid (show PlAt w3 C T D S L X lv 0 (newSt lv tr ⟨k0, k1, k2, k3, k4, k5, k6⟩) sv (.slice none 0 0) ((w4.alloc (.cells #[.int .i64 0, .int .i64 0, .int .i64 0, .int .i64 0, .int .i64 0, .int .i64 0, .int .i64 0, .int .i64 0, .slice none 0 0, .slice none 0 0, .int .i64 0, .int .i64 0, .int .i64 0, .int .i64 0, .int .i64 0, .int .i64 0, .int .i64 0] 38)).setCells w4.heap.size 0 (zC (newSt lv tr ⟨k0, k1, k2, k3, k4, k5, k6⟩) sv (.slice none 0 0)).toArray.toList) from ⟨H4.same hNV.2.2, by rw [hX]; exact hNV.2.1, by rw [hX]; exact R4.same hNV.2.2, rfl, by omega, b34.trans (hNV.2.2.mono (by omega))⟩)
          clear r4 R4 H4 b34 b4 hNV hX H3 O4 hX4
          have ZO : (zC (newSt lv tr ⟨k0, k1, k2, k3, k4, k5, k6⟩) sv (.slice none 0 0)).toArray.all (·.oneCell') = true := zC_one so rfl
          go_upto_region 5 with (refine wpList_store_mid (by rfl) 38 _ _ (by rfl) w4.heap.size 0 (zC (newSt lv tr ⟨k0, k1, k2, k3, k4, k5, k6⟩) sv (.slice none 0 0)).toArray (by rfl) (by rfl) (by exact TH.out) zinfo ZO ?_; generalize (w4.alloc (.cells #[.int .i64 0, .int .i64 0, .int .i64 0, .int .i64 0, .int .i64 0, .int .i64 0, .int .i64 0, .int .i64 0, .slice none 0 0, .slice none 0 0, .int .i64 0, .int .i64 0, .int .i64 0, .int .i64 0, .int .i64 0, .int .i64 0, .int .i64 0] 38)).setCells w4.heap.size 0 (zC (newSt lv tr ⟨k0, k1, k2, k3, k4, k5, k6⟩) sv (.slice none 0 0)).toArray.toList = w5 at *)
          rw [← HX.out]
          have RG := Lib.hid (IsObj.range HK.out.x)
          go_upto_region 8 with (refine wpList_load_if (by rfl) 38 _ (by rfl) X 0 (by rfl) (zC (newSt lv tr ⟨k0, k1, k2, k3, k4, k5, k6⟩) sv (.slice none 0 0)) _ (by exact RG.out) Tryz.underlying38 rfl zinfo ?_)
          refine (same20 0 sv (.slice none 0 0) HK.out.c).mono ?_
          rintro e w6 ⟨rfl, b6⟩
          have HP := Lib.hid (HK.out.same b6)
          have hcx := HK.out.cx
          have B6 := Lib.hid (B5.out.trans (b6.mono (by have := B5.out.size; omega)))
          have O6 := Lib.hid (IsObj.below O5.out b6 O5.out.lt)
          clear b6 HK RG O5 B5 TH ZO so
          go_wp2_with fail
          go_loopw [9] (fun i wr => ∃ (j : Nat) (z : CSt) (sv wv : Value), j ≤ l.length ∧ i = .int .i64 j ∧ PlAt w3 C T D S L X lv j z sv wv wr) (fun i _ => l.length - (intOf i).toNat)
          case atStart => exact ⟨0, _, _, _, Nat.zero_le _, rfl, HP.out⟩
          case round =>
            obtain ⟨j, z, sv, wv, hj, rfl, hK⟩ := hrel
            have HK := Lib.hid hK
            clear hK HP
            by_cases hlt : j < l.length
            · obtain ⟨b, off, rfl, hc⟩ : ∃ b off, a = some ⟨b, off, none⟩ ∧ ∀ i, i < l.length → ∀ j, j < 9 → w.cell? ⟨b, off + i * 9 + j, none⟩ = (cactCells (nth l i))[j]? := by
                rcases HA.out with rfl | ⟨b, off, rfl, hc⟩
                · simp at hlt
                · exact ⟨b, off, rfl, hc⟩
              obtain ⟨x, hx⟩ : ∃ x, x = nth l j := ⟨_, rfl⟩
              have hlw : Below R w wr := B3.out.trans (HK.out.b.mono (by omega))
              have hbw : b < R := by have := cell_lt (hc j hlt 0 (by omega)); have hh : b < w.heap.size := this; omega
              have ha : ∀ q, q < 9 → wr.cell? ⟨b, off + j * 9 + q, none⟩ = (cactCells x)[q]? := fun q hq => by rw [hx, ← hc j hlt q hq]; exact hlw.cell (p := ⟨b, off + j * 9 + q, none⟩) hbw
              obtain ⟨kd, n, m0, m1, m2, m3, m4, m5, m6⟩ := x
              have a0 : wr.cell? ⟨b, off + j * 9, none⟩ = some (.int .i64 kd) := ha 0 (by omega)
              have a1 : wr.cell? ⟨b, off + j * 9 + 1, none⟩ = some (.int .i64 n) := ha 1 (by omega)
              have a2 : wr.cell? ⟨b, off + j * 9 + 2, none⟩ = some (.int .i64 m0) := ha 2 (by omega)
              have a3 : wr.cell? ⟨b, off + j * 9 + 3, none⟩ = some (.int .i64 m1) := ha 3 (by omega)
              have a4 : wr.cell? ⟨b, off + j * 9 + 4, none⟩ = some (.int .i64 m2) := ha 4 (by omega)
              have a5 : wr.cell? ⟨b, off + j * 9 + 5, none⟩ = some (.int .i64 m3) := ha 5 (by omega)
              have a6 : wr.cell? ⟨b, off + j * 9 + 6, none⟩ = some (.int .i64 m4) := ha 6 (by omega)
              have a7 : wr.cell? ⟨b, off + j * 9 + 7, none⟩ = some (.int .i64 m5) := ha 7 (by omega)
              have a8 : wr.cell? ⟨b, off + j * 9 + 8, none⟩ = some (.int .i64 m6) := ha 8 (by omega)
              have i5 : (j : Int) < (l.length : Int) := by omega
              have hlr := HK.out.c.lt
              clear hc ha hx hlw
              obtain ⟨A, hA⟩ : ∃ A, A = wr.heap.size := ⟨_, rfl⟩
              have HAA := Lib.hid hA
              have OA := Lib.hid (show IsObj (wr.alloc (.cells #[.int .i64 kd, .int .i64 n, .int .i64 m0, .int .i64 m1, .int .i64 m2, .int .i64 m3, .int .i64 m4, .int .i64 m5, .int .i64 m6] 43)) A 43 [.int .i64 kd, .int .i64 n, .int .i64 m0, .int .i64 m1, .int .i64 m2, .int .i64 m3, .int .i64 m4, .int .i64 m5, .int .i64 m6] by rw [hA]; exact IsObj.new wr _ [.int .i64 kd, .int .i64 n, .int .i64 m0, .int .i64 m1, .int .i64 m2, .int .i64 m3, .int .i64 m4, .int .i64 m5, .int .i64 m6])
              have HK1 := Lib.hid (HK.out.same ((Below.refl _ wr).alloc (Nat.le_refl _) (.cells #[.int .i64 kd, .int .i64 n, .int .i64 m0, .int .i64 m1, .int .i64 m2, .int .i64 m3, .int .i64 m4, .int .i64 m5, .int .i64 m6] 43)))
              have OF1 := Lib.hid (IsObj.below (IsObj.below O3.out HK.out.b (by omega)) ((Below.refl _ wr).alloc (Nat.le_refl _) (.cells #[.int .i64 kd, .int .i64 n, .int .i64 m0, .int .i64 m1, .int .i64 m2, .int .i64 m3, .int .i64 m4, .int .i64 m5, .int .i64 m6] 43)) (by have := HK.out.b.size; omega))
              have hAX : X < A := by rw [hA]; exact HK.out.x.lt
              clear hA HK
              go_upto_region 14 with (fail)
              rw [← HAA.out]
              generalize wr.alloc (.cells #[.int .i64 kd, .int .i64 n, .int .i64 m0, .int .i64 m1, .int .i64 m2, .int .i64 m3, .int .i64 m4, .int .i64 m5, .int .i64 m6] 43) = w7 at *
              clear a0 a1 a2 a3 a4 a5 a6 a7 a8
              by_cases e0 : kd = 0
              · subst e0
                focus
                  have RG := Lib.hid (IsObj.range HK1.out.x)
                  have a1 : w7.cell? ⟨A, 1, none⟩ = some (.int .i64 n) := OA.out.cell 1
                  go_upto_region 16 with (refine wpList_load_mid (by rfl) 38 _ (by rfl) X 0 (by rfl) (zC z sv wv) _ (by exact RG.out) Tryz.underlying38 rfl zinfo ?_)
                  refine (rsaw20_any z sv wv n w7 HK1.out.r HK1.out.hq).mono ?_
                  rintro e w8 ⟨sv', rfl, r8, b8⟩
                  have hK8 := HK1.out.same b8
                  have oA8 := IsObj.below OA.out b8 OA.out.lt
                  have so' := r8.so
                  have wo' := r8.wo
                  clear a1 RG
                  obtain ⟨G, hG⟩ : ∃ G, G = w8.heap.size := ⟨_, rfl⟩
                  have HG := Lib.hid hG
                  have hNV := newvar w8 (zC z sv' wv) [.int .i64 0, .int .i64 0, .int .i64 0, .int .i64 0, .int .i64 0, .int .i64 0, .int .i64 0, .int .i64 0, .slice none 0 0, .slice none 0 0, .int .i64 0, .int .i64 0, .int .i64 0, .int .i64 0, .int .i64 0, .int .i64 0, .int .i64 0] 38 rfl
                  have TH := Lib.hid hNV.1
                  have VG9 := Lib.hid (show IsObj ((w8.alloc (.cells #[.int .i64 0, .int .i64 0, .int .i64 0, .int .i64 0, .int .i64 0, .int .i64 0, .int .i64 0, .int .i64 0, .slice none 0 0, .slice none 0 0, .int .i64 0, .int .i64 0, .int .i64 0, .int .i64 0, .int .i64 0, .int .i64 0, .int .i64 0] 38)).setCells w8.heap.size 0 (zC z sv' wv).toArray.toList) G 38 (zC z sv' wv) by rw [hG]; exact hNV.2.1)
                  have HK9 := Lib.hid (hK8.same hNV.2.2)
                  have R9 := Lib.hid (r8.same hNV.2.2)
                  have OA9 := Lib.hid (IsObj.below oA8 hNV.2.2 oA8.lt)
                  have hXG : A < G := by rw [hG]; exact oA8.lt
                  have ZO : (zC z sv' wv).toArray.all (·.oneCell') = true := zC_one so' wo'
                  clear hK8 oA8 hNV r8 b8 hG
                  go_upto_region 16 with (refine wpList_store_mid (by rfl) 38 _ _ (by rfl) w8.heap.size 0 (zC z sv' wv).toArray (by rfl) (by rfl) (by exact TH.out) zinfo ZO ?_; generalize (w8.alloc (.cells #[.int .i64 0, .int .i64 0, .int .i64 0, .int .i64 0, .int .i64 0, .int .i64 0, .int .i64 0, .int .i64 0, .slice none 0 0, .slice none 0 0, .int .i64 0, .int .i64 0, .int .i64 0, .int .i64 0, .int .i64 0, .int .i64 0, .int .i64 0] 38)).setCells w8.heap.size 0 (zC z sv' wv).toArray.toList = w9 at *)
                  rw [← HG.out]
                  have RGG := Lib.hid (IsObj.range VG9.out)
                  have hSV := setvar (cs := zC z sv' wv) HK9.out.x rfl
                  have TX := Lib.hid hSV.1
                  have HP := Lib.hid (HK9.out.put (z' := z) hSV.2.2 hSV.2.1)
                  have R10 := Lib.hid (R9.out.only hSV.2.2 (fun k hk => hk.2))
                  have OA10 := Lib.hid (IsObj.only OA9.out hSV.2.2 (by omega))
                  clear hSV TH
                  go_upto_region 17 with (first | (refine wpList_load_mid (by rfl) 38 _ (by rfl) G 0 (by rfl) (zC z sv' wv) _ (by exact RGG.out) Tryz.underlying38 rfl zinfo ?_) | (refine wpList_store_mid (by rfl) 38 _ _ (by rfl) X 0 (zC z sv' wv).toArray (by rfl) (by rfl) (by exact TX.out) zinfo ZO ?_; generalize w9.setCells X 0 (zC z sv' wv).toArray.toList = w10 at *))
                  have a1 : w10.cell? ⟨A, 1, none⟩ = some (.int .i64 n) := OA10.out.cell 1
                  go_upto_region 18 with (fail)
                  refine (c_saw n HP.out.1).mono ?_
                  rintro e w11 ⟨rfl, h11, f11⟩
                  have hlt10 := HP.out.1.lt
                  have HKZ := Lib.hid (show PlAt w3 C T D S L X lv (j + 1) { z with c := hadd z.lv z.c n 1 } sv' wv w11 from ⟨h11, f11.isObj HP.out.2.1 (by omega), (R10.out.fr5 f11 hord).up (by omega), HK9.out.lv, hcx, HP.out.2.2.trans (f11.to hord (Nat.le_refl _) (by omega))⟩)
                  have OAZ := Lib.hid (f11.isObj OA10.out (by omega))
                  clear h11 f11 a1 R10 OA10 HP R9 OA9 HK9 VG9 RGG TX ZO
                  have e1 : w11.cell? ⟨A, 1, none⟩ = some (.int .i64 n) := OAZ.out.cell 1
                  have RGZ := Lib.hid (IsObj.range HKZ.out.x)
                  go_wp2_with (first | (refine wpList_load_mid (by rfl) 38 _ (by rfl) X 0 (by rfl) (zC { z with c := hadd z.lv z.c n 1 } sv' wv) _ (by exact RGZ.out) Tryz.underlying38 rfl zinfo ?_) | (go_at_call 7; refine (same20 n sv' wv HKZ.out.c).mono ?_; rintro e wS ⟨rfl, bS⟩; have HKF := Lib.hid (HKZ.out.same bS); clear bS e1 HKZ OAZ RGZ))
                  go_roundw
                  case rel => exact ⟨j + 1, _, _, _, by omega, by go_num, HKF.out⟩
                  case measure => simp [intOf]; omega
              by_cases e1 : kd = 1
              · subst e1
                clear e0
                focus
                  have a1 : w7.cell? ⟨A, 1, none⟩ = some (.int .i64 n) := OA.out.cell 1
                  go_upto_region 21 with (fail)
                  refine (c_waited n HK1.out.c).mono ?_
                  rintro e w8 ⟨rfl, h8, f8⟩
                  have hlt7 := HK1.out.c.lt
                  have oA8 := f8.isObj OA.out (by omega)
                  have X8 := Lib.hid (f8.isObj HK1.out.x (by omega))
                  have R8 := Lib.hid (HK1.out.r.fr5 f8 hord)
                  have B8 := Lib.hid (HK1.out.b.trans (f8.to hord (Nat.le_refl _) (by omega)))
                  have H8 := Lib.hid h8
                  have OA8 := Lib.hid oA8
                  clear a1 h8 f8 oA8
                  have a1 : w8.cell? ⟨A, 1, none⟩ = some (.int .i64 n) := OA8.out.cell 1
                  have RG := Lib.hid (IsObj.range X8.out)
                  have hQ8 : ∀ b, w8.heap.size ≤ b → C < b ∧ b ≠ X := by
                    intro b hb
                    have h1 := H8.out.lt
                    have h2 := X8.out.lt
                    omega
                  go_upto_region 36 with (refine wpList_load_mid (by rfl) 38 _ (by rfl) X 0 (by rfl) (zC z sv wv) _ (by exact RG.out) Tryz.underlying38 rfl zinfo ?_)
                  refine (rwaited20_any z sv wv n w8 (by omega) R8.out hQ8).mono ?_
                  rintro e w9 ⟨wv', rfl, r9, b9⟩
                  have so' := r9.so
                  have wo' := r9.wo
                  have x9 := IsObj.below X8.out b9 X8.out.lt
                  have hSV := setvar (cs := zC z sv wv') x9 rfl
                  have TX := Lib.hid hSV.1
                  have OA9 := Lib.hid (IsObj.below OA8.out b9 OA8.out.lt)
                  have HKZ := Lib.hid (show PlAt w3 C T D S L X lv (j + 1) { z with m := bAdd z.m 1, s := bAdd z.s n, x := max z.x (cnt n) } sv wv' (w9.setCells X 0 (zC z sv wv').toArray.toList) from ⟨(H8.out.same b9).onlyX hSV.2.2 hcx, hSV.2.1, r9.only hSV.2.2 (fun k hk => hk.2), HK1.out.lv, hcx, (B8.out.trans (b9.mono (by have := H8.out.lt; omega))).trans (hSV.2.2.below (by omega) (by have := x9.lt; omega))⟩)
                  have OAZ := Lib.hid (IsObj.only OA9.out hSV.2.2 (by omega))
                  have ZO : (zC z sv wv').toArray.all (·.oneCell') = true := zC_one so' wo'
                  clear hSV x9 r9 b9 a1 RG hQ8 B8 R8
                  go_upto_region 36 with (refine wpList_store_mid (by rfl) 38 _ _ (by rfl) X 0 (zC z sv wv').toArray (by rfl) (by rfl) (by exact TX.out) zinfo ZO ?_; generalize w9.setCells X 0 (zC z sv wv').toArray.toList = w10 at *)
                  have e1 : w10.cell? ⟨A, 1, none⟩ = some (.int .i64 n) := OAZ.out.cell 1
                  have RGZ := Lib.hid (IsObj.range HKZ.out.x)
                  go_wp2_with (first | (refine wpList_load_mid (by rfl) 38 _ (by rfl) X 0 (by rfl) (zC { z with m := bAdd z.m 1, s := bAdd z.s n, x := max z.x (cnt n) } sv wv') _ (by exact RGZ.out) Tryz.underlying38 rfl zinfo ?_) | (go_at_call 7; refine (same20 n sv wv' HKZ.out.c).mono ?_; rintro e wS ⟨rfl, bS⟩; have HKF := Lib.hid (HKZ.out.same bS); clear bS e1 HKZ OAZ RGZ))
                  go_roundw
                  case rel => exact ⟨j + 1, _, _, _, by omega, by go_num, HKF.out⟩
                  case measure => simp [intOf]; omega
              by_cases e2 : kd = 2
              · subst e2
                clear e0 e1
                focus
                  have RG := Lib.hid (IsObj.range HK1.out.x)
                  go_upto_region 24 with (refine wpList_load_mid (by rfl) 38 _ (by rfl) X 0 (by rfl) (zC z sv wv) _ (by exact RG.out) Tryz.underlying38 rfl zinfo ?_)
                  refine (rclose20_any z sv wv w7 HK1.out.c.ok HK1.out.r HK1.out.hq).mono ?_
                  rintro e w8 ⟨sv', rfl, r8, b8⟩
                  have HK8 := Lib.hid (HK1.out.same b8)
                  have OA8 := Lib.hid (IsObj.below OA.out b8 OA.out.lt)
                  have R8 := Lib.hid r8
                  have so' := r8.so
                  clear RG r8 b8
                  obtain ⟨G, hG⟩ : ∃ G, G = w8.heap.size := ⟨_, rfl⟩
                  have HG := Lib.hid hG
                  have bW := Lib.hid (show Below w8.heap.size w8 ((w8.alloc (.cells #[.int .i64 0, .int .i64 0, .int .i64 0, .int .i64 0, .int .i64 0, .int .i64 0, .int .i64 0, .int .i64 0, .slice none 0 0, .slice none 0 0, .int .i64 0, .int .i64 0, .int .i64 0, .int .i64 0, .int .i64 0, .int .i64 0, .int .i64 0] 38)).alloc (.cells #[.int .i64 0, .int .i64 0, .int .i64 0, .int .i64 0, .bool false, .bool false] 50)) from ((Below.refl _ w8).alloc (Nat.le_refl _) _).alloc (by simp) _)
                  have VA := Lib.hid (show IsObj ((w8.alloc (.cells #[.int .i64 0, .int .i64 0, .int .i64 0, .int .i64 0, .int .i64 0, .int .i64 0, .int .i64 0, .int .i64 0, .slice none 0 0, .slice none 0 0, .int .i64 0, .int .i64 0, .int .i64 0, .int .i64 0, .int .i64 0, .int .i64 0, .int .i64 0] 38)).alloc (.cells #[.int .i64 0, .int .i64 0, .int .i64 0, .int .i64 0, .bool false, .bool false] 50)) w8.heap.size 38 [.int .i64 0, .int .i64 0, .int .i64 0, .int .i64 0, .int .i64 0, .int .i64 0, .int .i64 0, .int .i64 0, .slice none 0 0, .slice none 0 0, .int .i64 0, .int .i64 0, .int .i64 0, .int .i64 0, .int .i64 0, .int .i64 0, .int .i64 0] from (IsObj.new w8 _ [.int .i64 0, .int .i64 0, .int .i64 0, .int .i64 0, .int .i64 0, .int .i64 0, .int .i64 0, .int .i64 0, .slice none 0 0, .slice none 0 0, .int .i64 0, .int .i64 0, .int .i64 0, .int .i64 0, .int .i64 0, .int .i64 0, .int .i64 0]).alloc _)
                  have VB := Lib.hid (show IsObj ((w8.alloc (.cells #[.int .i64 0, .int .i64 0, .int .i64 0, .int .i64 0, .int .i64 0, .int .i64 0, .int .i64 0, .int .i64 0, .slice none 0 0, .slice none 0 0, .int .i64 0, .int .i64 0, .int .i64 0, .int .i64 0, .int .i64 0, .int .i64 0, .int .i64 0] 38)).alloc (.cells #[.int .i64 0, .int .i64 0, .int .i64 0, .int .i64 0, .bool false, .bool false] 50)) (w8.heap.size + 1) 50 [.int .i64 0, .int .i64 0, .int .i64 0, .int .i64 0, .bool false, .bool false] by
                    have h := IsObj.new (w8.alloc (.cells #[.int .i64 0, .int .i64 0, .int .i64 0, .int .i64 0, .int .i64 0, .int .i64 0, .int .i64 0, .int .i64 0, .slice none 0 0, .slice none 0 0, .int .i64 0, .int .i64 0, .int .i64 0, .int .i64 0, .int .i64 0, .int .i64 0, .int .i64 0] 38)) 50 [.int .i64 0, .int .i64 0, .int .i64 0, .int .i64 0, .bool false, .bool false]
                    rw [World.size_alloc] at h
                    exact h)
                  have T1 := Lib.hid (IsObj.there VA.out 0 17 (by decide))
                  have Z1 : (zC (clZ z) sv' (.slice none 0 0)).toArray.all (·.oneCell') = true := zC_one so' rfl
                  have V1 := Lib.hid (setvar (cs := (zC (clZ z) sv' (.slice none 0 0))) VA.out rfl)
                  have V1B := Lib.hid (IsObj.only VB.out V1.out.2.2 (by omega))
                  have B1 := Lib.hid (bW.out.trans (V1.out.2.2.below (Nat.le_refl _) bW.out.size))
                  clear hG
                  go_upto_region 24 with (first
                    | (refine wpList_store_mid (by rfl) 38 _ _ (by rfl) w8.heap.size 0 (zC (clZ z) sv' (.slice none 0 0)).toArray (by rfl) (by rfl) (by exact V1.out.1) zinfo Z1 ?_; generalize ((w8.alloc (.cells #[.int .i64 0, .int .i64 0, .int .i64 0, .int .i64 0, .int .i64 0, .int .i64 0, .int .i64 0, .int .i64 0, .slice none 0 0, .slice none 0 0, .int .i64 0, .int .i64 0, .int .i64 0, .int .i64 0, .int .i64 0, .int .i64 0, .int .i64 0] 38)).alloc (.cells #[.int .i64 0, .int .i64 0, .int .i64 0, .int .i64 0, .bool false, .bool false] 50)).setCells w8.heap.size 0 (zC (clZ z) sv' (.slice none 0 0)).toArray.toList = w9 at *)
                    | (refine wpList_store_mid (by rfl) 50 _ _ (by rfl) (w8.heap.size + 1) 0 (cW z).toArray (by rfl) (by rfl) (by exact (setvar (cs := cW z) V1B.out rfl).1) (by kernel_rfl) (cW_one z) ?_))
                  have V2 := setvar (cs := cW z) V1B.out rfl
                  have VG := Lib.hid (IsObj.only V1.out.2.1 V2.2.2 (by omega))
                  have VW := Lib.hid V2.2.1
                  have b10 := B1.out.trans (V2.2.2.below (by omega) B1.out.size)
                  have HK10 := Lib.hid (HK8.out.same b10)
                  have R10 := Lib.hid (R8.out.same b10)
                  have OA10 := Lib.hid (IsObj.below OA8.out b10 OA8.out.lt)
                  clear V2 b10
                  generalize w9.setCells (w8.heap.size + 1) 0 (cW z).toArray.toList = w10 at *
                  rw [← HG.out] at VG VW ⊢
                  have hAG : A < G := by rw [HG.out]; exact OA8.out.lt
                  have RGG := Lib.hid (IsObj.range VG.out)
                  have hSV := setvar (cs := (zC (clZ z) sv' (.slice none 0 0))) HK10.out.x rfl
                  have TX := Lib.hid hSV.1
                  have HP := Lib.hid (HK10.out.put (z' := clZ z) hSV.2.2 hSV.2.1)
                  have R11 := Lib.hid (R10.out.only hSV.2.2 (fun k hk => hk.2))
                  have OA11 := Lib.hid (IsObj.only OA10.out hSV.2.2 (by omega))
                  have VW11 := Lib.hid (IsObj.only VW.out hSV.2.2 (by omega))
                  clear hSV V1 V1B VA VB T1 bW B1
                  go_upto_region 25 with (first | (refine wpList_load_mid (by rfl) 38 _ (by rfl) G 0 (by rfl) (zC (clZ z) sv' (.slice none 0 0)) _ (by exact RGG.out) Tryz.underlying38 rfl zinfo ?_) | (refine wpList_store_mid (by rfl) 38 _ _ (by rfl) X 0 (zC (clZ z) sv' (.slice none 0 0)).toArray (by rfl) (by rfl) (by exact TX.out) zinfo Z1 ?_; generalize w10.setCells X 0 (zC (clZ z) sv' (.slice none 0 0)).toArray.toList = w11 at *))
                  clear TX RGG VG VW R10 OA10
                  have hbd : Below w11.heap.size w11 w11.drew := (Below.refl _ _).drew
                  have HD := Lib.hid (HP.out.1.same hbd)
                  have RD := Lib.hid (R11.out.same hbd)
                  have g0 : w11.cell? ⟨G + 1, 0, none⟩ = some (.int .i64 (clV z)) := VW11.out.cell 0
                  have g1 : w11.cell? ⟨G + 1, 1, none⟩ = some (.int .i64 (clZ z).th) := VW11.out.cell 1
                  have g2 : w11.cell? ⟨G + 1, 2, none⟩ = some (.int .i64 (clZ z).ti) := VW11.out.cell 2
                  have g3 : w11.cell? ⟨G + 1, 3, none⟩ = some (.int .i64 (clZ z).ep) := VW11.out.cell 3
                  have g4 : w11.cell? ⟨G + 1, 4, none⟩ = some (.bool (mvB (clT z) (clA z))) := VW11.out.cell 4
                  have g5 : w11.cell? ⟨G + 1, 5, none⟩ = some (.bool (clD z).is) := VW11.out.cell 5
                  go_wp2_with fail
                  go_region_held3 (fun w' => w'.cell? ⟨G + 1, 0, none⟩ = some (.int .i64 (clV z)) ∧ w'.cell? ⟨G + 1, 1, none⟩ = some (.int .i64 (clZ z).th) ∧ w'.cell? ⟨G + 1, 2, none⟩ = some (.int .i64 (clZ z).ti) ∧ w'.cell? ⟨G + 1, 3, none⟩ = some (.int .i64 (clZ z).ep) ∧ w'.cell? ⟨G + 1, 4, none⟩ = some (.bool (mvB (clT z) (clA z))) ∧ w'.cell? ⟨G + 1, 5, none⟩ = some (.bool (clD z).is)) (first | assumption | exact hk2 | go_keep)
                    ((go_at_call 13; with_reducible refine (c_close HD.out).mono ?_; rintro e w12 ⟨rfl, h12, f12⟩; have hk2 := cW_cells (f12.isObj VW11.out.drew (by omega))))
                  have hlt11 := HP.out.1.lt
                  have HKZ := Lib.hid (show PlAt w3 C T D S L X lv (j + 1) (clZ z) sv' (.slice none 0 0) w12 from ⟨h12, f12.isObj HP.out.2.1.drew (by omega), (RD.out.fr5 f12 hord).up (by omega), (clM_lv z).1.trans HK1.out.lv, hcx, (HP.out.2.2.drew).trans (f12.to hord (Nat.le_refl _) (by show S ≤ w11.heap.size; omega))⟩)
                  have OAZ := Lib.hid (f12.isObj OA11.out.drew (by omega))
                  clear h12 f12 hk2 hbd HD RD HP R11 OA11 VW11 g0 g1 g2 g3 g4 g5
                  have e1 : w12.cell? ⟨A, 1, none⟩ = some (.int .i64 n) := OAZ.out.cell 1
                  have RGZ := Lib.hid (IsObj.range HKZ.out.x)
                  go_wp2_with (first | (refine wpList_load_mid (by rfl) 38 _ (by rfl) X 0 (by rfl) (zC (clZ z) sv' (.slice none 0 0)) _ (by exact RGZ.out) Tryz.underlying38 rfl zinfo ?_) | (go_at_call 7; refine (same20 n sv' (.slice none 0 0) HKZ.out.c).mono ?_; rintro e wS ⟨rfl, bS⟩; have HKF := Lib.hid (HKZ.out.same bS); clear bS e1 HKZ OAZ RGZ))
                  go_roundw
                  case rel => exact ⟨j + 1, _, _, _, by omega, by go_num, HKF.out⟩
                  case measure => simp [intOf]; omega
              by_cases e3 : kd = 3
              · subst e3
                clear e0 e1 e2
                focus
                  cases hk : kOk ⟨m0, m1, m2, m3, m4, m5, m6⟩ lv with
                  | false =>
                    have hke : kErr ⟨m0, m1, m2, m3, m4, m5, m6⟩ lv = 10 := by unfold kErr; rw [hk]; rfl
                    have KC := rcheck_any ⟨m0, m1, m2, m3, m4, m5, m6⟩ lv w7
                    rw [hke] at KC
                    have q0 : w7.cell? ⟨R, 0, none⟩ = some (.int .i64 lv) := OF1.out.cell 0
                    have a2 : w7.cell? ⟨A, 2, none⟩ = some (.int .i64 m0) := OA.out.cell 2
                    have a3 : w7.cell? ⟨A, 3, none⟩ = some (.int .i64 m1) := OA.out.cell 3
                    have a4 : w7.cell? ⟨A, 4, none⟩ = some (.int .i64 m2) := OA.out.cell 4
                    have a5 : w7.cell? ⟨A, 5, none⟩ = some (.int .i64 m3) := OA.out.cell 5
                    have a6 : w7.cell? ⟨A, 6, none⟩ = some (.int .i64 m4) := OA.out.cell 6
                    have a7 : w7.cell? ⟨A, 7, none⟩ = some (.int .i64 m5) := OA.out.cell 7
                    have a8 : w7.cell? ⟨A, 8, none⟩ = some (.int .i64 m6) := OA.out.cell 8
                    go_upto_region 29 with (fail)
                    refine KC.mono ?_
                    rintro e w8 ⟨rfl, b8⟩
                    have HK8 := Lib.hid (HK1.out.same b8)
                    have OA8 := Lib.hid (IsObj.below OA.out b8 OA.out.lt)
                    clear b8 KC q0 a2 a3 a4 a5 a6 a7 a8
                    have KP := c_push ⟨m0, m1, m2, m3, m4, m5, m6⟩ HK8.out.c
                    rw [HK8.out.lv, hke] at KP
                    have a2 : w8.cell? ⟨A, 2, none⟩ = some (.int .i64 m0) := OA8.out.cell 2
                    have a3 : w8.cell? ⟨A, 3, none⟩ = some (.int .i64 m1) := OA8.out.cell 3
                    have a4 : w8.cell? ⟨A, 4, none⟩ = some (.int .i64 m2) := OA8.out.cell 4
                    have a5 : w8.cell? ⟨A, 5, none⟩ = some (.int .i64 m3) := OA8.out.cell 5
                    have a6 : w8.cell? ⟨A, 6, none⟩ = some (.int .i64 m4) := OA8.out.cell 6
                    have a7 : w8.cell? ⟨A, 7, none⟩ = some (.int .i64 m5) := OA8.out.cell 7
                    have a8 : w8.cell? ⟨A, 8, none⟩ = some (.int .i64 m6) := OA8.out.cell 8
                    go_upto_region 30 with (fail)
                    refine KP.mono ?_
                    rintro e w9 ⟨rfl, h9, f9⟩
                    have hlt8 := HK8.out.c.lt
                    have X9 := Lib.hid (f9.isObj HK8.out.x (by omega))
                    have R9 := Lib.hid (HK8.out.r.fr5 f9 hord)
                    have OA9 := Lib.hid (f9.isObj OA8.out (by omega))
                    have B9 := Lib.hid (HK8.out.b.trans (f9.to hord (Nat.le_refl _) (by omega)))
                    have H9 := Lib.hid h9
                    have ep : pushSt z ⟨m0, m1, m2, m3, m4, m5, m6⟩ = z := by unfold pushSt; rw [HK1.out.lv, if_neg (by rw [hk]; decide)]
                    rw [ep] at H9
                    clear h9 f9 KP a2 a3 a4 a5 a6 a7 a8 hke ep
                    have HKZ := Lib.hid (show PlAt w3 C T D S L X lv (j + 1) z sv wv w9 from ⟨H9.out, X9.out, R9.out.up (by omega), HK1.out.lv, hcx, B9.out⟩)
                    have OAZ := OA9
                    clear H9 R9 B9 X9 hk OA9
                    have e1 : w9.cell? ⟨A, 1, none⟩ = some (.int .i64 n) := OAZ.out.cell 1
                    have RGZ := Lib.hid (IsObj.range HKZ.out.x)
                    go_wp2_with (first | (refine wpList_load_mid (by rfl) 38 _ (by rfl) X 0 (by rfl) (zC z sv wv) _ (by exact RGZ.out) Tryz.underlying38 rfl zinfo ?_) | (go_at_call 7; refine (same20 n sv wv HKZ.out.c).mono ?_; rintro e wS ⟨rfl, bS⟩; have HKF := Lib.hid (HKZ.out.same bS); clear bS e1 HKZ OAZ RGZ))
                    go_roundw
                    case rel => exact ⟨j + 1, _, _, _, by omega, by go_num, HKF.out⟩
                    case measure => simp [intOf]; omega
                  | true =>
                    have hke : kErr ⟨m0, m1, m2, m3, m4, m5, m6⟩ lv = 0 := by unfold kErr; rw [hk]; rfl
                    have KC := rcheck_any ⟨m0, m1, m2, m3, m4, m5, m6⟩ lv w7
                    rw [hke] at KC
                    have q0 : w7.cell? ⟨R, 0, none⟩ = some (.int .i64 lv) := OF1.out.cell 0
                    have a2 : w7.cell? ⟨A, 2, none⟩ = some (.int .i64 m0) := OA.out.cell 2
                    have a3 : w7.cell? ⟨A, 3, none⟩ = some (.int .i64 m1) := OA.out.cell 3
                    have a4 : w7.cell? ⟨A, 4, none⟩ = some (.int .i64 m2) := OA.out.cell 4
                    have a5 : w7.cell? ⟨A, 5, none⟩ = some (.int .i64 m3) := OA.out.cell 5
                    have a6 : w7.cell? ⟨A, 6, none⟩ = some (.int .i64 m4) := OA.out.cell 6
                    have a7 : w7.cell? ⟨A, 7, none⟩ = some (.int .i64 m5) := OA.out.cell 7
                    have a8 : w7.cell? ⟨A, 8, none⟩ = some (.int .i64 m6) := OA.out.cell 8
                    go_upto_region 29 with (fail)
                    refine KC.mono ?_
                    rintro e w8 ⟨rfl, b8⟩
                    have HK8 := Lib.hid (HK1.out.same b8)
                    have OA8 := Lib.hid (IsObj.below OA.out b8 OA.out.lt)
                    clear b8 KC q0 a2 a3 a4 a5 a6 a7 a8
                    have KP := c_push ⟨m0, m1, m2, m3, m4, m5, m6⟩ HK8.out.c
                    rw [HK8.out.lv, hke] at KP
                    have a2 : w8.cell? ⟨A, 2, none⟩ = some (.int .i64 m0) := OA8.out.cell 2
                    have a3 : w8.cell? ⟨A, 3, none⟩ = some (.int .i64 m1) := OA8.out.cell 3
                    have a4 : w8.cell? ⟨A, 4, none⟩ = some (.int .i64 m2) := OA8.out.cell 4
                    have a5 : w8.cell? ⟨A, 5, none⟩ = some (.int .i64 m3) := OA8.out.cell 5
                    have a6 : w8.cell? ⟨A, 6, none⟩ = some (.int .i64 m4) := OA8.out.cell 6
                    have a7 : w8.cell? ⟨A, 7, none⟩ = some (.int .i64 m5) := OA8.out.cell 7
                    have a8 : w8.cell? ⟨A, 8, none⟩ = some (.int .i64 m6) := OA8.out.cell 8
                    go_upto_region 30 with (fail)
                    refine KP.mono ?_
                    rintro e w9 ⟨rfl, h9, f9⟩
                    have hlt8 := HK8.out.c.lt
                    have X9 := Lib.hid (f9.isObj HK8.out.x (by omega))
                    have R9 := Lib.hid (HK8.out.r.fr5 f9 hord)
                    have OA9 := Lib.hid (f9.isObj OA8.out (by omega))
                    have B9 := Lib.hid (HK8.out.b.trans (f9.to hord (Nat.le_refl _) (by omega)))
                    have H9 := Lib.hid h9
                    have ep : pushSt z ⟨m0, m1, m2, m3, m4, m5, m6⟩ = { z with k := ⟨m0, m1, m2, m3, m4, m5, m6⟩ } := by unfold pushSt; rw [HK1.out.lv, if_pos hk]
                    rw [ep] at H9
                    clear h9 f9 KP a2 a3 a4 a5 a6 a7 a8 hke ep
                    have a2 : w9.cell? ⟨A, 2, none⟩ = some (.int .i64 m0) := OA9.out.cell 2
                    have a3 : w9.cell? ⟨A, 3, none⟩ = some (.int .i64 m1) := OA9.out.cell 3
                    have a4 : w9.cell? ⟨A, 4, none⟩ = some (.int .i64 m2) := OA9.out.cell 4
                    have a5 : w9.cell? ⟨A, 5, none⟩ = some (.int .i64 m3) := OA9.out.cell 5
                    have a6 : w9.cell? ⟨A, 6, none⟩ = some (.int .i64 m4) := OA9.out.cell 6
                    have a7 : w9.cell? ⟨A, 7, none⟩ = some (.int .i64 m5) := OA9.out.cell 7
                    have a8 : w9.cell? ⟨A, 8, none⟩ = some (.int .i64 m6) := OA9.out.cell 8
                    have TX := Lib.hid (IsObj.there X9.out 1 7 (show 1 + 7 ≤ 17 by decide))
                    have X10 := Lib.hid (show IsObj (w9.setCells X 1 (kC ⟨m0, m1, m2, m3, m4, m5, m6⟩).toArray.toList) X 38 (zC { z with k := ⟨m0, m1, m2, m3, m4, m5, m6⟩ } sv wv) from IsObj.setCells (kC ⟨m0, m1, m2, m3, m4, m5, m6⟩) 1 X9.out (show 1 + 7 ≤ 17 by decide))
                    have A10 := Lib.hid (show Only X w9 (w9.setCells X 1 (kC ⟨m0, m1, m2, m3, m4, m5, m6⟩).toArray.toList) from Only.setCells (b := X) (kC ⟨m0, m1, m2, m3, m4, m5, m6⟩) 1 (Only.refl X w9))
                    have TK := Lib.hid (show w9.there X 1 (kC ⟨m0, m1, m2, m3, m4, m5, m6⟩).toArray.size from TX.out)
                    have HKZ := Lib.hid (show PlAt w3 C T D S L X lv (j + 1) { z with k := ⟨m0, m1, m2, m3, m4, m5, m6⟩ } sv wv (w9.setCells X 1 (kC ⟨m0, m1, m2, m3, m4, m5, m6⟩).toArray.toList) from ⟨H9.out.onlyX A10.out hcx, X10.out, ((R9.out.only A10.out (fun k hk => hk.2)).setK ⟨m0, m1, m2, m3, m4, m5, m6⟩).up (by omega), HK1.out.lv, hcx, B9.out.trans (A10.out.below (by omega) (by have := X9.out.lt; omega))⟩)
                    have OAZ := Lib.hid (IsObj.only OA9.out A10.out (by omega))
                    clear TX X10 A10 H9 R9 B9 OA9 X9 hk
                    go_upto_region 36 with (refine wpList_store_mid (by rfl) 23 _ _ (by rfl) X 1 (kC ⟨m0, m1, m2, m3, m4, m5, m6⟩).toArray (by rfl) (by rfl) (by exact TK.out) (by kernel_rfl) (by kernel_rfl) ?_; generalize w9.setCells X 1 (kC ⟨m0, m1, m2, m3, m4, m5, m6⟩).toArray.toList = w10 at *)
                    clear a2 a3 a4 a5 a6 a7 a8 TK
                    have e1 : w10.cell? ⟨A, 1, none⟩ = some (.int .i64 n) := OAZ.out.cell 1
                    have RGZ := Lib.hid (IsObj.range HKZ.out.x)
                    go_wp2_with (first | (refine wpList_load_mid (by rfl) 38 _ (by rfl) X 0 (by rfl) (zC { z with k := ⟨m0, m1, m2, m3, m4, m5, m6⟩ } sv wv) _ (by exact RGZ.out) Tryz.underlying38 rfl zinfo ?_) | (go_at_call 7; refine (same20 n sv wv HKZ.out.c).mono ?_; rintro e wS ⟨rfl, bS⟩; have HKF := Lib.hid (HKZ.out.same bS); clear bS e1 HKZ OAZ RGZ))
                    go_roundw
                    case rel => exact ⟨j + 1, _, _, _, by omega, by go_num, HKF.out⟩
                    case measure => simp [intOf]; omega
              by_cases e4 : kd = 4
              · subst e4
                clear e0 e1 e2 e3
                focus
                  go_upto_region 35 with (fail)
                  refine (c_restart HK1.out.c).mono ?_
                  rintro e w8 ⟨rfl, h8, f8⟩
                  have hlt7 := HK1.out.c.lt
                  have X8 := Lib.hid (f8.isObj HK1.out.x (by omega))
                  have B8 := Lib.hid (HK1.out.b.trans (f8.to hord (Nat.le_refl _) (by omega)))
                  have H8 := Lib.hid h8
                  have OA8 := Lib.hid (f8.isObj OA.out (by omega))
                  clear h8 f8
                  have RG := Lib.hid (IsObj.range X8.out)
                  have hQ8 : ∀ b, w8.heap.size ≤ b → C < b ∧ b ≠ X := by
                    intro b hb
                    have h1 := H8.out.lt
                    have h2 := X8.out.lt
                    omega
                  go_upto_region 36 with (refine wpList_load_mid (by rfl) 38 _ (by rfl) X 0 (by rfl) (zC z sv wv) _ (by exact RG.out) Tryz.underlying38 rfl zinfo ?_)
                  refine (rrestart20_any (N := j + 1) z sv wv w8 HK1.out.c.ok HK1.out.r.so HK1.out.r.wo hQ8).mono ?_
                  rintro e w9 ⟨sv', rfl, r9, b9⟩
                  have so' := r9.so
                  have x9 := IsObj.below X8.out b9 X8.out.lt
                  have hSV := setvar (cs := zC (restSt z) sv' (.slice none 0 0)) x9 rfl
                  have TX := Lib.hid hSV.1
                  have OA9 := Lib.hid (IsObj.below OA8.out b9 OA8.out.lt)
                  have HKZ := Lib.hid (show PlAt w3 C T D S L X lv (j + 1) (restSt z) sv' (.slice none 0 0) (w9.setCells X 0 (zC (restSt z) sv' (.slice none 0 0)).toArray.toList) from ⟨(H8.out.same b9).onlyX hSV.2.2 hcx, hSV.2.1, r9.only hSV.2.2 (fun k hk => hk.2), HK1.out.lv, hcx, (B8.out.trans (b9.mono (by have := H8.out.lt; omega))).trans (hSV.2.2.below (by omega) (by have := x9.lt; omega))⟩)
                  have OAZ := Lib.hid (IsObj.only OA9.out hSV.2.2 (by omega))
                  have ZO : (zC (restSt z) sv' (.slice none 0 0)).toArray.all (·.oneCell') = true := zC_one so' rfl
                  clear hSV x9 r9 b9 RG hQ8 B8
                  go_upto_region 36 with (refine wpList_store_mid (by rfl) 38 _ _ (by rfl) X 0 (zC (restSt z) sv' (.slice none 0 0)).toArray (by rfl) (by rfl) (by exact TX.out) zinfo ZO ?_; generalize w9.setCells X 0 (zC (restSt z) sv' (.slice none 0 0)).toArray.toList = w10 at *)
                  have e1 : w10.cell? ⟨A, 1, none⟩ = some (.int .i64 n) := OAZ.out.cell 1
                  have RGZ := Lib.hid (IsObj.range HKZ.out.x)
                  go_wp2_with (first | (refine wpList_load_mid (by rfl) 38 _ (by rfl) X 0 (by rfl) (zC (restSt z) sv' (.slice none 0 0)) _ (by exact RGZ.out) Tryz.underlying38 rfl zinfo ?_) | (go_at_call 7; refine (same20 n sv' (.slice none 0 0) HKZ.out.c).mono ?_; rintro e wS ⟨rfl, bS⟩; have HKF := Lib.hid (HKZ.out.same bS); clear bS e1 HKZ OAZ RGZ))
                  go_roundw
                  case rel => exact ⟨j + 1, _, _, _, by omega, by go_num, HKF.out⟩
                  case measure => simp [intOf]; omega
              focus
                have HKZ := Lib.hid (show PlAt w3 C T D S L X lv (j + 1) z sv wv w7 from ⟨HK1.out.c, HK1.out.x, HK1.out.r.up (by omega), HK1.out.lv, hcx, HK1.out.b⟩)
                have OAZ := OA
                have e9 : w7.cell? ⟨A, 1, none⟩ = some (.int .i64 n) := OAZ.out.cell 1
                have RGZ := Lib.hid (IsObj.range HKZ.out.x)
                go_wp2_with (first | (refine wpList_load_mid (by rfl) 38 _ (by rfl) X 0 (by rfl) (zC z sv wv) _ (by exact RGZ.out) Tryz.underlying38 rfl zinfo ?_) | (go_at_call 7; refine (same20 n sv wv HKZ.out.c).mono ?_; rintro e wS ⟨rfl, bS⟩; have HKF := Lib.hid (HKZ.out.same bS); clear bS e9 HKZ OAZ RGZ))
                go_roundw
                case rel => exact ⟨j + 1, _, _, _, by omega, by go_num, HKF.out⟩
                case measure => simp [intOf]; omega
            · obtain rfl : j = l.length := by omega
              go_wp2_with fail
              refine (awake20 _).mono ?_
              rintro e w9 ⟨rfl, b9⟩
              go_wp2_with fail
              go_ret
              have hw := HK.out.b.size
              exact ⟨rfl, ((B3.out.trans (HK.out.b.mono (by omega))).mono hn2).trans (b9.mono (by have := (B3.out.trans (HK.out.b.mono (by omega))).size; omega))⟩
    · have hbad : Calls Tryz.prog 5 #[.int .i64 lvI, .int .i64 tr, kbV ⟨k0, k1, k2, k3, k4, k5, k6⟩] W0 fun e w' => e = .returned (.tuple #[.pointer none, .int .i64 1]) ∧ Below W0.heap.size W0 w' := by
        by_cases h1 : 1 ≤ lvI ∧ lvI ≤ 128
        · obtain ⟨lv, rfl⟩ : ∃ lv : Nat, lvI = lv := ⟨lvI.toNat, by omega⟩
          exact c_new_bad2 lv tr _ W0 (by omega) (by omega) (by omega)
        · exact c_new_bad1 lvI tr _ W0 h1
      refine hbad.mono ?_
      rintro e w3 ⟨rfl, b3⟩
      have B3 := Lib.hid (B.out.trans (b3.mono (by omega)))
      clear hbad
      have O3 := Lib.hid (IsObj.below o.out b3 o.out.lt)
      have hs3 : R ≤ w3.heap.size := by have := b3.size; omega
      clear b3
      clear q0 q1 q2 q3 q4 q5 q6 q7 q8
      have q0 : w3.cell? ⟨R, 0, none⟩ = some (.int .i64 lvI) := O3.out.cell 0
      have q1 : w3.cell? ⟨R, 1, none⟩ = some (.int .i64 tr) := O3.out.cell 1
      have q2 : w3.cell? ⟨R, 2, none⟩ = some (.int .i64 k0) := O3.out.cell 2
      have q3 : w3.cell? ⟨R, 3, none⟩ = some (.int .i64 k1) := O3.out.cell 3
      have q4 : w3.cell? ⟨R, 4, none⟩ = some (.int .i64 k2) := O3.out.cell 4
      have q5 : w3.cell? ⟨R, 5, none⟩ = some (.int .i64 k3) := O3.out.cell 5
      have q6 : w3.cell? ⟨R, 6, none⟩ = some (.int .i64 k4) := O3.out.cell 6
      have q7 : w3.cell? ⟨R, 7, none⟩ = some (.int .i64 k5) := O3.out.cell 7
      have q8 : w3.cell? ⟨R, 8, none⟩ = some (.int .i64 k6) := O3.out.cell 8
      go_upto_region 4 with (fail)
      go_upto_region 5 with (fail)
      refine (rnew_bad lvI tr ⟨k0, k1, k2, k3, k4, k5, k6⟩ w3 hnew).mono ?_
      rintro e w4 ⟨rfl, b4⟩
      have B4 := Lib.hid (B3.out.trans (b4.mono (by omega)))
      clear b4
      clear q0 q1 q2 q3 q4 q5 q6 q7 q8
      have hNV := newvar w4 z0C [.int .i64 0, .int .i64 0, .int .i64 0, .int .i64 0, .int .i64 0, .int .i64 0, .int .i64 0, .int .i64 0, .slice none 0 0, .slice none 0 0, .int .i64 0, .int .i64 0, .int .i64 0, .int .i64 0, .int .i64 0, .int .i64 0, .int .i64 0] 38 rfl
      have TH := Lib.hid hNV.1
      have B5 := Lib.hid (B4.out.trans (hNV.2.2.mono (by have := B4.out.size; omega)))
      clear hNV
      go_upto_region 5 with (refine wpList_store_mid (by rfl) 38 _ _ (by rfl) w4.heap.size 0 z0C.toArray (by rfl) (by rfl) (by exact TH.out) zinfo z0_one ?_; generalize (w4.alloc (.cells #[.int .i64 0, .int .i64 0, .int .i64 0, .int .i64 0, .int .i64 0, .int .i64 0, .int .i64 0, .int .i64 0, .slice none 0 0, .slice none 0 0, .int .i64 0, .int .i64 0, .int .i64 0, .int .i64 0, .int .i64 0, .int .i64 0, .int .i64 0] 38)).setCells w4.heap.size 0 z0C.toArray.toList = w5 at *)
      go_wp2_with fail
      refine (awake20 _).mono ?_
      rintro e w1 ⟨rfl, b1⟩
      go_wp2_with fail
      go_ret
      exact ⟨rfl, (B5.out.mono hn2).trans (b1.mono (by have := B5.out.size; omega))⟩
end Go.Proofs.YtagfbnfbiadpfaaGreat
