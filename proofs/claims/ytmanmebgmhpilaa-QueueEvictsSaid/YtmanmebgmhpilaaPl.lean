/-
  The statement PilePlays of layer 12 (pile): the pile and the document's row, side by side in memory; acts.
-/
import Derived.Test.YtmanmebgmhpilaaRefQ
import Derived.Test.YtmanmebgmhpilaaSame12
import Derived.Test.YtmanmebgmhpilaaLaw12h
namespace Go.Proofs.Ytmanmebgmhpilaa
open Go.RowKit
set_option linter.unusedVariables false

/-- The row lies apart from the pile. -/
structure RowX (wr : World) (p M : Nat) (tv : Value) (ax : Option Addr) (cx : Nat) (X : List It) : Prop where
  row : RowOf itCells 7 wr ax X
  cap : X.length ≤ cx ∧ cx ≤ 9223372036854775807
  ap : ∀ b off, ax = some ⟨b, off, none⟩ → 0 < X.length → b < wr.heap.size ∧ b ≠ p ∧ b ≠ M ∧ some b ≠ tv.ownBlock
theorem RowX.same {wr w' : World} {p M : Nat} {tv : Value} {ax : Option Addr} {cx : Nat} {X : List It} (h : RowX wr p M tv ax cx X) (hb : Below wr.heap.size wr w') : RowX w' p M tv ax cx X :=
  ⟨h.row.same itCells_len hb, h.cap, fun b off e h0 => by obtain ⟨h1, h2⟩ := h.ap b off e h0; exact ⟨Nat.lt_of_lt_of_le h1 hb.size, h2⟩⟩
theorem RowX.frp {wr w' : World} {p M : Nat} {tv tv' : Value} {ax : Option Addr} {cx : Nat} {X : List It} (h : RowX wr p M tv ax cx X) (f : Frp p M tv tv' wr w') : RowX w' p M tv' ax cx X := by
  refine ⟨?_, h.cap, fun b off e h0 => ?_⟩
  · rcases h.row with rfl | ⟨b, off, rfl, hc⟩
    · exact .inl rfl
    · refine .inr ⟨b, off, rfl, fun i hi j hj => ?_⟩
      obtain ⟨h1, h2, h3, h4⟩ := h.ap b off rfl (by omega)
      rw [← hc i hi j hj]
      exact World.cell?_of_block (w := wr) (f.block b h1 h2 h3 h4)
  · obtain ⟨h1, h2, h3, h4⟩ := h.ap b off e h0
    refine ⟨Nat.lt_of_lt_of_le h1 f.size, h2, h3, fun hb => ?_⟩
    rcases f.own with h5 | h5
    · exact h4 (by rw [hb, h5])
    · have := h5 b hb.symm; omega
theorem RowX.nil (wr : World) (p M : Nat) (tv : Value) : RowX wr p M tv none 0 [] := ⟨.inl rfl, ⟨Nat.le_refl _, by omega⟩, fun b off e => by cases e⟩
/-- A row that was made just now. -/
theorem RowX.young {wr w' : World} {p M : Nat} {most : Int} {tv : Value} {T : List It} {v : Value} {n : Nat} {X : List It} (h : PAt wr p M most tv T) (ho : w'.ownsRow wr.heap.size 31 7 v n (X.flatMap itCells)) : ∃ ax cx, v = .slice ax X.length cx ∧ RowX w' p M tv ax cx X := by
  obtain ⟨D, hr, _⟩ := h.raw
  have h1 := hr.o.lt
  have h2 := hr.m.lt
  have hl := ho.1
  rw [itF_len] at hl
  have hn : n = X.length := by omega
  subst hn
  rcases ho.2 with ⟨rfl, h0⟩ | ⟨g, cap, cur, rfl, hb, hg, hc1, hc2, h3⟩
  · have hX : X = [] := List.eq_nil_of_length_eq_zero h0
    subst hX
    exact ⟨none, 0, rfl, RowX.nil _ _ _ _⟩
  · refine ⟨_, cap, rfl, .inr ⟨g, 0, rfl, own_rowOf0 ho rfl⟩, ⟨hc1, hc2⟩, fun b off e _ => ?_⟩
    cases e
    have hgl := (Array.getElem?_eq_some_iff.1 hg).1
    exact ⟨hgl, by omega, by omega, fun e => by have := (hr.t.lt g e.symm).2; omega⟩
theorem RowX.drop1 {wr : World} {p M : Nat} {tv : Value} {b off cx : Nat} {X : List It} (h : RowX wr p M tv (some ⟨b, off, none⟩) cx X) (h0 : 0 < X.length) (h1 : ¬ cx = 1) : RowX wr p M tv (some ⟨b, off + 7, none⟩) (cx - 1) (X.drop 1) := by
  have hc := h.cap
  refine ⟨?_, by rw [List.length_drop]; omega, fun b' off' e hl => by cases e; exact h.ap b off rfl h0⟩
  rcases h.row with hx | ⟨b', off', e, hcell⟩
  · rw [hx] at h0; simp at h0
  · cases e
    refine .inr ⟨b, off + 7, rfl, fun i hi j hj => ?_⟩
    rw [List.length_drop] at hi
    have h2 := hcell (i + 1) (by omega) j hj
    have e1 : off + (i + 1) * 7 + j = off + 7 + i * 7 + j := by rw [Nat.add_mul]; omega
    rw [e1] at h2
    rw [h2]
    congr 2
    rw [nth_lt _ _ (by omega), nth_lt _ _ (by rw [List.length_drop]; omega), List.getElem_drop]
    congr 1
    omega

/-- The pile and the row, side by side. -/
structure PlAt (w wr : World) (p M : Nat) (most : Int) (tv : Value) (T X : List It) (ax : Option Addr) (cx : Nat) : Prop where
  h : PAt wr p M most tv T
  hp : Heap T
  m : Mir T X
  r : RowX wr p M tv ax cx X
  B : Below w.heap.size w wr
  ge : w.heap.size ≤ M ∧ w.heap.size ≤ p
theorem PlAt.same {w wr w' : World} {p M : Nat} {most : Int} {tv : Value} {T X : List It} {ax : Option Addr} {cx : Nat} (h : PlAt w wr p M most tv T X ax cx) (hb : Below wr.heap.size wr w') : PlAt w w' p M most tv T X ax cx :=
  ⟨h.h.same hb, h.hp, h.m, h.r.same hb, h.B.trans (hb.mono h.B.size), h.ge⟩
theorem Frp.under {w wr w' : World} {p M : Nat} {most : Int} {tv tv' : Value} {T : List It} (f : Frp p M tv tv' wr w') (h : PAt wr p M most tv T) (hB : Below w.heap.size w wr) (ge : w.heap.size ≤ M ∧ w.heap.size ≤ p) : Below w.heap.size w w' := by
  refine hB.trans ⟨f.os, f.tape, f.output, f.size, fun k hk => f.block k (Nat.lt_of_lt_of_le hk hB.size) (by omega) (by omega) (fun e => ?_)⟩
  obtain ⟨D, hr, _⟩ := h.raw
  have := (hr.t.lt k e.symm).1
  omega
/-- The pile moves on; the row stays. -/
theorem PlAt.frp {w wr w' : World} {p M : Nat} {most : Int} {tv tv' : Value} {T T' X : List It} {ax : Option Addr} {cx : Nat} (h : PlAt w wr p M most tv T X ax cx) (f : Frp p M tv tv' wr w') (h' : PAt w' p M most tv' T') :
    RowX w' p M tv' ax cx X ∧ Below w.heap.size w w' := ⟨h.r.frp f, f.under h.h h.B h.ge⟩
theorem PlAt.len {w wr : World} {p M : Nat} {most : Int} {tv : Value} {T X : List It} {ax : Option Addr} {cx : Nat} (h : PlAt w wr p M most tv T X ax cx) : X.length ≤ 64 := by
  rw [h.m.len]
  exact h.h.len64

/-- An act. -/
structure Ac where
  k : Int
  x : It
instance : Inhabited Ac := ⟨⟨0, default⟩⟩
def acCells (a : Ac) : List Value := .int .i64 a.k :: itCells a.x
theorem acCells_len (a : Ac) : (acCells a).length = 8 := rfl
abbrev acShape : List (Value → Prop) := IsI .i64 :: itShape
theorem ac_ok (cs : List Value) (h : Fits acShape cs) : ∃ a : Ac, cs = acCells a ∧ IdOk a.x.id := by
  obtain ⟨_, l, rfl, ⟨k, rfl, _⟩, h1⟩ := fits_cons h
  obtain ⟨x, rfl, hx⟩ := it_ok l h1
  exact ⟨⟨k, x⟩, rfl, hx⟩
theorem opens_act {W : World} : Opens Try.prog W 47 acShape :=
  opens_struct (ss := [[IsI .i64], itShape]) Try.underlying47 (by kernel_rfl)
    ⟨rfl, by kernel_rfl, opens_int Try.underlying3, rfl, by kernel_rfl, opens_item, trivial⟩
theorem ac_cells {w : World} {b off : Nat} {l : List Ac} (h : ∀ i, i < l.length → ∀ j, j < 8 → w.cell? ⟨b, off + i * 8 + j, none⟩ = (acCells (nth l i))[j]?) (i : Nat) (hi : i < l.length) :
    w.cell? ⟨b, off + i * 8, none⟩ = some (.int .i64 (nth l i).k) ∧ w.cell? ⟨b, off + i * 8 + 1, none⟩ = some (.int .i64 (nth l i).x.id) ∧ w.cell? ⟨b, off + i * 8 + 2, none⟩ = some (.int .i64 (nth l i).x.lev) ∧ w.cell? ⟨b, off + i * 8 + 3, none⟩ = some (.int .i64 (nth l i).x.frm) ∧ w.cell? ⟨b, off + i * 8 + 4, none⟩ = some (.int .i64 (nth l i).x.dl) ∧
    w.cell? ⟨b, off + i * 8 + 5, none⟩ = some (.int .i64 (nth l i).x.bud) ∧ w.cell? ⟨b, off + i * 8 + 6, none⟩ = some (.int .i64 (nth l i).x.since) ∧ w.cell? ⟨b, off + i * 8 + 7, none⟩ = some (.int .i64 (nth l i).x.seq) :=
  ⟨h i hi 0 (by omega), h i hi 1 (by omega), h i hi 2 (by omega), h i hi 3 (by omega), h i hi 4 (by omega), h i hi 5 (by omega), h i hi 6 (by omega), h i hi 7 (by omega)⟩

set_option maxRecDepth 100000 in
theorem pnew_bad (most : Int) (w : World) (h : most < 0 ∨ 64 < most) : Calls Try.prog 11 #[.int .i64 most] w fun e w' => e = .returned (.tuple #[.pointer none, .int .i64 1]) ∧ w = w' := by
  by_cases h0 : most < 0
  · have j0 : decide (most < 0) = true := decide_eq_true h0
    go_enter Try.func11, Try.ntmps11
    go_wp2
    go_returns
    exact ⟨rfl, rfl⟩
  · have h1 : 64 < most := by omega
    have j0 : decide (most < 0) = false := decide_eq_false h0
    have j1 : decide (64 < most) = true := decide_eq_true h1
    go_enter Try.func11, Try.ntmps11
    go_wp2
    go_returns
    exact ⟨rfl, rfl⟩
end Go.Proofs.Ytmanmebgmhpilaa
