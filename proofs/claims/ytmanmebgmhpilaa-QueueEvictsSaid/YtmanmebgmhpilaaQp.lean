/-
  The statement QueuePlays of layer 13 (queue): the queue and the document's row, side by side; acts.
-/
import Derived.Test.YtmanmebgmhpilaaRefA
namespace Go.Proofs.Ytmanmebgmhpilaa
open Go.RowKit
set_option linter.unusedVariables false
set_option linter.unusedSimpArgs false

structure QlAt (w wr : World) (q p M : Nat) (most : Int) (tv : Value) (T X : List It) (ax : Option Addr) (cx : Nat) : Prop where
  Q : QAt wr q p M most tv T
  hp : Heap T
  m : Mir T X
  r : RowX wr p M tv ax cx X
  B : Below w.heap.size w wr
  ge : w.heap.size ≤ M ∧ w.heap.size ≤ p
  lm : (T.length : Int) ≤ most
theorem QlAt.same {w wr w' : World} {q p M : Nat} {most : Int} {tv : Value} {T X : List It} {ax : Option Addr} {cx : Nat} (h : QlAt w wr q p M most tv T X ax cx) (hb : Below wr.heap.size wr w') : QlAt w w' q p M most tv T X ax cx :=
  ⟨h.Q.same hb, h.hp, h.m, h.r.same hb, h.B.trans (hb.mono h.B.size), h.ge, h.lm⟩
theorem QlAt.under {w wr w' : World} {q p M : Nat} {most : Int} {tv tv' : Value} {T X : List It} {ax : Option Addr} {cx : Nat} (h : QlAt w wr q p M most tv T X ax cx) (f : Frp p M tv tv' wr w') : Below w.heap.size w w' := f.under h.Q.h h.B h.ge
theorem QlAt.len {w wr : World} {q p M : Nat} {most : Int} {tv : Value} {T X : List It} {ax : Option Addr} {cx : Nat} (h : QlAt w wr q p M most tv T X ax cx) : X.length ≤ 64 := by
  rw [h.m.len]
  exact h.Q.h.len64

/-- An act. -/
structure Ad where
  k : Int
  now : Int
  x : It
instance : Inhabited Ad := ⟨⟨0, 0, default⟩⟩
def adCells (a : Ad) : List Value := .int .i64 a.k :: .int .i64 a.now :: itCells a.x
theorem adCells_len (a : Ad) : (adCells a).length = 9 := rfl
abbrev adShape : List (Value → Prop) := IsI .i64 :: IsI .i64 :: itShape
theorem ad_ok (cs : List Value) (h : Fits adShape cs) : ∃ a : Ad, cs = adCells a ∧ IdOk a.x.id := by
  obtain ⟨_, l, rfl, ⟨k, rfl, _⟩, h1⟩ := fits_cons h
  obtain ⟨_, l, rfl, ⟨n, rfl, _⟩, h2⟩ := fits_cons h1
  obtain ⟨x, rfl, hx⟩ := it_ok l h2
  exact ⟨⟨k, n, x⟩, rfl, hx⟩
theorem opens_ad {W : World} : Opens Try.prog W 66 adShape :=
  opens_struct (ss := [[IsI .i64], [IsI .i64], itShape]) Try.underlying66 (by kernel_rfl)
    ⟨rfl, by kernel_rfl, opens_int Try.underlying3, rfl, by kernel_rfl, opens_int Try.underlying3, rfl, by kernel_rfl, opens_item, trivial⟩
theorem ad_cells {w : World} {b off : Nat} {l : List Ad} (h : ∀ i, i < l.length → ∀ j, j < 9 → w.cell? ⟨b, off + i * 9 + j, none⟩ = (adCells (nth l i))[j]?) (i : Nat) (hi : i < l.length) :
    w.cell? ⟨b, off + i * 9, none⟩ = some (.int .i64 (nth l i).k) ∧ w.cell? ⟨b, off + i * 9 + 1, none⟩ = some (.int .i64 (nth l i).now) ∧ w.cell? ⟨b, off + i * 9 + 2, none⟩ = some (.int .i64 (nth l i).x.id) ∧ w.cell? ⟨b, off + i * 9 + 3, none⟩ = some (.int .i64 (nth l i).x.lev) ∧ w.cell? ⟨b, off + i * 9 + 4, none⟩ = some (.int .i64 (nth l i).x.frm) ∧ w.cell? ⟨b, off + i * 9 + 5, none⟩ = some (.int .i64 (nth l i).x.dl) ∧
    w.cell? ⟨b, off + i * 9 + 6, none⟩ = some (.int .i64 (nth l i).x.bud) ∧ w.cell? ⟨b, off + i * 9 + 7, none⟩ = some (.int .i64 (nth l i).x.since) ∧ w.cell? ⟨b, off + i * 9 + 8, none⟩ = some (.int .i64 (nth l i).x.seq) :=
  ⟨h i hi 0 (by omega), h i hi 1 (by omega), h i hi 2 (by omega), h i hi 3 (by omega), h i hi 4 (by omega), h i hi 5 (by omega), h i hi 6 (by omega), h i hi 7 (by omega), h i hi 8 (by omega)⟩
/-- Who must go, and who stays. -/
theorem vict_keep {X : List It} {x : It} (h : vict (X ++ [x]) (X.length + 1) = X.length) : nth (X ++ [x]) X.length = x ∧ (X ++ [x]).take X.length ++ (X ++ [x]).drop (X.length + 1) = X := by
  refine ⟨nth_app_new, ?_⟩
  rw [List.take_left, List.drop_eq_nil_of_le (by simp), List.append_nil]
theorem vict_lt' (X : List It) (x : It) : vict (X ++ [x]) (X.length + 1) < X.length + 1 := by
  have := (vict_worst (X ++ [x]) (X.length + 1) (by omega)).1
  exact this
theorem vict_evict {X : List It} {x : It} {k : Nat} (h : k < X.length) : nth (X ++ [x]) k = nth X k ∧ (X ++ [x]).take k ++ (X ++ [x]).drop (k + 1) = (X.take k ++ X.drop (k + 1)) ++ [x] := by
  refine ⟨nth_app_old h, ?_⟩
  rw [List.take_append_of_le_length (by omega), List.drop_append_of_le_length (by omega), List.append_assoc]
theorem ssort_of {T X : List It} (m : Mir T X) : ssort X = X := by
  obtain ⟨h1, h2⟩ := ssort_ok X
  have h3 := ssort_perm X
  refine Go.Proofs.Ytmanmebgmhpilaa.sorted_one swo_gI _ _ h2 m.sorted h1.symm
end Go.Proofs.Ytmanmebgmhpilaa
