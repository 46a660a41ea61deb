
/-
  Layer 26 (push): the document's Put and Get.
-/
import Derived.Test.YtobcjbpgeohbgaaDoorPush4
namespace Go.Proofs.YtobcjbpgeohbgaaDoor
open Go.RowKit
set_option linter.unusedVariables false

def putP (x : Ps) : ByteArray := if psOk x = true then ofL (encN pw (pf x) 9) else ⟨#[]⟩
theorem pput_any (x : Ps) (w : World) (hW : WdAt w) : Calls Tryd.prog 104 #[psV x] w fun e w' => e = .returned (.tuple #[.string (putP x), .int .i64 (errP x)]) ∧ Below w.heap.size w w' := by
  unfold putP errP
  cases h : psOk x with
  | true => rw [if_pos rfl, if_pos rfl]; exact pput_ok x w hW h
  | false => rw [if_neg (by decide), if_neg (by decide)]; exact pput_bad x w hW h

theorem keep9 {W W1 : World} {b off : Nat} {y : Ps} (hb : Below W.heap.size W W1) (h : W.cell? ⟨b, off, none⟩ = some (.int .i64 y.p0) ∧ W.cell? ⟨b, off + 1, none⟩ = some (.int .i64 y.p1) ∧ W.cell? ⟨b, off + 2, none⟩ = some (.int .i64 y.p2) ∧ W.cell? ⟨b, off + 3, none⟩ = some (.int .i64 y.p3) ∧ W.cell? ⟨b, off + 4, none⟩ = some (.int .i64 y.p4) ∧ W.cell? ⟨b, off + 5, none⟩ = some (.int .i64 y.p5) ∧ W.cell? ⟨b, off + 6, none⟩ = some (.int .i64 y.p6) ∧ W.cell? ⟨b, off + 7, none⟩ = some (.int .i64 y.p7) ∧ W.cell? ⟨b, off + 8, none⟩ = some (.int .i64 y.p8)) :
    W1.cell? ⟨b, off, none⟩ = some (.int .i64 y.p0) ∧ W1.cell? ⟨b, off + 1, none⟩ = some (.int .i64 y.p1) ∧ W1.cell? ⟨b, off + 2, none⟩ = some (.int .i64 y.p2) ∧ W1.cell? ⟨b, off + 3, none⟩ = some (.int .i64 y.p3) ∧ W1.cell? ⟨b, off + 4, none⟩ = some (.int .i64 y.p4) ∧ W1.cell? ⟨b, off + 5, none⟩ = some (.int .i64 y.p5) ∧ W1.cell? ⟨b, off + 6, none⟩ = some (.int .i64 y.p6) ∧ W1.cell? ⟨b, off + 7, none⟩ = some (.int .i64 y.p7) ∧ W1.cell? ⟨b, off + 8, none⟩ = some (.int .i64 y.p8) :=
  ⟨cell_keep hb h.1, cell_keep hb h.2.1, cell_keep hb h.2.2.1, cell_keep hb h.2.2.2.1, cell_keep hb h.2.2.2.2.1, cell_keep hb h.2.2.2.2.2.1, cell_keep hb h.2.2.2.2.2.2.1, cell_keep hb h.2.2.2.2.2.2.2.1, cell_keep hb h.2.2.2.2.2.2.2.2⟩
theorem fn9 {W : World} {b off : Nat} {y : Ps} (h : W.cell? ⟨b, off, none⟩ = some (.int .i64 y.p0) ∧ W.cell? ⟨b, off + 1, none⟩ = some (.int .i64 y.p1) ∧ W.cell? ⟨b, off + 2, none⟩ = some (.int .i64 y.p2) ∧ W.cell? ⟨b, off + 3, none⟩ = some (.int .i64 y.p3) ∧ W.cell? ⟨b, off + 4, none⟩ = some (.int .i64 y.p4) ∧ W.cell? ⟨b, off + 5, none⟩ = some (.int .i64 y.p5) ∧ W.cell? ⟨b, off + 6, none⟩ = some (.int .i64 y.p6) ∧ W.cell? ⟨b, off + 7, none⟩ = some (.int .i64 y.p7) ∧ W.cell? ⟨b, off + 8, none⟩ = some (.int .i64 y.p8)) : ∀ k, k < 7 → W.cell? ⟨b, off + 2 + k, none⟩ = some (.int .i64 (pf y (k + 2))) := by
  obtain ⟨h0, h1, h2, h3, h4, h5, h6, h7, h8⟩ := h
  intro k hk
  rcases lt7 hk with rfl | rfl | rfl | rfl | rfl | rfl | rfl <;> assumption
end Go.Proofs.YtobcjbpgeohbgaaDoor
