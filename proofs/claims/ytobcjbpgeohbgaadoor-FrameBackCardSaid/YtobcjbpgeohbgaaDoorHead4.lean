
/-
  Layer 23 (head): Get, and the document's First and Get.
-/
import Derived.Test.YtobcjbpgeohbgaaDoorHead3
namespace Go.Proofs.YtobcjbpgeohbgaaDoor
open Go.RowKit
set_option linter.unusedVariables false

/-- What Get comes to. -/
structure Hg where
  kind : Int
  body : ByteArray
  err : Int
def getH (s : ByteArray) : Hg := if (firstB s).err ≠ 0 then ⟨0, ⟨#[]⟩, (firstB s).err⟩ else if (firstB s).n < (s.size : Int) then ⟨0, ⟨#[]⟩, 2⟩ else ⟨(firstB s).kind, (firstB s).body, 0⟩
set_option maxRecDepth 100000 in
theorem hget_any (s : ByteArray) (w : World) (hs : s.size ≤ 2147483648) : Calls Tryd.prog 14 #[.string s] w fun e w' => e = .returned (.tuple #[.int .i64 (getH s).kind, .string (getH s).body, .int .i64 (getH s).err]) ∧ Below w.heap.size w w' := by
  have F := fun w => hfirst_any s w hs
  unfold getH
  generalize firstB s = f at *
  obtain ⟨k, b, n, er⟩ := f
  simp only at F ⊢
  have HF := Lib.hid F
  clear F
  by_cases he : er ≠ 0
  · rw [if_pos he]
    have hb : (er != 0) = true := by simpa using he
    go_enter Tryd.func14, Tryd.ntmps14
    go_wp2_with (go_at_call 18; (with_reducible refine (HF.out _).mono ?_); rintro e w' ⟨rfl, hx⟩; obtain ⟨ux, rfl⟩ := ext_of hx; clear hx)
    go_returns
    exact ⟨rfl, below_ext _ (Below.refl _ _) (Nat.le_refl _)⟩
  · rw [if_neg he]
    have he0 : er = 0 := by omega
    subst he0
    clear he
    by_cases hn : n < (s.size : Int)
    · rw [if_pos hn]
      go_enter Tryd.func14, Tryd.ntmps14
      go_wp2_with (go_at_call 18; (with_reducible refine (HF.out _).mono ?_); rintro e w' ⟨rfl, hx⟩; obtain ⟨ux, rfl⟩ := ext_of hx; clear hx)
      go_returns
      exact ⟨rfl, below_ext _ (Below.refl _ _) (Nat.le_refl _)⟩
    · rw [if_neg hn]
      go_enter Tryd.func14, Tryd.ntmps14
      go_wp2_with (go_at_call 18; (with_reducible refine (HF.out _).mono ?_); rintro e w' ⟨rfl, hx⟩; obtain ⟨ux, rfl⟩ := ext_of hx; clear hx)
      go_returns
      exact ⟨rfl, below_ext _ (Below.refl _ _) (Nat.le_refl _)⟩

/-! ### The document's -/
end Go.Proofs.YtobcjbpgeohbgaaDoor
