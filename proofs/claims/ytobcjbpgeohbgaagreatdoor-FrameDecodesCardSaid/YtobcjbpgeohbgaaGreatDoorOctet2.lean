/-
  Layer 2 (octet): the cursors, and the document's Put.
-/
import Derived.Test.YtobcjbpgeohbgaaGreatDoorOctet
namespace Go.Proofs.YtobcjbpgeohbgaaGreatDoor
open Go.RowKit
set_option linter.unusedVariables false

theorem numOk_ok {n : Int} {width : Int} (h : numOk n width = true) : ∃ W : Nat, width = W ∧ 1 ≤ W ∧ W ≤ 6 ∧ 0 ≤ n ∧ n < 256 ^ W := by
  have h2 : (1 ≤ width ∧ width ≤ 6) ∧ 0 ≤ n ∧ n < 256 ^ width.toNat := by simpa [numOk] using h
  obtain ⟨W, rfl⟩ := Int.eq_ofNat_of_zero_le (show 0 ≤ width by omega)
  exact ⟨W, rfl, by omega, by omega, h2.2.1, by simpa using h2.2.2⟩
/-- What Put hands back. -/
def putV (s : ByteArray) (n width : Int) : Value := if numOk n width = true then .tuple #[.string (ofL (bl s ++ beB n width.toNat)), .int .i64 0] else .tuple #[.string ⟨#[]⟩, .int .i64 1]
theorem put_any (s : ByteArray) (n width : Int) (w : World) (hs : s.size ≤ 2147483648) : Calls Tryz.prog 74 #[.string s, .int .i64 n, .int .i64 width] w fun e w' => e = .returned (putV s n width) ∧ Below w.heap.size w w' := by
  unfold putV
  cases h : numOk n width with
  | true =>
    obtain ⟨W, rfl, h1, h6, h0, hn⟩ := numOk_ok h
    rw [if_pos rfl]
    exact put_ok s n W w hs h1 h6 h0 hn
  | false =>
    rw [if_neg (by decide)]
    refine (put_bad s n width w h).mono ?_
    rintro e w' ⟨rfl, rfl⟩
    exact ⟨rfl, Below.refl _ _⟩

/-! ### The cursor -/
def CurAt (w : World) (b : Nat) (s : ByteArray) : Prop := IsObj w b 122 [.string s]
theorem CurAt.drewN {w : World} {b : Nat} {s : ByteArray} (h : CurAt w b s) (n : Nat) : CurAt (w.drewN n) b s := h
theorem CurAt.alloc {w : World} {b : Nat} {s : ByteArray} (h : CurAt w b s) (o : Obj) : CurAt (w.alloc o) b s := IsObj.alloc h o
theorem CurAt.same {w w' : World} {b : Nat} {s : ByteArray} (h : CurAt w b s) (hb : Below w.heap.size w w') : CurAt w' b s := IsObj.below h hb h.lt
theorem CurAt.ext {w : World} {b : Nat} {s : ByteArray} (h : CurAt w b s) (u : Later w) : CurAt (ext w u) b s := h.same u.below
theorem CurAt.only {w w' : World} {b c : Nat} {s : ByteArray} (h : CurAt w b s) (ho : Only c w w') (hne : b ≠ c) : CurAt w' b s := IsObj.only h ho hne
theorem read_any (s : ByteArray) (w : World) : Calls Tryz.prog 63 #[.string s] w fun e w' => e = .returned (.pointer (some ⟨w.heap.size, 0, none⟩)) ∧ CurAt w' w.heap.size s ∧ Below w.heap.size w w' ∧ w.heap.size < w'.heap.size := by
  go_enter Tryz.func63, Tryz.ntmps63
  go_wp2
  go_ret
  exact ⟨rfl, IsObj.new w _ [.string s], (Below.refl _ _).alloc (Nat.le_refl _) _, by simp⟩
theorem rest_nil (w : World) : Calls Tryz.prog 86 #[.pointer none] w fun e w' => e = .returned (.string ⟨#[]⟩) ∧ w = w' := by
  go_enter Tryz.func86, Tryz.ntmps86
  go_wp2
  go_ret
  exact ⟨rfl, rfl⟩
theorem rest_any (b : Nat) (s : ByteArray) (w : World) (h : CurAt w b s) : Calls Tryz.prog 86 #[.pointer (some ⟨b, 0, none⟩)] w fun e w' => e = .returned (.string s) ∧ w = w' := by
  have c0 : w.cell? ⟨b, 0, none⟩ = some (.string s) := IsObj.cell h 0
  clear h
  go_enter Tryz.func86, Tryz.ntmps86
  go_wp2
  go_ret
  exact ⟨rfl, rfl⟩
theorem left_nil (w : World) : Calls Tryz.prog 66 #[.pointer none] w fun e w' => e = .returned (.int .i64 0) ∧ w = w' := by
  go_enter Tryz.func66, Tryz.ntmps66
  go_wp2_with (go_at_call 86; (with_reducible refine (rest_nil _).mono ?_); rintro e w' ⟨rfl, rfl⟩)
  go_ret
  exact ⟨rfl, rfl⟩
theorem cleft_any (b : Nat) (s : ByteArray) (w : World) (h : CurAt w b s) : Calls Tryz.prog 66 #[.pointer (some ⟨b, 0, none⟩)] w fun e w' => e = .returned (.int .i64 s.size) ∧ w = w' := by
  have H := Lib.hid h
  clear h
  go_enter Tryz.func66, Tryz.ntmps66
  go_wp2_with (go_at_call 86; (with_reducible refine (rest_any _ _ _ H.out).mono ?_); rintro e w' ⟨rfl, rfl⟩)
  go_ret
  exact ⟨rfl, rfl⟩
/-- What Bytes comes to: the bytes, what is wrong, and what is left. -/
structure Cutt where
  got : ByteArray
  err : Int
  rest : ByteArray
def cutB (s : ByteArray) (n : Int) : Cutt := if n < 0 then ⟨⟨#[]⟩, 1, s⟩ else if s.size < n then ⟨⟨#[]⟩, 3, s⟩ else ⟨s.extract 0 n.toNat, 0, s.extract n.toNat s.size⟩
theorem bytes_any (b : Nat) (s : ByteArray) (n : Int) (w : World) (h : CurAt w b s) (hs : s.size ≤ 2147483648) : Calls Tryz.prog 85 #[.pointer (some ⟨b, 0, none⟩), .int .i64 n] w fun e w' => e = .returned (.tuple #[.string (cutB s n).got, .int .i64 (cutB s n).err]) ∧ CurAt w' b (cutB s n).rest ∧ Only b w w' := by
  have H := Lib.hid h
  have c0 : w.cell? ⟨b, 0, none⟩ = some (.string s) := IsObj.cell h 0
  have f0 := IsObj.free h 0
  clear h
  unfold cutB
  by_cases h0 : n < 0
  · rw [if_pos h0]
    go_enter Tryz.func85, Tryz.ntmps85
    go_wp2_with (go_at_call 66; (with_reducible refine (cleft_any _ _ _ H.out).mono ?_); rintro e w' ⟨rfl, rfl⟩)
    go_returns
    exact ⟨rfl, H.out, Only.refl _ _⟩
  · rw [if_neg h0]
    by_cases h1 : (s.size : Int) < n
    · rw [if_pos h1]
      go_enter Tryz.func85, Tryz.ntmps85
      go_wp2_with (go_at_call 66; (with_reducible refine (cleft_any _ _ _ H.out).mono ?_); rintro e w' ⟨rfl, rfl⟩)
      go_returns
      exact ⟨rfl, H.out, Only.refl _ _⟩
    · rw [if_neg h1]
      go_enter Tryz.func85, Tryz.ntmps85
      go_wp2_with (go_at_call 66; (with_reducible refine (cleft_any _ _ _ H.out).mono ?_); rintro e w' ⟨rfl, rfl⟩)
      go_returns
      exact ⟨rfl, IsObj.set H.out 0 (.string (s.extract n.toNat s.size)), (Only.refl _ _).setCell (.inl rfl) _⟩
theorem bytes_nil (n : Int) (w : World) (h : 0 < n) : Calls Tryz.prog 85 #[.pointer none, .int .i64 n] w fun e w' => e = .returned (.tuple #[.string ⟨#[]⟩, .int .i64 3]) ∧ w = w' := by
  go_enter Tryz.func85, Tryz.ntmps85
  go_wp2_with (go_at_call 66; (with_reducible refine (left_nil _).mono ?_); rintro e w' ⟨rfl, rfl⟩)
  go_returns
  exact ⟨rfl, rfl⟩
end Go.Proofs.YtobcjbpgeohbgaaGreatDoor
