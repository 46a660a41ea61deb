/-
  lockkeeperref12.Find: at which place an id is.
-/
import Derived.Test.YtmanmebgmhpilaaRefV
namespace Go.Proofs.Ytmanmebgmhpilaa
open Go.RowKit
set_option linter.unusedVariables false

/-- The place of an id; -1: nowhere. -/
def fndN (l : List It) (id : Int) : Nat → Nat → Int
  | 0, _ => -1
  | f + 1, k => if (nth l k).id = id then (k : Int) else fndN l id f (k + 1)
def fnd (l : List It) (id : Int) : Int := fndN l id l.length 0
theorem fndN_law (l : List It) (id : Int) : ∀ f k, (fndN l id f k = -1 ∧ ∀ j, k ≤ j → j < k + f → (nth l j).id ≠ id) ∨ ∃ j, k ≤ j ∧ j < k + f ∧ fndN l id f k = (j : Int) ∧ (nth l j).id = id ∧ ∀ q, k ≤ q → q < j → (nth l q).id ≠ id := by
  intro f
  induction f with
  | zero => intro k; exact .inl ⟨rfl, fun j h1 h2 => by omega⟩
  | succ f ih =>
    intro k
    rw [fndN]
    by_cases h : (nth l k).id = id
    · rw [if_pos h]
      exact .inr ⟨k, Nat.le_refl _, by omega, rfl, h, fun q h1 h2 => by omega⟩
    · rw [if_neg h]
      rcases ih (k + 1) with ⟨h1, h2⟩ | ⟨j, h1, h2, h3, h4, h5⟩
      · refine .inl ⟨h1, fun j h3 h4 => ?_⟩
        by_cases hj : j = k
        · rw [hj]; exact h
        · exact h2 j (by omega) (by omega)
      · refine .inr ⟨j, by omega, by omega, h3, h4, fun q h6 h7 => ?_⟩
        by_cases hq : q = k
        · rw [hq]; exact h
        · exact h5 q (by omega) h7
theorem fnd_law (l : List It) (id : Int) : (fnd l id = -1 ∧ id ∉ l.map It.id) ∨ ∃ j, j < l.length ∧ fnd l id = (j : Int) ∧ (nth l j).id = id ∧ ∀ q, q < j → (nth l q).id ≠ id := by
  rcases fndN_law l id l.length 0 with ⟨h1, h2⟩ | ⟨j, h1, h2, h3, h4, h5⟩
  · refine .inl ⟨h1, fun hm => ?_⟩
    obtain ⟨k, hk, e⟩ := mem_nth hm
    exact h2 k (Nat.zero_le _) (by omega) e
  · exact .inr ⟨j, by omega, h3, h4, fun q hq => h5 q (Nat.zero_le _) hq⟩

set_option maxRecDepth 100000 in
theorem rfind_any (a : Option Addr) (c : Nat) (l : List It) (id : Int) (w : World) (hm : l.length ≤ 1000) (hA : RowOf itCells 7 w a l) :
    Calls Try.prog 43 #[.slice a l.length c, .int .i64 id] w fun e w' => e = .returned (.int .i64 (fnd l id)) ∧ w = w' := by
  have HA := Lib.hid hA
  clear hA
  generalize hr : fnd l id = r
  have HR := Lib.hid hr
  clear hr
  go_enter Try.func43, Try.ntmps43
  go_wp2
  go_loop [5] (fun s5 => ∃ k : Nat, k ≤ l.length ∧ s5 = .int .i64 k ∧ Hid (fndN l id (l.length - k) k = r)) (fun s5 => l.length - (intOf s5).toNat)
  case atStart => exact ⟨0, Nat.zero_le _, rfl, (HR.out : fndN l id l.length 0 = r)⟩
  case round =>
    obtain ⟨k, hk, rfl, HF⟩ := hrel
    by_cases hlt : k < l.length
    · obtain ⟨b, off, rfl, hc⟩ : ∃ b off, a = some ⟨b, off, none⟩ ∧ ∀ i, i < l.length → ∀ j, j < 7 → w.cell? ⟨b, off + i * 7 + j, none⟩ = (itCells (nth l i))[j]? := by
        rcases HA.out with rfl | h
        · simp at hlt
        · exact h
      obtain ⟨x0, x1, x2, x3, x4, x5, x6⟩ := item_cells hc k hlt
      have hkz : (0 : Int) ≤ (k : Int) := by omega
      have hltz : (k : Int) < (l.length : Int) := by omega
      have he : l.length - k = (l.length - (k + 1)) + 1 := by omega
      have hF := HF.out
      rw [he, fndN] at hF
      clear hc x1 x2 x3 x4 x5 x6 he HF
      by_cases hid : (nth l k).id = id
      · rw [if_pos hid] at hF
        rw [hid] at x0
        have HK := Lib.hid hF
        clear hF hid
        go_wp2
        go_ret
        exact ⟨ret_int HK.out, rfl⟩
      · rw [if_neg hid] at hF
        have HK := Lib.hid hF
        clear hF
        go_wp2
        go_round
        case rel => exact ⟨k + 1, by omega, by go_num, HK.out⟩
        case measure => simp [intOf]; omega
    · obtain rfl : k = l.length := by omega
      have hF := HF.out
      rw [Nat.sub_self, fndN] at hF
      have HK := Lib.hid hF
      clear hF HF
      go_wp2
      go_ret
      exact ⟨ret_int HK.out, rfl⟩
end Go.Proofs.Ytmanmebgmhpilaa
