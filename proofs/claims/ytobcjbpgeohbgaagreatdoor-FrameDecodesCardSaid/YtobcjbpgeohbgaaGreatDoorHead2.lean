/-
  Layer 23 (head): what is wrong with a frame's first bytes.
-/
import Derived.Test.YtobcjbpgeohbgaaGreatDoorHead
namespace Go.Proofs.YtobcjbpgeohbgaaGreatDoor
open Go.RowKit
set_option linter.unusedVariables false

/-- Byte k of a text. -/
def sb (s : ByteArray) (k : Nat) : Nat := ((bl s).getD k 0).toNat
theorem sb_at (s : ByteArray) (k : Nat) (h : k < s.size) : s[k].toNat = sb s k := by
  unfold sb
  rw [List.getD_eq_getElem?_getD, at_bl s k h]
  rfl
theorem sb_lt (s : ByteArray) (k : Nat) : sb s k < 256 := UInt8.toNat_lt _
/-- What a look at byte k comes to. -/
def lk (s : ByteArray) (k : Nat) (r : Nat → Bool) (e : Int) : Int := if k < s.size ∧ r (sb s k) = false then e else 0
theorem is183 (b : Nat) (w : World) : Calls Tryz.prog 81 #[.int .i64 b] w fun e w' => e = .returned (.bool (b == 183)) ∧ w = w' := by
  go_enter Tryz.func81, Tryz.ntmps81
  go_wp2
  go_ret
  exact ⟨ret_bool (by rw [Bool.eq_iff_iff]; simp; omega), rfl⟩
theorem is1 (b : Nat) (w : World) : Calls Tryz.prog 82 #[.int .i64 b] w fun e w' => e = .returned (.bool (b == 1)) ∧ w = w' := by
  go_enter Tryz.func82, Tryz.ntmps82
  go_wp2
  go_ret
  exact ⟨ret_bool (by rw [Bool.eq_iff_iff]; simp; omega), rfl⟩
theorem isK (b : Nat) (w : World) : Calls Tryz.prog 51 #[.int .i64 b] w fun e w' => e = .returned (.bool (decide (1 ≤ b ∧ b ≤ 3))) ∧ w = w' := by
  refine (kind_any b w).mono ?_
  rintro e w' ⟨rfl, h⟩
  exact ⟨ret_bool (by rw [Bool.eq_iff_iff]; simp; omega), h⟩
theorem isL (b : Nat) (w : World) : Calls Tryz.prog 83 #[.int .i64 b] w fun e w' => e = .returned (.bool (decide (b ≤ 200))) ∧ w = w' := by
  go_enter Tryz.func83, Tryz.ntmps83
  go_wp2
  go_ret
  exact ⟨ret_bool (by rw [Bool.eq_iff_iff]; simp; omega), rfl⟩
set_option maxRecDepth 100000 in
theorem look0 (s : ByteArray) (B k : Nat) (e0 : Int) (w : World) (hB : IsObj w B 9 [.string s]) (hk : k ≤ 9) :
    Calls Tryz.prog 80 #[.int .i64 k, .func (.func 81) #[] #[], .int .i64 e0, .pointer (some ⟨B, 0, none⟩)] w fun e w' => e = .returned (.int .i64 (lk s k (fun b => b == 183) e0)) ∧ w = w' := by
  have c0 : w.cell? ⟨B, 0, none⟩ = some (.string s) := IsObj.cell hB 0
  have i1 : (0 : Int) ≤ (k : Int) := by omega
  unfold lk
  by_cases hlt : k < s.size
  · have i2 : (k : Int) < (s.size : Int) := by omega
    have hsb := sb_at s k hlt
    have sbl := sb_lt s k
    have HR := Lib.hid (fun w => is183 (sb s k) w)
    cases hq : (fun b => b == 183) (sb s k) with
    | true =>
      simp only [hq] at HR
      rw [if_neg (by simp)]
      clear hq
      generalize sb s k = b at *
      go_enter Tryz.func80, Tryz.ntmps80
      go_wp2_with (go_at_call 81; (with_reducible refine (HR.out _).mono ?_); rintro e w' ⟨rfl, rfl⟩)
      go_ret
      exact ⟨rfl, rfl⟩
    | false =>
      simp only [hq] at HR
      rw [if_pos ⟨hlt, rfl⟩]
      clear hq
      generalize sb s k = b at *
      go_enter Tryz.func80, Tryz.ntmps80
      go_wp2_with (go_at_call 81; (with_reducible refine (HR.out _).mono ?_); rintro e w' ⟨rfl, rfl⟩)
      go_ret
      exact ⟨rfl, rfl⟩
  · have i2 : ¬ (k : Int) < (s.size : Int) := by omega
    rw [if_neg (fun c => hlt c.1)]
    go_enter Tryz.func80, Tryz.ntmps80
    go_wp2
    go_ret
    exact ⟨rfl, rfl⟩
set_option maxRecDepth 100000 in
theorem look1 (s : ByteArray) (B k : Nat) (e0 : Int) (w : World) (hB : IsObj w B 9 [.string s]) (hk : k ≤ 9) :
    Calls Tryz.prog 80 #[.int .i64 k, .func (.func 82) #[] #[], .int .i64 e0, .pointer (some ⟨B, 0, none⟩)] w fun e w' => e = .returned (.int .i64 (lk s k (fun b => b == 1) e0)) ∧ w = w' := by
  have c0 : w.cell? ⟨B, 0, none⟩ = some (.string s) := IsObj.cell hB 0
  have i1 : (0 : Int) ≤ (k : Int) := by omega
  unfold lk
  by_cases hlt : k < s.size
  · have i2 : (k : Int) < (s.size : Int) := by omega
    have hsb := sb_at s k hlt
    have sbl := sb_lt s k
    have HR := Lib.hid (fun w => is1 (sb s k) w)
    cases hq : (fun b => b == 1) (sb s k) with
    | true =>
      simp only [hq] at HR
      rw [if_neg (by simp)]
      clear hq
      generalize sb s k = b at *
      go_enter Tryz.func80, Tryz.ntmps80
      go_wp2_with (go_at_call 82; (with_reducible refine (HR.out _).mono ?_); rintro e w' ⟨rfl, rfl⟩)
      go_ret
      exact ⟨rfl, rfl⟩
    | false =>
      simp only [hq] at HR
      rw [if_pos ⟨hlt, rfl⟩]
      clear hq
      generalize sb s k = b at *
      go_enter Tryz.func80, Tryz.ntmps80
      go_wp2_with (go_at_call 82; (with_reducible refine (HR.out _).mono ?_); rintro e w' ⟨rfl, rfl⟩)
      go_ret
      exact ⟨rfl, rfl⟩
  · have i2 : ¬ (k : Int) < (s.size : Int) := by omega
    rw [if_neg (fun c => hlt c.1)]
    go_enter Tryz.func80, Tryz.ntmps80
    go_wp2
    go_ret
    exact ⟨rfl, rfl⟩
set_option maxRecDepth 100000 in
theorem look2 (s : ByteArray) (B k : Nat) (e0 : Int) (w : World) (hB : IsObj w B 9 [.string s]) (hk : k ≤ 9) :
    Calls Tryz.prog 80 #[.int .i64 k, .func (.func 51) #[] #[], .int .i64 e0, .pointer (some ⟨B, 0, none⟩)] w fun e w' => e = .returned (.int .i64 (lk s k (fun b => decide (1 ≤ b ∧ b ≤ 3)) e0)) ∧ w = w' := by
  have c0 : w.cell? ⟨B, 0, none⟩ = some (.string s) := IsObj.cell hB 0
  have i1 : (0 : Int) ≤ (k : Int) := by omega
  unfold lk
  by_cases hlt : k < s.size
  · have i2 : (k : Int) < (s.size : Int) := by omega
    have hsb := sb_at s k hlt
    have sbl := sb_lt s k
    have HR := Lib.hid (fun w => isK (sb s k) w)
    cases hq : (fun b => decide (1 ≤ b ∧ b ≤ 3)) (sb s k) with
    | true =>
      simp only [hq] at HR
      rw [if_neg (by simp)]
      clear hq
      generalize sb s k = b at *
      go_enter Tryz.func80, Tryz.ntmps80
      go_wp2_with (go_at_call 51; (with_reducible refine (HR.out _).mono ?_); rintro e w' ⟨rfl, rfl⟩)
      go_ret
      exact ⟨rfl, rfl⟩
    | false =>
      simp only [hq] at HR
      rw [if_pos ⟨hlt, rfl⟩]
      clear hq
      generalize sb s k = b at *
      go_enter Tryz.func80, Tryz.ntmps80
      go_wp2_with (go_at_call 51; (with_reducible refine (HR.out _).mono ?_); rintro e w' ⟨rfl, rfl⟩)
      go_ret
      exact ⟨rfl, rfl⟩
  · have i2 : ¬ (k : Int) < (s.size : Int) := by omega
    rw [if_neg (fun c => hlt c.1)]
    go_enter Tryz.func80, Tryz.ntmps80
    go_wp2
    go_ret
    exact ⟨rfl, rfl⟩
set_option maxRecDepth 100000 in
theorem look3 (s : ByteArray) (B k : Nat) (e0 : Int) (w : World) (hB : IsObj w B 9 [.string s]) (hk : k ≤ 9) :
    Calls Tryz.prog 80 #[.int .i64 k, .func (.func 83) #[] #[], .int .i64 e0, .pointer (some ⟨B, 0, none⟩)] w fun e w' => e = .returned (.int .i64 (lk s k (fun b => decide (b ≤ 200)) e0)) ∧ w = w' := by
  have c0 : w.cell? ⟨B, 0, none⟩ = some (.string s) := IsObj.cell hB 0
  have i1 : (0 : Int) ≤ (k : Int) := by omega
  unfold lk
  by_cases hlt : k < s.size
  · have i2 : (k : Int) < (s.size : Int) := by omega
    have hsb := sb_at s k hlt
    have sbl := sb_lt s k
    have HR := Lib.hid (fun w => isL (sb s k) w)
    cases hq : (fun b => decide (b ≤ 200)) (sb s k) with
    | true =>
      simp only [hq] at HR
      rw [if_neg (by simp)]
      clear hq
      generalize sb s k = b at *
      go_enter Tryz.func80, Tryz.ntmps80
      go_wp2_with (go_at_call 83; (with_reducible refine (HR.out _).mono ?_); rintro e w' ⟨rfl, rfl⟩)
      go_ret
      exact ⟨rfl, rfl⟩
    | false =>
      simp only [hq] at HR
      rw [if_pos ⟨hlt, rfl⟩]
      clear hq
      generalize sb s k = b at *
      go_enter Tryz.func80, Tryz.ntmps80
      go_wp2_with (go_at_call 83; (with_reducible refine (HR.out _).mono ?_); rintro e w' ⟨rfl, rfl⟩)
      go_ret
      exact ⟨rfl, rfl⟩
  · have i2 : ¬ (k : Int) < (s.size : Int) := by omega
    rw [if_neg (fun c => hlt c.1)]
    go_enter Tryz.func80, Tryz.ntmps80
    go_wp2
    go_ret
    exact ⟨rfl, rfl⟩
def lk0 (s : ByteArray) : Int := lk s 0 (fun b => b == 183) 2
def lk1 (s : ByteArray) : Int := lk s 1 (fun b => b == 1) 2
def lk2 (s : ByteArray) : Int := lk s 2 (fun b => decide (1 ≤ b ∧ b ≤ 3)) 5
def lk3 (s : ByteArray) : Int := lk s 3 (fun b => decide (b ≤ 200)) 9
def wrongN (s : ByteArray) : Int := if lk0 s ≠ 0 then lk0 s else if lk1 s ≠ 0 then lk1 s else if lk2 s ≠ 0 then lk2 s else if lk3 s ≠ 0 then lk3 s else if s.size < 4 then 3 else 0
def lkK (s : ByteArray) (k : Nat) : Int := [lk0 s, lk1 s, lk2 s, lk3 s].getD k 0
theorem lt4 {i : Nat} (h : i < 4) : i = 0 ∨ i = 1 ∨ i = 2 ∨ i = 3 := by omega
theorem wrong_at {s : ByteArray} {k : Nat} (hk : k < 4) (h : ∀ j, j < k → lkK s j = 0) (hn : lkK s k ≠ 0) : wrongN s = lkK s k := by
  unfold wrongN
  rcases lt4 hk with rfl | rfl | rfl | rfl
  · have hn0 : lk0 s ≠ 0 := hn
    rw [if_pos hn0]; rfl
  · have h0 : lk0 s = 0 := h 0 (by omega)
    rw [if_neg (fun c => c h0), if_pos (show lk1 s ≠ 0 from hn)]; rfl
  · have h0 : lk0 s = 0 := h 0 (by omega)
    have h1 : lk1 s = 0 := h 1 (by omega)
    rw [if_neg (fun c => c h0), if_neg (fun c => c h1), if_pos (show lk2 s ≠ 0 from hn)]; rfl
  · have h0 : lk0 s = 0 := h 0 (by omega)
    have h1 : lk1 s = 0 := h 1 (by omega)
    have h2 : lk2 s = 0 := h 2 (by omega)
    rw [if_neg (fun c => c h0), if_neg (fun c => c h1), if_neg (fun c => c h2), if_pos (show lk3 s ≠ 0 from hn)]; rfl
theorem wrong_end {s : ByteArray} (h : ∀ j, j < 4 → lkK s j = 0) : wrongN s = if s.size < 4 then 3 else 0 := by
  have h0 : lk0 s = 0 := h 0 (by omega)
  have h1 : lk1 s = 0 := h 1 (by omega)
  have h2 : lk2 s = 0 := h 2 (by omega)
  have h3 : lk3 s = 0 := h 3 (by omega)
  unfold wrongN
  rw [if_neg (fun c => c h0), if_neg (fun c => c h1), if_neg (fun c => c h2), if_neg (fun c => c h3)]
set_option maxRecDepth 100000 in
set_option maxHeartbeats 1000000 in
theorem wrong_any (s : ByteArray) (w : World) (hs : s.size ≤ 2147483648) : Calls Tryz.prog 60 #[.string s] w fun e w' => e = .returned (.int .i64 (wrongN s)) ∧ Below w.heap.size w w' := by
  have hB := IsObj.new w 9 [.string s]
  have HB := Lib.hid hB
  have l0 := look0 s w.heap.size 0 2 _ hB (by omega)
  rw [show ((0 : Nat) : Int) = 0 from rfl, show lk s 0 (fun b => b == 183) 2 = lk0 s from rfl] at l0
  have L0 := Lib.hid l0
  have l1 := look1 s w.heap.size 1 2 _ hB (by omega)
  rw [show ((1 : Nat) : Int) = 1 from rfl, show lk s 1 (fun b => b == 1) 2 = lk1 s from rfl] at l1
  have L1 := Lib.hid l1
  have l2 := look2 s w.heap.size 2 5 _ hB (by omega)
  rw [show ((2 : Nat) : Int) = 2 from rfl, show lk s 2 (fun b => decide (1 ≤ b ∧ b ≤ 3)) 5 = lk2 s from rfl] at l2
  have L2 := Lib.hid l2
  have l3 := look3 s w.heap.size 3 9 _ hB (by omega)
  rw [show ((3 : Nat) : Int) = 3 from rfl, show lk s 3 (fun b => decide (b ≤ 200)) 9 = lk3 s from rfl] at l3
  have L3 := Lib.hid l3
  obtain ⟨W, hW⟩ : ∃ W, W = wrongN s := ⟨_, rfl⟩
  rw [← hW]
  have HW := Lib.hid hW
  clear hW hB l0 l1 l2 l3
  go_enter Tryz.func60, Tryz.ntmps60
  go_wp2_with (go_at_call 80; first | ((with_reducible refine L0.out.mono ?_); rintro e w' ⟨rfl, rfl⟩) | ((with_reducible refine L1.out.mono ?_); rintro e w' ⟨rfl, rfl⟩) | ((with_reducible refine L2.out.mono ?_); rintro e w' ⟨rfl, rfl⟩) | ((with_reducible refine L3.out.mono ?_); rintro e w' ⟨rfl, rfl⟩))
  have hN := IsObj.new (w.alloc (.cells #[.string s] 9)) 33 [.int .i64 (lk0 s), .int .i64 (lk1 s), .int .i64 (lk2 s), .int .i64 (lk3 s)]
  have hcell : ∀ k, k < 4 → ((w.alloc (.cells #[.string s] 9)).alloc (.cells #[.int .i64 (lk0 s), .int .i64 (lk1 s), .int .i64 (lk2 s), .int .i64 (lk3 s)] 33)).cell? ⟨w.heap.size + 1, k, none⟩ = some (.int .i64 (lkK s k)) := by
    intro k hk
    have := IsObj.cell hN k
    rw [show (w.alloc (.cells #[.string s] 9)).heap.size = w.heap.size + 1 by simp] at this
    refine Eq.trans this ?_
    rcases lt4 hk with rfl | rfl | rfl | rfl <;> rfl
  have hst : ((w.alloc (.cells #[.string s] 9)).alloc (.cells #[.int .i64 (lk0 s), .int .i64 (lk1 s), .int .i64 (lk2 s), .int .i64 (lk3 s)] 33)).cell? ⟨w.heap.size, 0, none⟩ = some (.string s) := IsObj.cell (HB.out.alloc _) 0
  have hbb : Below w.heap.size w ((w.alloc (.cells #[.string s] 9)).alloc (.cells #[.int .i64 (lk0 s), .int .i64 (lk1 s), .int .i64 (lk2 s), .int .i64 (lk3 s)] 33)) := ((Below.refl _ _).alloc (Nat.le_refl _) _).alloc (by simp) _
  have HC := Lib.hid hcell
  have HBB := Lib.hid hbb
  clear hN hcell hbb L0 L1 L2 L3 HB
  generalize ((w.alloc (.cells #[.string s] 9)).alloc (.cells #[.int .i64 (lk0 s), .int .i64 (lk1 s), .int .i64 (lk2 s), .int .i64 (lk3 s)] 33)) = W5 at *
  go_loopw [17] (fun i wr => ∃ k : Nat, k ≤ 4 ∧ i = .int .i64 k ∧ wr = W5 ∧ ∀ j, j < k → lkK s j = 0) (fun i _ => 4 - (intOf i).toNat)
  case atStart => exact ⟨0, by omega, rfl, rfl, fun j hj => by omega⟩
  case round =>
    obtain ⟨k, hk, rfl, rfl, hok⟩ := hrel
    have HOk := Lib.hid hok
    clear hok
    by_cases hlt : k < 4
    · have c0 := HC.out k hlt
      have i1 : (0 : Int) ≤ (k : Int) := by omega
      have i2 : (k : Int) < 4 := by omega
      by_cases hz : lkK s k = 0
      · have HNew := Lib.hid (show ∀ j, j < k + 1 → lkK s j = 0 from fun j hj => by
          by_cases hjk : j = k
          · rw [hjk]; exact hz
          · exact HOk.out j (by omega))
        rw [hz] at c0
        clear hz
        go_wp2
        exact ⟨⟨k + 1, by omega, by go_num, trivial, HNew.out⟩, by simp only [intOf]; omega⟩
      · have hWk : W = lkK s k := by rw [HW.out]; exact wrong_at hlt HOk.out hz
        subst hWk
        have hzb : (lkK s k != 0) = true := by simpa using hz
        go_wp2
        go_ret
        exact ⟨rfl, HBB.out⟩
    · obtain rfl : k = 4 := by omega
      have hWe : W = if s.size < 4 then 3 else 0 := by rw [HW.out]; exact wrong_end HOk.out
      by_cases h4 : s.size < 4
      · rw [if_pos h4] at hWe
        subst hWe
        have i4 : (s.size : Int) < 4 := by omega
        go_wp2
        go_ret
        exact ⟨rfl, HBB.out⟩
      · rw [if_neg h4] at hWe
        subst hWe
        have i4 : ¬ (s.size : Int) < 4 := by omega
        go_wp2
        go_ret
        exact ⟨rfl, HBB.out⟩
end Go.Proofs.YtobcjbpgeohbgaaGreatDoor
