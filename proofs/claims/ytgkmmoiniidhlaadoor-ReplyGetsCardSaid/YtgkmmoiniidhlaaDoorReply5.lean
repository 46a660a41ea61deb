/-
  Layer 25 (reply): the codes of names; To; awake.
-/
import Derived.Test.YtgkmmoiniidhlaaDoorReply4
import Derived.Lib.SlicesS
namespace Go.Proofs.YtgkmmoiniidhlaaDoor
open Go.RowKit
set_option linter.unusedVariables false

/-- The first place of a word, from k on, among m. -/
def fdx (name : ByteArray) (f : Nat → ByteArray) : Nat → Nat → Option Nat
  | _, 0 => none
  | k, m + 1 => if f k = name then some k else fdx name f (k + 1) m
def fdI (r : Option Nat) : Int := match r with
  | none => 0
  | some i => i
def cdI (r : Option Nat) : Int := match r with
  | none => 0
  | some i => (i : Int) + 1
set_option maxRecDepth 100000 in
theorem find_any (name : ByteArray) (f : Nat → ByteArray) (n : Nat) (hn : n ≤ 100) (b off c : Nat) (w : World) (h : ∀ k, k < n → w.cell? ⟨b, off + k, none⟩ = some (.string (f k))) : Calls Tryd.prog 25 #[.string name, .slice (some ⟨b, off, none⟩) n c] w fun e w' => e = .returned (.tuple #[.int .i64 (fdI (fdx name f 0 n)), .bool (fdx name f 0 n).isSome]) ∧ w = w' := by
  have H := Lib.hid h
  obtain ⟨R, hR⟩ : ∃ R, R = fdx name f 0 n := ⟨_, rfl⟩
  rw [← hR]
  have HR := Lib.hid hR
  clear h hR
  go_enter Tryd.func25, Tryd.ntmps25
  go_wp2
  go_loop [10] (fun i => ∃ k : Nat, k ≤ n ∧ i = .int .i64 k ∧ R = fdx name f k (n - k)) (fun i => n - (intOf i).toNat)
  case atStart => exact ⟨0, Nat.zero_le _, rfl, by rw [HR.out]; rfl⟩
  case round =>
    obtain ⟨k, hk, rfl, hF⟩ := hrel
    by_cases hlt : k < n
    · have c0 := H.out k hlt
      have i1 : (0 : Int) ≤ (k : Int) := by omega
      have i2 : (k : Int) < (n : Int) := by omega
      rw [show n - k = (n - (k + 1)) + 1 by omega, fdx] at hF
      by_cases he : f k = name
      · rw [if_pos he] at hF
        subst hF
        rw [he] at c0
        clear he
        go_wp2
        go_returns
        exact ⟨rfl, rfl⟩
      · rw [if_neg he] at hF
        have HF := Lib.hid hF
        have hb : ((f k).toList == name.toList) = false := (Lib.bytes_beq_false_iff _ _).2 he
        clear hF
        go_wp2
        exact ⟨⟨k + 1, by omega, by go_num, HF.out⟩, by simp only [intOf]; omega⟩
    · obtain rfl : k = n := by omega
      rw [Nat.sub_self] at hF
      have hF2 : R = none := hF
      subst hF2
      clear hF
      go_wp2
      go_returns
      exact ⟨rfl, rfl⟩
set_option maxRecDepth 100000 in
theorem rfind_any (name : ByteArray) (f : Nat → ByteArray) (n : Nat) (hn : n ≤ 100) (b off c : Nat) (w : World) (h : ∀ k, k < n → w.cell? ⟨b, off + k, none⟩ = some (.string (f k))) : Calls Tryd.prog 12 #[.string name, .slice (some ⟨b, off, none⟩) n c] w fun e w' => e = .returned (.tuple #[.int .i64 (fdI (fdx name f 0 n)), .bool (fdx name f 0 n).isSome]) ∧ w = w' := by
  have H := Lib.hid h
  obtain ⟨R, hR⟩ : ∃ R, R = fdx name f 0 n := ⟨_, rfl⟩
  rw [← hR]
  have HR := Lib.hid hR
  clear h hR
  go_enter Tryd.func12, Tryd.ntmps12
  go_wp2
  go_loop [6] (fun i => ∃ k : Nat, k ≤ n ∧ i = .int .i64 k ∧ R = fdx name f k (n - k)) (fun i => n - (intOf i).toNat)
  case atStart => exact ⟨0, Nat.zero_le _, rfl, by rw [HR.out]; rfl⟩
  case round =>
    obtain ⟨k, hk, rfl, hF⟩ := hrel
    by_cases hlt : k < n
    · have c0 := H.out k hlt
      have i1 : (0 : Int) ≤ (k : Int) := by omega
      have i2 : (k : Int) < (n : Int) := by omega
      rw [show n - k = (n - (k + 1)) + 1 by omega, fdx] at hF
      by_cases he : f k = name
      · rw [if_pos he] at hF
        subst hF
        rw [he] at c0
        clear he
        go_wp2
        go_returns
        exact ⟨rfl, rfl⟩
      · rw [if_neg he] at hF
        have HF := Lib.hid hF
        have hb : ((f k).toList == name.toList) = false := (Lib.bytes_beq_false_iff _ _).2 he
        clear hF
        go_wp2
        exact ⟨⟨k + 1, by omega, by go_num, HF.out⟩, by simp only [intOf]; omega⟩
    · obtain rfl : k = n := by omega
      rw [Nat.sub_self] at hF
      have hF2 : R = none := hF
      subst hF2
      clear hF
      go_wp2
      go_returns
      exact ⟨rfl, rfl⟩
theorem lt10 {i : Nat} (h : i < 10) : i = 0 ∨ i = 1 ∨ i = 2 ∨ i = 3 ∨ i = 4 ∨ i = 5 ∨ i = 6 ∨ i = 7 ∨ i = 8 ∨ i = 9 := by omega
abbrev nmV : List Value := [.string ⟨#[]⟩, .string ⟨#[103, 111, 111, 100]⟩, .string ⟨#[114, 101, 102, 117, 115, 101, 100]⟩, .string ⟨#[101, 120, 112, 105, 114, 101, 100]⟩, .string ⟨#[115, 112, 101, 110, 116]⟩, .string ⟨#[101, 118, 105, 99, 116, 101, 100]⟩, .string ⟨#[108, 97, 116, 101]⟩, .string ⟨#[102, 97, 105, 108, 101, 100]⟩, .string ⟨#[99, 117, 116]⟩, .string ⟨#[115, 116, 97, 114, 118, 101, 100]⟩, .string ⟨#[98, 114, 111, 107, 101, 110]⟩]
theorem names_any (w : World) : Calls Tryd.prog 11 #[] w fun e w' => e = .returned (.slice (some ⟨w.heap.size, 0, none⟩) 11 11) ∧ (∀ k, k < 10 → w'.cell? ⟨w.heap.size, k + 1, none⟩ = some (.string (nm k))) ∧ Below w.heap.size w w' ∧ w.heap.size < w'.heap.size := by
  have hc : ∀ k, k < 10 → (w.alloc (.cells nmV.toArray 9)).cell? ⟨w.heap.size, k + 1, none⟩ = some (.string (nm k)) := by
    intro k hk
    rw [cell_new]
    rcases lt10 hk with rfl | rfl | rfl | rfl | rfl | rfl | rfl | rfl | rfl | rfl <;> rfl
  have HC := Lib.hid hc
  clear hc
  go_enter Tryd.func11, Tryd.ntmps11
  go_wp2
  go_ret
  exact ⟨rfl, HC.out, (Below.refl _ _).alloc (Nat.le_refl _) _, by simp⟩
theorem code_any (name : ByteArray) (w : World) (hN : NmAt w) : Calls Tryd.prog 10 #[.string name] w fun e w' => e = .returned (.tuple #[.int .i64 (cdI (fdx name nm 0 10)), .bool (fdx name nm 0 10).isSome]) ∧ w = w' := by
  have F := fun w h => find_any name nm 10 (by omega) 0 0 10 w h
  have hc : ∀ k, k < 10 → w.cell? ⟨0, 0 + k, none⟩ = some (.string (nm k)) := fun k hk => by rw [Nat.zero_add]; exact hN k hk
  have F1 := F w hc
  have hr : ∀ i, fdx name nm 0 10 = some i → i < 100 := by
    have : ∀ m k i, fdx name nm k m = some i → i < k + m := by
      intro m
      induction m with
      | zero => intro k i h; cases h
      | succ m ih =>
        intro k i h
        unfold fdx at h
        split at h
        · injection h with h; omega
        · have := ih (k + 1) i h; omega
    intro i h
    have := this 10 0 i h
    omega
  clear F hc hN
  generalize fdx name nm 0 10 = r at *
  have HF := Lib.hid F1
  clear F1
  cases r with
  | none =>
    go_enter Tryd.func10, Tryd.ntmps10
    go_wp2_with (go_at_call 25; refine HF.out.mono ?_; rintro e w' ⟨rfl, rfl⟩)
    go_returns
    exact ⟨rfl, rfl⟩
  | some i =>
    have hi := hr i rfl
    have e1 : fdI (some i) = (i : Int) := rfl
    have e2 : cdI (some i) = (i : Int) + 1 := rfl
    rw [e1] at HF
    rw [e2]
    clear hr e1 e2
    go_enter Tryd.func10, Tryd.ntmps10
    go_wp2_with (go_at_call 25; refine HF.out.mono ?_; rintro e w' ⟨rfl, rfl⟩)
    go_returns
    exact ⟨rfl, rfl⟩
theorem to_any (i f t l d b c th ep ti : Int) (w : World) : Calls Tryd.prog 17 #[.agg #[.int .i64 i, .int .i64 f, .int .i64 t, .int .i64 l, .int .i64 d, .int .i64 b], .int .i64 c, .int .i64 th, .int .i64 ep, .int .i64 ti] w fun e w' => e = .returned (rpV ⟨i, t, f, c, th, ep, ti⟩) ∧ Below w.heap.size w w' := by
  go_enter Tryd.func17, Tryd.ntmps17
  go_wp2
  refine bodyPost_ret (v := rpV ⟨i, t, f, c, th, ep, ti⟩) (by simp [results, Tryd.results17, go_sem]) rfl ?_
  exact ⟨rfl, ((Below.refl _ _).alloc (Nat.le_refl _) _).alloc (by simp) _⟩

/-! ### awake -/
abbrev rp0 : Rp := ⟨5, 2, -1, 1, 3, 9, 1⟩
set_option maxRecDepth 100000 in
set_option maxHeartbeats 1000000 in
theorem awake25 (w : World) (hN : NmAt w) : Calls Tryd.prog 6 #[] w fun e w' => e = .returned (.bool true) ∧ Below w.heap.size w w' := by
  have k0 : rpOk rp0 = true := by decide
  have l0 : encN rw7 (rv rp0) 7 = [0, 0, 0, 0, 0, 5, 2, 0, 1, 3, 0, 0, 0, 9, 1] := by decide +kernel
  have g0 := (get_putR k0).1
  have P := fun w h => rpput_ok rp0 w h k0
  have G := fun w h => rpget_any (ofL (encN rw7 (rv rp0) 7)) w (by rw [l0]; decide) h
  rw [g0] at G
  rw [l0] at P G
  have HP := Lib.hid P
  have HG := Lib.hid G
  have nn : nameS 5 = ⟨#[101, 118, 105, 99, 116, 101, 100]⟩ := by decide +kernel
  have M := fun w h => name_is 5 true (by decide) w h
  rw [nn] at M
  have HM := Lib.hid M
  have cc : fdx ⟨#[98, 114, 111, 107, 101, 110]⟩ nm 0 10 = some 9 := by decide +kernel
  have D := fun w h => code_any ⟨#[98, 114, 111, 107, 101, 110]⟩ w h
  rw [cc] at D
  have HD := Lib.hid D
  have hb0 : Below w.heap.size w (w.alloc (.cells (rpCells rp0).toArray 24)) := (Below.refl _ _).alloc (Nat.le_refl _) _
  have HN0 := Lib.hid (hN.same hb0)
  have hB : RpAt (w.alloc (.cells (rpCells rp0).toArray 24)) w.heap.size rp0 := IsObj.new w _ (rpCells rp0)
  have HR0 := Lib.hid hB
  have HB0 := Lib.hid hb0
  clear k0 l0 g0 P G hN hB hb0 nn M cc D
  go_enter Tryd.func6, Tryd.ntmps6
  go_wp2_with fail
  refine (HP.out _ HN0.out).mono ?_
  rintro e w1 ⟨rfl, hb1⟩
  have HR1 := Lib.hid (HR0.out.same hb1)
  have HN1 := Lib.hid (HN0.out.same hb1)
  have HB1 := Lib.hid (HB0.out.trans (hb1.mono HB0.out.size))
  clear hb1 HR0 HN0 HB0 HP
  go_wp2_with fail
  refine (HG.out _ HN1.out).mono ?_
  rintro e w2 ⟨rfl, hb2⟩
  have hR2 := HR1.out.same hb2
  have hbn : Below w2.heap.size w2 (w2.alloc (.cells (rpCells rp0).toArray 24)) := (Below.refl _ _).alloc (Nat.le_refl _) _
  have HN2 := Lib.hid ((HN1.out.same hb2).same hbn)
  have HB2 := Lib.hid (HB1.out.trans (hb2.mono HB1.out.size))
  have hsz := HB2.out.size
  obtain ⟨a0, a1, a2, a3, a4, a5, a6⟩ := seven hR2
  have hA := cell_lt a0
  simp only at hA
  clear hb2 hR2 HR1 HN1 HB1 HG hbn
  go_wp2_with (first | (go_at_call 9; (with_reducible refine (HM.out _ HN2.out).mono ?_); rintro e w' ⟨rfl, rfl⟩) | (go_at_call 10; (with_reducible refine (HD.out _ HN2.out).mono ?_); rintro e w' ⟨rfl, rfl⟩))
  go_ret
  exact ⟨rfl, HB2.out.alloc hsz _⟩
end Go.Proofs.YtgkmmoiniidhlaaDoor
