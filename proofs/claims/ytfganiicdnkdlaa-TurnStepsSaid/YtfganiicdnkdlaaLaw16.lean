/-
  The statements of layer 16 (turn): TurnDwells, TurnSteps. No condition.
-/
import Derived.Test.YtfganiicdnkdlaaTurn
namespace Go.Proofs.Ytfganiicdnkdlaa
open Go.RowKit
set_option linter.unusedVariables false

theorem tok0 : TOk 0 0 := .inl ⟨rfl, rfl⟩

set_option maxHeartbeats 1000000 in
theorem awake16 (w : World) : Calls Try.prog 27 #[] w fun e w' => e = .returned (.bool true) ∧ Below w.heap.size w w' := by
  have s1 : tstep 0 0 1 3 = ⟨-1, 1, -1⟩ := rfl
  have s2 : tstep (-1) 1 2 3 = ⟨-1, 2, 0⟩ := rfl
  have s3 : tstep (-1) 2 2 3 = ⟨-1, 3, 0⟩ := rfl
  have s4 : tstep (-1) 3 2 3 = ⟨1, 1, 1⟩ := rfl
  go_enter Try.func27, Try.ntmps27
  go_wp2_with fail
  refine (turnNew_any _).mono ?_
  rintro e w1 ⟨rfl, hT, hb, hs⟩
  go_wp2_with fail
  refine (step_any _ _ _ 1 3 _ hT tok0).mono ?_
  rw [s1]
  rintro e w2 ⟨rfl, hT2, hO2⟩
  go_wp2_with fail
  refine (step_any _ _ _ 2 3 _ hT2 (.inr ⟨.inr rfl, by decide, by decide⟩)).mono ?_
  rw [s2]
  rintro e w3 ⟨rfl, hT3, hO3⟩
  go_wp2_with fail
  refine (step_any _ _ _ 2 3 _ hT3 (.inr ⟨.inr rfl, by decide, by decide⟩)).mono ?_
  rw [s3]
  rintro e w4 ⟨rfl, hT4, hO4⟩
  go_wp2_with fail
  refine (step_any _ _ _ 2 3 _ hT4 (.inr ⟨.inr rfl, by decide, by decide⟩)).mono ?_
  rw [s4]
  rintro e w5 ⟨rfl, hT5, hO5⟩
  have hO := ((hO2.trans hO3).trans hO4).trans hO5
  have HB := Lib.hid (hb.trans (hO.below (Nat.le_refl _) (by omega)))
  have HT := Lib.hid hT5
  clear hT hb hT2 hT3 hT4 hT5 hO2 hO3 hO4 hO5 hO
  go_wp2_with (first | (go_at_call 30; (with_reducible refine (way_any _ _ _ _ HT.out).mono ?_); rintro e w' ⟨rfl, rfl⟩) | (go_at_call 33; (with_reducible refine (held_any _ _ _ _ HT.out).mono ?_); rintro e w' ⟨rfl, rfl⟩))
  go_ret
  exact ⟨rfl, HB.out⟩

/-! ### TurnDwells -/
/-- What is read of a byte: its last two bits. -/
def low2 (x : Int) : Int := ((x.toNat &&& 3 : Nat) : Int)
theorem low2_rng (x : Int) : 0 ≤ low2 x ∧ low2 x ≤ 3 := by
  have h : x.toNat &&& 3 ≤ 3 := Nat.and_le_right
  unfold low2
  omega
theorem low2_eq (x : Int) (h : (Lit.int .u8 x).wf = true) : IntKind.i64.wrap (bits .and .u8 x 3) = low2 x := by
  have hb := bounds_u8 h
  rw [u8_and x 3 hb.1 (by omega) (by omega) (by omega)]
  have e : Int.toNat 3 = 3 := rfl
  rw [e]
  have := low2_rng x
  exact IntWalk.i64_in _ (by unfold low2 at this; omega)

/-- The law's own account behind k windows agrees with the turn: the way is the same; the way was taken at 'frm', and held since. -/
structure Dw (k : Nat) (way held acc frm : Int) : Prop where
  ok : TOk way held
  same : way = acc
  f0 : 0 ≤ frm
  f1 : frm ≤ k
  since : way ≠ 0 → held = k - frm
theorem dw_zero : Dw 0 0 0 0 0 := ⟨tok0, rfl, by omega, by omega, fun h => absurd rfl h⟩

theorem tstep_cases {way held : Int} (ok : TOk way held) (v d : Int) :
    ((tstep way held v d).ans = 0 ∧ (tstep way held v d).way = way ∧ ((way = 0 ∧ (tstep way held v d).held = held) ∨ (way ≠ 0 ∧ (tstep way held v d).held = bAdd held 1))) ∨
    (way ≠ 0 ∧ wants v = way ∧ (tstep way held v d).ans = way ∧ (tstep way held v d).way = way ∧ (tstep way held v d).held = bAdd held 1) ∨
    (wants v ≠ 0 ∧ wants v ≠ way ∧ (way = 0 ∨ (wants v = -way ∧ d ≤ held)) ∧ (tstep way held v d).ans = wants v ∧ (tstep way held v d).way = wants v ∧ (tstep way held v d).held = 1) := by
  have hw := wants_rng v
  unfold TOk at ok
  unfold tstep
  by_cases h0 : wants v = 0
  · rw [if_pos h0]
    by_cases h1 : way = 0
    · rw [if_pos h1]
      exact .inl ⟨rfl, rfl, .inl ⟨h1, rfl⟩⟩
    · rw [if_neg h1]
      exact .inl ⟨rfl, rfl, .inr ⟨h1, rfl⟩⟩
  · rw [if_neg h0]
    by_cases h1 : wants v = way
    · rw [if_pos h1]
      exact .inr (.inl ⟨by omega, h1, h1, rfl, rfl⟩)
    · rw [if_neg h1]
      by_cases h2 : way = 0 ∨ (d ≤ held ∧ 1 ≤ held)
      · rw [if_pos h2]
        exact .inr (.inr ⟨h0, h1, by omega, rfl, rfl, rfl⟩)
      · rw [if_neg h2]
        exact .inl ⟨rfl, rfl, .inr ⟨by omega, rfl⟩⟩
theorem wants_v (v : Int) : (wants v = 1 ↔ v = 2) ∧ (wants v = -1 ↔ v = 1) := by
  unfold wants
  split
  · constructor <;> constructor <;> intro <;> omega
  · split
    · constructor <;> constructor <;> intro <;> omega
    · constructor <;> constructor <;> intro <;> omega

/-- One more window, in the law's own words: what the tests ask, and what is so behind it. -/
theorem dw_step {k : Nat} {way held acc frm v d : Int} (h : Dw k way held acc frm) (hk : k ≤ 200) :
    ((tstep way held v d).ans = 0 ∨ ((tstep way held v d).ans = 1 ∧ v = 2) ∨ ((tstep way held v d).ans = -1 ∧ v = 1)) ∧
    (((tstep way held v d).ans = 0 ∨ (tstep way held v d).ans = acc) → Dw (k + 1) (tstep way held v d).way (tstep way held v d).held acc frm) ∧
    (¬ ((tstep way held v d).ans = 0 ∨ (tstep way held v d).ans = acc) → Dw (k + 1) (tstep way held v d).way (tstep way held v d).held (tstep way held v d).ans k ∧ (acc = 0 ∨ ((tstep way held v d).ans = -acc ∧ d ≤ k - frm))) := by
  obtain ⟨ok, rfl, f0, f1, since⟩ := h
  have hok := tok_step ok v d
  have hb : 0 ≤ held ∧ held ≤ 2147483647 := by unfold TOk at ok; omega
  have h1 := bAdd1 held hb.1 hb.2
  have hwv := wants_v v
  have hwr := wants_rng v
  have hway : way = 0 ∨ way = 1 ∨ way = -1 := by unfold TOk at ok; omega
  have hc := tstep_cases ok v d
  generalize tstep way held v d = s at *
  have e1 : ((k + 1 : Nat) : Int) = k + 1 := rfl
  refine ⟨?_, fun ha => ⟨hok, ?_, f0, ?_, fun hn => ?_⟩, fun ha => ⟨⟨hok, ?_, ?_, ?_, fun hn => ?_⟩, ?_⟩⟩
  · omega
  · omega
  · omega
  · by_cases hz : way = 0
    · omega
    · have := since hz
      omega
  · omega
  · omega
  · omega
  · by_cases hz : way = 0
    · omega
    · have := since hz
      omega
  · by_cases hz : way = 0
    · exact .inl hz
    · have := since hz
      omega

set_option maxRecDepth 100000 in
set_option maxHeartbeats 8000000 in
theorem dwells_walk (v : Value) (l : List Int) (d : Int) (w : World) (hv : KInts .u8 w v l) : Calls Try.prog 5 #[v, .int .i64 d] w fun e w' => e = .returned (.bool true) ∧ Below w.heap.size w w' := by
  obtain ⟨a, c, rfl, g1, g2, hwf, hat⟩ := hv
  have HW := Lib.hid hwf
  have HA := Lib.hid hat
  clear hwf hat
  by_cases hl : 200 < l.length
  · go_enter Try.func5, Try.ntmps5
    go_wp2_with (go_at_call 27; refine (awake16 _).mono ?_; rintro e w1 ⟨rfl, hb⟩)
    go_ret
    exact ⟨rfl, hb⟩
  · have d1 : decide ((200 : Int) < (l.length : Int)) = false := by simp; omega
    have l1 : l.length ≤ 200 := by omega
    clear hl
    go_enter Try.func5, Try.ntmps5
    go_wp2_with fail
    refine (turnNew_any _).mono ?_
    rintro e w1 ⟨rfl, hT, hb, hs⟩
    have HT := Lib.hid hT
    have HB := Lib.hid hb
    clear hT hb
    go_wp2_with fail
    go_loopw [6, 7, 8] (fun wy fr i wr => ∃ (k : Nat) (way held acc frm : Int), k ≤ l.length ∧ i = .int .i64 k ∧ wy = .int .i64 acc ∧ fr = .int .i64 frm ∧ Dw k way held acc frm ∧ TurnAt wr w.heap.size way held ∧ Below w.heap.size w wr) (fun _ _ i _ => l.length - (intOf i).toNat)
    case atStart => exact ⟨0, 0, 0, 0, 0, Nat.zero_le _, rfl, rfl, rfl, dw_zero, HT.out, HB.out⟩
    case round =>
      obtain ⟨k, way, held, acc, frm, hk, rfl, rfl, rfl, hD, hTr, hbr⟩ := hrel
      have HTr := Lib.hid hTr
      have HBr := Lib.hid hbr
      have HD := Lib.hid hD
      have q0 := hD.f0
      have q1 := hD.f1
      clear hTr hbr hD HT HB
      by_cases hlt : k < l.length
      · obtain ⟨b, off, rfl, hc⟩ : ∃ b off, a = some ⟨b, off, none⟩ ∧ wr.cell? ⟨b, off + k, none⟩ = some (.int .u8 (nth l k)) := by
          rcases HA.out with rfl | ⟨b, off, rfl, hc⟩
          · simp at hlt
          · exact ⟨b, off, rfl, cell_keep HBr.out (hc k hlt)⟩
        have e1 := low2_eq (nth l k) (HW.out k hlt)
        go_wp2_with fail
        refine (step_any _ _ _ _ _ _ HTr.out HD.out.ok).mono ?_
        rintro e w2 ⟨rfl, hT2, hO2⟩
        clear e1
        have hs2 := dw_step (v := low2 (nth l k)) (d := d) HD.out (by omega)
        have hacc : acc = 0 ∨ acc = 1 ∨ acc = -1 := by
          have h1 := HD.out.ok
          have h2 := HD.out.same
          unfold TOk at h1
          omega
        obtain ⟨s, hs3⟩ : ∃ s, s = tstep way held (low2 (nth l k)) d := ⟨_, rfl⟩
        obtain ⟨v, hv3⟩ : ∃ v, v = low2 (nth l k) := ⟨_, rfl⟩
        rw [← hs3] at hT2 hs2 ⊢
        rw [← hv3] at hs2 ⊢
        clear hs3 hv3
        have hbw := HBr.out.trans (hO2.below (Nat.le_refl _) HBr.out.size)
        have HT2 := Lib.hid hT2
        have HB2 := Lib.hid hbw
        clear hT2 hO2 hbw HTr HBr
        obtain ⟨z1, z2, z3⟩ := hs2
        have Z2 := Lib.hid z2
        have Z3 := Lib.hid z3
        clear z2 z3
        obtain ⟨sw, sh, sa⟩ := s
        simp only at z1 ⊢
        rcases z1 with rfl | ⟨rfl, rfl⟩ | ⟨rfl, rfl⟩ <;> rcases hacc with rfl | rfl | rfl
        all_goals
          first
            | (have hD2 := Z2.out (by first | exact .inl rfl | exact .inr rfl)
               have HD2 := Lib.hid hD2
               clear hD2)
            | (obtain ⟨hD2, hdk⟩ := Z3.out (by dsimp only; decide)
               have HD2 := Lib.hid hD2
               clear hD2
               simp at hdk)
        all_goals
          go_wp2
        all_goals
          go_roundw
          case rel => exact ⟨k + 1, sw, sh, _, _, by omega, by go_num, rfl, rfl, HD2.out, HT2.out, HB2.out⟩
          case measure => simp [intOf]; omega
      · have hsame := HD.out.same
        have HSm := Lib.hid hsame
        have heq : (way == acc) = true := by simp [hsame]
        clear hsame
        go_wp2_with (first | (go_at_call 30; (with_reducible refine (way_any _ _ _ _ HTr.out).mono ?_); rintro e w' ⟨rfl, rfl⟩) | (go_at_call 27; refine (awake16 _).mono ?_; rintro e w2 ⟨rfl, hb2⟩))
        go_ret
        exact ⟨rfl, HBr.out.trans (hb2.mono HBr.out.size)⟩

theorem dwells_done : Walk 5 Try.f5 := by
  intro W args hs hc
  rw [Try.params5] at hs hc
  obtain ⟨l⟩ := args
  match l, hs with
  | [v0, v1], _ =>
    obtain ⟨l, hl⟩ := kints_of_sl (came_slice Try.underlying51 (ps := [IsI .u8]) (by kernel_rfl) (opens_int Try.underlying5) (hc 0 51 v0 rfl rfl))
    obtain ⟨d, rfl, _⟩ := came_int Try.underlying3 (hc 1 3 v1 rfl rfl)
    exact dwells_walk v0 l d W hl
end Go.Proofs.Ytfganiicdnkdlaa
