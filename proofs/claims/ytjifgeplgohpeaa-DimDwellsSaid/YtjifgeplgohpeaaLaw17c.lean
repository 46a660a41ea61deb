/-
  The statement DimDwells of layer 17 (dim). No condition.
-/
import Derived.Test.YtjifgeplgohpeaaLaw17
namespace Go.Proofs.Ytjifgeplgohpeaa
open Go.RowKit
set_option linter.unusedVariables false

/-- What is read of a byte: some of its bits. -/
def bitsOf (x k : Int) : Int := ((x.toNat &&& k.toNat : Nat) : Int)
theorem bitsOf_rng (x k : Int) (h0 : 0 ≤ k) : 0 ≤ bitsOf x k ∧ bitsOf x k ≤ k := by
  have h : x.toNat &&& k.toNat ≤ k.toNat := Nat.and_le_right
  unfold bitsOf
  omega
theorem bitsOf_eq (x k : Int) (h0 : 0 ≤ k) (hk : k ≤ 255) (h : (Lit.int .u8 x).wf = true) : IntKind.i64.wrap (bits .and .u8 x k) = bitsOf x k := by
  have hb := bounds_u8 h
  rw [u8_and x k hb.1 (by omega) (by omega) (by omega)]
  have := bitsOf_rng x k h0
  exact IntWalk.i64_in _ (by unfold bitsOf at this; omega)
theorem bAddD (h : Int) (h0 : 0 ≤ h) (h1 : h ≤ 2147483647) : bAdd h 1 = min (h + 1) 2147483647 := by
  unfold bAdd
  rw [cnt_id h h0 h1, cnt_id 1 (by omega) (by omega)]
  unfold cnt keep
  omega

/-- The law's own account behind k windows agrees with the dimmer: the tier is the same; the last change was at 'last', and it was held since. -/
structure Dv (k : Nat) (n tier held last : Int) : Prop where
  ok : DOk n tier
  n0 : 0 ≤ n
  h0 : 0 ≤ held
  h1 : held ≤ 1000
  hk : held ≤ k + 32
  l0 : -1 ≤ last
  l1 : last < k
  since : 0 ≤ last → held = k - 1 - last

theorem dv_step {k : Nat} {n tier held last : Int} (h : Dv k n tier held last) (hk : k ≤ 200) (v d : Int) (o : Bool) :
    (dstep n tier held v o d = ⟨tier, held + 1, false⟩ ∧ Dv (k + 1) n tier (held + 1) last) ∨
    (dstep n tier held v o d = ⟨tier - 1, 0, true⟩ ∧ v = 1 ∧ 0 < tier ∧ (0 ≤ last → ¬ k - last < d) ∧ Dv (k + 1) n (tier - 1) 0 k) ∨
    (dstep n tier held v o d = ⟨tier + 1, 0, true⟩ ∧ v = 2 ∧ o = true ∧ tier < n ∧ (0 ≤ last → ¬ k - last < d) ∧ Dv (k + 1) n (tier + 1) 0 k) := by
  obtain ⟨ok, n0, h0, h1, hk2, l0, l1, since⟩ := h
  have hb : bAdd held 1 = held + 1 := by
    have := bAddD held h0 (by omega)
    omega
  have e1 : ((k + 1 : Nat) : Int) = k + 1 := rfl
  unfold DOk at ok
  unfold dstep
  rw [hb]
  by_cases c1 : held + 1 < d
  · rw [if_pos c1]
    exact .inl ⟨rfl, ok, n0, by omega, by omega, by omega, by omega, by omega, fun h => by have := since h; omega⟩
  · rw [if_neg c1]
    by_cases c2 : v = 1 ∧ 0 < tier
    · rw [if_pos c2]
      exact .inr (.inl ⟨rfl, c2.1, c2.2, fun h => by have := since h; omega, by unfold DOk; omega, n0, by omega, by omega, by omega, by omega, by omega, fun h => by omega⟩)
    · rw [if_neg c2]
      by_cases c3 : v = 2 ∧ o = true ∧ tier < n
      · rw [if_pos c3]
        exact .inr (.inr ⟨rfl, c3.1, c3.2.1, c3.2.2, fun h => by have := since h; omega, by unfold DOk; omega, n0, by omega, by omega, by omega, by omega, by omega, fun h => by omega⟩)
      · rw [if_neg c3]
        exact .inl ⟨rfl, ok, n0, by omega, by omega, by omega, by omega, by omega, fun h => by have := since h; omega⟩

set_option maxRecDepth 100000 in
set_option maxHeartbeats 8000000 in
theorem ddwells_walk (ti : Int) (hti : (Lit.int .u8 ti).wf = true) (v : Value) (l : List Int) (d : Int) (w : World) (hv : KInts .u8 w v l) : Calls Try.prog 6 #[.int .u8 ti, v, .int .i64 d] w fun e w' => e = .returned (.bool true) ∧ Below w.heap.size w w' := by
  obtain ⟨a, c, rfl, g1, g2, hwf, hat⟩ := hv
  have HW := Lib.hid hwf
  have HA := Lib.hid hat
  clear hwf hat
  by_cases hl : 200 < l.length
  · go_enter Try.func6, Try.ntmps6
    go_wp2_with (go_at_call 31; refine (awake17 _).mono ?_; rintro e w1 ⟨rfl, hb⟩)
    go_ret
    exact ⟨rfl, hb⟩
  · have d1 : decide ((200 : Int) < (l.length : Int)) = false := by simp; omega
    have l1 : l.length ≤ 200 := by omega
    clear hl
    have e7 := bitsOf_eq ti 7 (by omega) (by omega) hti
    have r7 := bitsOf_rng ti 7 (by omega)
    obtain ⟨n, hn⟩ : ∃ n, n = bitsOf ti 7 := ⟨_, rfl⟩
    rw [← hn] at e7 r7
    obtain ⟨hn0, hn7⟩ := r7
    clear hn
    go_enter Try.func6, Try.ntmps6
    go_wp2_with fail
    clear e7
    refine (dimNew_any n hn0 hn7 _).mono ?_
    rintro e w1 ⟨rfl, hT, hb, hs⟩
    have HT := Lib.hid hT
    have HB := Lib.hid hb
    clear hT hb
    go_wp2_with fail
    have hz : Dv 0 n n 32 (-1) := ⟨⟨hn7, hn0, Int.le_refl _⟩, hn0, by omega, by omega, by omega, by omega, by omega, fun h => by omega⟩
    go_loopw [10, 11, 12] (fun la ti i wr => ∃ (k : Nat) (tier held last : Int), k ≤ l.length ∧ i = .int .i64 k ∧ la = .int .i64 last ∧ ti = .int .i64 tier ∧ Dv k n tier held last ∧ DimAt wr w.heap.size n tier held ∧ Below w.heap.size w wr) (fun _ _ i _ => l.length - (intOf i).toNat)
    case atStart => exact ⟨0, n, 32, -1, Nat.zero_le _, rfl, rfl, rfl, hz, HT.out, HB.out⟩
    case round =>
      obtain ⟨k, tier, held, last, hk, rfl, rfl, rfl, hD, hTr, hbr⟩ := hrel
      have HTr := Lib.hid hTr
      have HBr := Lib.hid hbr
      have HD := Lib.hid hD
      have q0 := hD.l0
      have q1 := hD.l1
      have q2 := hD.ok
      unfold DOk at q2
      obtain ⟨_, q3, q4⟩ := q2
      clear hTr hbr hD HT HB hz
      by_cases hlt : k < l.length
      · obtain ⟨b, off, rfl, hc⟩ : ∃ b off, a = some ⟨b, off, none⟩ ∧ wr.cell? ⟨b, off + k, none⟩ = some (.int .u8 (nth l k)) := by
          rcases HA.out with rfl | ⟨b, off, rfl, hc⟩
          · simp at hlt
          · exact ⟨b, off, rfl, cell_keep HBr.out (hc k hlt)⟩
        have e1 := bitsOf_eq (nth l k) 3 (by omega) (by omega) (HW.out k hlt)
        obtain ⟨v, hv3⟩ : ∃ v, v = bitsOf (nth l k) 3 := ⟨_, rfl⟩
        rw [← hv3] at e1
        clear hv3
        go_wp2_with (fail)
        have i1 : (0 : Int) ≤ (k : Int) := by omega
        have i2 : (k : Int) < (l.length : Int) := by omega
        go_quiet (fail)
        clear e1 hc
        generalize hop : (bits BinOp.and IntKind.u8 (nth l k) 4 != (0 : Int)) = op
        clear hop
        go_wp2_with (fail)
        refine (dstep_any _ _ _ _ _ _ _ _ (HTr.out.drewN _) HD.out.ok).mono ?_
        rintro e w2 ⟨rfl, hT2, hO2⟩
        have hbw := (below_drewN HBr.out nq).trans (hO2.below (Nat.le_refl _) (by simpa using HBr.out.size))
        have HB2 := Lib.hid hbw
        clear hbw hO2
        rcases dv_step HD.out (by omega) v d op with ⟨hs, hD2⟩ | ⟨hs, rfl, ht, hl, hD2⟩ | ⟨hs, rfl, rfl, ht, hl, hD2⟩
        all_goals
          rw [hs] at hT2 ⊢
          clear hs
          have HT2 := Lib.hid hT2
          have HD2 := Lib.hid hD2
          clear hT2 hD2 HTr HBr HD
          simp only
          go_wp2_with (first | (go_at_call 34; (with_reducible refine (dtier_any _ _ _ _ _ HT2.out).mono ?_); rintro e w' ⟨rfl, rfl⟩))
        all_goals first
          | exact ⟨⟨k + 1, _, _, _, by omega, by go_num, rfl, rfl, HD2.out, HT2.out, HB2.out⟩, by simp [intOf]; omega⟩
          | (exfalso
             rename_i _ _ _ _ _ z _
             rcases z with ((z | z) | z) | z
             · have hne : (tier - 1 != tier) = true := by simp; omega
               have hne2 : (tier + 1 != tier) = true := by simp; omega
               simp [hne, hne2] at z
             all_goals omega)
      · go_wp2_with ((go_at_call 31; refine (awake17 _).mono ?_; rintro e w2 ⟨rfl, hb2⟩))
        go_ret
        exact ⟨rfl, HBr.out.trans (hb2.mono HBr.out.size)⟩

theorem ddwells_done : Walk 6 Try.f6 := by
  intro W args hs hc
  rw [Try.params6] at hs hc
  obtain ⟨l⟩ := args
  match l, hs with
  | [v0, v1, v2], _ =>
    obtain ⟨ti, rfl, hti⟩ := came_int Try.underlying5 (hc 0 5 v0 rfl rfl)
    obtain ⟨l, hl⟩ := kints_of_sl (came_slice Try.underlying51 (ps := [IsI .u8]) (by kernel_rfl) (opens_int Try.underlying5) (hc 1 51 v1 rfl rfl))
    obtain ⟨d, rfl, _⟩ := came_int Try.underlying3 (hc 2 3 v2 rfl rfl)
    exact ddwells_walk ti hti v1 l d W hl
end Go.Proofs.Ytjifgeplgohpeaa
