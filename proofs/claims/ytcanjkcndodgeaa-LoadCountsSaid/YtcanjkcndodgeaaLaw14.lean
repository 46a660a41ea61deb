/-
  The statements of layer 14 (load): LoadMean, LoadCounts. No condition.
-/
import Derived.Test.YtcanjkcndodgeaaLoad
namespace Go.Proofs.Ytcanjkcndodgeaa
open Go.RowKit

set_option maxHeartbeats 1000000 in
theorem awake14 (w : World) : Calls Try.prog 62 #[] w fun e w' => e = .returned (.bool true) ∧ Below w.heap.size w w' := by
  have e1 : bMean 18 3 = 6 := by decide
  have e2 : judge 6 3 5 = 1 := by decide
  have e3 : judge 6 3 6 = 0 := by decide
  have e4 : judge 6 7 8 = 2 := by decide
  go_enter Try.func62, Try.ntmps62
  go_wp2_with fail
  refine (new_any _).mono ?_
  rintro e w1 ⟨rfl, hL, hb, hs⟩
  go_wp2_with fail
  refine (wait_any _ _ _ _ _ _ hL).mono ?_
  rintro e w2 ⟨rfl, hL2, hO2⟩
  go_wp2_with fail
  refine (wait_any _ _ _ _ _ _ hL2).mono ?_
  rintro e w3 ⟨rfl, hL3, hO3⟩
  go_wp2_with fail
  refine (wait_any _ _ _ _ _ _ hL3).mono ?_
  rintro e w4 ⟨rfl, hL4, hO4⟩
  have HL : Hid (LoadAt w4 w.heap.size 3 18 9) := hL4
  clear hL hL2 hL3 hL4
  go_wp2_with (first | (go_at_call 66; (with_reducible refine (lmean_any _ _ _ _ _ HL.out).mono ?_); rintro e w' ⟨rfl, rfl⟩) | (go_at_call 64; (with_reducible refine (verdict_any _ _ _ _ _ _ _ HL.out).mono ?_); rintro e w' ⟨rfl, rfl⟩) | (go_at_call 68; (with_reducible refine (many_any _ _ _ _ _ HL.out).mono ?_); rintro e w' ⟨rfl, rfl⟩))
  go_ret
  have hO := (hO2.trans hO3).trans hO4
  exact ⟨rfl, hb.trans (hO.below (Nat.le_refl _) (by omega))⟩

theorem ret_slot {k : IntKind} {a b : Int} (h : a = b) : Value.int k a = .int k b := by rw [h]
/-! ### LoadMean -/
/-- What is read of a uint32: its last 20 bits. -/
def low20 (x : Int) : Int := ((x.toNat &&& 1048575 : Nat) : Int)
theorem low20_rng (x : Int) : 0 ≤ low20 x ∧ low20 x ≤ 1048575 := by
  have h : x.toNat &&& 1048575 ≤ 1048575 := Nat.and_le_right
  unfold low20
  omega
theorem low20_eq (x : Int) (h : (Lit.int .u32 x).wf = true) : IntKind.i64.wrap (bits .and .u32 x 1048575) = low20 x := by
  have hb := bounds_u32 h
  rw [u32_and x 1048575 hb.1 (by omega) (by omega) (by omega)]
  have e : Int.toNat 1048575 = 1048575 := rfl
  rw [e]
  have := low20_rng x
  exact IntWalk.i64_in _ (by unfold low20 at this; omega)

/-- What k waits come to. -/
structure Waited (k : Nat) (s x l : Int) : Prop where
  l0 : 0 ≤ l
  l1 : l ≤ 1048576
  x0 : 0 ≤ x
  x1 : x ≤ 1048576
  s0 : 0 ≤ s
  lo : (k : Int) * l ≤ s
  hi : s ≤ (k : Int) * x

theorem waited_zero : Waited 0 0 0 1048576 := ⟨by omega, by omega, by omega, by omega, by omega, by omega, by omega⟩
theorem waited_step {k : Nat} {s x l n : Int} (h : Waited k s x l) (n0 : 0 ≤ n) (n1 : n ≤ 1048575) : Waited (k + 1) (s + n) (max x n) (min l n) := by
  obtain ⟨l0, l1, x0, x1, s0, lo, hi⟩ := h
  have e1 : ((k + 1 : Nat) : Int) * min l n = (k : Int) * min l n + min l n := by rw [Int.natCast_add, Int.add_mul]; simp
  have e2 : ((k + 1 : Nat) : Int) * max x n = (k : Int) * max x n + max x n := by rw [Int.natCast_add, Int.add_mul]; simp
  have h1 : (k : Int) * min l n ≤ (k : Int) * l := Int.mul_le_mul_of_nonneg_left (by omega) (by omega)
  have h2 : (k : Int) * x ≤ (k : Int) * max x n := Int.mul_le_mul_of_nonneg_left (by omega) (by omega)
  refine ⟨?_, ?_, ?_, ?_, ?_, ?_, ?_⟩ <;> omega
theorem waited_mean {k : Nat} {s x l : Int} (h : Waited k s x l) (hk : 1 ≤ k) (hk2 : k ≤ 100) : 0 ≤ bMean s k ∧ l ≤ bMean s k ∧ bMean s k ≤ x ∧ 0 ≤ bMean s k * k ∧ bMean s k * k ≤ s ∧ s < (bMean s k + 1) * k ∧ (bMean s k + 1) * k ≤ 1000000000 ∧ s ≤ 104857600 := by
  obtain ⟨l0, l1, x0, x1, s0, lo, hi⟩ := h
  have hs : s ≤ 104857600 := by
    have : (k : Int) * x ≤ 100 * 1048576 := Int.mul_le_mul (by omega) x1 x0 (by omega)
    omega
  have e : bMean s k = s / k := by
    unfold bMean
    rw [cnt_id s s0 (by omega), cnt_id (k : Int) (by omega) (by omega), if_neg (by omega)]
  rw [e]
  have hk' : (0 : Int) < k := by omega
  have q0 : 0 ≤ s / (k : Int) := Int.ediv_nonneg s0 (by omega)
  have q1 : s / (k : Int) * k ≤ s := Int.ediv_mul_le s (by omega)
  have q2 : s < (s / (k : Int) + 1) * k := Int.lt_ediv_add_one_mul_self s hk'
  have q3 : l ≤ s / (k : Int) := Int.le_ediv_of_mul_le hk' (by rw [Int.mul_comm]; exact lo)
  have q4 : s / (k : Int) ≤ x := by
    have : s / (k : Int) < x + 1 := Int.ediv_lt_of_lt_mul hk' (by rw [Int.add_mul, Int.mul_comm x]; omega)
    omega
  have q5 : 0 ≤ s / (k : Int) * k := Int.mul_nonneg q0 (by omega)
  have q6 : (s / (k : Int) + 1) * k ≤ 1048577 * 100 := Int.mul_le_mul (by omega) (by omega) (by omega) (by omega)
  exact ⟨q0, q3, q4, q5, q1, q2, by omega, hs⟩

theorem waited_nums {k : Nat} {s x l n : Int} (h : Waited k s x l) (hk : k ≤ 100) (n0 : 0 ≤ n) (n1 : n ≤ 1048575) : bAdd k 1 = ((k + 1 : Nat) : Int) ∧ bAdd s n = s + n ∧ cnt n = n := by
  obtain ⟨l0, l1, x0, x1, s0, lo, hi⟩ := h
  have hs : s ≤ 104857600 := by
    have : (k : Int) * x ≤ 100 * 1048576 := Int.mul_le_mul (by omega) x1 x0 (by omega)
    omega
  refine ⟨?_, ?_, cnt_id n n0 (by omega)⟩
  · unfold bAdd
    rw [cnt_id (k : Int) (by omega) (by omega), cnt_id 1 (by omega) (by omega), cnt_id _ (by omega) (by omega)]
    omega
  · unfold bAdd
    rw [cnt_id s s0 (by omega), cnt_id n n0 (by omega), cnt_id _ (by omega) (by omega)]

set_option maxHeartbeats 2000000 in
theorem mean_walk (v : Value) (l : List Int) (h : Int) (w : World) (h0 : 0 ≤ h) (h1 : h ≤ 65535) (hv : KInts .u32 w v l) : Calls Try.prog 13 #[v, .int .u16 h] w fun e w' => e = .returned (.bool true) ∧ Below w.heap.size w w' := by
  obtain ⟨a, c, rfl, g1, g2, hwf, hat⟩ := hv
  have HW := Lib.hid hwf
  have HA := Lib.hid hat
  clear hwf hat
  by_cases hl : 100 < l.length
  · go_enter Try.func13, Try.ntmps13
    go_wp2_with (go_at_call 62; refine (awake14 _).mono ?_; rintro e w1 ⟨rfl, hb⟩)
    go_ret
    exact ⟨rfl, hb⟩
  · have wh : IntKind.i64.wrap h = h := IntWalk.i64_in _ (by omega)
    have j0 : judge (bMean 0 0) 0 h = 0 := by
      show judge 0 0 h = 0
      unfold judge
      rw [if_neg (by omega), if_neg (by omega)]
    go_enter Try.func13, Try.ntmps13
    go_wp2_with fail
    refine (new_any _).mono ?_
    rintro e w1 ⟨rfl, hL, hb, hs⟩
    have HB := Lib.hid hb
    have HL := Lib.hid hL
    clear hb hL
    go_wp2_with ((go_at_call 64; (with_reducible refine (verdict_any _ _ _ _ _ _ _ HL.out).mono ?_); rintro e w' ⟨rfl, rfl⟩))
    go_loopw [6, 7] (fun le i wr => ∃ (k : Nat) (s x m : Int), k ≤ l.length ∧ i = .int .i64 k ∧ le = .int .i64 m ∧ Waited k s x m ∧ LoadAt wr w.heap.size k s x ∧ Below w.heap.size w wr) (fun _ i _ => l.length - (intOf i).toNat)
    case atStart => exact ⟨0, 0, 0, _, Nat.zero_le _, rfl, rfl, waited_zero, HL.out, HB.out⟩
    case round =>
      obtain ⟨k, s, x, m, hk, rfl, rfl, hW, hLr, hbr⟩ := hrel
      have HLr := Lib.hid hLr
      have HBr := Lib.hid hbr
      have HWr := Lib.hid hW
      clear hW hLr hbr
      by_cases hlt : k < l.length
      · obtain ⟨b, off, rfl, hc⟩ : ∃ b off, a = some ⟨b, off, none⟩ ∧ wr.cell? ⟨b, off + k, none⟩ = some (.int .u32 (nth l k)) := by
          rcases HA.out with rfl | ⟨b, off, rfl, hc⟩
          · simp at hlt
          · exact ⟨b, off, rfl, cell_keep HBr.out (hc k hlt)⟩
        have e1 := low20_eq (nth l k) (HW.out k hlt)
        obtain ⟨n0, n1⟩ := low20_rng (nth l k)
        go_wp2_with fail
        refine (wait_any _ _ _ _ _ _ HLr.out).mono ?_
        rintro e w2 ⟨rfl, hL2, hO2⟩
        have hS := waited_step HWr.out n0 n1
        obtain ⟨m0, m1, m2, m3, m4, m5, m6, m7⟩ := waited_mean hS (by omega) (by omega)
        have mx := hS.x1
        obtain ⟨z1, z2, z3⟩ := waited_nums HWr.out (by omega) n0 n1
        rw [z1, z2, z3] at hL2
        have HS := Lib.hid hS
        clear z1 z2 z3 e1 hS
        obtain ⟨n, hn⟩ : ∃ n, n = low20 (nth l k) := ⟨_, rfl⟩
        rw [← hn] at hL2 HS mx m0 m1 m2 m3 m4 m5 m6 m7 n0 n1 ⊢
        clear hn
        obtain ⟨K, hK⟩ : ∃ K : Int, K = ((k + 1 : Nat) : Int) := ⟨_, rfl⟩
        obtain ⟨S, hSS⟩ : ∃ S : Int, S = s + n := ⟨_, rfl⟩
        rw [← hK, ← hSS] at hL2 m0 m1 m2 m3 m4 m5 m6
        rw [← hSS] at m7
        have mb : bMean S K ≤ 1048576 := by omega
        have HK := Lib.hid hK
        have HSS := Lib.hid hSS
        have HL2 := Lib.hid hL2
        have HO2 := Lib.hid hO2
        clear hK hSS hL2 hO2
        go_wp2_with (first | (go_at_call 66; (with_reducible refine (lmean_any _ _ _ _ _ HL2.out).mono ?_); rintro e w' ⟨rfl, rfl⟩) | (go_at_call 67; (with_reducible refine (worst_any _ _ _ _ _ HL2.out).mono ?_); rintro e w' ⟨rfl, rfl⟩) | (go_at_call 68; (with_reducible refine (many_any _ _ _ _ _ HL2.out).mono ?_); rintro e w' ⟨rfl, rfl⟩) | (go_at_call 69; (with_reducible refine (lsum_any _ _ _ _ _ HL2.out).mono ?_); rintro e w' ⟨rfl, rfl⟩))
        all_goals
          go_roundw
          case rel => exact ⟨k + 1, s + n, max x n, min m n, by omega, by go_num, ret_slot (by omega), HS.out, by rw [← HK.out, ← HSS.out]; exact HL2.out, HBr.out.trans (HO2.out.below (Nat.le_refl _) HBr.out.size)⟩
          case measure => simp [intOf]; omega
      · obtain rfl : k = l.length := by omega
        go_wp2_with (first | (go_at_call 68; (with_reducible refine (many_any _ _ _ _ _ HLr.out).mono ?_); rintro e w' ⟨rfl, rfl⟩) | (go_at_call 62; refine (awake14 _).mono ?_; rintro e w2 ⟨rfl, hb2⟩))
        go_ret
        exact ⟨rfl, HBr.out.trans (hb2.mono HBr.out.size)⟩


theorem mean_done : Walk 13 Try.f13 := by
  intro W args hs hc
  rw [Try.params13] at hs hc
  obtain ⟨l⟩ := args
  match l, hs with
  | [v0, v1], _ =>
    obtain ⟨l, hl⟩ := kints_of_sl (came_slice Try.underlying63 (ps := [IsI .u32]) (by kernel_rfl) (opens_int Try.underlying66) (hc 0 63 v0 rfl rfl))
    obtain ⟨b, rfl, wb⟩ := came_int Try.underlying59 (hc 1 59 v1 rfl rfl)
    have bb := bounds_u16 wb
    exact mean_walk v0 l b W bb.1 bb.2 hl
end Go.Proofs.Ytcanjkcndodgeaa
