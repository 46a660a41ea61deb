/-
  The statement LoadCounts of layer 14 (load). No condition.
-/
import Derived.Test.YtcanjkcndodgeaaLaw14
namespace Go.Proofs.Ytcanjkcndodgeaa
open Go.RowKit

/-! ### LoadCounts -/
theorem bAdd_one (k : Nat) (h : k ≤ 1000000) : bAdd (k : Int) 1 = ((k + 1 : Nat) : Int) := by
  unfold bAdd
  rw [cnt_id (k : Int) (by omega) (by omega), cnt_id 1 (by omega) (by omega), cnt_id _ (by omega) (by omega)]
  omega
/-- The load behind k waits of the list. -/
def LoadOf (w : World) (b : Nat) (l : List Int) (k : Nat) : Prop := LoadAt w b (k : Int) (bSum (l.take k)) (lWorst (l.take k))
theorem loadOf_step {w : World} {b : Nat} {l : List Int} {k : Nat} (h : LoadAt w b (bAdd (k : Int) 1) (bAdd (bSum (l.take k)) (nth l k)) (max (lWorst (l.take k)) (cnt (nth l k)))) (hk : k < l.length) (h2 : k ≤ 1000000) : LoadOf w b l (k + 1) := by
  unfold LoadOf
  rw [bSum_take l k hk, lWorst_take l k hk, ← bAdd_one k h2]
  exact h
theorem ints_take {w : World} {a : Option Addr} {c : Nat} {l : List Int} (k : Nat) (hk : k ≤ l.length) (hc : l.length ≤ c) (hm : c ≤ 9223372036854775807) (h : IntsAt w a l) : Ints w (.slice a (l.take k).length c) (l.take k) := by
  refine ⟨a, c, rfl, by simp; omega, hm, ?_⟩
  rcases h with rfl | ⟨b, off, rfl, hcell⟩
  · exact .inl (by simp)
  · refine .inr ⟨b, off, rfl, fun i hi => ?_⟩
    simp at hi
    rw [hcell i (by omega), nth_take l k i (by omega)]

/-- What stands at the head of a round: two windows behind k waits, the two means, nothing old has changed. -/
structure St (w wr : World) (A B : Nat) (x y : Int) (l : List Int) (k : Nat) : Prop where
  a : LoadOf wr A l k
  b : LoadOf wr B l k
  q0 : wr.cell? ⟨w.heap.size, 0, none⟩ = some (.int .i64 x)
  q1 : wr.cell? ⟨w.heap.size, 1, none⟩ = some (.int .i64 y)
  below : Below w.heap.size w wr

theorem st_step {w wr w2 w3 : World} {A B : Nat} {x y : Int} {l : List Int} {k : Nat} (h : St w wr A B x y l k) (hk : k < l.length) (hk2 : k ≤ 1000) (hA : w.heap.size < A) (hAB : A < B)
    (hL2 : LoadAt w2 A (bAdd (k : Int) 1) (bAdd (bSum (l.take k)) (nth l k)) (max (lWorst (l.take k)) (cnt (nth l k)))) (hO2 : Only A wr w2)
    (hL3 : LoadAt w3 B (bAdd (k : Int) 1) (bAdd (bSum (l.take k)) (nth l k)) (max (lWorst (l.take k)) (cnt (nth l k)))) (hO3 : Only B w2 w3) : St w w3 A B x y l (k + 1) := by
  have s1 := h.below.size
  have s2 := hO2.size
  have p0 := cell_lt h.q0
  refine ⟨loadOf_step (IsObj.only hL2 hO3 (by omega)) hk (by omega), loadOf_step hL3 hk (by omega), hO3.keep (hO2.keep h.q0 (by simp; omega)) (by simp; omega), hO3.keep (hO2.keep h.q1 (by simp; omega)) (by simp; omega), ?_⟩
  exact (h.below.trans (hO2.below (by omega) s1)).trans (hO3.below (by omega) (by omega))

/-- The second loop's head: one window behind k waits. -/
structure St2 (w wr : World) (A : Nat) (x y : Int) (l : List Int) (k : Nat) : Prop where
  a : LoadOf wr A l k
  q0 : wr.cell? ⟨w.heap.size, 0, none⟩ = some (.int .i64 x)
  q1 : wr.cell? ⟨w.heap.size, 1, none⟩ = some (.int .i64 y)
  below : Below w.heap.size w wr
theorem st2_step {w wr w2 : World} {A : Nat} {x y : Int} {l : List Int} {k : Nat} (h : St2 w wr A x y l k) (hk : k < l.length) (hk2 : k ≤ 1000) (hA : w.heap.size < A)
    (hL2 : LoadAt w2 A (bAdd (k : Int) 1) (bAdd (bSum (l.take k)) (nth l k)) (max (lWorst (l.take k)) (cnt (nth l k)))) (hO2 : Only A wr w2) : St2 w w2 A x y l (k + 1) := by
  have s1 := h.below.size
  exact ⟨loadOf_step hL2 hk (by omega), hO2.keep h.q0 (by simp; omega), hO2.keep h.q1 (by simp; omega), h.below.trans (hO2.below (by omega) s1)⟩

set_option maxRecDepth 100000 in
set_option maxHeartbeats 4000000 in
theorem counts_walk (v1 v2 : Value) (l m : List Int) (x y : Int) (w : World) (hv1 : Ints w v1 l) (hv2 : Ints w v2 m) : Calls Try.prog 14 #[v1, v2, .agg #[.int .i64 x, .int .i64 y]] w fun e w' => e = .returned (.bool true) ∧ Below w.heap.size w w' := by
  obtain ⟨a1, c1, rfl, g1, g2, hA1⟩ := hv1
  obtain ⟨a2, c2, rfl, r1, r2, hA2⟩ := hv2
  have HA1 := Lib.hid hA1
  have HA2 := Lib.hid hA2
  clear hA1 hA2
  by_cases hl : 100 < l.length
  · go_enter Try.func14, Try.ntmps14
    go_wp2_with (go_at_call 62; (with_reducible refine (awake14 _).mono ?_); rintro e w' ⟨rfl, hx⟩; obtain ⟨ux, rfl⟩ := ext_of hx; clear hx)
    go_ret
    exact ⟨rfl, below_ext _ ((Below.refl _ _).alloc (Nat.le_refl _) _) (by simp)⟩
  · by_cases hm : 100 < m.length
    · go_enter Try.func14, Try.ntmps14
      go_wp2_with (go_at_call 62; (with_reducible refine (awake14 _).mono ?_); rintro e w' ⟨rfl, hx⟩; obtain ⟨ux, rfl⟩ := ext_of hx; clear hx)
      go_ret
      exact ⟨rfl, below_ext _ ((Below.refl _ _).alloc (Nat.le_refl _) _) (by simp)⟩
    · have d1 : decide ((100 : Int) < (l.length : Int)) = false := by simp; omega
      have d2 : decide ((100 : Int) < (m.length : Int)) = false := by simp; omega
      have l1 : l.length ≤ 100 := by omega
      have l2 : m.length ≤ 100 := by omega
      clear hl hm
      go_enter Try.func14, Try.ntmps14
      go_wp2_with fail
      refine (new_any _).mono ?_
      rintro e w1 ⟨rfl, hL, hb, hs⟩
      simp at hL hs
      go_wp2_with fail
      have HS : Hid (St w (w1.alloc (.cells #[.int .i64 0, .int .i64 0, .int .i64 0] 72)) (w.heap.size + 1) w1.heap.size x y l 0) := by
        have q0 : w1.cell? ⟨w.heap.size, 0, none⟩ = some (.int .i64 x) := cell_keep hb (cell_new w _ _ 0)
        have q1 : w1.cell? ⟨w.heap.size, 1, none⟩ = some (.int .i64 y) := cell_keep hb (cell_new w _ _ 1)
        have hbw : Below w.heap.size w w1 := ((Below.refl _ _).alloc (Nat.le_refl _) _).trans (hb.mono (by simp))
        have hbn : Below w1.heap.size w1 (w1.alloc (.cells #[.int .i64 0, .int .i64 0, .int .i64 0] 72)) := (Below.refl _ _).alloc (Nat.le_refl _) _
        exact ⟨IsObj.alloc hL _, IsObj.new w1 _ _, cell_keep hbn q0, cell_keep hbn q1, hbw.alloc hbw.size _⟩
      obtain ⟨B, hB⟩ : ∃ B, B = w1.heap.size := ⟨_, rfl⟩
      rw [← hB] at HS hs ⊢
      obtain ⟨W1, hW1⟩ : ∃ W1, W1 = w1.alloc (.cells #[.int .i64 0, .int .i64 0, .int .i64 0] 72) := ⟨_, rfl⟩
      rw [← hW1] at HS ⊢
      clear hL hb hB hW1
      go_loopw [9] (fun i wr => ∃ k : Nat, k ≤ l.length ∧ i = .int .i64 k ∧ St w wr (w.heap.size + 1) B x y l k) (fun i _ => l.length - (intOf i).toNat)
      case atStart => exact ⟨0, Nat.zero_le _, rfl, HS.out⟩
      case round =>
        obtain ⟨k, hk, rfl, hSt⟩ := hrel
        have HSt := Lib.hid hSt
        clear hSt HS
        by_cases hlt : k < l.length
        · obtain ⟨b, off, rfl, hc⟩ : ∃ b off, a1 = some ⟨b, off, none⟩ ∧ w.cell? ⟨b, off + k, none⟩ = some (.int .i64 (nth l k)) := by
            rcases HA1.out with rfl | ⟨b, off, rfl, hc⟩
            · simp at hlt
            · exact ⟨b, off, rfl, hc k hlt⟩
          have hc1 := cell_keep HSt.out.below hc
          have hlb := cell_lt hc
          simp at hlb
          go_wp2_with fail
          refine (wait_any _ _ _ _ _ _ HSt.out.a).mono ?_
          rintro e w2 ⟨rfl, hL2, hO2⟩
          have hc2 : w2.cell? ⟨b, off + k, none⟩ = some (.int .i64 (nth l k)) := hO2.keep hc1 (by simp; omega)
          have hB2 : LoadOf w2 B l k := IsObj.only HSt.out.b hO2 (by omega)
          have HL2 := Lib.hid hL2
          have HO2 := Lib.hid hO2
          have HB2 := Lib.hid hB2
          clear hL2 hO2 hB2 hc1
          go_wp2_with fail
          refine (wait_any _ _ _ _ _ _ HB2.out).mono ?_
          rintro e w3 ⟨rfl, hL3, hO3⟩
          have HS3 := Lib.hid (st_step HSt.out hlt (by omega) (Nat.lt_succ_self _) hs HL2.out HO2.out hL3 hO3)
          have q0 := HS3.out.q0
          have q1 := HS3.out.q1
          have hla : LoadAt w3 (w.heap.size + 1) ((k : Int) + 1) (bSum (l.take (k + 1))) (lWorst (l.take (k + 1))) := HS3.out.a
          have hlb3 : LoadAt w3 B ((k : Int) + 1) (bSum (l.take (k + 1))) (lWorst (l.take (k + 1))) := HS3.out.b
          have hI : Ints w3 (.slice (some ⟨b, off, none⟩) (l.take (k + 1)).length c1) (l.take (k + 1)) := (ints_take (k + 1) (by omega) g1 g2 HA1.out).same HS3.out.below
          have hlen : (l.take (k + 1)).length = k + 1 := by simp; omega
          obtain ⟨L, hL⟩ : ∃ L, L = l.take (k + 1) := ⟨_, rfl⟩
          rw [← hL] at hla hlb3 hI hlen
          have HLA := Lib.hid hla
          have HLB := Lib.hid hlb3
          have HI := Lib.hid hI
          have HLN := Lib.hid hlen
          clear hla hlb3 hI hlen hL hL3 hO3 HL2 HO2 HB2
          go_wp2_with fail
          go_quiet ((first | (go_at_call 68; first | (with_reducible exact quiet_left (many_any _ _ _ _ _ (HLA.out.drewN _))) | (with_reducible exact quiet_add_left (many_any _ _ _ _ _ (HLA.out.drewN _)))) | (go_at_call 69; first | (with_reducible exact quiet_left (lsum_any _ _ _ _ _ (HLA.out.drewN _))) | (with_reducible exact quiet_add_left (lsum_any _ _ _ _ _ (HLA.out.drewN _)))) | (go_at_call 69; first | (with_reducible exact quiet_left (lsum_any _ _ _ _ _ (HLB.out.drewN _))) | (with_reducible exact quiet_add_left (lsum_any _ _ _ _ _ (HLB.out.drewN _)))) | (go_at_call 70; first | (with_reducible exact quiet_left (rsum14_at _ _ L _ HLN.out (HI.out.drewN _))) | (with_reducible exact quiet_add_left (rsum14_at _ _ L _ HLN.out (HI.out.drewN _)))) | (go_at_call 67; first | (with_reducible exact quiet_left (worst_any _ _ _ _ _ (HLA.out.drewN _))) | (with_reducible exact quiet_add_left (worst_any _ _ _ _ _ (HLA.out.drewN _)))) | (go_at_call 71; first | (with_reducible exact quiet_left (rworst_at _ _ L _ HLN.out (HI.out.drewN _))) | (with_reducible exact quiet_add_left (rworst_at _ _ L _ HLN.out (HI.out.drewN _)))) | (go_at_call 66; first | (with_reducible exact quiet_left (lmean_any _ _ _ _ _ (HLA.out.drewN _))) | (with_reducible exact quiet_add_left (lmean_any _ _ _ _ _ (HLA.out.drewN _)))) | (go_at_call 66; first | (with_reducible exact quiet_left (lmean_any _ _ _ _ _ (HLB.out.drewN _))) | (with_reducible exact quiet_add_left (lmean_any _ _ _ _ _ (HLB.out.drewN _)))) | (go_at_call 72; first | (with_reducible exact quiet_left (rmean14_at ((k : Int) + 1) _ _ L _ HLN.out (by omega) (HI.out.drewN _))) | (with_reducible exact quiet_add_left (rmean14_at ((k : Int) + 1) _ _ L _ HLN.out (by omega) (HI.out.drewN _)))) | (go_at_call 64; first | (with_reducible exact quiet_left (verdict_any _ _ _ _ _ _ _ (HLA.out.drewN _))) | (with_reducible exact quiet_add_left (verdict_any _ _ _ _ _ _ _ (HLA.out.drewN _)))) | (go_at_call 73; first | (with_reducible exact quiet_left (rjudge_any _ _ _ _)) | (with_reducible exact quiet_add_left (rjudge_any _ _ _ _)))))
          go_wp2
          go_roundw
          case rel =>
            have h := HS3.out
            exact ⟨k + 1, by omega, by go_num, h.a.drewN _, h.b.drewN _, h.q0, h.q1, below_drewN h.below _⟩
          case measure => simp [intOf]; omega
        · go_wp2_with fail
          refine (clear_any _ _ _ _ _ HSt.out.a).mono ?_
          rintro e w4 ⟨rfl, hL4, hO4⟩
          have HS4 : Hid (St2 w w4 (w.heap.size + 1) x y m 0) := by
            have s1 := HSt.out.below.size
            exact ⟨hL4, hO4.keep HSt.out.q0 (by simp), hO4.keep HSt.out.q1 (by simp), HSt.out.below.trans (hO4.below (by omega) s1)⟩
          clear hL4 hO4 HSt
          go_wp2_with fail
          obtain ⟨wo, rfl⟩ : ∃ wo : World, wo = wr := ⟨_, rfl⟩
          go_loopw [11] (fun i wr => ∃ k : Nat, k ≤ m.length ∧ i = .int .i64 k ∧ St2 w wr (w.heap.size + 1) x y m k) (fun i _ => m.length - (intOf i).toNat)
          case atStart => exact ⟨0, Nat.zero_le _, rfl, HS4.out⟩
          case round =>
            obtain ⟨j, hj, rfl, hSt⟩ := hrel
            have HSj := Lib.hid hSt
            clear hSt HS4
            by_cases hlt2 : j < m.length
            · obtain ⟨b, off, rfl, hc⟩ : ∃ b off, a2 = some ⟨b, off, none⟩ ∧ w.cell? ⟨b, off + j, none⟩ = some (.int .i64 (nth m j)) := by
                rcases HA2.out with rfl | ⟨b, off, rfl, hc⟩
                · simp at hlt2
                · exact ⟨b, off, rfl, hc j hlt2⟩
              have hc1 := cell_keep HSj.out.below hc
              go_wp2_with fail
              refine (wait_any _ _ _ _ _ _ HSj.out.a).mono ?_
              rintro e w5 ⟨rfl, hL5, hO5⟩
              have HS5 := Lib.hid (st2_step HSj.out hlt2 (by omega) (Nat.lt_succ_self _) hL5 hO5)
              clear hL5 hO5
              go_wp2_with fail
              go_roundw
              case rel => exact ⟨j + 1, by omega, by go_num, HS5.out⟩
              case measure => simp [intOf]; omega
            · obtain rfl : j = m.length := by omega
              have q0 := HSj.out.q0
              have q1 := HSj.out.q1
              have hla : LoadAt wr (w.heap.size + 1) (m.length : Int) (bSum m) (lWorst m) := by
                have := HSj.out.a
                unfold LoadOf at this
                rwa [List.take_of_length_le (Nat.le_refl _)] at this
              have hI : Ints wr (.slice a2 m.length c2) m := Ints.same ⟨a2, c2, rfl, r1, r2, HA2.out⟩ HSj.out.below
              have HLA := Lib.hid hla
              have HI := Lib.hid hI
              have HB := Lib.hid HSj.out.below
              have hlt0 := cell_lt q0
              simp at hlt0
              clear hla hI HSj
              go_wp2_with fail
              refine (wait_nil _ _).mono ?_
              rintro e w5 ⟨rfl, rfl⟩
              go_wp2_with fail
              refine (clear_nil _).mono ?_
              rintro e w5 ⟨rfl, rfl⟩
              go_wp2_with fail
              simp only [List.append_eq, List.cons_append, List.nil_append]
              have d3 : (0 : Int) + 0 + 0 + 0 = 0 := rfl
              ((first | (with_reducible refine region_ext2 (by kernel_rfl) (by kernel_rfl) ?_) | (refine region_ext (by kernel_rfl) (by kernel_rfl) ?_)); (repeat (quiet_step ((first | (go_at_call 68; with_reducible exact ext_same (many_any _ _ _ _ _ (HLA.out.ext _))) | (go_at_call 69; with_reducible exact ext_same (lsum_any _ _ _ _ _ (HLA.out.ext _))) | (go_at_call 70; with_reducible exact ext_same (rsum14_any _ m _ (HI.out.ext _))) | (go_at_call 67; with_reducible exact ext_same (worst_any _ _ _ _ _ (HLA.out.ext _))) | (go_at_call 71; with_reducible exact ext_same (rworst_any _ m _ (HI.out.ext _))) | (go_at_call 72; with_reducible exact ext_same (rmean14_any _ m _ (HI.out.ext _))) | (go_at_call 64; with_reducible exact ext_same (verdict_any _ _ _ _ _ _ _ (HLA.out.ext _))) | (go_at_call 73; with_reducible exact ext_same (rjudge_any _ _ _ _)) | (go_at_call 68; with_reducible exact ext_same (many_nil _)) | (go_at_call 69; with_reducible exact ext_same (lsum_nil _)) | (go_at_call 67; with_reducible exact ext_same (worst_nil _)) | (go_at_call 66; with_reducible exact ext_same (lmean_nil _)) | (go_at_call 64; with_reducible exact ext_same (verdict_nil _ _ _)) | (go_at_call 62; with_reducible exact ext_below (awake14 _)))))); refine wpQuiet_nil ?_; rintro _ ⟨uq, rfl⟩)
              go_wp2
              go_ret
              exact ⟨rfl, below_ext _ HB.out (by omega)⟩

theorem counts_done : Walk 14 Try.f14 := by
  intro W args hs hc
  rw [Try.params14] at hs hc
  obtain ⟨l⟩ := args
  match l, hs with
  | [v0, v1, v2], _ =>
    obtain ⟨l, hl⟩ := ints_of_sl (came_slice Try.underlying27 (ps := [IsI .i64]) (by kernel_rfl) (opens_int Try.underlying3) (hc 0 27 v0 rfl rfl))
    obtain ⟨m, hm⟩ := ints_of_sl (came_slice Try.underlying27 (ps := [IsI .i64]) (by kernel_rfl) (opens_int Try.underlying3) (hc 1 27 v1 rfl rfl))
    obtain ⟨l0, rfl, f0⟩ := came_array Try.underlying31 (opens_array (s := [IsI .i64]) Try.underlying31 (by kernel_rfl) (by kernel_rfl) (opens_int Try.underlying3)) (hc 2 31 v2 rfl rfl)
    obtain ⟨_, _, rfl, ⟨x, rfl, _⟩, f0a⟩ := fits_cons f0
    obtain ⟨_, _, rfl, ⟨y, rfl, _⟩, f0b⟩ := fits_cons f0a
    obtain rfl := fits_nil f0b
    exact counts_walk v0 v1 l m x y W hl hm
end Go.Proofs.Ytcanjkcndodgeaa
