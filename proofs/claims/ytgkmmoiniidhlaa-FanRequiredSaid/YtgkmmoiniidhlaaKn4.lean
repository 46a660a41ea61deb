/-
  Rows of what is known: Learn, All, Find and Cuts, told of a row's value.
-/
import Derived.Test.YtgkmmoiniidhlaaKn3
namespace Go.Proofs.Ytgkmmoiniidhlaa
open Go.RowKit
set_option linter.unusedVariables false

set_option maxRecDepth 100000 in
set_option maxHeartbeats 1000000 in
theorem rlearn_any (B : Nat) (v : Value) (f : Ents) (to th ep now : Int) (w : World) (hv : KnB B w v (knL f)) (hBw : B ≤ w.heap.size) :
    Calls Try.prog 60 #[v, .int .i64 to, .int .i64 th, .int .i64 ep, .int .i64 now] w fun e w' => ∃ v', e = .returned (.tuple #[v', .bool (lrnOk f to ep)]) ∧ KnB B w' v' (knL (lrn f to th ep now)) ∧ Below w.heap.size w w' := by
  have HK := Lib.hid hv
  obtain ⟨a, c, rfl, l1, l2, hA, _⟩ := hv
  cases hok : lrnOk f to ep with
  | true =>
    have h := hok
    simp only [lrnOk, Bool.and_eq_true, decide_eq_true_eq] at h
    obtain ⟨i, rfl⟩ := Int.eq_ofNat_of_zero_le h.1.1
    refine (rlearn_ok a c f i th ep now w (by omega) hA hok).mono ?_
    rintro e w' ⟨v', rfl, hK, hb⟩
    exact ⟨v', rfl, hK.mono hBw, hb⟩
  | false =>
    have hl : lrn f to th ep now = f := by unfold lrn; rw [if_neg (by rw [hok]; decide)]
    rw [hl]
    have hlen8 : (knL f).length ≤ 8 := knU_len f 8
    by_cases hr : 0 ≤ to ∧ to < 8
    · obtain ⟨i, rfl⟩ := Int.eq_ofNat_of_zero_le hr.1
      have hi8 : i < 8 := by omega
      cases hf : f i with
      | none => simp [lrnOk, hf] at hok; omega
      | some e0 =>
        have he : ep < e0.ep := by
          simp only [lrnOk, Int.toNat_natCast, hf, Bool.and_eq_false_iff, decide_eq_false_iff_not] at hok
          rcases hok with h | h <;> omega
        obtain ⟨k, h1, h2, h3⟩ := find_some hi8 hf
        have HFd := Lib.hid (fun w h => rfind_any a c (knL f) (i : Int) w (Nat.le_trans hlen8 (by decide)) h)
        rw [h1] at HFd
        have HT := Lib.hid (fun w => rtick_any now w)
        have HAw := Lib.hid hA
        rcases hA with h | ⟨b, off, rfl, hc⟩
        · have h' := congrArg List.length h
          simp only [List.length_nil] at h'
          have h4 : (knU f 8).length = 0 := h'
          omega
        obtain ⟨c0, c1, c2, c3⟩ := kn_cells hc k h2
        rw [h3] at c2
        have c2' : w.cell? ⟨b, off + k * 4 + 2, none⟩ = some (.int .i64 e0.ep) := c2
        have cl := cell_lt c2'
        simp only at cl
        have j0 : ¬ (i : Int) < 0 := by omega
        have j1 : ¬ (7 : Int) < (i : Int) := by omega
        have n1 : (0 : Int) ≤ (k : Int) := by omega
        have n2 : (k : Int) < ((knL f).length : Int) := Int.ofNat_lt.2 h2
        clear hc h1 h2 h3 hf hok hl c0 c1 c2 c3
        go_enter Try.func60, Try.ntmps60
        go_wp2_with (first | (go_at_call 98; (with_reducible refine (HT.out _).mono ?_); rintro e w' ⟨rfl, rfl⟩) | (go_at_call 99; (with_reducible refine (HFd.out _ (HAw.out.same knCells_len ((Below.refl _ _).alloc (Nat.le_refl _) _))).mono ?_); rintro e w' ⟨rfl, rfl⟩))
        go_returns
        exact ⟨_, rfl, HK.out.same ((Below.refl _ _).alloc (Nat.le_refl _) _), (Below.refl _ _).alloc (Nat.le_refl _) _⟩
    · have hr2 : to < 0 ∨ (0 ≤ to ∧ 7 < to) := by omega
      clear hl hok hA
      rcases hr2 with q | ⟨q0, q1⟩
      all_goals
        go_enter Try.func60, Try.ntmps60
        go_wp2
        go_returns
        exact ⟨_, rfl, HK.out, Below.refl _ _⟩
theorem rallK_any (v : Value) (f : Ents) (ttl now : Int) (w : World) (hv : KnAt w v (knL f)) : Calls Try.prog 109 #[v, .int .i64 ttl, .int .i64 now] w (GivesKn w (knL (knNow f ttl now))) := by
  obtain ⟨a, c, rfl, l1, l2, hA⟩ := hv
  have hlen8 : (knL f).length ≤ 8 := knU_len f 8
  have := rall_any a c (knL f) ttl now w (Nat.le_trans hlen8 (by decide)) hA
  rw [show (knL f).filter (live now ttl) = knL (knNow f ttl now) from filter_live f ttl now 8 (Nat.le_refl _)] at this
  exact this
/-- What Find says of what is known now. -/
theorem find_now (f : Ents) (ttl to now : Int) : (kn f ttl to now = none ∧ findK (knL (knNow f ttl now)) to = -1) ∨ (∃ (e : Ent) (k : Nat), kn f ttl to now = some e ∧ findK (knL (knNow f ttl now)) to = (k : Int) ∧ k < (knL (knNow f ttl now)).length ∧ (0 ≤ to ∧ to < 8) ∧ nth (knL (knNow f ttl now)) k = ⟨to, e.th, e.ep, e.tm⟩) := by
  by_cases hr : 0 ≤ to ∧ to < 8
  · obtain ⟨i, rfl⟩ := Int.eq_ofNat_of_zero_le hr.1
    have hd : knNow f ttl now i = kn f ttl (i : Int) now := rfl
    cases hk : kn f ttl (i : Int) now with
    | none => exact .inl ⟨rfl, find_no (by rw [hd]; exact hk)⟩
    | some e =>
      obtain ⟨k, h1, h2, h3⟩ := find_some (f := knNow f ttl now) (n := 8) (i := i) (e := e) (by omega) (by rw [hd]; exact hk)
      exact .inr ⟨e, k, rfl, h1, h2, hr, h3⟩
  · refine .inl ⟨by unfold kn; rw [if_neg hr], out_none _ _ 8 ?_⟩
    intro h
    exact hr h
set_option maxRecDepth 100000 in
set_option maxHeartbeats 1000000 in
theorem rcuts_any (v : Value) (f : Ents) (ttl to lev now : Int) (w : World) (hv : KnAt w v (knL f)) : Calls Try.prog 71 #[v, .int .i64 ttl, .int .i64 to, .int .i64 lev, .int .i64 now] w fun e w' => e = .returned (.bool (cuts f ttl to lev now)) ∧ Below w.heap.size w w' := by
  have HA := Lib.hid (rallK_any v f ttl now w hv)
  have hlen8 : (knL (knNow f ttl now)).length ≤ 8 := knU_len _ 8
  have hfn := find_now f ttl to now
  have hcu : cuts f ttl to lev now = match kn f ttl to now with | none => false | some e => !decide (0 ≤ lev ∧ lev < e.th) := rfl
  rw [hcu]
  clear hcu hv
  generalize kn f ttl to now = ke at *
  generalize knL (knNow f ttl now) = L at *
  rcases hfn with ⟨rfl, hf⟩ | ⟨e, k, rfl, hf, hk, _, hn⟩
  · go_enter Try.func71, Try.ntmps71
    go_wp2_with fail
    refine HA.out.mono ?_
    rintro e w1 ⟨v1, rfl, ⟨a1, c1, rfl, m1, m2, hA1⟩, hb1⟩
    have F := rfind_any a1 c1 L to w1 (Nat.le_trans hlen8 (by decide)) hA1
    rw [hf] at F
    have HF := Lib.hid F
    clear F hA1 hf
    go_wp2_with (first | (go_at_call 99; (with_reducible refine (HF.out).mono ?_); rintro e w' ⟨rfl, rfl⟩))
    go_ret
    exact ⟨rfl, hb1⟩
  · go_enter Try.func71, Try.ntmps71
    go_wp2_with fail
    refine HA.out.mono ?_
    rintro e' w1 ⟨v1, rfl, ⟨a1, c1, rfl, m1, m2, hA1⟩, hb1⟩
    have F := rfind_any a1 c1 L to w1 (Nat.le_trans hlen8 (by decide)) hA1
    rw [hf] at F
    have HF := Lib.hid F
    rcases hA1 with h | ⟨b, off, rfl, hc⟩
    · rw [h] at hk; simp at hk
    obtain ⟨c0, d1, d2, d3⟩ := kn_cells hc k hk
    rw [hn] at d1
    have d1' : w1.cell? ⟨b, off + k * 4 + 1, none⟩ = some (.int .i64 e.th) := d1
    have n1 : (0 : Int) ≤ (k : Int) := by omega
    have n2 : (k : Int) < (L.length : Int) := by omega
    clear F hf hn hc c0 d1 d2 d3
    by_cases hv1 : lev < 0
    · go_wp2_with (first | (go_at_call 99; (with_reducible refine (HF.out).mono ?_); rintro e w' ⟨rfl, rfl⟩))
      go_ret
      exact ⟨ret_bool (by rw [Bool.eq_iff_iff]; simp <;> omega), hb1⟩
    · by_cases hv2 : e.th ≤ lev
      · go_wp2_with (first | (go_at_call 99; (with_reducible refine (HF.out).mono ?_); rintro e w' ⟨rfl, rfl⟩))
        go_ret
        exact ⟨ret_bool (by rw [Bool.eq_iff_iff]; simp <;> omega), hb1⟩
      · go_wp2_with (first | (go_at_call 99; (with_reducible refine (HF.out).mono ?_); rintro e w' ⟨rfl, rfl⟩))
        go_ret
        exact ⟨ret_bool (by rw [Bool.eq_iff_iff]; simp <;> omega), hb1⟩
end Go.Proofs.Ytgkmmoiniidhlaa
