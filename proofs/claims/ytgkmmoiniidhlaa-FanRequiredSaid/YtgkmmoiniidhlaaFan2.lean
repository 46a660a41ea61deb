/-
  One call of a fan: the code's Step.
-/
import Derived.Test.YtgkmmoiniidhlaaFan
import Derived.LoopN
import Derived.Laws.EntriesVeiled
namespace Go.Proofs.Ytgkmmoiniidhlaa
open Go.RowKit
set_option linter.unusedVariables false

theorem dimlook (Bc Bx : Nat) (t xt : Int) (r : Bool) (w : World) (hc : w.cell? ⟨Bc, 1, none⟩ = some (.int .i64 t)) (hx : w.cell? ⟨Bx, 0, none⟩ = some (.int .i64 xt)) (hr : r = decide (0 < t ∧ xt < t)) :
    Calls Try.prog 67 #[.pointer (some ⟨Bc, 0, none⟩), .pointer (some ⟨Bx, 0, none⟩)] w fun e w' => e = .returned (.bool r) ∧ w = w' := by
  have HR := Lib.hid hr
  clear hr
  go_enter Try.func67, Try.ntmps67
  go_wp2
  all_goals
    go_ret
    exact ⟨ret_bool (by rw [HR.out, Bool.eq_iff_iff]; simp only [decide_eq_true_eq]; (repeat split) <;> omega), rfl⟩
theorem IsObj.newAt {n : Nat} (w : World) (ty : TypeId) (cs : List Value) (h : n = w.heap.size) : IsObj (w.alloc (.cells cs.toArray ty)) n ty cs := by
  subst h
  exact IsObj.new w ty cs
theorem cutlook (Bt Bc Bx b : Nat) (ttl : Int) (f : Ents) (c : Cl) (x : Nw) (r : Bool) (w : World) (ht : w.cell? ⟨Bt, 0, none⟩ = some (.pointer (some ⟨b, 0, none⟩))) (hc : w.cell? ⟨Bc, 0, none⟩ = some (.int .i64 c.to)) (hx : w.cell? ⟨Bx, 1, none⟩ = some (.int .i64 x.lev)) (hx2 : w.cell? ⟨Bx, 2, none⟩ = some (.int .i64 x.tick))
    (hT : TableAt w b ttl f) (hr : cuts f ttl c.to x.lev x.tick = r) :
    Calls Try.prog 69 #[.pointer (some ⟨Bt, 0, none⟩), .pointer (some ⟨Bc, 0, none⟩), .pointer (some ⟨Bx, 0, none⟩)] w fun e w' => e = .returned (.bool r) ∧ Below w.heap.size w w' := by
  have HC := Lib.hid (hr ▸ cuts_any b ttl f c.to x.lev x.tick w hT)
  clear hr hT
  go_enter Try.func69, Try.ntmps69
  go_wp2_with (go_at_call 16; refine HC.out.mono ?_; rintro e w' ⟨rfl, hb⟩)
  go_ret
  exact ⟨rfl, hb⟩
abbrev stepCall (c : Cl) (x : Nw) (b : Nat) (w : World) (r : Stp) : Prop := Calls Try.prog 20 #[clV c, nwV x, .pointer (some ⟨b, 0, none⟩)] w fun e w' => e = .returned (stpV r) ∧ Below w.heap.size w w'
set_option maxRecDepth 100000 in
set_option maxHeartbeats 1000000 in
theorem step_1 (c : Cl) (x : Nw) (b : Nat) (w : World) (h1 : 0 < c.tier) (h2 : x.tier < c.tier) : stepCall c x b w ⟨c.to, 11, 0, 0, c.tier == 0⟩ := by
  have HD := Lib.hid (show true = decide (0 < c.tier ∧ x.tier < c.tier) from (decide_eq_true ⟨h1, h2⟩).symm)
  clear h1 h2
  go_enter Try.func20, Try.ntmps20
  go_wp2_with (first | (go_at_call 66; (with_reducible refine (scall_any _ _ _ _ _).mono ?_); rintro e w' ⟨rfl, rfl⟩))
  refine wp_loop_rounds 4 ?_
  rw [rounds_succ]
  go_wp2_with (first | (go_at_call 67; (with_reducible refine (dimlook _ _ c.tier x.tier _ _ ?_ ?_ HD.out).mono ?_); (· go_simp); (· go_simp); rintro e w' ⟨rfl, rfl⟩))
  go_returns
  refine ⟨rfl, ?_⟩
  repeat (first | exact Below.refl _ _ | (refine Below.alloc ?_ (by simp <;> omega) _) | (refine Below.setCell ?_ (by simp only; omega) _))
set_option maxRecDepth 100000 in
set_option maxHeartbeats 1000000 in
theorem step_2 (c : Cl) (x : Nw) (b : Nat) (w : World) (h1 : ¬ (0 < c.tier ∧ x.tier < c.tier)) (h2 : spOk x.tick x.dl c.wt c.most = false) : stepCall c x b w ⟨c.to, 9, 0, 0, c.tier == 0⟩ := by
  have HD := Lib.hid (show false = decide (0 < c.tier ∧ x.tier < c.tier) from (decide_eq_false h1).symm)
  clear h1
  all_goals
    go_enter Try.func20, Try.ntmps20
    go_wp2_with (first | (go_at_call 66; (with_reducible refine (scall_any _ _ _ _ _).mono ?_); rintro e w' ⟨rfl, rfl⟩))
    refine wp_loop_rounds 4 ?_
    rw [rounds_succ]
    go_wp2_with (first | (go_at_call 67; (with_reducible refine (dimlook _ _ c.tier x.tier _ _ ?_ ?_ HD.out).mono ?_); (· go_simp); (· go_simp); rintro e w' ⟨rfl, rfl⟩) | (go_at_call 68; go_in))
    rw [rounds_succ]
    go_wp2_with (first | (go_at_call 67; (with_reducible refine (dimlook _ _ c.tier x.tier _ _ ?_ ?_ HD.out).mono ?_); (· go_simp); (· go_simp); rintro e w' ⟨rfl, rfl⟩) | (go_at_call 68; go_in))
    go_returns
    refine ⟨rfl, ?_⟩
    repeat (first | exact Below.refl _ _ | (refine Below.alloc ?_ (by simp <;> omega) _) | (refine Below.setCell ?_ (by simp only; omega) _))
set_option maxRecDepth 100000 in
set_option maxHeartbeats 2000000 in
theorem step_3 (c : Cl) (x : Nw) (b : Nat) (ttl : Int) (f : Ents) (w : World) (h : TableAt w b ttl f) (h1 : ¬ (0 < c.tier ∧ x.tier < c.tier)) (h2 : spOk x.tick x.dl c.wt c.most = true) (h3 : cuts f ttl c.to x.lev x.tick = true) : stepCall c x b w ⟨c.to, 8, 0, 0, c.tier == 0⟩ := by
  have HD := Lib.hid (show false = decide (0 < c.tier ∧ x.tier < c.tier) from (decide_eq_false h1).symm)
  have H := Lib.hid h
  have H3 := Lib.hid h3
  clear h1 h h3
  all_goals
    go_enter Try.func20, Try.ntmps20
    go_wp2_with (first | (go_at_call 66; (with_reducible refine (scall_any _ _ _ _ _).mono ?_); rintro e w' ⟨rfl, rfl⟩))
    refine wp_loop_rounds 4 ?_
    rw [rounds_succ]
    go_wp2_with (first | (go_at_call 67; (with_reducible refine (dimlook _ _ c.tier x.tier _ _ ?_ ?_ HD.out).mono ?_); (· go_simp); (· go_simp); rintro e w' ⟨rfl, rfl⟩) | (go_at_call 68; go_in))
    rw [rounds_succ]
    go_wp2_with (first | (go_at_call 67; (with_reducible refine (dimlook _ _ c.tier x.tier _ _ ?_ ?_ HD.out).mono ?_); (· go_simp); (· go_simp); rintro e w' ⟨rfl, rfl⟩) | (go_at_call 68; go_in))
    rw [rounds_succ]
    go_wp2_with (first | (go_at_call 67; (with_reducible refine (dimlook _ _ c.tier x.tier _ _ ?_ ?_ HD.out).mono ?_); (· go_simp); (· go_simp); rintro e w' ⟨rfl, rfl⟩) | (go_at_call 68; go_in))
    refine Calls.mono (cutlook _ _ _ b ttl f c x _ _ (by go_simp) (by go_simp) (by go_simp) (by go_simp) (by (repeat (refine TableAt.alloc ?_ _)); exact H.out) H3.out) ?_
    rintro e w1 ⟨rfl, hb⟩
    have hR : IsObj w1 (w.heap.size + 1 + 1 + 1) 42 [.int .i64 0, .int .i64 0, .int .i64 0, .int .i64 0, .bool false] := by
      refine IsObj.below ?_ hb (by simp)
      repeat (first | exact IsObj.newAt _ _ _ (by simp) | refine IsObj.alloc ?_ _)
    have hS : IsObj w1 (w.heap.size + 1 + 1 + 1 + 1) 42 [.int .i64 c.to, .int .i64 0, .int .i64 0, .int .i64 0, .bool (c.tier == 0)] := by
      refine IsObj.below ?_ hb (by simp)
      repeat (first | exact IsObj.newAt _ _ _ (by simp) | refine IsObj.alloc ?_ _)
    have hL : w1.cell? ⟨w.heap.size + 1 + 1 + 1 + 1 + 1 + 1 + 1 + 1 + 1, 0, none⟩ = some (.int .i64 8) := by
      refine (Below.cell hb (by simp)).trans ?_
      go_simp
    have hbw : Below w.heap.size w w1 := by
      refine Below.trans ?_ (hb.mono (by simp; omega))
      repeat (first | exact Below.refl _ _ | (refine Below.alloc ?_ (by simp <;> omega) _))
    have HBw := Lib.hid hbw
    clear hb hbw H3 H
    obtain ⟨R, eR⟩ : ∃ R, R = w.heap.size + 1 + 1 + 1 := ⟨_, rfl⟩
    obtain ⟨S, eS⟩ : ∃ S, S = R + 1 := ⟨_, rfl⟩
    obtain ⟨L, eL⟩ : ∃ L, L = S + 1 + 1 + 1 + 1 + 1 := ⟨_, rfl⟩
    rw [← eR, ← eS, ← eL] at hL
    rw [← eR, ← eS] at hS
    rw [← eR] at hR
    rw [← eR, ← eS, ← eL]
    have t0 : R ≠ S := by omega
    have t1 : S ≠ R := by omega
    have t2 : L ≠ R := by omega
    have t3 : L ≠ S := by omega
    have hz : w.heap.size ≤ R := by omega
    have hz2 : w.heap.size ≤ S := by omega
    clear eL
    have hlS := IsObj.lt hS
    have hlR := IsObj.lt hR
    obtain ⟨s0, s1, s2, s3, s4⟩ := obj5 hS
    obtain ⟨r0, r1, r2, r3, r4⟩ := obj5 hR
    have sf := IsObj.free hS
    have rf := IsObj.free hR
    obtain ⟨wf, hwf⟩ : ∃ wf, wf = ((((((w1.setCell ⟨S, 1, none⟩ (.int .i64 8)).setCell ⟨R, 0, none⟩ (.int .i64 c.to)).setCell ⟨R, 1, none⟩ (.int .i64 8)).setCell ⟨R, 2, none⟩ (.int .i64 0)).setCell ⟨R, 3, none⟩ (.int .i64 0)).setCell ⟨R, 4, none⟩ (.bool (c.tier == 0))) := ⟨_, rfl⟩
    have hof : IsObj wf R 42 [(.int .i64 c.to), (.int .i64 8), (.int .i64 0), (.int .i64 0), (.bool (c.tier == 0))] := by rw [hwf]; exact IsObj.put5 (hR.setOther ⟨S, 1, none⟩ (.int .i64 8) t0) (.int .i64 c.to) (.int .i64 8) (.int .i64 0) (.int .i64 0) (.bool (c.tier == 0))
    have HBf := Lib.hid (show Below w.heap.size w wf by rw [hwf]; exact ((((((((((((HBw.out).setCell (p := ⟨S, 1, none⟩) (by simp only; omega) (.int .i64 8))).setCell (p := ⟨R, 0, none⟩) (by simp only; omega) (.int .i64 c.to))).setCell (p := ⟨R, 1, none⟩) (by simp only; omega) (.int .i64 8))).setCell (p := ⟨R, 2, none⟩) (by simp only; omega) (.int .i64 0))).setCell (p := ⟨R, 3, none⟩) (by simp only; omega) (.int .i64 0))).setCell (p := ⟨R, 4, none⟩) (by simp only; omega) (.bool (c.tier == 0))))
    obtain ⟨f0, f1, f2, f3, f4⟩ := obj5 hof
    clear hS hR HBw hof eR eS
    go_wp2_with fail
    rw [← hwf]
    clear hwf
    exact bodyPost_ret (by simp [results, Try.results20, go_sem, f0, f1, f2, f3, f4]) rfl ⟨rfl, HBf.out⟩
set_option maxRecDepth 100000 in
set_option maxHeartbeats 2000000 in
theorem step_4 (c : Cl) (x : Nw) (b : Nat) (ttl : Int) (f : Ents) (w : World) (h : TableAt w b ttl f) (h1 : ¬ (0 < c.tier ∧ x.tier < c.tier)) (h2 : spOk x.tick x.dl c.wt c.most = true) (h3 : cuts f ttl c.to x.lev x.tick = false) : stepCall c x b w ⟨c.to, 0, spD x.tick x.dl c.wt c.most, spW x.tick x.dl c.wt c.most, c.tier == 0⟩ := by
  have HD := Lib.hid (show false = decide (0 < c.tier ∧ x.tier < c.tier) from (decide_eq_false h1).symm)
  have H := Lib.hid h
  have H3 := Lib.hid h3
  clear h1 h h3
  all_goals
    go_enter Try.func20, Try.ntmps20
    go_wp2_with (first | (go_at_call 66; (with_reducible refine (scall_any _ _ _ _ _).mono ?_); rintro e w' ⟨rfl, rfl⟩))
    refine wp_loop_rounds 4 ?_
    rw [rounds_succ]
    go_wp2_with (first | (go_at_call 67; (with_reducible refine (dimlook _ _ c.tier x.tier _ _ ?_ ?_ HD.out).mono ?_); (· go_simp); (· go_simp); rintro e w' ⟨rfl, rfl⟩) | (go_at_call 68; go_in))
    rw [rounds_succ]
    go_wp2_with (first | (go_at_call 67; (with_reducible refine (dimlook _ _ c.tier x.tier _ _ ?_ ?_ HD.out).mono ?_); (· go_simp); (· go_simp); rintro e w' ⟨rfl, rfl⟩) | (go_at_call 68; go_in))
    rw [rounds_succ]
    go_wp2_with (first | (go_at_call 67; (with_reducible refine (dimlook _ _ c.tier x.tier _ _ ?_ ?_ HD.out).mono ?_); (· go_simp); (· go_simp); rintro e w' ⟨rfl, rfl⟩) | (go_at_call 68; go_in))
    refine Calls.mono (cutlook _ _ _ b ttl f c x _ _ (by go_simp) (by go_simp) (by go_simp) (by go_simp) (by (repeat (refine TableAt.alloc ?_ _)); exact H.out) H3.out) ?_
    rintro e w1 ⟨rfl, hb⟩
    have hR : IsObj w1 (w.heap.size + 1 + 1 + 1) 42 [.int .i64 0, .int .i64 0, .int .i64 0, .int .i64 0, .bool false] := by
      refine IsObj.below ?_ hb (by simp)
      repeat (first | exact IsObj.newAt _ _ _ (by simp) | refine IsObj.alloc ?_ _)
    have hS : IsObj w1 (w.heap.size + 1 + 1 + 1 + 1) 42 [.int .i64 c.to, .int .i64 0, .int .i64 0, .int .i64 0, .bool (c.tier == 0)] := by
      refine IsObj.below ?_ hb (by simp)
      repeat (first | exact IsObj.newAt _ _ _ (by simp) | refine IsObj.alloc ?_ _)
    have hL : w1.cell? ⟨w.heap.size + 1 + 1 + 1 + 1 + 1 + 1 + 1 + 1 + 1, 0, none⟩ = some (.int .i64 8) := by
      refine (Below.cell hb (by simp)).trans ?_
      go_simp
    have hbw : Below w.heap.size w w1 := by
      refine Below.trans ?_ (hb.mono (by simp; omega))
      repeat (first | exact Below.refl _ _ | (refine Below.alloc ?_ (by simp <;> omega) _))
    have HBw := Lib.hid hbw
    clear hb hbw H3 H
    obtain ⟨R, eR⟩ : ∃ R, R = w.heap.size + 1 + 1 + 1 := ⟨_, rfl⟩
    obtain ⟨S, eS⟩ : ∃ S, S = R + 1 := ⟨_, rfl⟩
    obtain ⟨L, eL⟩ : ∃ L, L = S + 1 + 1 + 1 + 1 + 1 := ⟨_, rfl⟩
    rw [← eR, ← eS, ← eL] at hL
    rw [← eR, ← eS] at hS
    rw [← eR] at hR
    rw [← eR, ← eS, ← eL]
    have t0 : R ≠ S := by omega
    have t1 : S ≠ R := by omega
    have t2 : L ≠ R := by omega
    have t3 : L ≠ S := by omega
    have hz : w.heap.size ≤ R := by omega
    have hz2 : w.heap.size ≤ S := by omega
    clear eL
    have hlS := IsObj.lt hS
    have hlR := IsObj.lt hR
    obtain ⟨s0, s1, s2, s3, s4⟩ := obj5 hS
    obtain ⟨r0, r1, r2, r3, r4⟩ := obj5 hR
    have sf := IsObj.free hS
    have rf := IsObj.free hR
    obtain ⟨wf, hwf⟩ : ∃ wf, wf = (((((((w1.setCell ⟨S, 2, none⟩ (.int .i64 (spD x.tick x.dl c.wt c.most))).setCell ⟨S, 3, none⟩ (.int .i64 (spW x.tick x.dl c.wt c.most))).setCell ⟨R, 0, none⟩ (.int .i64 c.to)).setCell ⟨R, 1, none⟩ (.int .i64 0)).setCell ⟨R, 2, none⟩ (.int .i64 (spD x.tick x.dl c.wt c.most))).setCell ⟨R, 3, none⟩ (.int .i64 (spW x.tick x.dl c.wt c.most))).setCell ⟨R, 4, none⟩ (.bool (c.tier == 0))) := ⟨_, rfl⟩
    have hof : IsObj wf R 42 [(.int .i64 c.to), (.int .i64 0), (.int .i64 (spD x.tick x.dl c.wt c.most)), (.int .i64 (spW x.tick x.dl c.wt c.most)), (.bool (c.tier == 0))] := by rw [hwf]; exact IsObj.put5 ((hR.setOther ⟨S, 2, none⟩ (.int .i64 (spD x.tick x.dl c.wt c.most)) t0).setOther ⟨S, 3, none⟩ (.int .i64 (spW x.tick x.dl c.wt c.most)) t0) (.int .i64 c.to) (.int .i64 0) (.int .i64 (spD x.tick x.dl c.wt c.most)) (.int .i64 (spW x.tick x.dl c.wt c.most)) (.bool (c.tier == 0))
    have HBf := Lib.hid (show Below w.heap.size w wf by rw [hwf]; exact ((((((((((((((HBw.out).setCell (p := ⟨S, 2, none⟩) (by simp only; omega) (.int .i64 (spD x.tick x.dl c.wt c.most)))).setCell (p := ⟨S, 3, none⟩) (by simp only; omega) (.int .i64 (spW x.tick x.dl c.wt c.most)))).setCell (p := ⟨R, 0, none⟩) (by simp only; omega) (.int .i64 c.to))).setCell (p := ⟨R, 1, none⟩) (by simp only; omega) (.int .i64 0))).setCell (p := ⟨R, 2, none⟩) (by simp only; omega) (.int .i64 (spD x.tick x.dl c.wt c.most)))).setCell (p := ⟨R, 3, none⟩) (by simp only; omega) (.int .i64 (spW x.tick x.dl c.wt c.most)))).setCell (p := ⟨R, 4, none⟩) (by simp only; omega) (.bool (c.tier == 0))))
    obtain ⟨f0, f1, f2, f3, f4⟩ := obj5 hof
    clear hS hR HBw hof eR eS
    go_wp2_with fail
    rw [rounds_succ]
    go_wp2_with fail
    rw [← hwf]
    clear hwf
    exact bodyPost_ret (by simp [results, Try.results20, go_sem, f0, f1, f2, f3, f4]) rfl ⟨rfl, HBf.out⟩
theorem step_any (c : Cl) (x : Nw) (b : Nat) (ttl : Int) (f : Ents) (w : World) (h : TableAt w b ttl f) : stepCall c x b w (stepOf c x ttl f) := by
  by_cases h1 : 0 < c.tier ∧ x.tier < c.tier
  · rw [step_dim h1]
    exact step_1 c x b w h1.1 h1.2
  · by_cases h2 : spOk x.tick x.dl c.wt c.most = false
    · rw [step_low h1 h2]
      exact step_2 c x b w h1 h2
    · have h2' : spOk x.tick x.dl c.wt c.most = true := by simpa using h2
      by_cases h3 : cuts f ttl c.to x.lev x.tick = true
      · rw [step_cut h1 h2' h3]
        exact step_3 c x b ttl f w h h1 h2' h3
      · have h3' : cuts f ttl c.to x.lev x.tick = false := by simpa using h3
        rw [step_goes h1 h2' h3']
        exact step_4 c x b ttl f w h h1 h2' h3'
end Go.Proofs.Ytgkmmoiniidhlaa
