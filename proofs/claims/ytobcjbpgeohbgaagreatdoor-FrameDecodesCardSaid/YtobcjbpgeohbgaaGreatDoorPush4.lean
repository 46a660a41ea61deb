/-
  Layer 26 (push): the document's answer.
-/
import Derived.Test.YtobcjbpgeohbgaaGreatDoorPush3
import Derived.Test.YtobcjbpgeohbgaaGreatDoorFormRef
namespace Go.Proofs.YtobcjbpgeohbgaaGreatDoor
open Go.RowKit
set_option linter.unusedVariables false

abbrev knV (x : Ps) : Value := .agg #[.int .i64 x.p2, .int .i64 x.p3, .int .i64 x.p4, .int .i64 x.p5, .int .i64 x.p6, .int .i64 x.p7, .int .i64 x.p8]
set_option maxRecDepth 100000 in
theorem values_any (x : Ps) (w : World) : Calls Tryz.prog 58 #[knV x] w fun e w' => e = .returned (.slice (some ⟨w.heap.size + 1, 0, none⟩) 7 7) ∧ IsObj w' (w.heap.size + 1) 3 (kn7 x) ∧ Below w.heap.size w w' ∧ w.heap.size + 1 < w'.heap.size := by
  have hO := IsObj.new (w.alloc (.cells (kn7 x).toArray 28)) 3 (kn7 x)
  rw [alloc_sizeP] at hO
  have HO := Lib.hid hO
  clear hO
  go_enter Tryz.func58, Tryz.ntmps58
  go_wp2
  go_ret
  exact ⟨rfl, HO.out, ((Below.refl _ _).alloc (Nat.le_refl _) _).alloc (by simp) _, by simp⟩
theorem rwidths_any (w : World) : Calls Tryz.prog 48 #[] w fun e w' => e = .returned (.slice (some ⟨w.heap.size, 0, none⟩) 9 9) ∧ (∀ k, k < 9 → w'.cell? ⟨w.heap.size, k, none⟩ = some (.int .i64 (pw k : Int))) ∧ Below w.heap.size w w' ∧ w.heap.size < w'.heap.size := by
  have hc : ∀ k, k < 9 → (w.alloc (.cells #[.int .i64 1, .int .i64 4, .int .i64 2, .int .i64 2, .int .i64 1, .int .i64 1, .int .i64 1, .int .i64 1, .int .i64 1] 3)).cell? ⟨w.heap.size, k, none⟩ = some (.int .i64 (pw k : Int)) := by
    intro k hk
    rw [cell_new]
    rcases lt9 hk with rfl | rfl | rfl | rfl | rfl | rfl | rfl | rfl | rfl <;> rfl
  have HC := Lib.hid hc
  clear hc
  go_enter Tryz.func48, Tryz.ntmps48
  go_wp2
  go_ret
  exact ⟨rfl, HC.out, (Below.refl _ _).alloc (Nat.le_refl _) _, by simp⟩
set_option maxRecDepth 100000 in
theorem rof18_any (x : Ps) (b off c : Nat) (w : World) (h : ∀ k, k < 7 → w.cell? ⟨b, off + k, none⟩ = some (.int .i64 (pf x (k + 2)))) : Calls Tryz.prog 49 #[.slice (some ⟨b, off, none⟩) 7 c] w fun e w' => e = .returned (knV x) ∧ Below w.heap.size w w' := by
  have c0 : w.cell? ⟨b, off, none⟩ = some (.int .i64 x.p2) := h 0 (by omega)
  have c1 : w.cell? ⟨b, off + 1, none⟩ = some (.int .i64 x.p3) := h 1 (by omega)
  have c2 : w.cell? ⟨b, off + 2, none⟩ = some (.int .i64 x.p4) := h 2 (by omega)
  have c3 : w.cell? ⟨b, off + 3, none⟩ = some (.int .i64 x.p5) := h 3 (by omega)
  have c4 : w.cell? ⟨b, off + 4, none⟩ = some (.int .i64 x.p6) := h 4 (by omega)
  have c5 : w.cell? ⟨b, off + 5, none⟩ = some (.int .i64 x.p7) := h 5 (by omega)
  have c6 : w.cell? ⟨b, off + 6, none⟩ = some (.int .i64 x.p8) := h 6 (by omega)
  clear h
  have hlt := cell_lt c0
  simp only at hlt
  go_enter Tryz.func49, Tryz.ntmps49
  go_wp2_with fail
  (refine region_tail 22 (by kernel_rfl) (by kernel_rfl) ?_; simp only [List.take_succ_cons, List.take_zero, List.drop_succ_cons, List.drop_zero]; (repeat (refine wpStill_step (fun K hK => ?_); go_simp; (refine hK _ ?_); clear hK K)); refine wpStill_nil ?_)
  go_wp2
  refine bodyPost_ret (v := knV x) (by simp [results, Tryz.results49, go_sem]) rfl ?_
  exact ⟨rfl, ((Below.refl _ _).alloc (Nat.le_refl _) _).drew⟩
/-- May number k of the settings be so? -/
def okK (x : Ps) (k : Nat) : Prop := 0 ≤ pf x (k + 2) ∧ pf x (k + 2) ≤ 65535 ∧ (1 < k → pf x (k + 2) ≤ 255)
theorem lt7 {i : Nat} (h : i < 7) : i = 0 ∨ i = 1 ∨ i = 2 ∨ i = 3 ∨ i = 4 ∨ i = 5 ∨ i = 6 := by omega
theorem okK_of {x : Ps} (h : psOk x = true) (k : Nat) (hk : k < 7) : okK x k := by
  simp only [psOk, decide_eq_true_eq] at h
  unfold okK
  rcases lt7 hk with rfl | rfl | rfl | rfl | rfl | rfl | rfl
  · show 0 ≤ x.p2 ∧ x.p2 ≤ 65535 ∧ (1 < 0 → x.p2 ≤ 255); omega
  · show 0 ≤ x.p3 ∧ x.p3 ≤ 65535 ∧ (1 < 1 → x.p3 ≤ 255); omega
  · show 0 ≤ x.p4 ∧ x.p4 ≤ 65535 ∧ (1 < 2 → x.p4 ≤ 255); omega
  · show 0 ≤ x.p5 ∧ x.p5 ≤ 65535 ∧ (1 < 3 → x.p5 ≤ 255); omega
  · show 0 ≤ x.p6 ∧ x.p6 ≤ 65535 ∧ (1 < 4 → x.p6 ≤ 255); omega
  · show 0 ≤ x.p7 ∧ x.p7 ≤ 65535 ∧ (1 < 5 → x.p7 ≤ 255); omega
  · show 0 ≤ x.p8 ∧ x.p8 ≤ 65535 ∧ (1 < 6 → x.p8 ≤ 255); omega
theorem psOk_of {x : Ps} (h : ∀ k, k < 7 → okK x k) (h0 : 0 ≤ x.p0 ∧ x.p0 ≤ 7) (h1 : 0 ≤ x.p1 ∧ x.p1 ≤ 4294967295) : psOk x = true := by
  have k0 : 0 ≤ x.p2 ∧ x.p2 ≤ 65535 ∧ (1 < 0 → x.p2 ≤ 255) := h 0 (by omega)
  have k1 : 0 ≤ x.p3 ∧ x.p3 ≤ 65535 ∧ (1 < 1 → x.p3 ≤ 255) := h 1 (by omega)
  have k2 : 0 ≤ x.p4 ∧ x.p4 ≤ 65535 ∧ (1 < 2 → x.p4 ≤ 255) := h 2 (by omega)
  have k3 : 0 ≤ x.p5 ∧ x.p5 ≤ 65535 ∧ (1 < 3 → x.p5 ≤ 255) := h 3 (by omega)
  have k4 : 0 ≤ x.p6 ∧ x.p6 ≤ 65535 ∧ (1 < 4 → x.p6 ≤ 255) := h 4 (by omega)
  have k5 : 0 ≤ x.p7 ∧ x.p7 ≤ 65535 ∧ (1 < 5 → x.p7 ≤ 255) := h 5 (by omega)
  have k6 : 0 ≤ x.p8 ∧ x.p8 ≤ 65535 ∧ (1 < 6 → x.p8 ≤ 255) := h 6 (by omega)
  simp only [psOk, decide_eq_true_eq]
  omega
theorem kn_at (x : Ps) (k : Nat) (h : k < 7) : (kn7 x)[k]? = some (.int .i64 (pf x (k + 2))) := by
  rcases lt7 h with rfl | rfl | rfl | rfl | rfl | rfl | rfl <;> rfl

set_option maxRecDepth 100000 in
set_option maxHeartbeats 1000000 in
theorem rpcheck_any (x : Ps) (w : World) : Calls Tryz.prog 50 #[psV x] w fun e w' => e = .returned (.int .i64 (errP x)) ∧ Below w.heap.size w w' := by
  obtain ⟨er, hE⟩ : ∃ er, er = errP x := ⟨_, rfl⟩
  rw [← hE]
  have HE := Lib.hid hE
  clear hE
  have hb0 : Below w.heap.size w (w.alloc (.cells (psCells x).toArray 30)) := (Below.refl _ _).alloc (Nat.le_refl _) _
  have HR0 := Lib.hid (show PsAt (w.alloc (.cells (psCells x).toArray 30)) w.heap.size x from IsObj.new w _ (psCells x))
  have HB0 := Lib.hid hb0
  clear hb0
  go_enter Tryz.func50, Tryz.ntmps50
  go_wp2_with fail
  refine (values_any x _).mono ?_
  rintro e w1 ⟨rfl, hV, hb1, hs1⟩
  have HR1 := Lib.hid (PsAt.same HR0.out hb1)
  have HB1 := Lib.hid (HB0.out.trans (hb1.mono HB0.out.size))
  rw [alloc_sizeP] at hV ⊢
  have HV := Lib.hid hV
  clear hV hb1 hs1 HR0 HB0
  obtain ⟨A, hA⟩ : ∃ A, A = w.heap.size := ⟨_, rfl⟩
  obtain ⟨V, hV⟩ : ∃ V, V = A + 1 + 1 := ⟨_, rfl⟩
  rw [← hA] at HR1 HV ⊢
  rw [← hV] at HV ⊢
  clear hV
  go_wp2_with fail
  rw [← hA]
  clear hA
  go_loopw [4] (fun i wr => ∃ k : Nat, k ≤ 7 ∧ i = .int .i64 k ∧ wr = w1 ∧ ∀ j, j < k → okK x j) (fun i _ => 7 - (intOf i).toNat)
  case atStart => exact ⟨0, by omega, rfl, rfl, fun j hj => by omega⟩
  case round =>
    obtain ⟨k, hk, rfl, rfl, hok⟩ := hrel
    have HOk := Lib.hid hok
    clear hok
    by_cases hlt : k < 7
    · have c0 := (IsObj.cell HV.out k).trans (kn_at x k hlt)
      have i1 : (0 : Int) ≤ (k : Int) := by omega
      have i2 : (k : Int) < 7 := by omega
      by_cases hbad : okK x k
      · have HNew := Lib.hid (show ∀ j, j < k + 1 → okK x j from fun j hj => by
          by_cases hjk : j = k
          · rw [hjk]; exact hbad
          · exact HOk.out j (by omega))
        obtain ⟨q0, q1, q2⟩ := hbad
        generalize pf x (k + 2) = v at *
        by_cases hk1 : 1 < k
        · have q3 := q2 hk1
          have i3 : (1 : Int) < (k : Int) := by omega
          clear q2
          go_wp2
          exact ⟨⟨k + 1, by omega, by go_num, trivial, HNew.out⟩, by simp only [intOf]; omega⟩
        · have i3 : ¬ (1 : Int) < (k : Int) := by omega
          clear q2
          go_wp2
          exact ⟨⟨k + 1, by omega, by go_num, trivial, HNew.out⟩, by simp only [intOf]; omega⟩
      · have he : er = 1 := by
          rw [HE.out]
          refine errP_no ?_
          cases hc : psOk x with
          | false => rfl
          | true => exact absurd (okK_of hc k hlt) hbad
        subst he
        unfold okK at hbad
        generalize pf x (k + 2) = v at *
        have hb3 : v < 0 ∨ (0 ≤ v ∧ 65535 < v) ∨ (0 ≤ v ∧ v ≤ 65535 ∧ (1 : Int) < (k : Int) ∧ 255 < v) := by omega
        clear hbad
        rcases hb3 with q0 | ⟨q0, q1⟩ | ⟨q0, q1, q2, q3⟩
        all_goals
          go_wp2
          go_ret
          exact ⟨rfl, HB1.out⟩
    · obtain rfl : k = 7 := by omega
      have a0 : wr.cell? ⟨A, 0, none⟩ = some (.int .i64 x.p0) := IsObj.cell HR1.out 0
      have a1 : wr.cell? ⟨A, 1, none⟩ = some (.int .i64 x.p1) := IsObj.cell HR1.out 1
      by_cases hg : (0 ≤ x.p0 ∧ x.p0 ≤ 7) ∧ (0 ≤ x.p1 ∧ x.p1 ≤ 4294967295)
      · have he : er = 0 := by rw [HE.out]; exact errP_yes (psOk_of HOk.out hg.1 hg.2)
        subst he
        obtain ⟨⟨g0, g1⟩, g2, g3⟩ := hg
        go_wp2
        go_ret
        exact ⟨rfl, HB1.out⟩
      · have he : er = 1 := by
          rw [HE.out]
          refine errP_no ?_
          cases hc : psOk x with
          | false => rfl
          | true =>
            simp only [psOk, decide_eq_true_eq] at hc
            exact absurd ⟨hc.1, hc.2.1⟩ hg
        subst he
        have hb3 : x.p0 < 0 ∨ (0 ≤ x.p0 ∧ 7 < x.p0) ∨ (0 ≤ x.p0 ∧ x.p0 ≤ 7 ∧ x.p1 < 0) ∨ (0 ≤ x.p0 ∧ x.p0 ≤ 7 ∧ 0 ≤ x.p1 ∧ 4294967295 < x.p1) := by omega
        clear hg
        rcases hb3 with q0 | ⟨q0, q1⟩ | ⟨q0, q1, q2⟩ | ⟨q0, q1, q2, q3⟩
        all_goals
          go_wp2
          go_ret
          exact ⟨rfl, HB1.out⟩
end Go.Proofs.YtobcjbpgeohbgaaGreatDoor
