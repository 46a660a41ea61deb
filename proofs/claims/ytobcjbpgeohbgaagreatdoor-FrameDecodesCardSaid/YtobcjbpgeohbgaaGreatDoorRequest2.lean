/-
  Layer 24 (request): Check, and the document's Check.
-/
import Derived.Test.YtobcjbpgeohbgaaGreatDoorRequest
namespace Go.Proofs.YtobcjbpgeohbgaaGreatDoor
open Go.RowKit
set_option linter.unusedVariables false

theorem alloc_size (w : World) (o : Obj) : (w.alloc o).heap.size = w.heap.size + 1 := by simp
set_option maxRecDepth 100000 in
set_option maxHeartbeats 1000000 in
theorem check_any (x : Rq) (w : World) : Calls Tryz.prog 67 #[rqV x] w fun e w' => e = .returned (.int .i64 (errOf x)) ∧ Below w.heap.size w w' := by
  obtain ⟨er, hE⟩ : ∃ er, er = errOf x := ⟨_, rfl⟩
  rw [← hE]
  have HE := Lib.hid hE
  clear hE
  have hR := IsObj.new w 24 (rqCells x)
  have hB0 : Below w.heap.size w (w.alloc (.cells (rqCells x).toArray 24)) := (Below.refl _ _).alloc (Nat.le_refl _) _
  have HR := Lib.hid hR
  have HB0 := Lib.hid hB0
  have hs0 := hB0.size
  have hsz0 := Lib.hid (alloc_size w (.cells (rqCells x).toArray 24))
  clear hR hB0
  go_enter Tryz.func67, Tryz.ntmps67
  go_wp2_with fail
  refine (parts_any w.heap.size _).mono ?_
  rintro e w1 ⟨rfl, hP, hb1, hs1⟩
  have hR1 : RqAt w1 w.heap.size x := IsObj.below HR.out hb1 (by simp)
  have hb2 := HB0.out.trans (hb1.mono hs0)
  have hP2 : PartsAt w1 (w.heap.size + 1) w.heap.size := by
    have := hP
    rwa [alloc_size] at this
  obtain ⟨A, hA⟩ : ∃ A, A = w.heap.size := ⟨_, rfl⟩
  obtain ⟨S, hS⟩ : ∃ S, S = A + 1 := ⟨_, rfl⟩
  rw [← hA] at hR1 hP2
  rw [← hS] at hP2
  have HR1 := Lib.hid hR1
  have HP := Lib.hid hP2
  have HB1 := Lib.hid hb2
  clear hR1 hP hP2 hb1 hb2 HR HB0 hs0 hsz0 hs1
  go_wp2_with fail
  rw [← hA, ← hS]
  clear hA hS
  go_loopw [7] (fun i wr => ∃ k : Nat, k ≤ 6 ∧ i = .int .i64 k ∧ (∀ j, j < k → partOk x j = true) ∧ Below w1.heap.size w1 wr) (fun i _ => 6 - (intOf i).toNat)
  case atStart => exact ⟨0, by omega, rfl, fun j hj => by omega, Below.refl _ _⟩
  case round =>
    obtain ⟨k, hk, rfl, hok, hb⟩ := hrel
    have HOk := Lib.hid hok
    have HB := Lib.hid hb
    have hsz := hb.size
    have hR := HR1.out.same hb
    have hP := HP.out.same hb
    clear hok hb
    by_cases hlt : k < 6
    · obtain ⟨c0, c1, c2, c3, c4⟩ := hP.cells k hlt
      have d0 := hR.cell k hlt
      clear hR hP
      have i1 : (0 : Int) ≤ (k : Int) := by omega
      obtain ⟨v, hv⟩ : ∃ v, v = fld x k := ⟨_, rfl⟩
      obtain ⟨a, ha⟩ : ∃ a, a = lst k := ⟨_, rfl⟩
      obtain ⟨z, hz⟩ : ∃ z, z = grt k := ⟨_, rfl⟩
      obtain ⟨p1, hp1⟩ : ∃ p1, p1 = wd k := ⟨_, rfl⟩
      obtain ⟨p2, hp2⟩ : ∃ p2, p2 = sft k := ⟨_, rfl⟩
      have hpo : partOk x k = decide (a ≤ v ∧ v ≤ z) := by rw [hv, ha, hz]; rfl
      rw [← hv] at d0
      rw [← hp1] at c1
      rw [← hp2] at c2
      rw [← ha] at c3
      rw [← hz] at c4
      have HPO := Lib.hid hpo
      clear hv ha hz hp1 hp2 hpo
      go_wp2_with fail
      obtain ⟨W1, hW1⟩ : ∃ W1, W1 = wr.alloc (.cells #[.pointer (some ⟨A, k, none⟩), .int .i64 p1, .int .i64 p2, .int .i64 a, .int .i64 z] 109) := ⟨_, rfl⟩
      have hbW : Below wr.heap.size wr W1 := by rw [hW1]; exact (Below.refl _ _).alloc (Nat.le_refl _) _
      have hbw : Below w1.heap.size w1 W1 := HB.out.trans (hbW.mono HB.out.size)
      have q := fun j => cell_new wr #[.pointer (some ⟨A, k, none⟩), .int .i64 p1, .int .i64 p2, .int .i64 a, .int .i64 z] 109 j
      rw [← hW1] at q ⊢
      have q0 := q 0
      have q1 := q 1
      have q2 := q 2
      have q3 := q 3
      have q4 := q 4
      simp only [List.getElem?_toArray, List.getElem?_cons_zero, List.getElem?_cons_succ] at q0 q1 q2 q3 q4
      have z0 := cell_keep hbW d0
      have HBW := Lib.hid hbw
      clear hW1 q hbW hbw c0 c1 c2 c3 c4 d0 HB
      by_cases h1 : v < a
      · have he : er = 1 := by rw [HE.out, errOf, rqOk_part hlt (by rw [HPO.out]; simp; omega)]; rfl
        have hd1 : decide (v < a) = true := by simpa using h1
        subst he
        clear h1
        go_quiet (fail)
        go_wp2
        go_ret
        exact ⟨rfl, HB1.out.trans (below_drewN (HBW.out.mono HB1.out.size) _)⟩
      · have hd1 : decide (v < a) = false := by simpa using h1
        by_cases h2 : z < v
        · have he : er = 1 := by rw [HE.out, errOf, rqOk_part hlt (by rw [HPO.out]; simp; omega)]; rfl
          have hd2 : decide (z < v) = true := by simpa using h2
          subst he
          clear h1 h2
          go_quiet (fail)
          go_wp2
          go_ret
          exact ⟨rfl, HB1.out.trans (below_drewN (HBW.out.mono HB1.out.size) _)⟩
        · have hd2 : decide (z < v) = false := by simpa using h2
          have HNew := Lib.hid (show partOk x k = true by rw [HPO.out]; simp; omega)
          clear h1 h2
          go_quiet (fail)
          go_wp2
          exact ⟨⟨k + 1, by omega, by go_num, fun j hj => by
            by_cases hjk : j = k
            · rw [hjk]; exact HNew.out
            · exact HOk.out j (by omega), below_drewN HBW.out _⟩, by simp only [intOf]; omega⟩
    · obtain rfl : k = 6 := by omega
      have b1 : wr.cell? ⟨A, 1, none⟩ = some (.int .i64 x.frm) := IsObj.cell hR 1
      have b2 : wr.cell? ⟨A, 2, none⟩ = some (.int .i64 x.tto) := IsObj.cell hR 2
      clear hR hP
      cases hf : x.frm == x.tto with
      | true =>
        have he : er = 1 := by rw [HE.out, errOf, rqOk_same hf]; rfl
        subst he
        go_wp2
        go_ret
        exact ⟨rfl, HB1.out.trans (HB.out.mono HB1.out.size)⟩
      | false =>
        have he : er = 0 := by rw [HE.out, errOf, rqOk_all HOk.out hf]; rfl
        subst he
        go_wp2
        go_ret
        exact ⟨rfl, HB1.out.trans (HB.out.mono HB1.out.size)⟩

/-! ### The document's Check -/
theorem rqOk_iff (x : Rq) : rqOk x = true ↔ ((0 ≤ x.id ∧ x.id ≤ 281474976710655) ∧ (-1 ≤ x.frm ∧ x.frm ≤ 7) ∧ (0 ≤ x.tto ∧ x.tto ≤ 7) ∧ (0 ≤ x.lev ∧ x.lev ≤ 127) ∧ (0 ≤ x.dl ∧ x.dl ≤ 1099511627776) ∧ (0 ≤ x.bud ∧ x.bud ≤ 65535) ∧ x.frm ≠ x.tto) := by
  unfold rqOk partOk
  simp only [Bool.and_eq_true, decide_eq_true_eq, Bool.not_eq_true', beq_eq_false_iff_ne, ne_eq]
  show (((((((0 ≤ x.id ∧ x.id ≤ 281474976710655) ∧ (-1 ≤ x.frm ∧ x.frm ≤ 7)) ∧ (0 ≤ x.tto ∧ x.tto ≤ 7)) ∧ (0 ≤ x.lev ∧ x.lev ≤ 127)) ∧ (0 ≤ x.dl ∧ x.dl ≤ 1099511627776)) ∧ (0 ≤ x.bud ∧ x.bud ≤ 65535)) ∧ ¬ x.frm = x.tto) ↔ _
  constructor
  · rintro ⟨⟨⟨⟨⟨⟨h1, h2⟩, h3⟩, h4⟩, h5⟩, h6⟩, h7⟩
    exact ⟨h1, h2, h3, h4, h5, h6, h7⟩
  · rintro ⟨h1, h2, h3, h4, h5, h6, h7⟩
    exact ⟨⟨⟨⟨⟨⟨h1, h2⟩, h3⟩, h4⟩, h5⟩, h6⟩, h7⟩
set_option maxRecDepth 100000 in
set_option maxHeartbeats 1000000 in
theorem rcheck_any (x : Rq) (w : World) : Calls Tryz.prog 45 #[rqV x] w fun e w' => e = .returned (.int .i64 (errOf x)) ∧ Below w.heap.size w w' := by
  have hi := rqOk_iff x
  unfold errOf
  by_cases hk : rqOk x = true
  · rw [if_pos hk]
    have h := hi.1 hk
    clear hi hk
    obtain ⟨⟨a1, a2⟩, ⟨b1, b2⟩, ⟨c1, c2⟩, ⟨d1, d2⟩, ⟨e1, e2⟩, ⟨f1, f2⟩, g1⟩ := h
    have hg : (x.tto == x.frm) = false := by simp; omega
    clear g1
    go_enter Tryz.func45, Tryz.ntmps45
    go_wp2
    go_ret
    exact ⟨rfl, (Below.refl _ _).alloc (Nat.le_refl _) _⟩
  · rw [if_neg hk]
    have h : ¬ ((0 ≤ x.id ∧ x.id ≤ 281474976710655) ∧ (-1 ≤ x.frm ∧ x.frm ≤ 7) ∧ (0 ≤ x.tto ∧ x.tto ≤ 7) ∧ (0 ≤ x.lev ∧ x.lev ≤ 127) ∧ (0 ≤ x.dl ∧ x.dl ≤ 1099511627776) ∧ (0 ≤ x.bud ∧ x.bud ≤ 65535) ∧ x.frm ≠ x.tto) := fun h => hk (hi.2 h)
    have HH := Lib.hid h
    clear hi hk h
    go_enter Tryz.func45, Tryz.ntmps45
    go_wp2
    all_goals first
      | (go_ret
         exact ⟨rfl, (Below.refl _ _).alloc (Nat.le_refl _) _⟩)
      | (exfalso
         have h := HH.out
         simp only [beq_eq_false_iff_ne, ne_eq, not_and] at *
         omega)
end Go.Proofs.YtobcjbpgeohbgaaGreatDoor
