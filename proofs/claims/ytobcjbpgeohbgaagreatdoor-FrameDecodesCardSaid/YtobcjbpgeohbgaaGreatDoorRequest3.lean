/-
  Layer 24 (request): Put.
-/
import Derived.Test.YtobcjbpgeohbgaaGreatDoorRequest2
import Derived.Test.YtobcjbpgeohbgaaGreatDoorLaw02c
namespace Go.Proofs.YtobcjbpgeohbgaaGreatDoor
open Go.RowKit
set_option linter.unusedVariables false

/-- The bytes of the first k numbers. -/
def rqL (x : Rq) : Nat → List UInt8
  | 0 => []
  | k + 1 => rqL x k ++ beB (fld x k + sft k) (wd k).toNat
theorem wd_le (k : Nat) (h : k < 6) : (wd k).toNat ≤ 6 := by
  rcases lt6 h with rfl | rfl | rfl | rfl | rfl | rfl <;> decide
theorem rqL_len (x : Rq) : ∀ k, k ≤ 6 → (rqL x k).length ≤ 6 * k
  | 0, _ => Nat.le_refl _
  | k + 1, h => by
    have h1 := rqL_len x k (by omega)
    have h2 := wd_le k (by omega)
    unfold rqL
    rw [List.length_append, beB_len]
    omega
theorem part_num {x : Rq} (h : rqOk x = true) (k : Nat) (hk : k < 6) : numOk (fld x k + sft k) (wd k) = true := by
  obtain ⟨⟨a1, a2⟩, ⟨b1, b2⟩, ⟨c1, c2⟩, ⟨d1, d2⟩, ⟨e1, e2⟩, ⟨f1, f2⟩, g1⟩ := (rqOk_iff x).1 h
  simp only [numOk, decide_eq_true_eq]
  rcases lt6 hk with rfl | rfl | rfl | rfl | rfl | rfl
  · show (1 ≤ (6 : Int) ∧ (6 : Int) ≤ 6) ∧ 0 ≤ x.id + 0 ∧ x.id + 0 < 281474976710656
    omega
  · show (1 ≤ (1 : Int) ∧ (1 : Int) ≤ 6) ∧ 0 ≤ x.frm + 1 ∧ x.frm + 1 < 256
    omega
  · show (1 ≤ (1 : Int) ∧ (1 : Int) ≤ 6) ∧ 0 ≤ x.tto + 0 ∧ x.tto + 0 < 256
    omega
  · show (1 ≤ (1 : Int) ∧ (1 : Int) ≤ 6) ∧ 0 ≤ x.lev + 0 ∧ x.lev + 0 < 256
    omega
  · show (1 ≤ (6 : Int) ∧ (6 : Int) ≤ 6) ∧ 0 ≤ x.dl + 0 ∧ x.dl + 0 < 281474976710656
    omega
  · show (1 ≤ (2 : Int) ∧ (2 : Int) ≤ 6) ∧ 0 ≤ x.bud + 0 ∧ x.bud + 0 < 65536
    omega
theorem fld_rng {x : Rq} (h : rqOk x = true) (k : Nat) (hk : k < 6) : -1 ≤ fld x k ∧ fld x k ≤ 281474976710655 := by
  obtain ⟨⟨a1, a2⟩, ⟨b1, b2⟩, ⟨c1, c2⟩, ⟨d1, d2⟩, ⟨e1, e2⟩, ⟨f1, f2⟩, g1⟩ := (rqOk_iff x).1 h
  rcases lt6 hk with rfl | rfl | rfl | rfl | rfl | rfl
  · show -1 ≤ x.id ∧ x.id ≤ 281474976710655; omega
  · show -1 ≤ x.frm ∧ x.frm ≤ 281474976710655; omega
  · show -1 ≤ x.tto ∧ x.tto ≤ 281474976710655; omega
  · show -1 ≤ x.lev ∧ x.lev ≤ 281474976710655; omega
  · show -1 ≤ x.dl ∧ x.dl ≤ 281474976710655; omega
  · show -1 ≤ x.bud ∧ x.bud ≤ 281474976710655; omega
theorem sft_rng (k : Nat) (hk : k < 6) : 0 ≤ sft k ∧ sft k ≤ 1 := by
  rcases lt6 hk with rfl | rfl | rfl | rfl | rfl | rfl <;> decide

theorem qput_bad (x : Rq) (w : World) (h : rqOk x = false) : Calls Tryz.prog 127 #[rqV x] w fun e w' => e = .returned (.tuple #[.string ⟨#[]⟩, .int .i64 1]) ∧ Below w.heap.size w w' := by
  have HC := Lib.hid (fun w => check_any x w)
  unfold errOf at HC
  rw [h, if_neg (by decide)] at HC
  go_enter Tryz.func127, Tryz.ntmps127
  go_wp2_with fail
  refine (HC.out _).mono ?_
  rintro e w1 ⟨rfl, hb⟩
  go_wp2
  go_returns
  exact ⟨rfl, ((Below.refl _ _).alloc (Nat.le_refl _) _).trans (hb.mono (by simp))⟩

set_option maxRecDepth 100000 in
set_option maxHeartbeats 1000000 in
theorem qput_ok (x : Rq) (w : World) (h : rqOk x = true) : Calls Tryz.prog 127 #[rqV x] w fun e w' => e = .returned (.tuple #[.string (ofL (rqL x 6)), .int .i64 0]) ∧ Below w.heap.size w w' := by
  have HC := Lib.hid (fun w => check_any x w)
  unfold errOf at HC
  rw [h, if_pos rfl] at HC
  have HPN := Lib.hid (part_num h)
  have HFR := Lib.hid (fld_rng h)
  have hR := IsObj.new w 24 (rqCells x)
  have hB0 : Below w.heap.size w (w.alloc (.cells (rqCells x).toArray 24)) := (Below.refl _ _).alloc (Nat.le_refl _) _
  have HR := Lib.hid hR
  have HB0 := Lib.hid hB0
  have hs0 := hB0.size
  clear hR hB0 h
  go_enter Tryz.func127, Tryz.ntmps127
  go_wp2_with fail
  refine (HC.out _).mono ?_
  rintro e w1 ⟨rfl, hb1⟩
  have hR1 : RqAt w1 w.heap.size x := IsObj.below HR.out hb1 (by simp)
  have hB1 := HB0.out.trans (hb1.mono hs0)
  have hlt1 : w.heap.size < w1.heap.size := IsObj.lt hR1
  have HR1 := Lib.hid hR1
  have HB1 := Lib.hid hB1
  clear hR1 hB1 hb1 HR HB0 hs0 HC
  go_wp2_with fail
  refine (parts_any w.heap.size _).mono ?_
  rintro e w2 ⟨rfl, hP, hb2, hs2⟩
  have HR2 := Lib.hid (HR1.out.same hb2)
  have HB2 := Lib.hid (HB1.out.trans (hb2.mono HB1.out.size))
  have HP := Lib.hid hP
  clear hP hb2 HR1 HB1
  obtain ⟨A, hA⟩ : ∃ A, A = w.heap.size := ⟨_, rfl⟩
  obtain ⟨S, hS⟩ : ∃ S, S = w1.heap.size := ⟨_, rfl⟩
  rw [← hA] at HR2 HP
  rw [← hS] at HP ⊢
  go_wp2_with fail
  rw [← hA, ← hS]
  clear hA hS hlt1 hs2
  go_loopw [5, 15] (fun v i wr => ∃ k : Nat, k ≤ 6 ∧ i = .int .i64 k ∧ v = .string (ofL (rqL x k)) ∧ Below w2.heap.size w2 wr) (fun _ i _ => 6 - (intOf i).toNat)
  case atStart => exact ⟨0, by omega, rfl, rfl, Below.refl _ _⟩
  case round =>
    obtain ⟨k, hk, rfl, rfl, hb⟩ := hrel
    have HB := Lib.hid hb
    have hsz := hb.size
    have hR := HR2.out.same hb
    have hP := HP.out.same hb
    clear hb
    by_cases hlt : k < 6
    · obtain ⟨c0, c1, c2, c3, c4⟩ := hP.cells k hlt
      have d0 := hR.cell k hlt
      clear hR hP
      have i1 : (0 : Int) ≤ (k : Int) := by omega
      have hn := HPN.out k hlt
      obtain ⟨f1, f2⟩ := HFR.out k hlt
      obtain ⟨f3, f4⟩ := sft_rng k hlt
      have hlen : (ofL (rqL x k)).size ≤ 2147483648 := by
        rw [← bl_len, bl_ofL]
        have := rqL_len x k (by omega)
        omega
      have P := fun w => put_yes (ofL (rqL x k)) (fld x k + sft k) (wd k) w hlen hn
      have hwr : IntKind.i64.wrap (fld x k + sft k) = fld x k + sft k := IntWalk.i64_in _ (by omega)
      have hcat : ofL (bl (ofL (rqL x k)) ++ beB (fld x k + sft k) (wd k).toNat) = ofL (rqL x (k + 1)) := by rw [bl_ofL]; rfl
      rw [hcat] at P
      have HPut := Lib.hid P
      clear P hcat hlen hn
      generalize hq2 : ofL (rqL x (k + 1)) = s2 at *
      have HQ2 := Lib.hid hq2
      clear hq2
      generalize ofL (rqL x k) = s1 at *
      generalize fld x k = v at *
      generalize sft k = p2 at *
      generalize wd k = p1 at *
      generalize lst k = a at *
      generalize grt k = z at *
      go_wp2_with fail
      obtain ⟨W1, hW1⟩ : ∃ W1, W1 = wr.alloc (.cells #[.pointer (some ⟨A, k, none⟩), .int .i64 p1, .int .i64 p2, .int .i64 a, .int .i64 z] 109) := ⟨_, rfl⟩
      have hbW : Below wr.heap.size wr W1 := by rw [hW1]; exact (Below.refl _ _).alloc (Nat.le_refl _) _
      have hbw : Below w2.heap.size w2 W1 := HB.out.trans (hbW.mono HB.out.size)
      have q := fun j => cell_new wr #[.pointer (some ⟨A, k, none⟩), .int .i64 p1, .int .i64 p2, .int .i64 a, .int .i64 z] 109 j
      rw [← hW1] at q ⊢
      have q0 := q 0
      have q1 := q 1
      have q2 := q 2
      simp only [List.getElem?_toArray, List.getElem?_cons_zero, List.getElem?_cons_succ] at q0 q1 q2
      have z0 := cell_keep hbW d0
      have HBW := Lib.hid hbw
      have hl1 := cell_lt q0
      have hl2 := cell_lt z0
      have hszW := hbw.size
      simp only at hl1 hl2
      clear hW1 q hbW hbw c0 c1 c2 c3 c4 d0 HB
      ((first | (with_reducible refine region_ext2 (by kernel_rfl) (by kernel_rfl) ?_) | (refine region_ext (by kernel_rfl) (by kernel_rfl) ?_)); (repeat ((with_reducible refine wpQuiet_step (fun K hK => ?_)); go_simp; (first | ((refine hK _ ?_); clear hK K) | ((apply Exists.intro); (refine ⟨fun _ => ?_, hK _ ?_⟩); (first | (go_at_call 74; with_reducible exact ext_below (HPut.out _))); clear hK K)))); refine wpQuiet_nil ?_; rintro _ ⟨uq, rfl⟩)
      go_wp2
      exact ⟨⟨k + 1, by omega, by go_num, by rw [HQ2.out], below_ext _ HBW.out hszW⟩, by simp only [intOf]; omega⟩
    · obtain rfl : k = 6 := by omega
      clear hR hP
      go_wp2
      go_returns
      exact ⟨rfl, HB2.out.trans (HB.out.mono HB2.out.size)⟩
end Go.Proofs.YtobcjbpgeohbgaaGreatDoor
