/-
  Rows of numbers, each in so many bytes: the document's Row and Numbers.
-/
import Derived.Test.YtobcjbpgeohbgaaGreatDoorForm
namespace Go.Proofs.YtobcjbpgeohbgaaGreatDoor
open Go.RowKit
set_option linter.unusedVariables false

set_option maxRecDepth 100000 in
set_option maxHeartbeats 1000000 in
theorem rowN_any (W : Nat → Nat) (v : Nat → Int) (n : Nat) (hn : n ≤ 40) (hnum : ∀ k, k < n → numOk (v k) (W k : Int) = true) (b1 o1 c1 b2 : Nat) (w : World) (h1 : ∀ k, k < n → w.cell? ⟨b1, o1 + k, none⟩ = some (.int .i64 (v k))) (h2 : ∀ k, k < n → w.cell? ⟨b2, k, none⟩ = some (.int .i64 (W k : Int))) (h0 : 0 < n) :
    Calls Tryz.prog 76 #[.slice (some ⟨b1, o1, none⟩) n c1, .slice (some ⟨b2, 0, none⟩) n n] w fun e w' => e = .returned (.string (ofL (encN W v n))) ∧ Below w.heap.size w w' := by
  have H1 := Lib.hid h1
  have H2 := Lib.hid h2
  have HPN := Lib.hid hnum
  have l1 := cell_lt (h1 0 h0)
  have l2 := cell_lt (h2 0 h0)
  simp only at l1 l2
  clear h1 h2 hnum
  go_enter Tryz.func76, Tryz.ntmps76
  go_wp2
  go_loopw [5, 6] (fun s i wr => ∃ k : Nat, k ≤ n ∧ i = .int .i64 k ∧ s = .string (ofL (encN W v k)) ∧ Below w.heap.size w wr) (fun _ i _ => n - (intOf i).toNat)
  case atStart => exact ⟨0, by omega, rfl, rfl, Below.refl _ _⟩
  case round =>
    obtain ⟨k, hk, rfl, rfl, hb⟩ := hrel
    have HB := Lib.hid hb
    have hsz := hb.size
    clear hb
    by_cases hlt : k < n
    · have c0 := cell_keep HB.out (H1.out k hlt)
      have c1 := cell_keep HB.out (H2.out k hlt)
      have m1 : b1 < wr.heap.size := by omega
      have m2 : b2 < wr.heap.size := by omega
      have i1 : (0 : Int) ≤ (k : Int) := by omega
      have i2 : (k : Int) < (n : Int) := by omega
      have hnk := HPN.out k hlt
      obtain ⟨W0, eW, q1, q6, q0, qn⟩ := numOk_ok hnk
      have hv63 : v k ≤ 9223372036854775807 := by
        have := pow6 W0 q6
        omega
      have P := fun w => rnum_is (v k) (W k : Int) w true hv63 hnk
      have hS : numS (v k) (W k : Int) = ofL (beB (v k) (W k)) := by
        unfold numS
        rw [if_neg (by omega), Int.toNat_natCast]
      rw [hS] at P
      have happ := append_ofL (ofL (encN W v k)) (beB (v k) (W k))
      rw [bl_ofL, show encN W v k ++ beB (v k) (W k) = encN W v (k + 1) from rfl] at happ
      have hl0 : ∀ j, j ≤ n → posN W j ≤ 6 * j := by
        intro j
        induction j with
        | zero => intro _; exact Nat.le_refl _
        | succ j ih =>
          intro hj
          obtain ⟨W1, e1, _, r6, _, _⟩ := numOk_ok (HPN.out j (by omega))
          have := ih (by omega)
          rw [posN_succ]
          omega
      have hl1 : (ofL (encN W v k)).size ≤ 240 := by
        rw [← bl_len, bl_ofL, encN_len]
        have := hl0 k hk
        omega
      have hl2 : (ofL (beB (v k) (W k))).size ≤ 6 := by
        rw [← bl_len, bl_ofL, beB_len]
        omega
      have HP := Lib.hid P
      have HApp := Lib.hid happ
      clear P hS happ hnk hl0 eW q1 q6 q0 qn hv63
      generalize hq2 : ofL (encN W v (k + 1)) = s2 at *
      have HQ2 := Lib.hid hq2
      clear hq2
      generalize ofL (encN W v k) = s1 at *
      generalize ofL (beB (v k) (W k)) = t at *
      generalize v k = vk at *
      generalize (W k : Int) = p at *
      go_wp2_with fail
      ((first | (with_reducible refine region_ext2 (by kernel_rfl) (by kernel_rfl) ?_) | (refine region_ext (by kernel_rfl) (by kernel_rfl) ?_)); (repeat ((with_reducible refine wpQuiet_step (fun K hK => ?_)); go_simp; (first | ((refine hK _ ?_); clear hK K) | ((apply Exists.intro); (refine ⟨fun _ => ?_, hK _ ?_⟩); (first | (go_at_call 77; with_reducible exact ext_below (HP.out _))); clear hK K)))); refine wpQuiet_nil ?_; rintro _ ⟨uq, rfl⟩)
      go_wp2
      exact ⟨⟨k + 1, by omega, by go_num, by rw [HApp.out, HQ2.out], below_ext _ HB.out hsz⟩, by simp only [intOf]; omega⟩
    · obtain rfl : k = n := by omega
      go_wp2
      go_ret
      exact ⟨rfl, HB.out⟩

theorem info_int : (Tryz.prog.info? 3).map (fun i => (i.zero, i.size, i.bytes)) = some (some (.int .i64 0), 1, 8) := by kernel_rfl
set_option maxRecDepth 100000 in
set_option maxHeartbeats 1000000 in
theorem numbersN_any (W : Nat → Nat) (n : Nat) (hn : n ≤ 40) (hWr : ∀ k, k < n → 1 ≤ W k ∧ W k ≤ 6) (s : ByteArray) (b : Nat) (w : World) (hs : s.size ≤ 2147483648) (hlen : posN W n ≤ s.size) (hW : ∀ k, k < n → w.cell? ⟨b, k, none⟩ = some (.int .i64 (W k : Int))) :
    Calls Tryz.prog 43 #[.string s, .slice (some ⟨b, 0, none⟩) n n] w fun e w' => ∃ v, e = .returned v ∧ Ints w' v (listN (decN W s) n) ∧ Below w.heap.size w w' := by
  obtain ⟨i0, hi, hz0, hz1, hz2⟩ := info_parts info_int
  have HW := Lib.hid hW
  have HR := Lib.hid hWr
  clear hW hWr
  go_enter Tryz.func43, Tryz.ntmps43
  go_wp2
  go_loopw [0, 5, 6] (fun sv v i wr => ∃ k : Nat, k ≤ n ∧ i = .int .i64 k ∧ sv = .string (s.extract (posN W k) s.size) ∧ wr.ownsRow w.heap.size 3 1 v (listN (decN W s) k).length ((listN (decN W s) k).map (Value.int .i64)) ∧ Below w.heap.size w wr) (fun _ _ i _ => n - (intOf i).toNat)
  case atStart => exact ⟨0, by omega, rfl, by rw [show posN W 0 = 0 from rfl, extract_wholeN s], World.ownsRow_nil _ _ _ _, Below.refl _ _⟩
  case round =>
    obtain ⟨k, hk, rfl, rfl, hown, hb⟩ := hrel
    have HO := Lib.hid hown
    have HB := Lib.hid hb
    have hsz := hb.size
    have hlen2 := listN_len (decN W s) k
    clear hown hb
    by_cases hlt : k < n
    · have c0 := cell_keep HB.out (HW.out k hlt)
      have hbw := cell_lt (HW.out k hlt)
      simp only at hbw
      have hp1 := posN_le W (show k + 1 ≤ n by omega)
      have hp := posN_succ W k
      obtain ⟨g1', g2'⟩ := HR.out k hlt
      have i1 : (0 : Int) ≤ (k : Int) := by omega
      have i2 : (k : Int) < (n : Int) := by omega
      have hsz2 : (s.extract (posN W k) s.size).size = s.size - posN W k := by rw [ByteArray.size_extract]; omega
      have e1 : (s.extract (posN W k) s.size).extract 0 (W k) = s.extract (posN W k) (posN W (k + 1)) := by rw [extract_extractN s _ _ (by omega), ← hp]
      have e2 : (s.extract (posN W k) s.size).extract (W k) (s.extract (posN W k) s.size).size = s.extract (posN W (k + 1)) s.size := by rw [extract_tailN s _ _ (by omega), ← hp]
      have hle : (W k : Int) ≤ ((s.extract (posN W k) s.size).size : Int) := by rw [hsz2]; omega
      have hof := fun w => rof_any (s.extract (posN W k) (posN W (k + 1))) w (by rw [ByteArray.size_extract]; omega)
      have HOf := Lib.hid hof
      have HL := Lib.hid (show listN (decN W s) (k + 1) = listN (decN W s) k ++ [numOf (bl (s.extract (posN W k) (posN W (k + 1))))] from rfl)
      generalize s.extract (posN W k) (posN W (k + 1)) = seg at *
      generalize hr2 : s.extract (posN W (k + 1)) s.size = r2 at *
      have HR2 := Lib.hid hr2
      generalize s.extract (posN W k) s.size = r at *
      rw [← Int.toNat_natCast (W k)] at e1 e2
      have p0 : (0 : Int) ≤ (W k : Int) := by omega
      generalize (W k : Int) = p at *
      generalize numOf (bl seg) = m at *
      clear hof hsz2 hr2 hp hp1
      go_wp2_with (first
        | (go_at_call 73; (with_reducible refine (HOf.out _).mono ?_); rintro e w' ⟨rfl, rfl⟩)
        | (at_builtin; refine wpList_append_one (by rfl) _ _ 84 (by rfl) w.heap.size 3 i0 (.int .i64 0) 1 8 Tryz.underlying84 hi hz0 hz1 hz2 rfl (by decide) _ _ _ _ (by rfl) HO.out (by rfl) (by rfl) (by rfl) (by omega) (by omega) hsz ?_; intro v' w1 hown1 hb1; have c1 := (hb1.cell (p := ⟨b, k, none⟩) hbw).trans c0))
      exact ⟨⟨k + 1, by omega, by go_num, by rw [HR2.out], by rw [HL.out]; simpa using hown1, HB.out.trans hb1⟩, by simp only [intOf]; omega⟩
    · obtain rfl : k = n := by omega
      go_wp2
      go_ret
      exact ⟨_, rfl, ints_of_own HO.out, HB.out⟩
end Go.Proofs.YtobcjbpgeohbgaaGreatDoor
