/-
  The statement OctetReads of layer 2 (octet). No condition.
-/
import Derived.Test.YtmohgbnfhpffjaaLaw02
namespace Go.Proofs.Ytmohgbnfhpffjaa
open Go.RowKit
set_option linter.unusedVariables false

structure OA where
  kind : Int
  n : Int
instance : Inhabited OA := ⟨⟨0, 0⟩⟩
def oaCells (x : OA) : List Value := [.int .i64 x.kind, .int .i64 x.n]
theorem oaCells_len (x : OA) : (oaCells x).length = 2 := rfl
theorem oa_of (cs : List Value) (h : Fits [IsI .i64, IsI .i64] cs) : ∃ x : OA, cs = oaCells x ∧ x.n ≤ 9223372036854775807 := by
  obtain ⟨_, _, rfl, ⟨a, rfl, _⟩, h0⟩ := fits_cons h
  obtain ⟨_, _, rfl, ⟨b, rfl, hb⟩, h1⟩ := fits_cons h0
  obtain rfl := fits_nil h1
  exact ⟨⟨a, b⟩, rfl, i64_le hb⟩
theorem extract_le (s : ByteArray) (a b : Nat) : (s.extract a b).size ≤ s.size := by
  rw [ByteArray.size_extract]
  omega
theorem takeB_le (s : ByteArray) (n : Int) : (takeB s n).rest.size ≤ s.size := by
  unfold takeB
  split
  · split
    · exact Nat.le_refl _
    · exact extract_le _ _ _
  · exact Nat.le_refl _
theorem cutB_le (s : ByteArray) (n : Int) : (cutB s n).rest.size ≤ s.size := by
  unfold cutB
  split
  · exact Nat.le_refl _
  · split
    · exact Nat.le_refl _
    · exact extract_le _ _ _

set_option maxRecDepth 100000 in
set_option maxHeartbeats 4000000 in
theorem reads_walk (s : ByteArray) (a : Option Addr) (c : Nat) (l : List OA) (w : World) (hs : s.size ≤ maxLen) (g1 : l.length ≤ c) (g2 : c ≤ 9223372036854775807) (hA : RowOf oaCells 2 w a l) : Calls Try.prog 4 #[.string s, .slice a l.length c] w fun e w' => e = .returned (.bool true) ∧ Below w.heap.size w w' := by
  have HA := Lib.hid hA
  clear hA
  by_cases hl : 500 < s.size ∨ 60 < l.length
  · have hd : decide ((500 : Int) < (s.size : Int)) = true ∨ (decide ((500 : Int) < (s.size : Int)) = false ∧ decide ((60 : Int) < (l.length : Int)) = true) := by
      simp; omega
    rcases hd with hd | ⟨hd, hd2⟩
    all_goals
      go_enter Try.func4, Try.ntmps4
      go_wp2_with (go_at_call 12; refine (awake02 _).mono ?_; rintro e w1 ⟨rfl, hb⟩)
      go_ret
      exact ⟨rfl, hb⟩
  · have hd : decide ((500 : Int) < (s.size : Int)) = false := by simp; omega
    have hd2 : decide ((60 : Int) < (l.length : Int)) = false := by simp; omega
    have hs5 : s.size ≤ 500 := by omega
    have l1 : l.length ≤ 60 := by omega
    clear hl hs
    go_enter Try.func4, Try.ntmps4
    go_wp2_with fail
    refine (read_any _ _).mono ?_
    rintro e w1 ⟨rfl, hC, hb, hs1⟩
    have HC := Lib.hid hC
    have HB := Lib.hid hb
    clear hC hb
    go_wp2_with fail
    have hR : RCurAt (w1.alloc (.cells #[.string s] 32)) w1.heap.size s := IsObj.new w1 _ [.string s]
    have hCB : CurAt (w1.alloc (.cells #[.string s] 32)) w.heap.size s := HC.out.alloc _
    have hBB : Below w.heap.size w (w1.alloc (.cells #[.string s] 32)) := HB.out.alloc HB.out.size _
    obtain ⟨W1, hW1⟩ : ∃ W1, W1 = w1.alloc (.cells #[.string s] 32) := ⟨_, rfl⟩
    obtain ⟨X, hX⟩ : ∃ X, X = w1.heap.size := ⟨_, rfl⟩
    rw [← hX] at hR ⊢
    rw [← hW1] at hR hCB hBB ⊢
    have hAX : w.heap.size < X := by omega
    have HR := Lib.hid hR
    have HC1 := Lib.hid hCB
    have HB1 := Lib.hid hBB
    clear hR hCB hBB hW1 hX HC HB hs1 hd hd2
    go_loopw [8] (fun i wr => ∃ (k : Nat) (r : ByteArray), k ≤ l.length ∧ i = .int .i64 k ∧ r.size ≤ 500 ∧ CurAt wr w.heap.size r ∧ RCurAt wr X r ∧ Below w.heap.size w wr) (fun i _ => l.length - (intOf i).toNat)
    case atStart => exact ⟨0, s, Nat.zero_le _, rfl, hs5, HC1.out, HR.out, HB1.out⟩
    case round =>
      obtain ⟨k, r, hk, rfl, hr, hC, hR, hb⟩ := hrel
      have HC := Lib.hid hC
      have HRr := Lib.hid hR
      have HB := Lib.hid hb
      have hsz := hb.size
      have hr2 : r.size ≤ 2147483648 := by omega
      clear hC hR hb HC1 HR HB1
      by_cases hlt : k < l.length
      · obtain ⟨b, off, rfl, hc⟩ : ∃ b off, a = some ⟨b, off, none⟩ ∧ ∀ j, j < 2 → w.cell? ⟨b, off + k * 2 + j, none⟩ = (oaCells (nth l k))[j]? := by
          rcases HA.out with rfl | ⟨b, off, rfl, hc⟩
          · simp at hlt
          · exact ⟨b, off, rfl, hc k hlt⟩
        have p0 : w.cell? ⟨b, off + k * 2, none⟩ = some (.int .i64 (nth l k).kind) := hc 0 (by omega)
        have p1 : w.cell? ⟨b, off + k * 2 + 1, none⟩ = some (.int .i64 (nth l k).n) := hc 1 (by omega)
        have hbl := cell_lt p0
        simp only at hbl
        have c0 := cell_keep HB.out p0
        have c1 := cell_keep HB.out p1
        have i1 : (0 : Int) ≤ (k : Int) := by omega
        have i2 : (k : Int) < (l.length : Int) := by omega
        obtain ⟨x, hx⟩ : ∃ x, x = nth l k := ⟨_, rfl⟩
        rw [← hx] at c0 c1
        clear hc p0 p1 hx
        by_cases h0 : x.kind = 0
        · have hb0 : (x.kind == 0) = true := by simp [h0]
          clear h0
          go_wp2_with fail
          refine (take_any _ _ _ _ HC.out hr2).mono ?_
          rintro e w2 ⟨rfl, hC2, hO2⟩
          have d0 := hO2.keep c0 (by simp; omega)
          have d1 := hO2.keep c1 (by simp; omega)
          have hR2 := HRr.out.only hO2 (by omega)
          have hB2 := HB.out.trans (hO2.below (Nat.le_refl _) hsz)
          have HC2 := Lib.hid hC2
          have HR2 := Lib.hid hR2
          have HB2 := Lib.hid hB2
          clear hC2 hO2 hR2 hB2 c0 c1 HC HRr HB
          go_wp2_with fail
          refine (rtake_any _ _ _ _ HR2.out hr2).mono ?_
          rintro e w3 ⟨rfl, hR3, hO3⟩
          have hC3 := HC2.out.only hO3 (by omega)
          have hB3 := HB2.out.trans (hO3.below (by omega) HB2.out.size)
          have HC3 := Lib.hid hC3
          have HR3 := Lib.hid hR3
          have HB3 := Lib.hid hB3
          have hle := takeB_le r x.n
          clear hC3 hO3 hR3 hB3 d0 d1 HC2 HR2 HB2
          generalize takeB r x.n = t at *
          obtain ⟨tn, te, tr⟩ := t
          simp only at hle HC3 HR3 ⊢
          have z0 : w3.cell? ⟨X, 0, none⟩ = some (.string tr) := HR3.out.cell 0
          go_wp2_with (first | (go_at_call 16; (with_reducible refine (take_nil _ _ (by omega) (by omega)).mono ?_); rintro e w' ⟨rfl, rfl⟩))
          go_quiet ((first | (go_at_call 20; first | (with_reducible exact quiet_left (cleft_any _ _ _ (HC3.out.drewN _))) | (with_reducible exact quiet_add_left (cleft_any _ _ _ (HC3.out.drewN _)))) | (go_at_call 21; first | (with_reducible exact quiet_left (rest_any _ _ _ (HC3.out.drewN _))) | (with_reducible exact quiet_add_left (rest_any _ _ _ (HC3.out.drewN _)))) | (go_at_call 20; first | (with_reducible exact quiet_left (left_nil _)) | (with_reducible exact quiet_add_left (left_nil _))) | (go_at_call 21; first | (with_reducible exact quiet_left (rest_nil _)) | (with_reducible exact quiet_add_left (rest_nil _)))))
          go_wp2
          exact ⟨⟨k + 1, tr, by omega, by go_num, by omega, HC3.out.drewN _, HR3.out.drewN _, below_drewN HB3.out _⟩, by simp only [intOf]; omega⟩
        · have hb0 : (x.kind == 0) = false := by simp [h0]
          clear h0
          by_cases h1 : x.kind = 1
          · have hb1 : (x.kind == 1) = true := by simp [h1]
            clear h1
            go_wp2_with fail
            refine (bytes_any _ _ _ _ HC.out hr2).mono ?_
            rintro e w2 ⟨rfl, hC2, hO2⟩
            have d0 := hO2.keep c0 (by simp; omega)
            have d1 := hO2.keep c1 (by simp; omega)
            have hR2 := HRr.out.only hO2 (by omega)
            have hB2 := HB.out.trans (hO2.below (Nat.le_refl _) hsz)
            have HC2 := Lib.hid hC2
            have HR2 := Lib.hid hR2
            have HB2 := Lib.hid hB2
            clear hC2 hO2 hR2 hB2 c0 c1 HC HRr HB
            go_wp2_with fail
            refine (rbytes_any _ _ _ _ HR2.out hr2).mono ?_
            rintro e w3 ⟨rfl, hR3, hO3⟩
            have hC3 := HC2.out.only hO3 (by omega)
            have hB3 := HB2.out.trans (hO3.below (by omega) HB2.out.size)
            have HC3 := Lib.hid hC3
            have HR3 := Lib.hid hR3
            have HB3 := Lib.hid hB3
            have hle := cutB_le r x.n
            clear hC3 hO3 hR3 hB3 d0 d1 HC2 HR2 HB2
            generalize cutB r x.n = t at *
            obtain ⟨tn, te, tr⟩ := t
            simp only at hle HC3 HR3 ⊢
            have z0 : w3.cell? ⟨X, 0, none⟩ = some (.string tr) := HR3.out.cell 0
            go_wp2_with (first | fail)
            go_quiet ((first | (go_at_call 20; first | (with_reducible exact quiet_left (cleft_any _ _ _ (HC3.out.drewN _))) | (with_reducible exact quiet_add_left (cleft_any _ _ _ (HC3.out.drewN _)))) | (go_at_call 21; first | (with_reducible exact quiet_left (rest_any _ _ _ (HC3.out.drewN _))) | (with_reducible exact quiet_add_left (rest_any _ _ _ (HC3.out.drewN _)))) | (go_at_call 20; first | (with_reducible exact quiet_left (left_nil _)) | (with_reducible exact quiet_add_left (left_nil _))) | (go_at_call 21; first | (with_reducible exact quiet_left (rest_nil _)) | (with_reducible exact quiet_add_left (rest_nil _)))))
            go_wp2
            exact ⟨⟨k + 1, tr, by omega, by go_num, by omega, HC3.out.drewN _, HR3.out.drewN _, below_drewN HB3.out _⟩, by simp only [intOf]; omega⟩
          · have hb1 : (x.kind == 1) = false := by simp [h1]
            have z0 : wr.cell? ⟨X, 0, none⟩ = some (.string r) := HRr.out.cell 0
            clear h1
            go_wp2_with fail
            go_quiet ((first | (go_at_call 20; first | (with_reducible exact quiet_left (cleft_any _ _ _ (HC.out.drewN _))) | (with_reducible exact quiet_add_left (cleft_any _ _ _ (HC.out.drewN _)))) | (go_at_call 21; first | (with_reducible exact quiet_left (rest_any _ _ _ (HC.out.drewN _))) | (with_reducible exact quiet_add_left (rest_any _ _ _ (HC.out.drewN _)))) | (go_at_call 20; first | (with_reducible exact quiet_left (left_nil _)) | (with_reducible exact quiet_add_left (left_nil _))) | (go_at_call 21; first | (with_reducible exact quiet_left (rest_nil _)) | (with_reducible exact quiet_add_left (rest_nil _)))))
            go_wp2
            exact ⟨⟨k + 1, r, by omega, by go_num, by omega, HC.out.drewN _, HRr.out.drewN _, below_drewN HB.out _⟩, by simp only [intOf]; omega⟩
      · go_wp2_with (go_at_call 12; refine (awake02 _).mono ?_; rintro e w5 ⟨rfl, hb5⟩)
        go_ret
        exact ⟨rfl, HB.out.trans (hb5.mono hsz)⟩

theorem opens_oa {W : World} : Opens Try.prog W 34 [IsI .i64, IsI .i64] :=
  opens_struct (ss := [[IsI .i64], [IsI .i64]]) Try.underlying34 (by kernel_rfl)
    ⟨rfl, by kernel_rfl, opens_int Try.underlying3, rfl, by kernel_rfl, opens_int Try.underlying3, trivial⟩
theorem reads_done : Walk 4 Try.f4 := by
  intro W args hs hc
  rw [Try.params4] at hs hc
  obtain ⟨l⟩ := args
  match l, hs with
  | [v0, v1], _ =>
    obtain ⟨s, rfl, hsz⟩ := came_string Try.underlying9 (hc 0 9 v0 rfl rfl)
    obtain ⟨a, c, l, rfl, g1, g2, _, hl⟩ := row_of_sl (k := 2) (cells := oaCells) (fun x => x.n ≤ 9223372036854775807) (by omega) oa_of (came_slice Try.underlying27 (ps := [IsI .i64, IsI .i64]) (by kernel_rfl) opens_oa (hc 1 27 v1 rfl rfl))
    exact reads_walk s a c l W hsz g1 g2 hl
end Go.Proofs.Ytmohgbnfhpffjaa
