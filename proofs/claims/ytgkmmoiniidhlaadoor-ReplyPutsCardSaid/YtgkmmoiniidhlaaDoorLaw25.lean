/-
  The statements ReplyPuts, ReplyGets and ReplyBack of layer 25 (reply). No condition.
-/
import Derived.Test.YtgkmmoiniidhlaaDoorReply5
namespace Go.Proofs.YtgkmmoiniidhlaaDoor
open Go.RowKit
set_option linter.unusedVariables false

abbrev sh7 : List (Value → Prop) := [IsI .i64, IsI .i64, IsI .i64, IsI .i64, IsI .i64, IsI .i64, IsI .i64]
abbrev sh6 : List (Value → Prop) := [IsI .i64, IsI .i64, IsI .i64, IsI .i64, IsI .i64, IsI .i64]
theorem rp_of (cs : List Value) (h : Fits sh7 cs) : ∃ x : Rp, cs = rpCells x := by
  obtain ⟨_, _, rfl, ⟨v0, rfl, _⟩, h0⟩ := fits_cons h
  obtain ⟨_, _, rfl, ⟨v1, rfl, _⟩, h1⟩ := fits_cons h0
  obtain ⟨_, _, rfl, ⟨v2, rfl, _⟩, h2⟩ := fits_cons h1
  obtain ⟨_, _, rfl, ⟨v3, rfl, _⟩, h3⟩ := fits_cons h2
  obtain ⟨_, _, rfl, ⟨v4, rfl, _⟩, h4⟩ := fits_cons h3
  obtain ⟨_, _, rfl, ⟨v5, rfl, _⟩, h5⟩ := fits_cons h4
  obtain ⟨_, _, rfl, ⟨v6, rfl, _⟩, h6⟩ := fits_cons h5
  obtain rfl := fits_nil h6
  exact ⟨⟨v0, v1, v2, v3, v4, v5, v6⟩, rfl⟩
theorem opens_rp {W : World} : Opens Tryd.prog W 24 sh7 :=
  opens_struct (ss := [[IsI .i64], [IsI .i64], [IsI .i64], [IsI .i64], [IsI .i64], [IsI .i64], [IsI .i64]]) Tryd.underlying24 (by kernel_rfl)
    ⟨rfl, by kernel_rfl, opens_int Tryd.underlying3, rfl, by kernel_rfl, opens_int Tryd.underlying3, rfl, by kernel_rfl, opens_int Tryd.underlying3, rfl, by kernel_rfl, opens_int Tryd.underlying3, rfl, by kernel_rfl, opens_int Tryd.underlying3, rfl, by kernel_rfl, opens_int Tryd.underlying3, rfl, by kernel_rfl, opens_int Tryd.underlying3, trivial⟩
theorem came_rp {W : World} {v : Value} (h : Came Tryd.prog W 24 v) : ∃ x : Rp, v = rpV x := by
  obtain ⟨l0, rfl, f0⟩ := came_struct Tryd.underlying24 opens_rp h
  obtain ⟨x, rfl⟩ := rp_of l0 f0
  exact ⟨x, rfl⟩
theorem opens_rq {W : World} : Opens Tryd.prog W 40 sh6 :=
  opens_struct (ss := [[IsI .i64], [IsI .i64], [IsI .i64], [IsI .i64], [IsI .i64], [IsI .i64]]) Tryd.underlying40 (by kernel_rfl)
    ⟨rfl, by kernel_rfl, opens_int Tryd.underlying3, rfl, by kernel_rfl, opens_int Tryd.underlying3, rfl, by kernel_rfl, opens_int Tryd.underlying3, rfl, by kernel_rfl, opens_int Tryd.underlying3, rfl, by kernel_rfl, opens_int Tryd.underlying3, rfl, by kernel_rfl, opens_int Tryd.underlying3, trivial⟩
theorem rq6_of (cs : List Value) (h : Fits sh6 cs) : ∃ a b c d e f : Int, cs = [.int .i64 a, .int .i64 b, .int .i64 c, .int .i64 d, .int .i64 e, .int .i64 f] := by
  obtain ⟨_, _, rfl, ⟨v0, rfl, _⟩, h0⟩ := fits_cons h
  obtain ⟨_, _, rfl, ⟨v1, rfl, _⟩, h1⟩ := fits_cons h0
  obtain ⟨_, _, rfl, ⟨v2, rfl, _⟩, h2⟩ := fits_cons h1
  obtain ⟨_, _, rfl, ⟨v3, rfl, _⟩, h3⟩ := fits_cons h2
  obtain ⟨_, _, rfl, ⟨v4, rfl, _⟩, h4⟩ := fits_cons h3
  obtain ⟨_, _, rfl, ⟨v5, rfl, _⟩, h5⟩ := fits_cons h4
  obtain rfl := fits_nil h5
  exact ⟨v0, v1, v2, v3, v4, v5, rfl⟩
theorem came_rq6 {W : World} {v : Value} (h : Came Tryd.prog W 40 v) : ∃ a b c d e f : Int, v = .agg #[.int .i64 a, .int .i64 b, .int .i64 c, .int .i64 d, .int .i64 e, .int .i64 f] := by
  obtain ⟨l0, rfl, f0⟩ := came_struct Tryd.underlying40 opens_rq h
  obtain ⟨a, b, c, d, e, f, rfl⟩ := rq6_of l0 f0
  exact ⟨a, b, c, d, e, f, rfl⟩
set_option maxRecDepth 100000 in
set_option maxHeartbeats 4000000 in
theorem rpputs_walk (x : Rp) (a b c d e0 f : Int) (w : World) (hN : NmAt w) : Calls Tryd.prog 5 #[rpV x, .agg #[.int .i64 a, .int .i64 b, .int .i64 c, .int .i64 d, .int .i64 e0, .int .i64 f]] w fun e w' => e = .returned (.bool true) ∧ Below w.heap.size w w' := by
  have HZ := Lib.hid awake25
  have P1 := fun w h => rpput_any x w h
  have P2 := fun w => rrput_any x w
  have C1 := fun w h => rpcheck_any x w h
  have C2 := fun w => rrcheck_any x w
  generalize putR x = s at *
  generalize errR x = er at *
  have HT := Lib.hid (fun w => to_any a b c d e0 f x.cod x.thr x.epo x.tie w)
  have HP1 := Lib.hid P1
  have HP2 := Lib.hid P2
  have HC1 := Lib.hid C1
  have HC2 := Lib.hid C2
  clear P1 P2 C1 C2
  obtain ⟨W0, hW0⟩ : ∃ W0, W0 = (w.alloc (.cells (rpCells x).toArray 24)).alloc (.cells [.int .i64 a, .int .i64 b, .int .i64 c, .int .i64 d, .int .i64 e0, .int .i64 f].toArray 40) := ⟨_, rfl⟩
  have hR : IsObj W0 w.heap.size 24 (rpCells x) := by rw [hW0]; exact (IsObj.new w _ _).alloc _
  have hQ : IsObj W0 (w.heap.size + 1) 40 [.int .i64 a, .int .i64 b, .int .i64 c, .int .i64 d, .int .i64 e0, .int .i64 f] := by
    have := IsObj.new (w.alloc (.cells (rpCells x).toArray 24)) 40 [.int .i64 a, .int .i64 b, .int .i64 c, .int .i64 d, .int .i64 e0, .int .i64 f]
    rw [alloc_size] at this
    rw [hW0]
    exact this
  have hb0 : Below w.heap.size w W0 := by rw [hW0]; exact ((Below.refl _ _).alloc (Nat.le_refl _) _).alloc (by simp) _
  have HR0 := Lib.hid hR
  have HQ0 := Lib.hid hQ
  have HN0 := Lib.hid (hN.same hb0)
  have HB0 := Lib.hid hb0
  simp only [rpCells] at hW0
  clear hb0 hN hR hQ
  go_enter Tryd.func5, Tryd.ntmps5
  go_wp2_with fail
  rw [← hW0]
  clear hW0
  refine (HP1.out _ HN0.out).mono ?_
  rintro e w1 ⟨rfl, hb1⟩
  have hR1 := IsObj.below HR0.out hb1 HR0.out.lt
  have HR1 := Lib.hid hR1
  have HQ1 := Lib.hid (IsObj.below HQ0.out hb1 HQ0.out.lt)
  have HN1 := Lib.hid (HN0.out.same hb1)
  have HB1 := Lib.hid (HB0.out.trans (hb1.mono HB0.out.size))
  obtain ⟨a0, a1, a2, a3, a4, a5, a6⟩ := seven hR1
  clear hb1 hR1 HR0 HQ0 HN0 HB0
  go_wp2_with fail
  refine (HP2.out _).mono ?_
  rintro e w2 ⟨rfl, hb2⟩
  clear a0 a1 a2 a3 a4 a5 a6
  have hR2 := IsObj.below HR1.out hb2 HR1.out.lt
  have hQ2 := IsObj.below HQ1.out hb2 HQ1.out.lt
  have HN2 := Lib.hid (HN1.out.same hb2)
  have HB2 := Lib.hid (HB1.out.trans (hb2.mono HB1.out.size))
  obtain ⟨a0, a1, a2, a3, a4, a5, a6⟩ := seven hR2
  have b0 : w2.cell? ⟨w.heap.size + 1, 0, none⟩ = some (.int .i64 a) := IsObj.cell hQ2 0
  have b1 : w2.cell? ⟨w.heap.size + 1, 1, none⟩ = some (.int .i64 b) := IsObj.cell hQ2 1
  have b2 : w2.cell? ⟨w.heap.size + 1, 2, none⟩ = some (.int .i64 c) := IsObj.cell hQ2 2
  have b3 : w2.cell? ⟨w.heap.size + 1, 3, none⟩ = some (.int .i64 d) := IsObj.cell hQ2 3
  have b4 : w2.cell? ⟨w.heap.size + 1, 4, none⟩ = some (.int .i64 e0) := IsObj.cell hQ2 4
  have b5 : w2.cell? ⟨w.heap.size + 1, 5, none⟩ = some (.int .i64 f) := IsObj.cell hQ2 5
  have hA := cell_lt a0
  have hA2 := cell_lt b0
  have hsz2 := HB2.out.size
  simp only at hA hA2
  clear hb2 hR2 hQ2 HR1 HQ1 HB1 HN1
  go_wp2_with fail
  ((first | (with_reducible refine region_ext2 (by kernel_rfl) (by kernel_rfl) ?_) | (refine region_ext (by kernel_rfl) (by kernel_rfl) ?_)); (repeat ((with_reducible refine wpQuiet_step (fun K hK => ?_)); go_simp; (first | ((refine hK _ ?_); clear hK K) | ((apply Exists.intro); (refine ⟨fun _ => ?_, hK _ ?_⟩); (first | (go_at_call 15; with_reducible exact ext_below (HC1.out _ (HN2.out.ext _))) | (go_at_call 16; with_reducible exact ext_below (HC2.out _)) | (go_at_call 17; with_reducible exact ext_below (HT.out _)) | (go_at_call 6; with_reducible exact ext_below (HZ.out _ (HN2.out.ext _)))); clear hK K)))); refine wpQuiet_nil ?_; rintro _ ⟨uq, rfl⟩)
  go_wp2
  go_ret
  exact ⟨rfl, below_ext _ HB2.out hsz2⟩
theorem nm_ne (k : Nat) (h : k < 10) : ((nm k).toList == (⟨#[]⟩ : ByteArray).toList) = false := by
  rcases lt10 h with rfl | rfl | rfl | rfl | rfl | rfl | rfl | rfl | rfl | rfl <;> decide +kernel
set_option maxRecDepth 100000 in
set_option maxHeartbeats 4000000 in
theorem rpgets_walk (body : ByteArray) (code : Int) (name : ByteArray) (w : World) (hN : NmAt w) : Calls Tryd.prog 3 #[.string body, .int .i64 code, .string name] w fun e w' => e = .returned (.bool true) ∧ Below w.heap.size w w' := by
  have HZ := Lib.hid awake25
  have HN0 := Lib.hid hN
  clear hN
  by_cases hl : 40 < body.size ∨ 40 < name.size
  · have hd : decide ((40 : Int) < (body.size : Int)) = true ∨ (decide ((40 : Int) < (body.size : Int)) = false ∧ decide ((40 : Int) < (name.size : Int)) = true) := by
      simp; omega
    rcases hd with hd | ⟨hd, hd2⟩
    all_goals
      go_enter Tryd.func3, Tryd.ntmps3
      go_wp2_with (go_at_call 6; refine (HZ.out _ HN0.out).mono ?_; rintro e w1 ⟨rfl, hb⟩)
      go_ret
      exact ⟨rfl, hb⟩
  · have hd : decide ((40 : Int) < (body.size : Int)) = false := by simp; omega
    have hd2 : decide ((40 : Int) < (name.size : Int)) = false := by simp; omega
    have hb2 : body.size ≤ 2147483648 := by omega
    have G1 := fun w h => rpget_any body w hb2 h
    have G2 := fun w => rrget_any body w hb2
    generalize getR body = gy at *
    obtain ⟨y, g⟩ := gy
    have HG1 := Lib.hid G1
    have HG2 := Lib.hid G2
    have HF := Lib.hid (fun b off c w h => rfind_any name nm 10 (by omega) b off c w h)
    have HD := Lib.hid (fun w h => code_any name w h)
    have hcd : (cdI (fdx name nm 0 10) = fdI (fdx name nm 0 10) + 1 ∧ (fdx name nm 0 10).isSome = true ∧ fdI (fdx name nm 0 10) ≤ 100 ∧ 0 ≤ fdI (fdx name nm 0 10)) ∨ (cdI (fdx name nm 0 10) = 0 ∧ (fdx name nm 0 10).isSome = false) := by
      have hr : ∀ m k i, fdx name nm k m = some i → i < k + m := by
        intro m
        induction m with
        | zero => intro k i h; cases h
        | succ m ih =>
          intro k i h
          unfold fdx at h
          split at h
          · injection h with h; omega
          · have := ih (k + 1) i h; omega
      have h10 := hr 10 0
      generalize fdx name nm 0 10 = r at *
      cases r with
      | none => exact .inr ⟨rfl, rfl⟩
      | some i =>
        have := h10 i rfl
        refine .inl ⟨rfl, rfl, ?_, ?_⟩
        · show (i : Int) ≤ 100; omega
        · show (0 : Int) ≤ (i : Int); omega
    generalize fdI (fdx name nm 0 10) = at0 at *
    generalize cdI (fdx name nm 0 10) = c0 at *
    generalize (fdx name nm 0 10).isSome = is0 at *
    clear G1 G2 hl hb2
    cases hco : codeOk code with
    | true =>
      have HM := Lib.hid (fun w h => name_is code true hco w h)
      have hcr := hco
      simp only [codeOk, decide_eq_true_eq] at hcr
      obtain ⟨cr1, cr2⟩ := hcr
      have hns : nameS code = nm (code.toNat - 1) := by unfold nameS; rw [if_pos hco]
      rw [hns] at HM
      have hne := nm_ne (code.toNat - 1) (by omega)
      have HNa := Lib.hid (fun w => names_any w)
      obtain ⟨kk, hkd⟩ : ∃ kk, kk = code.toNat - 1 := ⟨_, rfl⟩
      rw [← hkd] at HM hne
      have hk10 : kk < 10 := by omega
      have hct : code.toNat = kk + 1 := by omega
      have hem : (⟨#[]⟩ : ByteArray).toList = [] := by decide +kernel
      have hne2 := hne
      rw [hem] at hne2
      have hne3 : ¬ (nm kk).toList = [] := by simpa using hne2
      have i0 : 0 ≤ code := by omega
      have i11 : code < 11 := by omega
      generalize hnk : nm kk = nk at *
      have HNk := Lib.hid hnk
      clear hco hns hkd hnk
      rcases hcd with ⟨rfl, rfl, h100, h0⟩ | ⟨rfl, rfl⟩
      all_goals
        go_enter Tryd.func3, Tryd.ntmps3
        go_wp2_with fail
        refine (HG1.out _ HN0.out).mono ?_
        rintro e w1 ⟨rfl, hb1⟩
        have HV := Lib.hid (show IsObj (w1.alloc (.cells (rpCells y).toArray 24)) w1.heap.size 24 (rpCells y) from IsObj.new w1 _ _)
        have hb1a := hb1.alloc hb1.size (.cells (rpCells y).toArray 24)
        have HB1 := Lib.hid hb1a
        have HN1 := Lib.hid (HN0.out.same hb1a)
        clear hb1a hb1
        go_wp2_with fail
        refine (HG2.out _).mono ?_
        rintro e w2 ⟨rfl, hb2⟩
        have hbn : Below w2.heap.size w2 (w2.alloc (.cells (rpCells y).toArray 24)) := (Below.refl _ _).alloc (Nat.le_refl _) _
        have HV2 := Lib.hid (IsObj.below (IsObj.below HV.out hb2 HV.out.lt) hbn (IsObj.below HV.out hb2 HV.out.lt).lt)
        have HU2 := Lib.hid (show IsObj (w2.alloc (.cells (rpCells y).toArray 24)) w2.heap.size 24 (rpCells y) from IsObj.new w2 _ _)
        have HN2 := Lib.hid ((HN1.out.same hb2).same hbn)
        have HB2 := Lib.hid ((HB1.out.trans (hb2.mono HB1.out.size)).trans (hbn.mono (HB1.out.trans (hb2.mono HB1.out.size)).size))
        clear hb2 hbn HV HB1 HN1
        go_wp2_with (first | (go_at_call 9; (with_reducible refine (HM.out _ HN2.out).mono ?_); rintro e w' ⟨rfl, rfl⟩) | (go_at_call 10; (with_reducible refine (HD.out _ HN2.out).mono ?_); rintro e w' ⟨rfl, rfl⟩))
        refine (HNa.out _).mono ?_
        rintro e w3 ⟨rfl, hc3, hb3, hs3⟩
        rw [alloc_size] at hc3
        have hcc := hc3 kk hk10
        rw [HNk.out] at hcc
        have HV3 := Lib.hid (IsObj.below HV2.out hb3 HV2.out.lt)
        have HU3 := Lib.hid (IsObj.below HU2.out hb3 HU2.out.lt)
        have HN3 := Lib.hid (HN2.out.same hb3)
        have HB3 := Lib.hid (HB2.out.trans (hb3.mono HB2.out.size))
        clear hc3 hb3 hs3 HV2 HU2 HN2 HB2
        go_wp2_with fail
        clear hcc
        refine (HNa.out _).mono ?_
        rintro e w4 ⟨rfl, hc4, hb4, hs4⟩
        have hcf : ∀ k, k < 10 → w4.cell? ⟨w3.heap.size, 1 + k, none⟩ = some (.string (nm k)) := fun k hk => by rw [Nat.add_comm 1 k]; exact hc4 k hk
        have HCF := Lib.hid hcf
        have hV4 := IsObj.below HV3.out hb4 HV3.out.lt
        have hU4 := IsObj.below HU3.out hb4 HU3.out.lt
        have HN4 := Lib.hid (HN3.out.same hb4)
        have HB4 := Lib.hid (HB3.out.trans (hb4.mono HB3.out.size))
        obtain ⟨v0, v1, v2, v3, v4, v5, v6⟩ := seven hV4
        obtain ⟨u0, u1, u2, u3, u4, u5, u6⟩ := seven hU4
        clear hc4 hcf hb4 hs4 hV4 hU4 HV3 HU3 HN3 HB3
        go_wp2_with (first | (go_at_call 12; (refine (HF.out _ _ _ _ HCF.out).mono ?_); rintro e w' ⟨rfl, rfl⟩) | (go_at_call 6; (refine (HZ.out _ HN4.out).mono ?_); rintro e w5 ⟨rfl, hb5⟩))
        go_ret
        exact ⟨rfl, HB4.out.trans (hb5.mono HB4.out.size)⟩
    | false =>
      have HM := Lib.hid (fun w h => name_is code false hco w h)
      have hns : nameS code = ⟨#[]⟩ := by unfold nameS; rw [if_neg (by rw [hco]; decide)]
      rw [hns] at HM
      have HNa := Lib.hid (fun w => names_any w)
      have hcr : code < 1 ∨ (1 ≤ code ∧ 10 < code) := by
        simp only [codeOk, decide_eq_false_iff_not] at hco
        omega
      clear hco hns
      rcases hcd with ⟨rfl, rfl, h100, h0⟩ | ⟨rfl, rfl⟩
      all_goals rcases hcr with cr1 | ⟨cr1, cr2⟩
      all_goals
        go_enter Tryd.func3, Tryd.ntmps3
        go_wp2_with fail
        refine (HG1.out _ HN0.out).mono ?_
        rintro e w1 ⟨rfl, hb1⟩
        have HV := Lib.hid (show IsObj (w1.alloc (.cells (rpCells y).toArray 24)) w1.heap.size 24 (rpCells y) from IsObj.new w1 _ _)
        have hb1a := hb1.alloc hb1.size (.cells (rpCells y).toArray 24)
        have HB1 := Lib.hid hb1a
        have HN1 := Lib.hid (HN0.out.same hb1a)
        clear hb1a hb1
        go_wp2_with fail
        refine (HG2.out _).mono ?_
        rintro e w2 ⟨rfl, hb2⟩
        have hbn : Below w2.heap.size w2 (w2.alloc (.cells (rpCells y).toArray 24)) := (Below.refl _ _).alloc (Nat.le_refl _) _
        have HV2 := Lib.hid (IsObj.below (IsObj.below HV.out hb2 HV.out.lt) hbn (IsObj.below HV.out hb2 HV.out.lt).lt)
        have HU2 := Lib.hid (show IsObj (w2.alloc (.cells (rpCells y).toArray 24)) w2.heap.size 24 (rpCells y) from IsObj.new w2 _ _)
        have HN2 := Lib.hid ((HN1.out.same hb2).same hbn)
        have HB2 := Lib.hid ((HB1.out.trans (hb2.mono HB1.out.size)).trans (hbn.mono (HB1.out.trans (hb2.mono HB1.out.size)).size))
        clear hb2 hbn HV HB1 HN1
        go_wp2_with (first | (go_at_call 9; (with_reducible refine (HM.out _ HN2.out).mono ?_); rintro e w' ⟨rfl, rfl⟩) | (go_at_call 10; (with_reducible refine (HD.out _ HN2.out).mono ?_); rintro e w' ⟨rfl, rfl⟩))
        have HV3 := HV2
        have HU3 := HU2
        have HN3 := HN2
        have HB3 := HB2
        clear HV2 HU2 HN2 HB2
        refine (HNa.out _).mono ?_
        rintro e w4 ⟨rfl, hc4, hb4, hs4⟩
        rw [alloc_size] at hc4
        have hcf : ∀ k, k < 10 → w4.cell? ⟨w2.heap.size + 1, 1 + k, none⟩ = some (.string (nm k)) := fun k hk => by rw [Nat.add_comm 1 k]; exact hc4 k hk
        have HCF := Lib.hid hcf
        have hV4 := IsObj.below HV3.out hb4 HV3.out.lt
        have hU4 := IsObj.below HU3.out hb4 HU3.out.lt
        have HN4 := Lib.hid (HN3.out.same hb4)
        have HB4 := Lib.hid (HB3.out.trans (hb4.mono HB3.out.size))
        obtain ⟨v0, v1, v2, v3, v4, v5, v6⟩ := seven hV4
        obtain ⟨u0, u1, u2, u3, u4, u5, u6⟩ := seven hU4
        clear hc4 hcf hb4 hs4 hV4 hU4 HV3 HU3 HN3 HB3
        go_wp2_with (first | (go_at_call 12; (refine (HF.out _ _ _ _ HCF.out).mono ?_); rintro e w' ⟨rfl, rfl⟩) | (go_at_call 6; (refine (HZ.out _ HN4.out).mono ?_); rintro e w5 ⟨rfl, hb5⟩))
        go_ret
        exact ⟨rfl, HB4.out.trans (hb5.mono HB4.out.size)⟩
theorem code_back (c : Int) : (∃ _ : Int, codeOk c = true ∧ cdI (fdx (nameS c) nm 0 10) = c ∧ (fdx (nameS c) nm 0 10).isSome = true) ∨ (codeOk c = false ∧ (fdx (nameS c) nm 0 10).isSome = false) := by
  cases hc : codeOk c with
  | true =>
    have h := hc
    simp only [codeOk, decide_eq_true_eq] at h
    have : c = 1 ∨ c = 2 ∨ c = 3 ∨ c = 4 ∨ c = 5 ∨ c = 6 ∨ c = 7 ∨ c = 8 ∨ c = 9 ∨ c = 10 := by omega
    rcases this with rfl | rfl | rfl | rfl | rfl | rfl | rfl | rfl | rfl | rfl <;> exact .inl ⟨0, rfl, by decide +kernel, by decide +kernel⟩
  | false =>
    have hn : nameS c = ⟨#[]⟩ := by unfold nameS; rw [if_neg (by rw [hc]; decide)]
    rw [hn]
    exact .inr ⟨rfl, by decide +kernel⟩
set_option maxRecDepth 100000 in
set_option maxHeartbeats 4000000 in
theorem rpback_walk (r : Rp) (body : ByteArray) (w : World) (hN : NmAt w) : Calls Tryd.prog 4 #[rpV r, .string body] w fun e w' => e = .returned (.bool true) ∧ Below w.heap.size w w' := by
  have HZ := Lib.hid awake25
  have hR0 : RpAt (w.alloc (.cells (rpCells r).toArray 24)) w.heap.size r := IsObj.new w _ (rpCells r)
  have hb0 : Below w.heap.size w (w.alloc (.cells (rpCells r).toArray 24)) := (Below.refl _ _).alloc (Nat.le_refl _) _
  have HR0 := Lib.hid hR0
  have HB0 := Lib.hid hb0
  have HN0 := Lib.hid (hN.same hb0)
  clear hR0 hb0 hN
  by_cases hl : 40 < body.size
  · go_enter Tryd.func4, Tryd.ntmps4
    go_wp2_with (go_at_call 6; refine (HZ.out _ HN0.out).mono ?_; rintro e w1 ⟨rfl, hb⟩)
    go_ret
    exact ⟨rfl, HB0.out.trans (hb.mono HB0.out.size)⟩
  · have hd : decide ((40 : Int) < (body.size : Int)) = false := by simp; omega
    have hb2 : body.size ≤ 2147483648 := by omega
    have P1 := fun w h => rpput_any r w h
    have G2 := fun w h => rpget_any body w hb2 h
    have P2 := fun w h => rpput_any (getR body).r w h
    have G1 := fun w h => rpget_any (putR r) w (putR_le r) h
    have F2 := back_factsR body
    have F1 : (errR r = 0 ∧ getR (putR r) = ⟨r, 0⟩ ∧ (putR r).size = 15) ∨ (errR r = 1 ∧ putR r = ⟨#[]⟩) := by
      cases h : rpOk r with
      | true =>
        have hp : putR r = ofL (encN rw7 (rv r) 7) := by unfold putR; rw [if_pos h]
        rw [hp]
        exact .inl ⟨errR_yes h, (get_putR h).1, (get_putR h).2⟩
      | false => exact .inr ⟨errR_no h, by unfold putR; rw [if_neg (by rw [h]; decide)]⟩
    have CN : (∃ c : Int, codeOk r.cod = true ∧ cdI (fdx (nameS r.cod) nm 0 10) = r.cod ∧ (fdx (nameS r.cod) nm 0 10).isSome = true) ∨ (codeOk r.cod = false ∧ (fdx (nameS r.cod) nm 0 10).isSome = false) := code_back r.cod
    have M1 := fun w h => name_any r.cod w h
    have D1 := fun w h => code_any (nameS r.cod) w h
    generalize nameS r.cod = nr at *
    generalize codeOk r.cod = okr at *
    generalize cdI (fdx nr nm 0 10) = cr at *
    generalize (fdx nr nm 0 10).isSome = isr at *
    have HM := Lib.hid M1
    have HD := Lib.hid D1
    generalize getR body = gy at *
    obtain ⟨y, g⟩ := gy
    simp only at G2 P2 F2
    generalize putR r = s1 at *
    generalize errR r = e1 at *
    generalize getR s1 = gx at *
    obtain ⟨x, f⟩ := gx
    simp only at G1 F1
    generalize putR y = t at *
    generalize errR y = h at *
    have HP1 := Lib.hid P1
    have HP2 := Lib.hid P2
    have HG1 := Lib.hid G1
    have HG2 := Lib.hid G2
    clear P1 P2 G1 G2 M1 D1 hl hb2
    rcases CN with ⟨_, rfl, hcr, rfl⟩ | ⟨rfl, rfl⟩
    all_goals rcases F1 with ⟨rfl, hx, hs15⟩ | ⟨rfl, rfl⟩
    all_goals try (have hx1 : x = r := congrArg Gr.r hx; have hx2 : f = 0 := congrArg Gr.err hx; subst hx1 hx2; clear hx; have hs15' : (s1.size : Int) = 15 := by omega)
    all_goals try clear hs15
    all_goals try rw [hcr] at HD
    all_goals try clear hcr
    all_goals rcases F2 with ⟨rfl, rfl, rfl⟩ | hg
    all_goals
      go_enter Tryd.func4, Tryd.ntmps4
      go_wp2_with fail
      refine (HP1.out _ HN0.out).mono ?_
      rintro e w1 ⟨rfl, hb1⟩
      have HR1 := Lib.hid (HR0.out.same hb1)
      have HN1 := Lib.hid (HN0.out.same hb1)
      have HB1 := Lib.hid (HB0.out.trans (hb1.mono HB0.out.size))
      clear hb1 HR0 HN0 HB0 HP1
      go_wp2_with fail
      refine (HG1.out _ HN1.out).mono ?_
      rintro e w2 ⟨rfl, hb2⟩
      have hR2 := HR1.out.same hb2
      have hB2 := HB1.out.trans (hb2.mono HB1.out.size)
      obtain ⟨W2, hW2⟩ : ∃ W2, W2 = w2.alloc (.cells (rpCells x).toArray 24) := ⟨_, rfl⟩
      have hbn2 : Below w2.heap.size w2 W2 := by rw [hW2]; exact (Below.refl _ _).alloc (Nat.le_refl _) _
      have HN2 := Lib.hid ((HN1.out.same hb2).same hbn2)
      have HR2 := Lib.hid (hR2.same hbn2)
      have HB2 := Lib.hid (hB2.trans (hbn2.mono hB2.size))
      obtain ⟨a0, a1, a2, a3, a4, a5, a6⟩ := seven hR2
      have hA := cell_lt a0
      simp only at hA
      simp only [rpCells] at hW2
      clear hb2 hR2 hB2 hbn2 HR1 HB1 HN1 HG1
      go_wp2_with fail
      rw [← hW2]
      clear hW2 a0 a1 a2 a3 a4 a5 a6
      refine (HG2.out _ HN2.out).mono ?_
      rintro e w3 ⟨rfl, hb3⟩
      have hbn : Below w3.heap.size w3 (w3.alloc (.cells (rpCells y).toArray 24)) := (Below.refl _ _).alloc (Nat.le_refl _) _
      have HR3 := Lib.hid ((HR2.out.same hb3).same hbn)
      have HN3 := Lib.hid ((HN2.out.same hb3).same hbn)
      have hB3 := HB2.out.trans (hb3.mono HB2.out.size)
      have HB3 := Lib.hid (hB3.trans (hbn.mono hB3.size))
      clear hb3 hB3 hbn HR2 HN2 HB2 HG2
      go_wp2_with fail
      refine (HP2.out _ HN3.out).mono ?_
      rintro e w4 ⟨rfl, hb4⟩
      have hR4 := HR3.out.same hb4
      have HN4 := Lib.hid (HN3.out.same hb4)
      have HB4 := Lib.hid (HB3.out.trans (hb4.mono HB3.out.size))
      obtain ⟨a0, a1, a2, a3, a4, a5, a6⟩ := seven hR4
      clear hb4 hR4 HR3 HN3 HB3 HP2
      go_wp2_with (first | (go_at_call 9; (with_reducible refine (HM.out _ HN4.out).mono ?_); rintro e w' ⟨rfl, rfl⟩) | (go_at_call 10; (with_reducible refine (HD.out _ HN4.out).mono ?_); rintro e w' ⟨rfl, rfl⟩) | (go_at_call 6; (refine (HZ.out _ HN4.out).mono ?_); rintro e w5 ⟨rfl, hb5⟩))
      go_ret
      exact ⟨rfl, HB4.out.trans (hb5.mono HB4.out.size)⟩
end Go.Proofs.YtgkmmoiniidhlaaDoor
