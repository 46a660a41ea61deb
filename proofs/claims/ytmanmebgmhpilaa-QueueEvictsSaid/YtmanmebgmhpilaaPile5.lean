/-
  Layer 12 (pile): one sinks.
-/
import Derived.Test.YtmanmebgmhpilaaPile4
namespace Go.Proofs.Ytmanmebgmhpilaa
open Go.RowKit Go.Maps
set_option linter.unusedVariables false
set_option linter.unusedSimpArgs false

/-- The best of what is looked at yet, and n more from place c on. -/
def bestG (T : List It) (b c : Nat) : Nat → Nat
  | 0 => b
  | n + 1 => if c < T.length then bestG T (if befo (nth T c) (nth T b) = true then c else b) (c + 1) n else b
def bestT (T : List It) (k : Nat) : Nat := bestG T k (2 * k + 1) 2
theorem bestG_succ {T : List It} {b c n : Nat} (h : c < T.length) : bestG T b c (n + 1) = bestG T (if befo (nth T c) (nth T b) = true then c else b) (c + 1) n := by
  rw [bestG, if_pos h]
theorem bestG_end {T : List It} {b c n : Nat} (h : n = 0 ∨ ¬ c < T.length) : bestG T b c n = b := by
  cases n with
  | zero => rfl
  | succ m => rw [bestG, if_neg (by omega)]
theorem bestG_rng {T : List It} {k : Nat} : ∀ (n b c : Nat), b < T.length → (b = k ∨ k < b) → k < c → bestG T b c n < T.length ∧ (bestG T b c n = k ∨ k < bestG T b c n)
  | 0, b, c, h, h2, _ => ⟨h, h2⟩
  | n + 1, b, c, h, h2, h3 => by
    unfold bestG
    split
    · next hc =>
      refine bestG_rng n _ _ ?_ ?_ (by omega)
      · split <;> omega
      · split <;> omega
    · exact ⟨h, h2⟩
theorem bestT_rng {T : List It} {k : Nat} (h : k < T.length) : bestT T k < T.length ∧ (bestT T k = k ∨ k < bestT T k) := bestG_rng 2 k (2 * k + 1) h (.inl rfl) (by omega)
/-- One sinks, as long as one below it goes ahead of it. -/
def downT (T : List It) (k : Nat) : List It := if h : k < T.length ∧ bestT T k ≠ k then downT (swapT T k (bestT T k)) (bestT T k) else T
termination_by T.length - k
decreasing_by
  have := bestT_rng h.1
  rw [swapT_len]
  omega
theorem downT_go {T : List It} {k : Nat} (h : k < T.length) (hb : bestT T k ≠ k) : downT T k = downT (swapT T k (bestT T k)) (bestT T k) := by
  rw [downT, dif_pos ⟨h, hb⟩]
theorem downT_stop {T : List It} {k : Nat} (hb : bestT T k = k) : downT T k = T := by
  rw [downT, dif_neg (fun h => h.2 hb)]
set_option maxRecDepth 100000 in
set_option maxHeartbeats 4000000 in
theorem pdown_any {w : World} {p M : Nat} {most : Int} {tv : Value} {T0 : List It} (k0 : Nat) (h : PAt w p M most tv T0) (hk0 : k0 < T0.length) : Calls Try.prog 62 #[.pointer (some ⟨p, 0, none⟩), .int .i64 k0] w fun e w' => e = .returned (.tuple #[]) ∧ PAt w' p M most tv (downT T0 k0) ∧ Frp p M tv tv w w' := by
  have hlen0 : T0.length ≤ 64 := by
    obtain ⟨D, hr, _⟩ := h.raw
    exact hr.len
  have H0 := Lib.hid h
  clear h
  go_enter Try.func62, Try.ntmps62
  go_wp2_with fail
  go_loopw [1] (fun s wr => ∃ (k : Nat) (T : List It), s = .int .i64 k ∧ k < T.length ∧ T.length = T0.length ∧ downT T k = downT T0 k0 ∧ PAt wr p M most tv T ∧ Frp p M tv tv w wr) (fun s _ => T0.length - (intOf s).toNat)
  case atStart => exact ⟨k0, T0, rfl, hk0, rfl, rfl, H0.out, Frp.refl w⟩
  case round =>
    obtain ⟨k, T, rfl, hk, hTl, hu, hP, hF⟩ := hrel
    have HP := Lib.hid hP
    have HF := Lib.hid hF
    have HU := Lib.hid hu
    have HTL := Lib.hid hTl
    have hT64 : T.length ≤ 64 := by omega
    clear hP hF hu H0 hTl
    obtain ⟨g, cap, rfl, hg⟩ : ∃ g cap, tv = .slice (some ⟨g, 0, none⟩) T.length cap ∧ p + 1 ≤ g := by
      obtain ⟨D, hr, _⟩ := HP.out.raw
      obtain ⟨g, cap, e, h1, _⟩ := hr.shape (by omega)
      exact ⟨g, cap, e, h1⟩
    have W123 := Lib.hid (show wrap64 (2 * (k : Int)) = 2 * (k : Int) ∧ wrap64 (2 * (k : Int) + 2) = 2 * (k : Int) + 2 ∧ wrap64 (2 * (k : Int) + 1) = 2 * (k : Int) + 1 from ⟨w64_id _ (by omega) (by omega), w64_id _ (by omega) (by omega), w64_id _ (by omega) (by omega)⟩)
    have w1 := W123.out.1
    have w3 := W123.out.2.2
    go_upto_region 2 with (fail)
    clear w1 w3
    go_loopw [4, 5] (fun s4 s5 wr2 => ∃ (b c n : Nat), s4 = .int .i64 b ∧ s5 = .int .i64 c ∧ n ≤ 2 ∧ c + n = 2 * k + 3 ∧ b < T.length ∧ bestG T b c n = bestT T k ∧ PAt wr2 p M most (.slice (some ⟨g, 0, none⟩) T.length cap) T ∧ Frp p M (.slice (some ⟨g, 0, none⟩) T.length cap) (.slice (some ⟨g, 0, none⟩) T.length cap) w wr2) (fun _ s5 _ => 2 * k + 3 - (intOf s5).toNat)
    case atStart => exact ⟨k, 2 * k + 1, 2, rfl, congrArg (Value.int .i64) (by omega), by omega, by omega, hk, rfl, HP.out, HF.out⟩
    case round =>
      obtain ⟨b, c, n, rfl, rfl, hn, hcn, hbl, hbe, hP2, hF2⟩ := hrel
      have HP2 := Lib.hid hP2
      have HF2 := Lib.hid hF2
      have HBE := Lib.hid hbe
      have HCN := Lib.hid (And.intro hn hcn)
      have hc2 : wr.cell? ⟨p, 2, none⟩ = some (.slice (some ⟨g, 0, none⟩) T.length cap) := by
        obtain ⟨D, hr, _⟩ := hP2.raw
        exact hr.o.cell 2
      clear hP2 hF2 hbe HP HF hn hcn
      by_cases hgo : c ≤ 2 * k + 2 ∧ c < T.length
      · obtain ⟨hg1, hg2⟩ := hgo
        have j1 : (c : Int) ≤ 2 * (k : Int) + 2 := by omega
        have j2 : (c : Int) < (T.length : Int) := by omega
        have W4 := Lib.hid (show wrap64 ((c : Int) + 1) = (c : Int) + 1 from w64_id _ (by omega) (by omega))
        obtain ⟨m, hm⟩ : ∃ m, n = m + 1 := ⟨n - 1, by have h9 := HCN.out; omega⟩
        have HBG := Lib.hid (show bestG T (if befo (nth T c) (nth T b) = true then c else b) (c + 1) m = bestT T k by have h1 := HBE.out; rw [hm] at h1; rw [← h1]; exact (bestG_succ hg2).symm)
        have HM := Lib.hid hm
        clear hm
        obtain ⟨D, hr, _⟩ := HP2.out.raw
        have i3 : (c : Int) < (T.length : Int) := j2
        have i4 : (b : Int) < (T.length : Int) := by omega
        have w1 := W123.out.1
        have w2 := W123.out.2.1
        go_upto_region 4 with (fail)
        clear w1 w2
        have K0 : SwapS p g c b (.slice (some ⟨g, 0, none⟩) T.length cap) T wr.drew := ⟨hr.o.drew.cell 2, own_range hr.t c (by omega), own_range hr.t b hbl⟩
        clear hr
        refine wp_region_held_drew (S := SwapS p g c b (.slice (some ⟨g, 0, none⟩) T.length cap) T) (by kernel_rfl) ?_ (fun hHeld => ?_)
        · exact K0
        refine wpAnyH_take (i := 0) (oi := ?oi1) (v := ?v1) ?hi1 (by kernel_rfl) (by kernel_rfl) (by kernel_rfl) ?hQ1 ?hy1 (by assumption) ?_
        case hi1 => (simp only [List.getElem?_toArray, List.getElem?_cons_succ, List.getElem?_cons_zero]; rfl)
        case hQ1 => exact fun _ _ _ h => h
        case hy1 => (refine Or.inl ⟨by rfl, ?_⟩; intro w hSw; (obtain ⟨hSw0, hSw1, hSw2⟩ := hSw); go_simp; try with_reducible rfl)
        try simp only [Act.put, List.setIfInBounds_toArray, List.set_cons_zero, List.set_cons_succ]
        refine wpAnyH_take (i := 1) (oi := ?oi2) (v := ?v2) ?hi2 (by kernel_rfl) (by kernel_rfl) (by kernel_rfl) ?hQ2 ?hy2 (by assumption) ?_
        case hi2 => (simp only [List.getElem?_toArray, List.getElem?_cons_succ, List.getElem?_cons_zero]; rfl)
        case hQ2 => exact fun _ _ _ h => h
        case hy2 => (refine Or.inl ⟨by rfl, ?_⟩; intro w hSw; (obtain ⟨hSw0, hSw1, hSw2⟩ := hSw); go_simp; try with_reducible rfl)
        try simp only [Act.put, List.setIfInBounds_toArray, List.set_cons_zero, List.set_cons_succ]
        refine wpAnyH_take (i := 2) (oi := ?oi3) (v := ?v3) ?hi3 (by kernel_rfl) (by kernel_rfl) (by kernel_rfl) ?hQ3 ?hy3 (by assumption) ?_
        case hi3 => (simp only [List.getElem?_toArray, List.getElem?_cons_succ, List.getElem?_cons_zero]; rfl)
        case hQ3 => exact fun _ _ _ h => h
        case hy3 => (refine Or.inl ⟨by rfl, ?_⟩; intro w hSw; (obtain ⟨hSw0, hSw1, hSw2⟩ := hSw); go_simp; try with_reducible rfl)
        try simp only [Act.put, List.setIfInBounds_toArray, List.set_cons_zero, List.set_cons_succ]
        refine wpAnyH_take (i := 3) (oi := ?oi4) (v := ?v4) ?hi4 (by kernel_rfl) (by kernel_rfl) (by kernel_rfl) ?hQ4 ?hy4 (by assumption) ?_
        case hi4 => (simp only [List.getElem?_toArray, List.getElem?_cons_succ, List.getElem?_cons_zero]; rfl)
        case hQ4 => exact fun _ _ _ h => h
        case hy4 => (refine Or.inl ⟨by rfl, ?_⟩; intro w hSw; (obtain ⟨hSw0, hSw1, hSw2⟩ := hSw); go_simp; try with_reducible rfl)
        try simp only [Act.put, List.setIfInBounds_toArray, List.set_cons_zero, List.set_cons_succ]
        refine wpAnyH_take (i := 4) (oi := ?oi5) (v := ?v5) ?hi5 (by kernel_rfl) (by kernel_rfl) (by kernel_rfl) ?hQ5 ?hy5 (by assumption) ?_
        case hi5 => (simp only [List.getElem?_toArray, List.getElem?_cons_succ, List.getElem?_cons_zero]; rfl)
        case hQ5 => exact fun _ _ _ h => h
        case hy5 => (refine Or.inl ⟨by rfl, ?_⟩; intro w hSw; (obtain ⟨hSw0, hSw1, hSw2⟩ := hSw); go_simp; try with_reducible rfl)
        try simp only [Act.put, List.setIfInBounds_toArray, List.set_cons_zero, List.set_cons_succ]
        refine wpAnyH_take (i := 5) (oi := ?oi6) (v := ?v6) ?hi6 (by kernel_rfl) (by kernel_rfl) (by kernel_rfl) ?hQ6 ?hy6 (by assumption) ?_
        case hi6 => (simp only [List.getElem?_toArray, List.getElem?_cons_succ, List.getElem?_cons_zero]; rfl)
        case hQ6 => exact fun _ _ _ h => h
        case hy6 => (refine Or.inl ⟨by rfl, ?_⟩; intro w hSw; (obtain ⟨hSw0, hSw1, hSw2⟩ := hSw); go_simp; try with_reducible rfl)
        try simp only [Act.put, List.setIfInBounds_toArray, List.set_cons_zero, List.set_cons_succ]
        refine wpAnyH_take (i := 6) (oi := ?oi7) (v := .agg (itCells (nth T c)).toArray) ?hi7 (by kernel_rfl) (by kernel_rfl) (by kernel_rfl) ?hQ7 ?hy7 (by assumption) ?_
        case hi7 => (simp only [List.getElem?_toArray, List.getElem?_cons_succ, List.getElem?_cons_zero]; rfl)
        case hQ7 => exact fun _ _ _ h => h
        case hy7 => exact yieldsIf_load_mid (by rfl) 31 _ (by rfl) g (c * 7) (by rfl) (itCells (nth T c)) _ (fun w hw => hw.2.1) Try.underlying31 rfl (by kernel_rfl)
        try simp only [Act.put, List.setIfInBounds_toArray, List.set_cons_zero, List.set_cons_succ]
        refine wpAnyH_take (i := 7) (oi := ?oi8) (v := ?v8) ?hi8 (by kernel_rfl) (by kernel_rfl) (by kernel_rfl) ?hQ8 ?hy8 (by assumption) ?_
        case hi8 => (simp only [List.getElem?_toArray, List.getElem?_cons_succ, List.getElem?_cons_zero]; rfl)
        case hQ8 => exact fun _ _ _ h => h
        case hy8 => (refine Or.inl ⟨by rfl, ?_⟩; intro w hSw; (obtain ⟨hSw0, hSw1, hSw2⟩ := hSw); go_simp; try with_reducible rfl)
        try simp only [Act.put, List.setIfInBounds_toArray, List.set_cons_zero, List.set_cons_succ]
        refine wpAnyH_take (i := 8) (oi := ?oi9) (v := ?v9) ?hi9 (by kernel_rfl) (by kernel_rfl) (by kernel_rfl) ?hQ9 ?hy9 (by assumption) ?_
        case hi9 => (simp only [List.getElem?_toArray, List.getElem?_cons_succ, List.getElem?_cons_zero]; rfl)
        case hQ9 => exact fun _ _ _ h => h
        case hy9 => (refine Or.inl ⟨by rfl, ?_⟩; intro w hSw; (obtain ⟨hSw0, hSw1, hSw2⟩ := hSw); go_simp; try with_reducible rfl)
        try simp only [Act.put, List.setIfInBounds_toArray, List.set_cons_zero, List.set_cons_succ]
        refine wpAnyH_take (i := 9) (oi := ?oi10) (v := ?v10) ?hi10 (by kernel_rfl) (by kernel_rfl) (by kernel_rfl) ?hQ10 ?hy10 (by assumption) ?_
        case hi10 => (simp only [List.getElem?_toArray, List.getElem?_cons_succ, List.getElem?_cons_zero]; rfl)
        case hQ10 => exact fun _ _ _ h => h
        case hy10 => (refine Or.inl ⟨by rfl, ?_⟩; intro w hSw; (obtain ⟨hSw0, hSw1, hSw2⟩ := hSw); go_simp; try with_reducible rfl)
        try simp only [Act.put, List.setIfInBounds_toArray, List.set_cons_zero, List.set_cons_succ]
        refine wpAnyH_take (i := 10) (oi := ?oi11) (v := ?v11) ?hi11 (by kernel_rfl) (by kernel_rfl) (by kernel_rfl) ?hQ11 ?hy11 (by assumption) ?_
        case hi11 => (simp only [List.getElem?_toArray, List.getElem?_cons_succ, List.getElem?_cons_zero]; rfl)
        case hQ11 => exact fun _ _ _ h => h
        case hy11 => (refine Or.inl ⟨by rfl, ?_⟩; intro w hSw; (obtain ⟨hSw0, hSw1, hSw2⟩ := hSw); go_simp; try with_reducible rfl)
        try simp only [Act.put, List.setIfInBounds_toArray, List.set_cons_zero, List.set_cons_succ]
        refine wpAnyH_take (i := 11) (oi := ?oi12) (v := ?v12) ?hi12 (by kernel_rfl) (by kernel_rfl) (by kernel_rfl) ?hQ12 ?hy12 (by assumption) ?_
        case hi12 => (simp only [List.getElem?_toArray, List.getElem?_cons_succ, List.getElem?_cons_zero]; rfl)
        case hQ12 => exact fun _ _ _ h => h
        case hy12 => (refine Or.inl ⟨by rfl, ?_⟩; intro w hSw; (obtain ⟨hSw0, hSw1, hSw2⟩ := hSw); go_simp; try with_reducible rfl)
        try simp only [Act.put, List.setIfInBounds_toArray, List.set_cons_zero, List.set_cons_succ]
        refine wpAnyH_take (i := 12) (oi := ?oi13) (v := ?v13) ?hi13 (by kernel_rfl) (by kernel_rfl) (by kernel_rfl) ?hQ13 ?hy13 (by assumption) ?_
        case hi13 => (simp only [List.getElem?_toArray, List.getElem?_cons_succ, List.getElem?_cons_zero]; rfl)
        case hQ13 => exact fun _ _ _ h => h
        case hy13 => (refine Or.inl ⟨by rfl, ?_⟩; intro w hSw; (obtain ⟨hSw0, hSw1, hSw2⟩ := hSw); go_simp; try with_reducible rfl)
        try simp only [Act.put, List.setIfInBounds_toArray, List.set_cons_zero, List.set_cons_succ]
        refine wpAnyH_take (i := 13) (oi := ?oi14) (v := .agg (itCells (nth T b)).toArray) ?hi14 (by kernel_rfl) (by kernel_rfl) (by kernel_rfl) ?hQ14 ?hy14 (by assumption) ?_
        case hi14 => (simp only [List.getElem?_toArray, List.getElem?_cons_succ, List.getElem?_cons_zero]; rfl)
        case hQ14 => exact fun _ _ _ h => h
        case hy14 => exact yieldsIf_load_mid (by rfl) 31 _ (by rfl) g (b * 7) (by rfl) (itCells (nth T b)) _ (fun w hw => hw.2.2) Try.underlying31 rfl (by kernel_rfl)
        try simp only [Act.put, List.setIfInBounds_toArray, List.set_cons_zero, List.set_cons_succ]
        refine wpAnyH_ready (rs := [14]) (by kernel_rfl) (by simp) ?_
        refine AllReadyH.cons (o := ?oi1500) ?ho1500 (fun K hK => ?_) AllReadyH.nil
        case ho1500 => (simp only [List.getElem?_toArray, List.getElem?_cons_succ, List.getElem?_cons_zero]; rfl)
        go_simp
        go_at_call 49
        refine (before_any (nth T c) (nth T b) wr.drew).mono ?_
        rintro e wb ⟨rfl, hb⟩
        have k1 := K0.keep hb
        have HB := Lib.hid (below_drew_left hb)
        clear hb
        refine hK.out _ _ ?_ (fun hHeld => ?_)
        · (try dsimp only); exact k1
        clear hK K
        try simp only [Act.put, List.setIfInBounds_toArray, List.set_cons_zero, List.set_cons_succ]
        refine wpAnyH_done (by kernel_rfl) ?_ _
        have HP3 := Lib.hid (HP2.out.same HB.out)
        have HF3 := Lib.hid (HF2.out.trans (Frp.below HB.out))
        clear HP2 HF2 HB k1 K0 hc2 HBE
        by_cases hbf : befo (nth T c) (nth T b) = true
        · have HBH := Lib.hid (show bestG T c (c + 1) m = bestT T k by rw [← HBG.out, if_pos hbf])
          rw [hbf]
          clear hbf
          have w4 := W4.out
          go_wp2_with fail
          clear w4
          go_roundw
          case rel => exact ⟨c, c + 1, m, rfl, by go_num, by have h9 := HCN.out; have h8 := HM.out; omega, by have h9 := HCN.out; have h8 := HM.out; omega, hg2, HBH.out, HP3.out, HF3.out⟩
          case measure => simp [intOf]; omega
        · have HBH := Lib.hid (show bestG T b (c + 1) m = bestT T k by rw [← HBG.out, if_neg hbf])
          have hbf' : befo (nth T c) (nth T b) = false := by simpa using hbf
          rw [hbf']
          clear hbf hbf'
          have w4 := W4.out
          go_wp2_with fail
          clear w4
          go_roundw
          case rel => exact ⟨b, c + 1, m, rfl, by go_num, by have h9 := HCN.out; have h8 := HM.out; omega, by have h9 := HCN.out; have h8 := HM.out; omega, hbl, HBH.out, HP3.out, HF3.out⟩
          case measure => simp [intOf]; omega
      · have HBB := Lib.hid (show b = bestT T k by
          rw [← HBE.out]
          exact (bestG_end (by have h9 := HCN.out; omega)).symm)
        by_cases hbk : b = k
        · have HU2 := Lib.hid (show downT T0 k0 = T by rw [← HU.out]; exact downT_stop (by rw [← HBB.out]; exact hbk))
          have j3 : ((b : Int) == (k : Int)) = true := by simp; omega
          have HBK := Lib.hid hbk
          clear hbk
          by_cases hc : c ≤ 2 * k + 2
          · have j1 : (c : Int) ≤ 2 * (k : Int) + 2 := by omega
            have j2 : (T.length : Int) ≤ (c : Int) := by omega
            have w1 := W123.out.1
            have w2 := W123.out.2.1
            go_wp2_with fail
            first | go_end0 | (refine bodyPost_ret (results_none rfl _ _ _) rfl ?_)
            rw [HU2.out]
            exact ⟨rfl, HP2.out, HF2.out⟩
          · have j1 : 2 * (k : Int) + 2 < (c : Int) := by omega
            have w1 := W123.out.1
            have w2 := W123.out.2.1
            go_wp2_with fail
            first | go_end0 | (refine bodyPost_ret (results_none rfl _ _ _) rfl ?_)
            rw [HU2.out]
            exact ⟨rfl, HP2.out, HF2.out⟩
        · have hkb : k < b := by
            have h := bestT_rng hk
            rw [← HBB.out] at h
            omega
          have HU2 := Lib.hid (show downT (swapT T k b) b = downT T0 k0 by rw [← HU.out, HBB.out]; exact (downT_go hk (by rw [← HBB.out]; exact hbk)).symm)
          have j3 : ((b : Int) == (k : Int)) = false := by simp; omega
          by_cases hc : c ≤ 2 * k + 2
          · have j1 : (c : Int) ≤ 2 * (k : Int) + 2 := by omega
            have j2 : (T.length : Int) ≤ (c : Int) := by omega
            have w1 := W123.out.1
            have w2 := W123.out.2.1
            go_upto_region 7 with (fail)
            clear w1 w2
            go_wp2_with fail
            refine (pswap_any k b HP2.out hk hbl).mono ?_
            rintro e wf ⟨rfl, h3, f3⟩
            have HP3 := Lib.hid h3
            have HF3 := Lib.hid (HF2.out.trans f3)
            clear h3 f3
            go_wp2_with fail
            go_roundw
            case rel => exact ⟨b, swapT T k b, rfl, by rw [swapT_len]; exact hbl, by rw [swapT_len]; exact HTL.out, HU2.out, HP3.out, HF3.out⟩
            case measure => simp [intOf]; have h9 := HTL.out; omega
          · have j1 : 2 * (k : Int) + 2 < (c : Int) := by omega
            have w1 := W123.out.1
            have w2 := W123.out.2.1
            go_upto_region 7 with (fail)
            clear w1 w2
            go_wp2_with fail
            refine (pswap_any k b HP2.out hk hbl).mono ?_
            rintro e wf ⟨rfl, h3, f3⟩
            have HP3 := Lib.hid h3
            have HF3 := Lib.hid (HF2.out.trans f3)
            clear h3 f3
            go_wp2_with fail
            go_roundw
            case rel => exact ⟨b, swapT T k b, rfl, by rw [swapT_len]; exact hbl, by rw [swapT_len]; exact HTL.out, HU2.out, HP3.out, HF3.out⟩
            case measure => simp [intOf]; have h9 := HTL.out; omega
end Go.Proofs.Ytmanmebgmhpilaa
