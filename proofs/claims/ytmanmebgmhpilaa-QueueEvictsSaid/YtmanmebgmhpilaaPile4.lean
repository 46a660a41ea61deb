/-
  Layer 12 (pile): one rises.
-/
import Derived.Test.YtmanmebgmhpilaaPile3
namespace Go.Proofs.Ytmanmebgmhpilaa
open Go.RowKit Go.Maps
set_option linter.unusedVariables false
set_option linter.unusedSimpArgs false

theorem below_drew_left {W W1 : World} (h : Below W.drew.heap.size W.drew W1) : Below W.heap.size W W1 := ⟨h.os, h.tape, h.output, h.size, h.block⟩
theorem pswap_any {w : World} {p M : Nat} {most : Int} {tv : Value} {T : List It} (i k : Nat) (h : PAt w p M most tv T) (hi : i < T.length) (hk : k < T.length) : Calls Try.prog 60 #[.pointer (some ⟨p, 0, none⟩), .int .i64 i, .int .i64 k] w fun e w' => e = .returned (.tuple #[]) ∧ PAt w' p M most tv (swapT T i k) ∧ Frp p M tv tv w w' := by
  obtain ⟨D, hr, hx, hs⟩ := h.raw
  have hlen := hr.len
  refine (pswap_raw i k hr hi hk (by omega)).mono ?_
  rintro e w' ⟨rfl, h1, f1⟩
  refine ⟨rfl, ⟨⟨_, h1, hx.swap h.nd hi hk, ?_⟩, ?_⟩, f1⟩
  · have ht := hr.m.tidy int_law
    have hh : Maps.has (D.put (kL (nth T k).id) (vL i)) (kL (nth T i).id) = true := by
      by_cases e : (nth T i).id = (nth T k).id
      · rw [e, has_put_same hx.im (kL_key _)]
      · rw [has_put_other (kL_ne e), hx.has]
        exact decide_eq_true (nth_mem hi)
    have hh2 : Maps.has D (kL (nth T k).id) = true := by rw [hx.has]; exact decide_eq_true (nth_mem hk)
    rw [swapT_len, size_put_in (ht.put (kL_key _) _) hh, size_put_in ht hh2]
    exact hs
  · exact (perm_ids (swapT_perm hi hk)).nodup_iff.2 h.nd
/-- One rises, as long as it goes ahead of the one above it. -/
def upT (T : List It) (k : Nat) : List It := if h : 0 < k ∧ befo (nth T k) (nth T ((k - 1) / 2)) = true then upT (swapT T k ((k - 1) / 2)) ((k - 1) / 2) else T
termination_by k
decreasing_by omega
theorem upT_go {T : List It} {k : Nat} (h0 : 0 < k) (hb : befo (nth T k) (nth T ((k - 1) / 2)) = true) : upT T k = upT (swapT T k ((k - 1) / 2)) ((k - 1) / 2) := by
  rw [upT, dif_pos ⟨h0, hb⟩]
theorem upT_stop {T : List It} {k : Nat} (h : ¬ (0 < k ∧ befo (nth T k) (nth T ((k - 1) / 2)) = true)) : upT T k = T := by
  rw [upT, dif_neg h]
set_option maxRecDepth 100000 in
set_option maxHeartbeats 4000000 in
theorem pup_any {w : World} {p M : Nat} {most : Int} {tv : Value} {T0 : List It} (k0 : Nat) (h : PAt w p M most tv T0) (hk0 : k0 < T0.length) : Calls Try.prog 46 #[.pointer (some ⟨p, 0, none⟩), .int .i64 k0] w fun e w' => e = .returned (.tuple #[]) ∧ PAt w' p M most tv (upT T0 k0) ∧ Frp p M tv tv w w' := by
  have H0 := Lib.hid h
  clear h
  go_enter Try.func46, Try.ntmps46
  go_wp2_with fail
  go_loopw [1] (fun s wr => ∃ (k : Nat) (T : List It), s = .int .i64 k ∧ k < T.length ∧ upT T k = upT T0 k0 ∧ PAt wr p M most tv T ∧ Frp p M tv tv w wr) (fun s _ => (intOf s).toNat)
  case atStart => exact ⟨k0, T0, rfl, hk0, rfl, H0.out, Frp.refl w⟩
  case round =>
    obtain ⟨k, T, rfl, hk, hu, hP, hF⟩ := hrel
    have HP := Lib.hid hP
    have HF := Lib.hid hF
    have HU := Lib.hid hu
    clear hP hF hu H0
    by_cases hpos : 0 < k
    · have i1 : (0 : Int) < (k : Int) := by omega
      have hlen : T.length ≤ 64 := by
        obtain ⟨D, hr, _⟩ := HP.out.raw
        exact hr.len
      have w1 : wrap64 ((k : Int) - 1) = ((k - 1 : Nat) : Int) := by rw [w64_id _ (by omega) (by omega)]; omega
      have w2 : wrap64 (((k - 1 : Nat) : Int) / 2) = (((k - 1) / 2 : Nat) : Int) := by rw [w64_id _ (by omega) (by omega)]; omega
      go_upto_region 2 with (fail)
      clear w1 w2
      have e3 : ((k : Int) - 1) / 2 = (((k - 1) / 2 : Nat) : Int) := by omega
      rw [e3]
      clear e3
      obtain ⟨q, hq⟩ : ∃ q, q = (k - 1) / 2 := ⟨_, rfl⟩
      rw [← hq]
      have hqk : q < k := by omega
      have HQ := Lib.hid hq
      clear hq
      obtain ⟨D, hr, hx, hs⟩ := HP.out.raw
      obtain ⟨g, cap, rfl, hg⟩ : ∃ g cap, tv = .slice (some ⟨g, 0, none⟩) T.length cap ∧ p + 1 ≤ g ∧ g < wr.heap.size := hr.shape (by omega)
      have i3 : (k : Int) < (T.length : Int) := by omega
      have i4 : (q : Int) < (T.length : Int) := by omega
      have K0 : SwapS p g k q (.slice (some ⟨g, 0, none⟩) T.length cap) T wr.drew := ⟨hr.o.drew.cell 2, own_range hr.t k hk, own_range hr.t q (by omega)⟩
      clear hr hx hs
      refine wp_region_held_drew (S := SwapS p g k q (.slice (some ⟨g, 0, none⟩) T.length cap) T) (by kernel_rfl) ?_ (fun hHeld => ?_)
      · exact K0
      refine wpAnyH_take (i := 0) (oi := ?oi1) (v := ?v1) ?hi1 (by kernel_rfl) (by kernel_rfl) (by kernel_rfl) ?hQ1 ?hy1 (by assumption) ?_
      case hi1 => (simp only [List.getElem?_toArray, List.getElem?_cons_succ, List.getElem?_cons_zero]; rfl)
      case hQ1 => exact fun _ _ _ h => h
      case hy1 => (refine Or.inl ⟨by rfl, ?_⟩; intro w hSw; (obtain ⟨hSw0, hSw1, hSw2⟩ := hSw); go_simp; try with_reducible rfl)
      try simp only [Act.put, List.setIfInBounds_toArray, List.set_cons_zero, List.set_cons_succ]
      refine wpAnyH_take (i := 1) (oi := ?oi2) (v := ?v2) ?hi2 (by kernel_rfl) (by kernel_rfl) (by kernel_rfl) ?hQ2 ?hy2 (by assumption) ?_
      case hi2 => (simp only [List.getElem?_toArray, List.getElem?_cons_succ, List.getElem?_cons_zero]; rfl)
      case hQ2 => exact fun _ _ _ h => h
      case hy2 => (refine Or.inl ⟨by rfl, ?_⟩; intro w hSw; (obtain ⟨hSw0, hSw1, hSw2⟩ := hSw); go_simp; try with_reducible rfl)
      try simp only [Act.put, List.setIfInBounds_toArray, List.set_cons_zero, List.set_cons_succ]
      refine wpAnyH_take (i := 2) (oi := ?oi3) (v := ?v3) ?hi3 (by kernel_rfl) (by kernel_rfl) (by kernel_rfl) ?hQ3 ?hy3 (by assumption) ?_
      case hi3 => (simp only [List.getElem?_toArray, List.getElem?_cons_succ, List.getElem?_cons_zero]; rfl)
      case hQ3 => exact fun _ _ _ h => h
      case hy3 => (refine Or.inl ⟨by rfl, ?_⟩; intro w hSw; (obtain ⟨hSw0, hSw1, hSw2⟩ := hSw); go_simp; try with_reducible rfl)
      try simp only [Act.put, List.setIfInBounds_toArray, List.set_cons_zero, List.set_cons_succ]
      refine wpAnyH_take (i := 3) (oi := ?oi4) (v := ?v4) ?hi4 (by kernel_rfl) (by kernel_rfl) (by kernel_rfl) ?hQ4 ?hy4 (by assumption) ?_
      case hi4 => (simp only [List.getElem?_toArray, List.getElem?_cons_succ, List.getElem?_cons_zero]; rfl)
      case hQ4 => exact fun _ _ _ h => h
      case hy4 => (refine Or.inl ⟨by rfl, ?_⟩; intro w hSw; (obtain ⟨hSw0, hSw1, hSw2⟩ := hSw); go_simp; try with_reducible rfl)
      try simp only [Act.put, List.setIfInBounds_toArray, List.set_cons_zero, List.set_cons_succ]
      refine wpAnyH_take (i := 4) (oi := ?oi5) (v := ?v5) ?hi5 (by kernel_rfl) (by kernel_rfl) (by kernel_rfl) ?hQ5 ?hy5 (by assumption) ?_
      case hi5 => (simp only [List.getElem?_toArray, List.getElem?_cons_succ, List.getElem?_cons_zero]; rfl)
      case hQ5 => exact fun _ _ _ h => h
      case hy5 => (refine Or.inl ⟨by rfl, ?_⟩; intro w hSw; (obtain ⟨hSw0, hSw1, hSw2⟩ := hSw); go_simp; try with_reducible rfl)
      try simp only [Act.put, List.setIfInBounds_toArray, List.set_cons_zero, List.set_cons_succ]
      refine wpAnyH_take (i := 5) (oi := ?oi6) (v := ?v6) ?hi6 (by kernel_rfl) (by kernel_rfl) (by kernel_rfl) ?hQ6 ?hy6 (by assumption) ?_
      case hi6 => (simp only [List.getElem?_toArray, List.getElem?_cons_succ, List.getElem?_cons_zero]; rfl)
      case hQ6 => exact fun _ _ _ h => h
      case hy6 => (refine Or.inl ⟨by rfl, ?_⟩; intro w hSw; (obtain ⟨hSw0, hSw1, hSw2⟩ := hSw); go_simp; try with_reducible rfl)
      try simp only [Act.put, List.setIfInBounds_toArray, List.set_cons_zero, List.set_cons_succ]
      refine wpAnyH_take (i := 6) (oi := ?oi7) (v := .agg (itCells (nth T k)).toArray) ?hi7 (by kernel_rfl) (by kernel_rfl) (by kernel_rfl) ?hQ7 ?hy7 (by assumption) ?_
      case hi7 => (simp only [List.getElem?_toArray, List.getElem?_cons_succ, List.getElem?_cons_zero]; rfl)
      case hQ7 => exact fun _ _ _ h => h
      case hy7 => exact yieldsIf_load_mid (by rfl) 31 _ (by rfl) g (k * 7) (by rfl) (itCells (nth T k)) _ (fun w hw => hw.2.1) Try.underlying31 rfl (by kernel_rfl)
      try simp only [Act.put, List.setIfInBounds_toArray, List.set_cons_zero, List.set_cons_succ]
      refine wpAnyH_take (i := 7) (oi := ?oi8) (v := ?v8) ?hi8 (by kernel_rfl) (by kernel_rfl) (by kernel_rfl) ?hQ8 ?hy8 (by assumption) ?_
      case hi8 => (simp only [List.getElem?_toArray, List.getElem?_cons_succ, List.getElem?_cons_zero]; rfl)
      case hQ8 => exact fun _ _ _ h => h
      case hy8 => (refine Or.inl ⟨by rfl, ?_⟩; intro w hSw; (obtain ⟨hSw0, hSw1, hSw2⟩ := hSw); go_simp; try with_reducible rfl)
      try simp only [Act.put, List.setIfInBounds_toArray, List.set_cons_zero, List.set_cons_succ]
      refine wpAnyH_take (i := 8) (oi := ?oi9) (v := ?v9) ?hi9 (by kernel_rfl) (by kernel_rfl) (by kernel_rfl) ?hQ9 ?hy9 (by assumption) ?_
      case hi9 => (simp only [List.getElem?_toArray, List.getElem?_cons_succ, List.getElem?_cons_zero]; rfl)
      case hQ9 => exact fun _ _ _ h => h
      case hy9 => (refine Or.inl ⟨by rfl, ?_⟩; intro w hSw; (obtain ⟨hSw0, hSw1, hSw2⟩ := hSw); go_simp; try with_reducible rfl)
      try simp only [Act.put, List.setIfInBounds_toArray, List.set_cons_zero, List.set_cons_succ]
      refine wpAnyH_take (i := 9) (oi := ?oi10) (v := ?v10) ?hi10 (by kernel_rfl) (by kernel_rfl) (by kernel_rfl) ?hQ10 ?hy10 (by assumption) ?_
      case hi10 => (simp only [List.getElem?_toArray, List.getElem?_cons_succ, List.getElem?_cons_zero]; rfl)
      case hQ10 => exact fun _ _ _ h => h
      case hy10 => (refine Or.inl ⟨by rfl, ?_⟩; intro w hSw; (obtain ⟨hSw0, hSw1, hSw2⟩ := hSw); go_simp; try with_reducible rfl)
      try simp only [Act.put, List.setIfInBounds_toArray, List.set_cons_zero, List.set_cons_succ]
      refine wpAnyH_take (i := 10) (oi := ?oi11) (v := ?v11) ?hi11 (by kernel_rfl) (by kernel_rfl) (by kernel_rfl) ?hQ11 ?hy11 (by assumption) ?_
      case hi11 => (simp only [List.getElem?_toArray, List.getElem?_cons_succ, List.getElem?_cons_zero]; rfl)
      case hQ11 => exact fun _ _ _ h => h
      case hy11 => (refine Or.inl ⟨by rfl, ?_⟩; intro w hSw; (obtain ⟨hSw0, hSw1, hSw2⟩ := hSw); go_simp; try with_reducible rfl)
      try simp only [Act.put, List.setIfInBounds_toArray, List.set_cons_zero, List.set_cons_succ]
      refine wpAnyH_take (i := 11) (oi := ?oi12) (v := ?v12) ?hi12 (by kernel_rfl) (by kernel_rfl) (by kernel_rfl) ?hQ12 ?hy12 (by assumption) ?_
      case hi12 => (simp only [List.getElem?_toArray, List.getElem?_cons_succ, List.getElem?_cons_zero]; rfl)
      case hQ12 => exact fun _ _ _ h => h
      case hy12 => (refine Or.inl ⟨by rfl, ?_⟩; intro w hSw; (obtain ⟨hSw0, hSw1, hSw2⟩ := hSw); go_simp; try with_reducible rfl)
      try simp only [Act.put, List.setIfInBounds_toArray, List.set_cons_zero, List.set_cons_succ]
      refine wpAnyH_take (i := 12) (oi := ?oi13) (v := ?v13) ?hi13 (by kernel_rfl) (by kernel_rfl) (by kernel_rfl) ?hQ13 ?hy13 (by assumption) ?_
      case hi13 => (simp only [List.getElem?_toArray, List.getElem?_cons_succ, List.getElem?_cons_zero]; rfl)
      case hQ13 => exact fun _ _ _ h => h
      case hy13 => (refine Or.inl ⟨by rfl, ?_⟩; intro w hSw; (obtain ⟨hSw0, hSw1, hSw2⟩ := hSw); go_simp; try with_reducible rfl)
      try simp only [Act.put, List.setIfInBounds_toArray, List.set_cons_zero, List.set_cons_succ]
      refine wpAnyH_take (i := 13) (oi := ?oi14) (v := .agg (itCells (nth T q)).toArray) ?hi14 (by kernel_rfl) (by kernel_rfl) (by kernel_rfl) ?hQ14 ?hy14 (by assumption) ?_
      case hi14 => (simp only [List.getElem?_toArray, List.getElem?_cons_succ, List.getElem?_cons_zero]; rfl)
      case hQ14 => exact fun _ _ _ h => h
      case hy14 => exact yieldsIf_load_mid (by rfl) 31 _ (by rfl) g (q * 7) (by rfl) (itCells (nth T q)) _ (fun w hw => hw.2.2) Try.underlying31 rfl (by kernel_rfl)
      try simp only [Act.put, List.setIfInBounds_toArray, List.set_cons_zero, List.set_cons_succ]
      refine wpAnyH_ready (rs := [14]) (by kernel_rfl) (by simp) ?_
      refine AllReadyH.cons (o := ?oi1500) ?ho1500 (fun K hK => ?_) AllReadyH.nil
      case ho1500 => (simp only [List.getElem?_toArray, List.getElem?_cons_succ, List.getElem?_cons_zero]; rfl)
      go_simp
      go_at_call 49
      refine (before_any (nth T k) (nth T q) wr.drew).mono ?_
      rintro e wb ⟨rfl, hb⟩
      have k1 := K0.keep hb
      have HB := Lib.hid (below_drew_left hb)
      clear hb
      refine hK.out _ _ ?_ (fun hHeld => ?_)
      · (try dsimp only); exact k1
      clear hK K
      try simp only [Act.put, List.setIfInBounds_toArray, List.set_cons_zero, List.set_cons_succ]
      refine wpAnyH_take (i := 15) (oi := ?oi16) (v := ?v16) ?hi16 (by kernel_rfl) (by kernel_rfl) (by kernel_rfl) ?hQ16 ?hy16 (by assumption) ?_
      case hi16 => (simp only [List.getElem?_toArray, List.getElem?_cons_succ, List.getElem?_cons_zero]; rfl)
      case hQ16 => exact fun _ _ _ h => h
      case hy16 => (refine Or.inl ⟨by rfl, ?_⟩; intro w hSw; (obtain ⟨hSw0, hSw1, hSw2⟩ := hSw); go_simp; try with_reducible rfl)
      try simp only [Act.put, List.setIfInBounds_toArray, List.set_cons_zero, List.set_cons_succ]
      refine wpAnyH_done (by kernel_rfl) ?_ _
      have HP2 := Lib.hid (HP.out.same HB.out)
      have HF2 := Lib.hid (HF.out.trans (Frp.below HB.out))
      clear HP HF HB k1 K0
      by_cases hbf : befo (nth T k) (nth T q) = true
      · rw [hbf]
        have HU2 := Lib.hid (show upT (swapT T k q) q = upT T0 k0 by rw [← HU.out, HQ.out]; rw [HQ.out] at hbf; exact (upT_go hpos hbf).symm)
        clear hbf
        go_upto_region 3 with (fail)
        go_wp2_with fail
        refine (pswap_any k q HP2.out hk (by omega)).mono ?_
        rintro e wf ⟨rfl, h3, f3⟩
        have HP3 := Lib.hid h3
        have HF3 := Lib.hid (HF2.out.trans f3)
        clear h3 f3
        go_wp2_with fail
        go_roundw
        case rel => exact ⟨q, swapT T k q, rfl, by rw [swapT_len]; omega, HU2.out, HP3.out, HF3.out⟩
        case measure => simp [intOf]; omega
      · have hbf' : befo (nth T k) (nth T q) = false := by simpa using hbf
        have HU2 := Lib.hid (show upT T0 k0 = T by rw [← HU.out]; exact upT_stop (fun h => hbf (by rw [HQ.out]; exact h.2)))
        rw [hbf']
        clear hbf hbf'
        go_wp2_with fail
        first | go_end0 | (refine bodyPost_ret (results_none rfl _ _ _) rfl ?_)
        rw [HU2.out]
        exact ⟨rfl, HP2.out, HF2.out⟩
    · obtain rfl : k = 0 := by omega
      have HU0 := Lib.hid (show upT T0 k0 = T by rw [← HU.out]; exact upT_stop (fun h => absurd h.1 (by omega)))
      go_wp2_with fail
      first | go_end0 | (refine bodyPost_ret (results_none rfl _ _ _) rfl ?_)
      rw [HU0.out]
      exact ⟨rfl, HP.out, HF.out⟩
end Go.Proofs.Ytmanmebgmhpilaa
