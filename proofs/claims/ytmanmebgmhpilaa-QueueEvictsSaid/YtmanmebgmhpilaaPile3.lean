/-
  Layer 12 (pile): two change places.
-/
import Derived.Test.YtmanmebgmhpilaaPile2
namespace Go.Proofs.Ytmanmebgmhpilaa
open Go.RowKit Go.Maps
set_option linter.unusedVariables false
set_option linter.unusedSimpArgs false

theorem PRaw.shape {w : World} {p M : Nat} {most : Int} {tv : Value} {T : List It} {D : Dat} (h : PRaw w p M most tv T D) (h0 : 0 < T.length) : ∃ g cap, tv = .slice (some ⟨g, 0, none⟩) T.length cap ∧ p + 1 ≤ g ∧ g < w.heap.size := by
  rcases h.t.2 with ⟨_, h0⟩ | ⟨g, cap, cur, e, hb, hg, _⟩
  · omega
  · exact ⟨g, cap, e, hb, (Array.getElem?_eq_some_iff.1 hg).1⟩
def SwapS (p g i k : Nat) (tv : Value) (T : List It) (W : World) : Prop := W.cell? ⟨p, 2, none⟩ = some tv ∧ W.rangeAt g (i * 7) (itCells (nth T i)) ∧ W.rangeAt g (k * 7) (itCells (nth T k))
theorem SwapS.keep {p g i k : Nat} {tv : Value} {T : List It} {W W' : World} (hb : Below W.heap.size W W') (h : SwapS p g i k tv T W) : SwapS p g i k tv T W' := ⟨cell_keep hb h.1, fun j v hv => cell_keep hb (h.2.1 j v hv), fun j v hv => cell_keep hb (h.2.2 j v hv)⟩
theorem SwapS.only {p g i k b : Nat} {tv : Value} {T : List It} {W W' : World} (ho : Only b W W') (h1 : p ≠ b) (h2 : g ≠ b) (h : SwapS p g i k tv T W) : SwapS p g i k tv T W' := ⟨ho.keep h.1 h1, fun j v hv => ho.keep (h.2.1 j v hv) h2, fun j v hv => ho.keep (h.2.2 j v hv) h2⟩
set_option maxRecDepth 100000 in
set_option maxHeartbeats 2000000 in
theorem pswap_raw {w : World} {p M : Nat} {most : Int} {tv : Value} {T : List It} {D : Dat} (i k : Nat) (h : PRaw w p M most tv T D) (hi : i < T.length) (hk : k < T.length) (hn : Maps.size D ≤ 900) : Calls Try.prog 60 #[.pointer (some ⟨p, 0, none⟩), .int .i64 i, .int .i64 k] w fun e w' => e = .returned (.tuple #[]) ∧ PRaw w' p M most tv (swapT T i k) ((D.put (kL (nth T k).id) (vL i)).put (kL (nth T i).id) (vL k)) ∧ Frp p M tv tv w w' := by
  obtain ⟨g, cap, rfl, hg⟩ : ∃ g cap, tv = .slice (some ⟨g, 0, none⟩) T.length cap ∧ p + 1 ≤ g ∧ g < w.heap.size := h.shape (by omega)
  have hwi := h.wf (nth T i) (by rw [nth_lt T i hi]; exact List.getElem_mem hi)
  have hwk := h.wf (nth T k) (by rw [nth_lt T k hk]; exact List.getElem_mem hk)
  have i3 : (i : Int) < (T.length : Int) := by omega
  have i4 : (k : Int) < (T.length : Int) := by omega
  have H := Lib.hid h
  have hpl := h.o.lt
  clear h
  go_enter Try.func60, Try.ntmps60
  go_upto_region 0 with (fail)
  go_cut [6, 7] (fun s6 s7 wx => ∃ a6 a7 : Nat, s6 = .pointer (some ⟨a6, 0, none⟩) ∧ s7 = .pointer (some ⟨a7, 0, none⟩) ∧ IsObj wx a6 31 (itCells (nth T i)) ∧ IsObj wx a7 31 (itCells (nth T k)) ∧ w.heap.size ≤ a6 ∧ w.heap.size ≤ a7 ∧ Below w.heap.size w wx)
  case first =>
    have K0 : SwapS p g i k (.slice (some ⟨g, 0, none⟩) T.length cap) T w.drew := ⟨H.out.o.drew.cell 2, own_range H.out.t i hi, own_range H.out.t k hk⟩
    refine wp_region_held_drew (S := SwapS p g i k (.slice (some ⟨g, 0, none⟩) T.length cap) T) (by kernel_rfl) ?_ (fun hHeld => ?_)
    · exact K0
    refine wpAnyH_take (i := 0) (oi := ?oi1) (v := ?v1) ?hi1 (by kernel_rfl) (by kernel_rfl) (by kernel_rfl) ?hQ1 ?hy1 (by assumption) ?_
    case hi1 => (simp only [List.getElem?_toArray, List.getElem?_cons_succ, List.getElem?_cons_zero]; rfl)
    case hQ1 => exact fun _ _ _ h => h
    case hy1 => (refine Or.inl ⟨by rfl, ?_⟩; intro w hSw; (obtain ⟨hSw0, hSw1, hSw2⟩ := hSw); go_simp; try with_reducible rfl)
    try simp only [Act.put, List.setIfInBounds_toArray, List.set_cons_zero, List.set_cons_succ]
    refine wpAnyH_take (i := 1) (oi := ?oi2) (v := ?v2) ?hi2 (by kernel_rfl) (by kernel_rfl) (by kernel_rfl) ?hQ2 ?hy2 (by assumption) ?_
    case hi2 => (simp only [List.getElem?_toArray, List.getElem?_cons_succ, List.getElem?_cons_zero]; rfl)
    case hQ2 => exact fun _ _ _ h => h
    case hy2 => (refine Or.inl ⟨by rfl, ?_⟩; intro w hSw; (obtain ⟨hSw0, hSw1, hSw2⟩ := hSw); go_simp; try with_reducible rfl)
    try simp only [Act.put, List.setIfInBounds_toArray, List.set_cons_zero, List.set_cons_succ]
    refine wpAnyH_take (i := 2) (oi := ?oi3) (v := ?v3) ?hi3 (by kernel_rfl) (by kernel_rfl) (by kernel_rfl) ?hQ3 ?hy3 (by assumption) ?_
    case hi3 => (simp only [List.getElem?_toArray, List.getElem?_cons_succ, List.getElem?_cons_zero]; rfl)
    case hQ3 => exact fun _ _ _ h => h
    case hy3 => (refine Or.inl ⟨by rfl, ?_⟩; intro w hSw; (obtain ⟨hSw0, hSw1, hSw2⟩ := hSw); go_simp; try with_reducible rfl)
    try simp only [Act.put, List.setIfInBounds_toArray, List.set_cons_zero, List.set_cons_succ]
    refine wpAnyH_take (i := 3) (oi := ?oi4) (v := ?v4) ?hi4 (by kernel_rfl) (by kernel_rfl) (by kernel_rfl) ?hQ4 ?hy4 (by assumption) ?_
    case hi4 => (simp only [List.getElem?_toArray, List.getElem?_cons_succ, List.getElem?_cons_zero]; rfl)
    case hQ4 => exact fun _ _ _ h => h
    case hy4 => (refine Or.inl ⟨by rfl, ?_⟩; intro w hSw; (obtain ⟨hSw0, hSw1, hSw2⟩ := hSw); go_simp; try with_reducible rfl)
    try simp only [Act.put, List.setIfInBounds_toArray, List.set_cons_zero, List.set_cons_succ]
    refine wpAnyH_take (i := 4) (oi := ?oi5) (v := ?v5) ?hi5 (by kernel_rfl) (by kernel_rfl) (by kernel_rfl) ?hQ5 ?hy5 (by assumption) ?_
    case hi5 => (simp only [List.getElem?_toArray, List.getElem?_cons_succ, List.getElem?_cons_zero]; rfl)
    case hQ5 => exact fun _ _ _ h => h
    case hy5 => (refine Or.inl ⟨by rfl, ?_⟩; intro w hSw; (obtain ⟨hSw0, hSw1, hSw2⟩ := hSw); go_simp; try with_reducible rfl)
    try simp only [Act.put, List.setIfInBounds_toArray, List.set_cons_zero, List.set_cons_succ]
    refine wpAnyH_take (i := 5) (oi := ?oi6) (v := ?v6) ?hi6 (by kernel_rfl) (by kernel_rfl) (by kernel_rfl) ?hQ6 ?hy6 (by assumption) ?_
    case hi6 => (simp only [List.getElem?_toArray, List.getElem?_cons_succ, List.getElem?_cons_zero]; rfl)
    case hQ6 => exact fun _ _ _ h => h
    case hy6 => (refine Or.inl ⟨by rfl, ?_⟩; intro w hSw; (obtain ⟨hSw0, hSw1, hSw2⟩ := hSw); go_simp; try with_reducible rfl)
    try simp only [Act.put, List.setIfInBounds_toArray, List.set_cons_zero, List.set_cons_succ]
    refine wpAnyH_take (i := 6) (oi := ?oi7) (v := .agg (itCells (nth T i)).toArray) ?hi7 (by kernel_rfl) (by kernel_rfl) (by kernel_rfl) ?hQ7 ?hy7 (by assumption) ?_
    case hi7 => (simp only [List.getElem?_toArray, List.getElem?_cons_succ, List.getElem?_cons_zero]; rfl)
    case hQ7 => exact fun _ _ _ h => h
    case hy7 => exact yieldsIf_load_mid (by rfl) 31 _ (by rfl) g (i * 7) (by rfl) (itCells (nth T i)) _ (fun w hw => hw.2.1) Try.underlying31 rfl (by kernel_rfl)
    try simp only [Act.put, List.setIfInBounds_toArray, List.set_cons_zero, List.set_cons_succ]
    refine wpAnyH_take (i := 7) (oi := ?oi8) (v := ?v8) ?hi8 (by kernel_rfl) (by kernel_rfl) (by kernel_rfl) ?hQ8 ?hy8 (by assumption) ?_
    case hi8 => (simp only [List.getElem?_toArray, List.getElem?_cons_succ, List.getElem?_cons_zero]; rfl)
    case hQ8 => exact fun _ _ _ h => h
    case hy8 => (refine Or.inl ⟨by rfl, ?_⟩; intro w hSw; (obtain ⟨hSw0, hSw1, hSw2⟩ := hSw); go_simp; try with_reducible rfl)
    try simp only [Act.put, List.setIfInBounds_toArray, List.set_cons_zero, List.set_cons_succ]
    refine wpAnyH_take (i := 8) (oi := ?oi9) (v := ?v9) ?hi9 (by kernel_rfl) (by kernel_rfl) (by kernel_rfl) ?hQ9 ?hy9 (by assumption) ?_
    case hi9 => (simp only [List.getElem?_toArray, List.getElem?_cons_succ, List.getElem?_cons_zero]; rfl)
    case hQ9 => exact fun _ _ _ h => h
    case hy9 => (refine Or.inl ⟨by rfl, ?_⟩; intro w hSw; (obtain ⟨hSw0, hSw1, hSw2⟩ := hSw); go_simp; try with_reducible rfl)
    try simp only [Act.put, List.setIfInBounds_toArray, List.set_cons_zero, List.set_cons_succ]
    refine wpAnyH_take (i := 9) (oi := ?oi10) (v := ?v10) ?hi10 (by kernel_rfl) (by kernel_rfl) (by kernel_rfl) ?hQ10 ?hy10 (by assumption) ?_
    case hi10 => (simp only [List.getElem?_toArray, List.getElem?_cons_succ, List.getElem?_cons_zero]; rfl)
    case hQ10 => exact fun _ _ _ h => h
    case hy10 => (refine Or.inl ⟨by rfl, ?_⟩; intro w hSw; (obtain ⟨hSw0, hSw1, hSw2⟩ := hSw); go_simp; try with_reducible rfl)
    try simp only [Act.put, List.setIfInBounds_toArray, List.set_cons_zero, List.set_cons_succ]
    refine wpAnyH_take (i := 10) (oi := ?oi11) (v := ?v11) ?hi11 (by kernel_rfl) (by kernel_rfl) (by kernel_rfl) ?hQ11 ?hy11 (by assumption) ?_
    case hi11 => (simp only [List.getElem?_toArray, List.getElem?_cons_succ, List.getElem?_cons_zero]; rfl)
    case hQ11 => exact fun _ _ _ h => h
    case hy11 => (refine Or.inl ⟨by rfl, ?_⟩; intro w hSw; (obtain ⟨hSw0, hSw1, hSw2⟩ := hSw); go_simp; try with_reducible rfl)
    try simp only [Act.put, List.setIfInBounds_toArray, List.set_cons_zero, List.set_cons_succ]
    refine wpAnyH_take (i := 11) (oi := ?oi12) (v := ?v12) ?hi12 (by kernel_rfl) (by kernel_rfl) (by kernel_rfl) ?hQ12 ?hy12 (by assumption) ?_
    case hi12 => (simp only [List.getElem?_toArray, List.getElem?_cons_succ, List.getElem?_cons_zero]; rfl)
    case hQ12 => exact fun _ _ _ h => h
    case hy12 => (refine Or.inl ⟨by rfl, ?_⟩; intro w hSw; (obtain ⟨hSw0, hSw1, hSw2⟩ := hSw); go_simp; try with_reducible rfl)
    try simp only [Act.put, List.setIfInBounds_toArray, List.set_cons_zero, List.set_cons_succ]
    refine wpAnyH_take (i := 12) (oi := ?oi13) (v := ?v13) ?hi13 (by kernel_rfl) (by kernel_rfl) (by kernel_rfl) ?hQ13 ?hy13 (by assumption) ?_
    case hi13 => (simp only [List.getElem?_toArray, List.getElem?_cons_succ, List.getElem?_cons_zero]; rfl)
    case hQ13 => exact fun _ _ _ h => h
    case hy13 => (refine Or.inl ⟨by rfl, ?_⟩; intro w hSw; (obtain ⟨hSw0, hSw1, hSw2⟩ := hSw); go_simp; try with_reducible rfl)
    try simp only [Act.put, List.setIfInBounds_toArray, List.set_cons_zero, List.set_cons_succ]
    refine wpAnyH_take (i := 13) (oi := ?oi14) (v := .agg (itCells (nth T k)).toArray) ?hi14 (by kernel_rfl) (by kernel_rfl) (by kernel_rfl) ?hQ14 ?hy14 (by assumption) ?_
    case hi14 => (simp only [List.getElem?_toArray, List.getElem?_cons_succ, List.getElem?_cons_zero]; rfl)
    case hQ14 => exact fun _ _ _ h => h
    case hy14 => exact yieldsIf_load_mid (by rfl) 31 _ (by rfl) g (k * 7) (by rfl) (itCells (nth T k)) _ (fun w hw => hw.2.2) Try.underlying31 rfl (by kernel_rfl)
    try simp only [Act.put, List.setIfInBounds_toArray, List.set_cons_zero, List.set_cons_succ]
    refine wpAnyH_ready (rs := [14, 15]) (by kernel_rfl) (by simp) ?_
    refine AllReadyH.cons (o := ?oi2114) ?ho2114 (fun K hK => ?_) (AllReadyH.cons (o := ?oi2115) ?ho2115 (fun K hK => ?_) AllReadyH.nil)
    case ho2114 => (simp only [List.getElem?_toArray, List.getElem?_cons_succ, List.getElem?_cons_zero]; rfl)
    case ho2115 => (simp only [List.getElem?_toArray, List.getElem?_cons_succ, List.getElem?_cons_zero]; rfl)
    · go_simp
      refine hK.out _ _ ?_ (fun hHeld => ?_)
      · (try dsimp only); exact K0.keep ((Below.refl _ _).alloc (Nat.le_refl _) _)
      clear hK K
      try simp only [Act.put, List.setIfInBounds_toArray, List.set_cons_zero, List.set_cons_succ]
      refine wpAnyH_ready (rs := [15]) (by kernel_rfl) (by simp) ?_
      refine AllReadyH.cons (o := ?oi1500) ?ho1500 (fun K hK => ?_) AllReadyH.nil
      case ho1500 => (simp only [List.getElem?_toArray, List.getElem?_cons_succ, List.getElem?_cons_zero]; rfl)
      go_simp
      refine hK.out _ _ ?_ (fun hHeld => ?_)
      · (try dsimp only); exact (K0.keep ((Below.refl _ _).alloc (Nat.le_refl _) _)).keep ((Below.refl _ _).alloc (Nat.le_refl _) _)
      clear hK K
      try simp only [Act.put, List.setIfInBounds_toArray, List.set_cons_zero, List.set_cons_succ]
      have hA : IsObj ((w.alloc (.cells #[.int .i64 0, .int .i64 0, .int .i64 0, .int .i64 0, .int .i64 0, .int .i64 0, .int .i64 0] 31)).alloc (.cells #[.int .i64 0, .int .i64 0, .int .i64 0, .int .i64 0, .int .i64 0, .int .i64 0, .int .i64 0] 31)).drew w.heap.size 31 [.int .i64 0, .int .i64 0, .int .i64 0, .int .i64 0, .int .i64 0, .int .i64 0, .int .i64 0] := ((IsObj.new w _ [.int .i64 0, .int .i64 0, .int .i64 0, .int .i64 0, .int .i64 0, .int .i64 0, .int .i64 0]).alloc _).drew
      have hB : IsObj ((w.alloc (.cells #[.int .i64 0, .int .i64 0, .int .i64 0, .int .i64 0, .int .i64 0, .int .i64 0, .int .i64 0] 31)).alloc (.cells #[.int .i64 0, .int .i64 0, .int .i64 0, .int .i64 0, .int .i64 0, .int .i64 0, .int .i64 0] 31)).drew (w.heap.size + 1) 31 [.int .i64 0, .int .i64 0, .int .i64 0, .int .i64 0, .int .i64 0, .int .i64 0, .int .i64 0] := by
        have h := IsObj.new (w.alloc (.cells #[.int .i64 0, .int .i64 0, .int .i64 0, .int .i64 0, .int .i64 0, .int .i64 0, .int .i64 0] 31)) 31 [.int .i64 0, .int .i64 0, .int .i64 0, .int .i64 0, .int .i64 0, .int .i64 0, .int .i64 0]
        rw [World.size_alloc] at h
        exact h.drew
      have hb0 : Below w.heap.size w ((w.alloc (.cells #[.int .i64 0, .int .i64 0, .int .i64 0, .int .i64 0, .int .i64 0, .int .i64 0, .int .i64 0] 31)).alloc (.cells #[.int .i64 0, .int .i64 0, .int .i64 0, .int .i64 0, .int .i64 0, .int .i64 0, .int .i64 0] 31)).drew := (((Below.refl _ w).alloc (Nat.le_refl _) _).alloc (by simp) _).drew
      have hk0 : SwapS p g i k (.slice (some ⟨g, 0, none⟩) T.length cap) T ((w.alloc (.cells #[.int .i64 0, .int .i64 0, .int .i64 0, .int .i64 0, .int .i64 0, .int .i64 0, .int .i64 0] 31)).alloc (.cells #[.int .i64 0, .int .i64 0, .int .i64 0, .int .i64 0, .int .i64 0, .int .i64 0, .int .i64 0] 31)).drew := (K0.keep ((Below.refl _ _).alloc (Nat.le_refl _) _)).keep ((Below.refl _ _).alloc (Nat.le_refl _) _)
      generalize ((w.alloc (.cells #[.int .i64 0, .int .i64 0, .int .i64 0, .int .i64 0, .int .i64 0, .int .i64 0, .int .i64 0] 31)).alloc (.cells #[.int .i64 0, .int .i64 0, .int .i64 0, .int .i64 0, .int .i64 0, .int .i64 0, .int .i64 0] 31)).drew = wz at *
      have t6 : wz.there w.heap.size 0 (itCells (nth T i)).toArray.size := IsObj.there hA 0 7 (by decide)
      have o6 := IsObj.setAll (xs := itCells (nth T i)) hA rfl
      have y6 := Only.setCells (b := w.heap.size) (itCells (nth T i)) 0 (Only.refl w.heap.size wz)
      have hk1 := hk0.only y6 (by omega) (by omega)
      have o7 := IsObj.only hB y6 (by omega)
      refine wpAnyH_ready (rs := [16]) (by kernel_rfl) (by simp) ?_
      refine AllReadyH.cons (o := ?oi1600) ?ho1600 (fun K hK => ?_) AllReadyH.nil
      case ho1600 => (simp only [List.getElem?_toArray, List.getElem?_cons_succ, List.getElem?_cons_zero]; rfl)
      refine wp_store_mid 31 _ _ (by rfl) w.heap.size 0 (itCells (nth T i)).toArray (by rfl) (by rfl) t6 (by kernel_rfl) (it_one _) ?_
      generalize wz.setCells w.heap.size 0 (itCells (nth T i)).toArray.toList = wy at *
      refine hK.out _ _ ?_ (fun hHeld => ?_)
      · (try dsimp only); exact hk1
      clear hK K
      try simp only [Act.put, List.setIfInBounds_toArray, List.set_cons_zero, List.set_cons_succ]
      have t7 : wy.there (w.heap.size + 1) 0 (itCells (nth T k)).toArray.size := IsObj.there o7 0 7 (by decide)
      have q7 := IsObj.setAll (xs := itCells (nth T k)) o7 rfl
      have y7 := Only.setCells (b := (w.heap.size + 1)) (itCells (nth T k)) 0 (Only.refl (w.heap.size + 1) wy)
      have hk2 := hk1.only y7 (by omega) (by omega)
      have q6 := IsObj.only o6 y7 (by omega)
      refine wpAnyH_ready (rs := [17]) (by kernel_rfl) (by simp) ?_
      refine AllReadyH.cons (o := ?oi1700) ?ho1700 (fun K hK => ?_) AllReadyH.nil
      case ho1700 => (simp only [List.getElem?_toArray, List.getElem?_cons_succ, List.getElem?_cons_zero]; rfl)
      refine wp_store_mid 31 _ _ (by rfl) (w.heap.size + 1) 0 (itCells (nth T k)).toArray (by rfl) (by rfl) t7 (by kernel_rfl) (it_one _) ?_
      generalize wy.setCells (w.heap.size + 1) 0 (itCells (nth T k)).toArray.toList = wx at *
      refine hK.out _ _ ?_ (fun hHeld => ?_)
      · (try dsimp only); exact hk2
      clear hK K
      try simp only [Act.put, List.setIfInBounds_toArray, List.set_cons_zero, List.set_cons_succ]
      refine wpAnyH_done (by kernel_rfl) ?_ _
      have hbx : Below w.heap.size w wx := (hb0.trans (y6.below (by omega) hb0.size)).trans (y7.below (by omega) (by have h1 := hb0.size; have h2 := y6.size; omega))
      clear hb0 y6 y7 hk0 hk1 hk2 o6 o7 t6 t7 hA hB K0
      go_wp2_with fail
      go_meet
      exact ⟨w.heap.size, (w.heap.size + 1), rfl, rfl, q6, q7, by omega, by omega, hbx⟩
    · go_simp
      refine hK.out _ _ ?_ (fun hHeld => ?_)
      · (try dsimp only); exact K0.keep ((Below.refl _ _).alloc (Nat.le_refl _) _)
      clear hK K
      try simp only [Act.put, List.setIfInBounds_toArray, List.set_cons_zero, List.set_cons_succ]
      refine wpAnyH_ready (rs := [14]) (by kernel_rfl) (by simp) ?_
      refine AllReadyH.cons (o := ?oi1800) ?ho1800 (fun K hK => ?_) AllReadyH.nil
      case ho1800 => (simp only [List.getElem?_toArray, List.getElem?_cons_succ, List.getElem?_cons_zero]; rfl)
      go_simp
      refine hK.out _ _ ?_ (fun hHeld => ?_)
      · (try dsimp only); exact (K0.keep ((Below.refl _ _).alloc (Nat.le_refl _) _)).keep ((Below.refl _ _).alloc (Nat.le_refl _) _)
      clear hK K
      try simp only [Act.put, List.setIfInBounds_toArray, List.set_cons_zero, List.set_cons_succ]
      have hA : IsObj ((w.alloc (.cells #[.int .i64 0, .int .i64 0, .int .i64 0, .int .i64 0, .int .i64 0, .int .i64 0, .int .i64 0] 31)).alloc (.cells #[.int .i64 0, .int .i64 0, .int .i64 0, .int .i64 0, .int .i64 0, .int .i64 0, .int .i64 0] 31)).drew w.heap.size 31 [.int .i64 0, .int .i64 0, .int .i64 0, .int .i64 0, .int .i64 0, .int .i64 0, .int .i64 0] := ((IsObj.new w _ [.int .i64 0, .int .i64 0, .int .i64 0, .int .i64 0, .int .i64 0, .int .i64 0, .int .i64 0]).alloc _).drew
      have hB : IsObj ((w.alloc (.cells #[.int .i64 0, .int .i64 0, .int .i64 0, .int .i64 0, .int .i64 0, .int .i64 0, .int .i64 0] 31)).alloc (.cells #[.int .i64 0, .int .i64 0, .int .i64 0, .int .i64 0, .int .i64 0, .int .i64 0, .int .i64 0] 31)).drew (w.heap.size + 1) 31 [.int .i64 0, .int .i64 0, .int .i64 0, .int .i64 0, .int .i64 0, .int .i64 0, .int .i64 0] := by
        have h := IsObj.new (w.alloc (.cells #[.int .i64 0, .int .i64 0, .int .i64 0, .int .i64 0, .int .i64 0, .int .i64 0, .int .i64 0] 31)) 31 [.int .i64 0, .int .i64 0, .int .i64 0, .int .i64 0, .int .i64 0, .int .i64 0, .int .i64 0]
        rw [World.size_alloc] at h
        exact h.drew
      have hb0 : Below w.heap.size w ((w.alloc (.cells #[.int .i64 0, .int .i64 0, .int .i64 0, .int .i64 0, .int .i64 0, .int .i64 0, .int .i64 0] 31)).alloc (.cells #[.int .i64 0, .int .i64 0, .int .i64 0, .int .i64 0, .int .i64 0, .int .i64 0, .int .i64 0] 31)).drew := (((Below.refl _ w).alloc (Nat.le_refl _) _).alloc (by simp) _).drew
      have hk0 : SwapS p g i k (.slice (some ⟨g, 0, none⟩) T.length cap) T ((w.alloc (.cells #[.int .i64 0, .int .i64 0, .int .i64 0, .int .i64 0, .int .i64 0, .int .i64 0, .int .i64 0] 31)).alloc (.cells #[.int .i64 0, .int .i64 0, .int .i64 0, .int .i64 0, .int .i64 0, .int .i64 0, .int .i64 0] 31)).drew := (K0.keep ((Below.refl _ _).alloc (Nat.le_refl _) _)).keep ((Below.refl _ _).alloc (Nat.le_refl _) _)
      generalize ((w.alloc (.cells #[.int .i64 0, .int .i64 0, .int .i64 0, .int .i64 0, .int .i64 0, .int .i64 0, .int .i64 0] 31)).alloc (.cells #[.int .i64 0, .int .i64 0, .int .i64 0, .int .i64 0, .int .i64 0, .int .i64 0, .int .i64 0] 31)).drew = wz at *
      have t6 : wz.there (w.heap.size + 1) 0 (itCells (nth T i)).toArray.size := IsObj.there hB 0 7 (by decide)
      have o6 := IsObj.setAll (xs := itCells (nth T i)) hB rfl
      have y6 := Only.setCells (b := (w.heap.size + 1)) (itCells (nth T i)) 0 (Only.refl (w.heap.size + 1) wz)
      have hk1 := hk0.only y6 (by omega) (by omega)
      have o7 := IsObj.only hA y6 (by omega)
      refine wpAnyH_ready (rs := [16]) (by kernel_rfl) (by simp) ?_
      refine AllReadyH.cons (o := ?oi1900) ?ho1900 (fun K hK => ?_) AllReadyH.nil
      case ho1900 => (simp only [List.getElem?_toArray, List.getElem?_cons_succ, List.getElem?_cons_zero]; rfl)
      refine wp_store_mid 31 _ _ (by rfl) (w.heap.size + 1) 0 (itCells (nth T i)).toArray (by rfl) (by rfl) t6 (by kernel_rfl) (it_one _) ?_
      generalize wz.setCells (w.heap.size + 1) 0 (itCells (nth T i)).toArray.toList = wy at *
      refine hK.out _ _ ?_ (fun hHeld => ?_)
      · (try dsimp only); exact hk1
      clear hK K
      try simp only [Act.put, List.setIfInBounds_toArray, List.set_cons_zero, List.set_cons_succ]
      have t7 : wy.there w.heap.size 0 (itCells (nth T k)).toArray.size := IsObj.there o7 0 7 (by decide)
      have q7 := IsObj.setAll (xs := itCells (nth T k)) o7 rfl
      have y7 := Only.setCells (b := w.heap.size) (itCells (nth T k)) 0 (Only.refl w.heap.size wy)
      have hk2 := hk1.only y7 (by omega) (by omega)
      have q6 := IsObj.only o6 y7 (by omega)
      refine wpAnyH_ready (rs := [17]) (by kernel_rfl) (by simp) ?_
      refine AllReadyH.cons (o := ?oi2000) ?ho2000 (fun K hK => ?_) AllReadyH.nil
      case ho2000 => (simp only [List.getElem?_toArray, List.getElem?_cons_succ, List.getElem?_cons_zero]; rfl)
      refine wp_store_mid 31 _ _ (by rfl) w.heap.size 0 (itCells (nth T k)).toArray (by rfl) (by rfl) t7 (by kernel_rfl) (it_one _) ?_
      generalize wy.setCells w.heap.size 0 (itCells (nth T k)).toArray.toList = wx at *
      refine hK.out _ _ ?_ (fun hHeld => ?_)
      · (try dsimp only); exact hk2
      clear hK K
      try simp only [Act.put, List.setIfInBounds_toArray, List.set_cons_zero, List.set_cons_succ]
      refine wpAnyH_done (by kernel_rfl) ?_ _
      have hbx : Below w.heap.size w wx := (hb0.trans (y6.below (by omega) hb0.size)).trans (y7.below (by omega) (by have h1 := hb0.size; have h2 := y6.size; omega))
      clear hb0 y6 y7 hk0 hk1 hk2 o6 o7 t6 t7 hA hB K0
      go_wp2_with fail
      go_meet
      exact ⟨(w.heap.size + 1), w.heap.size, rfl, rfl, q6, q7, by omega, by omega, hbx⟩
  case rest =>
    obtain ⟨a6, a7, rfl, rfl, o6, o7, l6, l7, bx⟩ := hcut
    have HP := Lib.hid (H.out.same bx)
    have hgm : M < w.heap.size := H.out.m.lt
    have R6 := Lib.hid (IsObj.range o6)
    have R7 := Lib.hid (IsObj.range o7)
    have O6 := Lib.hid o6
    have BX := Lib.hid bx
    have hsz := size_put_le (id := (nth T k).id) (v := vL i) (H.out.m.tidy int_law)
    clear o6 o7 bx
    go_upto_region 1 with (fail)
    go_upto_region 2 with (refine wpList_load_mid (by rfl) 31 _ (by rfl) a7 0 (by rfl) (itCells (nth T k)) _ (by exact R7.out) Try.underlying31 rfl (by kernel_rfl) ?_)
    refine (pset_any i (nth T k) HP.out hi hwk (by omega)).mono ?_
    rintro e w1 ⟨rfl, h1, f1⟩
    have O61 := Lib.hid (f1.isObj O6.out (by omega) (by omega) (by simp [Value.ownBlock]; omega))
    have R61 := Lib.hid (IsObj.range O61.out)
    have H1 := Lib.hid h1
    have F1 := Lib.hid f1
    clear h1 f1 R7 R6
    go_upto_region 2 with (fail)
    go_wp2_with (refine wpList_load_mid (by rfl) 31 _ (by rfl) a6 0 (by rfl) (itCells (nth T i)) _ (by exact R61.out) Try.underlying31 rfl (by kernel_rfl) ?_)
    refine (pset_any k (nth T i) H1.out (by rw [List.length_set]; exact hk) hwi (by omega)).mono ?_
    rintro e w2 ⟨rfl, h2, f2⟩
    have H2 := Lib.hid h2
    have F2 := Lib.hid ((Frp.below BX.out).trans (F1.out.trans f2))
    clear h2 f2
    go_wp2_with fail
    first | go_end0 | (refine bodyPost_ret (results_none rfl _ _ _) rfl ?_)
    exact ⟨rfl, H2.out, F2.out⟩
end Go.Proofs.Ytmanmebgmhpilaa
