/-
  Layer 12 (pile): the one at a place goes.
-/
import Derived.Test.YtmanmebgmhpilaaPile6
namespace Go.Proofs.Ytmanmebgmhpilaa
open Go.RowKit Go.Maps
set_option linter.unusedVariables false
set_option linter.unusedSimpArgs false

/-- What is left when the one at a place goes. -/
def cutT (T : List It) (k L : Nat) : List It := (swapT T k L).take L
def outT (T : List It) (k : Nat) : List It := if k < T.length - 1 then downT (upT (cutT T k (T.length - 1)) k) k else cutT T k (T.length - 1)
theorem swapT_end {T : List It} {k L : Nat} (hL : T.length = L + 1) (hk : k < T.length) : swapT T k L = cutT T k L ++ [nth T k] := by
  have hl : (swapT T k L).length = L + 1 := by rw [swapT_len, hL]
  have h1 := (List.take_append_drop L (swapT T k L)).symm
  rw [List.drop_eq_getElem_cons (by omega), List.drop_eq_nil_of_le (by omega), ← nth_lt _ L (by omega), nth_swapT hk (by omega) (by omega), if_pos rfl] at h1
  exact h1
theorem cutT_len {T : List It} {k L : Nat} (hL : T.length = L + 1) : (cutT T k L).length = L := by
  unfold cutT
  rw [List.length_take, swapT_len]
  omega
theorem upT_perm : ∀ (n : Nat) (T : List It) (k : Nat), k ≤ n → k < T.length → (upT T k).Perm T
  | n, T, k, hn, hk => by
    by_cases h : 0 < k ∧ befo (nth T k) (nth T ((k - 1) / 2)) = true
    · rw [upT_go h.1 h.2]
      cases n with
      | zero => omega
      | succ n =>
        exact (upT_perm n _ _ (by omega) (by rw [swapT_len]; omega)).trans (swapT_perm hk (by omega))
    · rw [upT_stop h]
theorem own_cut {w : World} {base g n cap : Nat} {e : TypeId} {T : List It} {L : Nat} (h : w.ownsRow base e 7 (.slice (some ⟨g, 0, none⟩) n cap) n (T.flatMap itCells)) (hL : L ≤ n) : w.ownsRow base e 7 (.slice (some ⟨g, 0, none⟩) L cap) L ((T.take L).flatMap itCells) := by
  have h1 := h.1
  rcases h.2 with ⟨e1, _⟩ | ⟨g', cap', cur, e1, hb, hg, hnc, hcm, hcs, htake⟩
  · cases e1
  · cases e1
    refine ⟨?_, .inr ⟨g, cap, cur, rfl, hb, hg, by omega, hcm, hcs, ?_⟩⟩
    · rw [← itF_take, List.length_take, h1]
      omega
    · rw [← itF_take, ← htake, List.take_take, Nat.min_eq_left (by omega)]
def GoneS (a : Nat) (id : Int) (W : World) : Prop := W.cell? ⟨a, 0, none⟩ = some (.int .i64 id)
/-- Another block is written: the pile stands. -/
theorem PAt.other {w w' : World} {p M H : Nat} {most : Int} {tv : Value} {T : List It} (h : PAt w p M most tv T) (ho : Only H w w') (h1 : H ≠ p) (h2 : H ≠ M) (h3 : some H ≠ tv.ownBlock) : PAt w' p M most tv T := by
  obtain ⟨D, hr, hx⟩ := h.raw
  exact ⟨⟨D, ⟨IsObj.only hr.o ho (fun e => h1 e.symm), hr.m.kept (row := some H) ⟨ho.os, ho.tape, ho.output, ho.size, fun i hi hne => ho.block i hi (fun e => hne (by rw [e]))⟩ (by simp; exact fun e => h2 e.symm), own_at hr.t (fun g _ hg => ho.block g (hr.t.lt g hg).2 (by simp; exact fun e => h3 (by rw [← e, hg]))), hr.ord, hr.wf, hr.len⟩, hx⟩, h.nd⟩
/-- A block that is younger than the start may be written. -/
theorem Frp.late {p M H : Nat} {tv tv1 : Value} {u w w' : World} (f : Frp p M tv tv1 u w) (ho : Only H w w') (hH : u.heap.size ≤ H) : Frp p M tv tv1 u w' :=
  ⟨ho.os.trans f.os, ho.tape.trans f.tape, ho.output.trans f.output, Nat.le_trans f.size ho.size, fun i hi a b c => (ho.block i (Nat.lt_of_lt_of_le hi f.size) (by simp; omega)).trans (f.block i hi a b c), f.own⟩
set_option maxRecDepth 100000 in
set_option maxHeartbeats 4000000 in
theorem pout_any {w : World} {p M : Nat} {most : Int} {tv : Value} {T : List It} (k : Nat) (h : PAt w p M most tv T) (hk : k < T.length) : Calls Try.prog 47 #[.pointer (some ⟨p, 0, none⟩), .int .i64 k] w fun e w' => e = .returned (.tuple #[.agg (itCells (nth T k)).toArray, .bool true]) ∧ ∃ tv', PAt w' p M most tv' (outT T k) ∧ Frp p M tv tv' w w' := by
  obtain ⟨L, hL⟩ : ∃ L, T.length = L + 1 := ⟨T.length - 1, by omega⟩
  obtain ⟨D, hr, hx, hs⟩ := h.raw
  obtain ⟨g, cap, rfl, hg, hgw⟩ : ∃ g cap, tv = .slice (some ⟨g, 0, none⟩) T.length cap ∧ p + 1 ≤ g ∧ g < w.heap.size := hr.shape (by omega)
  have hlen := hr.len
  have hid := hr.wf (nth T k) (by rw [nth_lt T k hk]; exact List.getElem_mem hk)
  have hpl := hr.o.lt
  have hMl := hr.m.lt
  have hord := hr.ord
  have HL := Lib.hid hL
  have W1 := Lib.hid (show IntKind.i64.wrap ((T.length : Int) - 1) = (L : Int) by rw [IntWalk.i64_left, w64_id _ (by omega) (by omega)]; omega)
  have i3 : (k : Int) < (T.length : Int) := by omega
  have hkL : k ≤ L := by omega
  obtain ⟨H, hH⟩ : ∃ H, H = w.heap.size := ⟨_, rfl⟩
  have HH := Lib.hid hH
  have B0 := Lib.hid (show Below w.heap.size w (w.alloc (.cells #[.int .i64 0, .int .i64 0, .int .i64 0, .int .i64 0, .int .i64 0, .int .i64 0, .int .i64 0] 31)) from (Below.refl _ w).alloc (Nat.le_refl _) _)
  have O0 := Lib.hid (show IsObj (w.alloc (.cells #[.int .i64 0, .int .i64 0, .int .i64 0, .int .i64 0, .int .i64 0, .int .i64 0, .int .i64 0] 31)) H 31 [.int .i64 0, .int .i64 0, .int .i64 0, .int .i64 0, .int .i64 0, .int .i64 0, .int .i64 0] by rw [hH]; exact IsObj.new w _ [.int .i64 0, .int .i64 0, .int .i64 0, .int .i64 0, .int .i64 0, .int .i64 0, .int .i64 0])
  have H0 := Lib.hid (h.same B0.out)
  have hHg : g < H ∧ p < H ∧ M < H := by omega
  clear hr hx hs h hL hH
  go_enter Try.func47, Try.ntmps47
  go_upto_region 1 with (fail)
  rw [← HH.out]
  generalize w.alloc (.cells #[.int .i64 0, .int .i64 0, .int .i64 0, .int .i64 0, .int .i64 0, .int .i64 0, .int .i64 0] 31) = w0 at *
  have hH0 : H < w0.heap.size := O0.out.lt
  go_cut [6, 7] (fun s6 s7 wx => ∃ a : Nat, s6 = .pointer (some ⟨a, 0, none⟩) ∧ s7 = .int .i64 L ∧ IsObj wx a 31 (itCells (nth T k)) ∧ w0.heap.size ≤ a ∧ Below w0.heap.size w0 wx)
  case first =>
    have K0 : SwapS p g k k (.slice (some ⟨g, 0, none⟩) T.length cap) T w0.drew := by
      obtain ⟨D, hr, _⟩ := H0.out.raw
      exact ⟨hr.o.drew.cell 2, own_range hr.t k hk, own_range hr.t k hk⟩
    refine wp_region_held_drew (S := SwapS p g k k (.slice (some ⟨g, 0, none⟩) T.length cap) T) (by kernel_rfl) ?_ (fun hHeld => ?_)
    · exact K0
    refine wpAnyH_take (i := 0) (oi := ?oi1) (v := ?v1) ?hi1 (by kernel_rfl) (by kernel_rfl) (by kernel_rfl) ?hQ1 ?hy1 (by assumption) ?_
    case hi1 => (simp only [List.getElem?_toArray, List.getElem?_cons_succ, List.getElem?_cons_zero]; rfl)
    case hQ1 => exact fun _ _ _ h => h
    case hy1 => (refine Or.inl ⟨by rfl, ?_⟩; intro w hSw; (obtain ⟨hSw0, hSw1, hSw2⟩ := hSw); go_simp; try with_reducible rfl)
    try simp only [Act.put, List.setIfInBounds_toArray, List.set_cons_zero, List.set_cons_succ]
    refine wpAnyH_take (i := 1) (oi := ?oi2) (v := ?v2) ?hi2 (by kernel_rfl) (by kernel_rfl) (by kernel_rfl) ?hQ2 ?hy2 (by assumption) ?_
    case hi2 => (simp only [List.getElem?_toArray, List.getElem?_cons_succ, List.getElem?_cons_zero]; rfl)
    case hQ2 => exact fun _ _ _ h => h
    case hy2 => (refine Or.inl ⟨by rfl, ?_⟩; intro w hSw; (obtain ⟨hSw0, hSw1, hSw2⟩ := hSw); go_simp; try with_reducible rfl)
    try simp only [Act.put, List.setIfInBounds_toArray, List.set_cons_zero, List.set_cons_succ]
    refine wpAnyH_take (i := 2) (oi := ?oi3) (v := ?v3) ?hi3 (by kernel_rfl) (by kernel_rfl) (by kernel_rfl) ?hQ3 ?hy3 (by assumption) ?_
    case hi3 => (simp only [List.getElem?_toArray, List.getElem?_cons_succ, List.getElem?_cons_zero]; rfl)
    case hQ3 => exact fun _ _ _ h => h
    case hy3 => (refine Or.inl ⟨by rfl, ?_⟩; intro w hSw; (obtain ⟨hSw0, hSw1, hSw2⟩ := hSw); go_simp; try with_reducible rfl)
    try simp only [Act.put, List.setIfInBounds_toArray, List.set_cons_zero, List.set_cons_succ]
    refine wpAnyH_take (i := 3) (oi := ?oi4) (v := ?v4) ?hi4 (by kernel_rfl) (by kernel_rfl) (by kernel_rfl) ?hQ4 ?hy4 (by assumption) ?_
    case hi4 => (simp only [List.getElem?_toArray, List.getElem?_cons_succ, List.getElem?_cons_zero]; rfl)
    case hQ4 => exact fun _ _ _ h => h
    case hy4 => (refine Or.inl ⟨by rfl, ?_⟩; intro w hSw; (obtain ⟨hSw0, hSw1, hSw2⟩ := hSw); go_simp; try with_reducible rfl)
    try simp only [Act.put, List.setIfInBounds_toArray, List.set_cons_zero, List.set_cons_succ]
    refine wpAnyH_take (i := 4) (oi := ?oi5) (v := ?v5) ?hi5 (by kernel_rfl) (by kernel_rfl) (by kernel_rfl) ?hQ5 ?hy5 (by assumption) ?_
    case hi5 => (simp only [List.getElem?_toArray, List.getElem?_cons_succ, List.getElem?_cons_zero]; rfl)
    case hQ5 => exact fun _ _ _ h => h
    case hy5 => (refine Or.inl ⟨by rfl, ?_⟩; intro w hSw; (obtain ⟨hSw0, hSw1, hSw2⟩ := hSw); go_simp; try with_reducible rfl)
    try simp only [Act.put, List.setIfInBounds_toArray, List.set_cons_zero, List.set_cons_succ]
    refine wpAnyH_take (i := 5) (oi := ?oi6) (v := ?v6) ?hi6 (by kernel_rfl) (by kernel_rfl) (by kernel_rfl) ?hQ6 ?hy6 (by assumption) ?_
    case hi6 => (simp only [List.getElem?_toArray, List.getElem?_cons_succ, List.getElem?_cons_zero]; rfl)
    case hQ6 => exact fun _ _ _ h => h
    case hy6 => (refine Or.inl ⟨by rfl, ?_⟩; intro w hSw; (obtain ⟨hSw0, hSw1, hSw2⟩ := hSw); go_simp; try with_reducible rfl)
    try simp only [Act.put, List.setIfInBounds_toArray, List.set_cons_zero, List.set_cons_succ]
    refine wpAnyH_take (i := 6) (oi := ?oi7) (v := .agg (itCells (nth T k)).toArray) ?hi7 (by kernel_rfl) (by kernel_rfl) (by kernel_rfl) ?hQ7 ?hy7 (by assumption) ?_
    case hi7 => (simp only [List.getElem?_toArray, List.getElem?_cons_succ, List.getElem?_cons_zero]; rfl)
    case hQ7 => exact fun _ _ _ h => h
    case hy7 => exact yieldsIf_load_mid (by rfl) 31 _ (by rfl) g (k * 7) (by rfl) (itCells (nth T k)) _ (fun w hw => hw.2.1) Try.underlying31 rfl (by kernel_rfl)
    try simp only [Act.put, List.setIfInBounds_toArray, List.set_cons_zero, List.set_cons_succ]
    refine wpAnyH_take (i := 7) (oi := ?oi8) (v := ?v8) ?hi8 (by kernel_rfl) (by kernel_rfl) (by kernel_rfl) ?hQ8 ?hy8 (by assumption) ?_
    case hi8 => (simp only [List.getElem?_toArray, List.getElem?_cons_succ, List.getElem?_cons_zero]; rfl)
    case hQ8 => exact fun _ _ _ h => h
    case hy8 => (refine Or.inl ⟨by rfl, ?_⟩; intro w hSw; (obtain ⟨hSw0, hSw1, hSw2⟩ := hSw); go_simp; try with_reducible rfl)
    try simp only [Act.put, List.setIfInBounds_toArray, List.set_cons_zero, List.set_cons_succ]
    refine wpAnyH_take (i := 8) (oi := ?oi9) (v := ?v9) ?hi9 (by kernel_rfl) (by kernel_rfl) (by kernel_rfl) ?hQ9 ?hy9 (by assumption) ?_
    case hi9 => (simp only [List.getElem?_toArray, List.getElem?_cons_succ, List.getElem?_cons_zero]; rfl)
    case hQ9 => exact fun _ _ _ h => h
    case hy9 => (refine Or.inl ⟨by rfl, ?_⟩; intro w hSw; (obtain ⟨hSw0, hSw1, hSw2⟩ := hSw); go_simp; try with_reducible rfl)
    try simp only [Act.put, List.setIfInBounds_toArray, List.set_cons_zero, List.set_cons_succ]
    refine wpAnyH_take (i := 9) (oi := ?oi10) (v := ?v10) ?hi10 (by kernel_rfl) (by kernel_rfl) (by kernel_rfl) ?hQ10 ?hy10 (by assumption) ?_
    case hi10 => (simp only [List.getElem?_toArray, List.getElem?_cons_succ, List.getElem?_cons_zero]; rfl)
    case hQ10 => exact fun _ _ _ h => h
    case hy10 => (refine Or.inl ⟨by rfl, ?_⟩; intro w hSw; (obtain ⟨hSw0, hSw1, hSw2⟩ := hSw); go_simp; try with_reducible rfl)
    try simp only [Act.put, List.setIfInBounds_toArray, List.set_cons_zero, List.set_cons_succ]
    refine wpAnyH_take (i := 10) (oi := ?oi11) (v := ?v11) ?hi11 (by kernel_rfl) (by kernel_rfl) (by kernel_rfl) ?hQ11 ?hy11 (by assumption) ?_
    case hi11 => (simp only [List.getElem?_toArray, List.getElem?_cons_succ, List.getElem?_cons_zero]; rfl)
    case hQ11 => exact fun _ _ _ h => h
    case hy11 => (refine Or.inl ⟨by rfl, ?_⟩; intro w hSw; (obtain ⟨hSw0, hSw1, hSw2⟩ := hSw); go_simp; try with_reducible rfl)
    try simp only [Act.put, List.setIfInBounds_toArray, List.set_cons_zero, List.set_cons_succ]
    refine wpAnyH_take (i := 11) (oi := ?oi12) (v := ?v12) ?hi12 (by kernel_rfl) (by kernel_rfl) (by kernel_rfl) ?hQ12 ?hy12 (by assumption) ?_
    case hi12 => (simp only [List.getElem?_toArray, List.getElem?_cons_succ, List.getElem?_cons_zero]; rfl)
    case hQ12 => exact fun _ _ _ h => h
    case hy12 => (refine Or.inl ⟨by rfl, ?_⟩; intro w hSw; (obtain ⟨hSw0, hSw1, hSw2⟩ := hSw); go_simp; try with_reducible rfl)
    try simp only [Act.put, List.setIfInBounds_toArray, List.set_cons_zero, List.set_cons_succ]
    refine wpAnyH_take (i := 12) (oi := ?oi13) (v := ?v13) ?hi13 (by kernel_rfl) (by kernel_rfl) (by kernel_rfl) ?hQ13 ?hy13 (by assumption) ?_
    case hi13 => (simp only [List.getElem?_toArray, List.getElem?_cons_succ, List.getElem?_cons_zero]; rfl)
    case hQ13 => exact fun _ _ _ h => h
    case hy13 => (refine Or.inl ⟨by rfl, ?_⟩; intro w hSw; (obtain ⟨hSw0, hSw1, hSw2⟩ := hSw); go_simp; try with_reducible rfl)
    try simp only [Act.put, List.setIfInBounds_toArray, List.set_cons_zero, List.set_cons_succ]
    refine wpAnyH_ready (rs := [13]) (by kernel_rfl) (by simp) ?_
    refine AllReadyH.cons (o := ?oi1400) ?ho1400 (fun K hK => ?_) AllReadyH.nil
    case ho1400 => (simp only [List.getElem?_toArray, List.getElem?_cons_succ, List.getElem?_cons_zero]; rfl)
    go_simp
    refine hK.out _ _ ?_ (fun hHeld => ?_)
    · (try dsimp only); exact K0.keep ((Below.refl _ _).alloc (Nat.le_refl _) _)
    clear hK K
    try simp only [Act.put, List.setIfInBounds_toArray, List.set_cons_zero, List.set_cons_succ]
    have hA : IsObj (w0.alloc (.cells #[.int .i64 0, .int .i64 0, .int .i64 0, .int .i64 0, .int .i64 0, .int .i64 0, .int .i64 0] 31)).drew w0.heap.size 31 [.int .i64 0, .int .i64 0, .int .i64 0, .int .i64 0, .int .i64 0, .int .i64 0, .int .i64 0] := (IsObj.new w0 _ [.int .i64 0, .int .i64 0, .int .i64 0, .int .i64 0, .int .i64 0, .int .i64 0, .int .i64 0]).drew
    have hb0 : Below w0.heap.size w0 (w0.alloc (.cells #[.int .i64 0, .int .i64 0, .int .i64 0, .int .i64 0, .int .i64 0, .int .i64 0, .int .i64 0] 31)).drew := ((Below.refl _ w0).alloc (Nat.le_refl _) _).drew
    have hk0 : SwapS p g k k (.slice (some ⟨g, 0, none⟩) T.length cap) T (w0.alloc (.cells #[.int .i64 0, .int .i64 0, .int .i64 0, .int .i64 0, .int .i64 0, .int .i64 0, .int .i64 0] 31)).drew := K0.keep ((Below.refl _ _).alloc (Nat.le_refl _) _)
    generalize (w0.alloc (.cells #[.int .i64 0, .int .i64 0, .int .i64 0, .int .i64 0, .int .i64 0, .int .i64 0, .int .i64 0] 31)).drew = wz at *
    have t6 : wz.there w0.heap.size 0 (itCells (nth T k)).toArray.size := IsObj.there hA 0 7 (by decide)
    have o6 := IsObj.setAll (xs := (itCells (nth T k))) hA rfl
    have y6 := Only.setCells (b := w0.heap.size) (itCells (nth T k)) 0 (Only.refl w0.heap.size wz)
    have hk1 := hk0.only y6 (by omega) (by omega)
    refine wpAnyH_ready (rs := [14]) (by kernel_rfl) (by simp) ?_
    refine AllReadyH.cons (o := ?oi1500) ?ho1500 (fun K hK => ?_) AllReadyH.nil
    case ho1500 => (simp only [List.getElem?_toArray, List.getElem?_cons_succ, List.getElem?_cons_zero]; rfl)
    refine wp_store_mid 31 _ _ (by rfl) w0.heap.size 0 (itCells (nth T k)).toArray (by rfl) (by rfl) t6 (by kernel_rfl) (it_one _) ?_
    generalize wz.setCells w0.heap.size 0 (itCells (nth T k)).toArray.toList = wy at *
    refine hK.out _ _ ?_ (fun hHeld => ?_)
    · (try dsimp only); exact hk1
    clear hK K
    try simp only [Act.put, List.setIfInBounds_toArray, List.set_cons_zero, List.set_cons_succ]
    refine wpAnyH_take (i := 15) (oi := ?oi16) (v := ?v16) ?hi16 (by kernel_rfl) (by kernel_rfl) (by kernel_rfl) ?hQ16 ?hy16 (by assumption) ?_
    case hi16 => (simp only [List.getElem?_toArray, List.getElem?_cons_succ, List.getElem?_cons_zero]; rfl)
    case hQ16 => exact fun _ _ _ h => h
    case hy16 => (refine Or.inl ⟨by rfl, ?_⟩; intro w hSw; (obtain ⟨hSw0, hSw1, hSw2⟩ := hSw); go_simp; try with_reducible rfl)
    try simp only [Act.put, List.setIfInBounds_toArray, List.set_cons_zero, List.set_cons_succ]
    refine wpAnyH_done (by kernel_rfl) ?_ _
    have hbx : Below w0.heap.size w0 wy := hb0.trans (y6.below (Nat.le_refl _) hb0.size)
    clear hb0 y6 hk0 hk1 t6 hA K0
    go_wp2_with fail
    go_meet
    exact ⟨w0.heap.size, rfl, congrArg (Value.int .i64) W1.out, o6, Nat.le_refl _, hbx⟩
  case rest =>
    obtain ⟨a, rfl, rfl, oa, la, bx⟩ := hcut
    have HP1 := Lib.hid (H0.out.same bx)
    have OA1 := Lib.hid oa
    have OH1 := Lib.hid (IsObj.below O0.out bx O0.out.lt)
    have BX := Lib.hid (B0.out.trans (bx.mono B0.out.size))
    clear oa bx
    go_upto_region 2 with (fail)
    go_upto_region 3 with (fail)
    refine (pswap_any k L HP1.out hk (by have := HL.out; omega)).mono ?_
    rintro e w2 ⟨rfl, h2, f2⟩
    have HP2 := Lib.hid h2
    have OA2 := Lib.hid (f2.isObj OA1.out (by omega) (by omega) (by simp [Value.ownBlock]; omega))
    have OH2 := Lib.hid (f2.isObj OH1.out (by omega) (by omega) (by simp [Value.ownBlock]; omega))
    have F2 := Lib.hid ((Frp.below BX.out).trans f2)
    clear h2 f2
    obtain ⟨D2, hr2, hx2, hs2⟩ := HP2.out.raw
    have hnc : T.length ≤ cap := by
      rcases hr2.t.2 with ⟨e1, _⟩ | ⟨g', cap', cur, e1, _, _, h1, _⟩
      · cases e1
      · injection e1 with _ _ e3
        rw [swapT_len] at h1
        omega
    have i5 : (L : Int) ≤ (cap : Int) := by have := HL.out; omega
    have c2 : w2.cell? ⟨p, 2, none⟩ = some (.slice (some ⟨g, 0, none⟩) T.length cap) := hr2.o.cell 2
    have f2 := hr2.o.free 2
    have hset := (Only.refl p w2).setCell (p := ⟨p, 2, none⟩) (.inl rfl) (.slice (some ⟨g, 0, none⟩) L cap)
    have hgL : g < w2.heap.size := (hr2.t.lt g rfl).2
    have hMw : M < w2.heap.size := hr2.m.lt
    have ht1 := own_cut (L := L) (n := (swapT T k L).length) (by rw [swapT_len]; exact (swapT_len T k L) ▸ hr2.t) (by rw [swapT_len]; have := HL.out; omega)
    have hcl := cutT_len (k := k) HL.out
    have HR3 := Lib.hid (show PRaw (w2.setCell ⟨p, 2, none⟩ (.slice (some ⟨g, 0, none⟩) L cap)) p M most (.slice (some ⟨g, 0, none⟩) L cap) (cutT T k L) D2 from ⟨hr2.o.set 2 _, hr2.m.kept (row := some p) ⟨hset.os, hset.tape, hset.output, hset.size, fun i hi hne => hset.block i hi (fun e => hne (by rw [e]))⟩ (by simp; omega), by rw [hcl]; exact own_blk ht1 (hset.block g hgL (by simp; omega)), hord, fun y hy => hr2.wf y (List.mem_of_mem_take hy), by rw [hcl]; have := HL.out; omega⟩)
    have F3 := Lib.hid (show Frp p M (.slice (some ⟨g, 0, none⟩) T.length cap) (.slice (some ⟨g, 0, none⟩) L cap) w2 (w2.setCell ⟨p, 2, none⟩ (.slice (some ⟨g, 0, none⟩) L cap)) from ⟨hset.os, hset.tape, hset.output, hset.size, fun i hi h1 h2 h3 => hset.block i hi (fun e => h1 (by simpa using e)), .inl rfl⟩)
    have OA3 := Lib.hid (IsObj.only OA2.out hset (by omega))
    have OH3 := Lib.hid (IsObj.only OH2.out hset (by omega))
    have HX2 := Lib.hid (And.intro hx2 hs2)
    have HT2 := Lib.hid (hr2.m.tidy int_law)
    have HCL := Lib.hid hcl
    clear hr2 hx2 hs2 hnc hset ht1 hcl
    go_upto_region 4 with (fail)
    clear c2 f2 i5
    generalize w2.setCell ⟨p, 2, none⟩ (.slice (some ⟨g, 0, none⟩) L cap) = w3 at *
    have K1 : GoneS a (nth T k).id w3.drew := OA3.out.drew.cell 0
    have HR3d := Lib.hid (HR3.out.same (w' := w3.drew) (Below.refl _ _).drew)
    refine wp_region_held_drew (S := GoneS a (nth T k).id) (by kernel_rfl) ?_ (fun hHeld => ?_)
    · exact K1
    refine wpAnyH_take (i := 0) (oi := ?oi17) (v := ?v17) ?hi17 (by kernel_rfl) (by kernel_rfl) (by kernel_rfl) ?hQ17 ?hy17 (by assumption) ?_
    case hi17 => (simp only [List.getElem?_toArray, List.getElem?_cons_succ, List.getElem?_cons_zero]; rfl)
    case hQ17 => exact fun _ _ _ h => h
    case hy17 => (refine Or.inl ⟨by rfl, ?_⟩; intro w hSw; (unfold GoneS at hSw); go_simp; try with_reducible rfl)
    try simp only [Act.put, List.setIfInBounds_toArray, List.set_cons_zero, List.set_cons_succ]
    refine wpAnyH_take (i := 1) (oi := ?oi18) (v := ?v18) ?hi18 (by kernel_rfl) (by kernel_rfl) (by kernel_rfl) ?hQ18 ?hy18 (by assumption) ?_
    case hi18 => (simp only [List.getElem?_toArray, List.getElem?_cons_succ, List.getElem?_cons_zero]; rfl)
    case hQ18 => exact fun _ _ _ h => h
    case hy18 => (refine Or.inl ⟨by rfl, ?_⟩; intro w hSw; (unfold GoneS at hSw); go_simp; try with_reducible rfl)
    try simp only [Act.put, List.setIfInBounds_toArray, List.set_cons_zero, List.set_cons_succ]
    refine wpAnyH_take (i := 2) (oi := ?oi19) (v := ?v19) ?hi19 (by kernel_rfl) (by kernel_rfl) (by kernel_rfl) ?hQ19 ?hy19 (by assumption) ?_
    case hi19 => (simp only [List.getElem?_toArray, List.getElem?_cons_succ, List.getElem?_cons_zero]; rfl)
    case hQ19 => exact fun _ _ _ h => h
    case hy19 => (refine Or.inl ⟨by rfl, ?_⟩; intro w hSw; (unfold GoneS at hSw); go_simp; try with_reducible rfl)
    try simp only [Act.put, List.setIfInBounds_toArray, List.set_cons_zero, List.set_cons_succ]
    refine wpAnyH_take (i := 3) (oi := ?oi20) (v := ?v20) ?hi20 (by kernel_rfl) (by kernel_rfl) (by kernel_rfl) ?hQ20 ?hy20 (by assumption) ?_
    case hi20 => (simp only [List.getElem?_toArray, List.getElem?_cons_succ, List.getElem?_cons_zero]; rfl)
    case hQ20 => exact fun _ _ _ h => h
    case hy20 => (refine Or.inl ⟨by rfl, ?_⟩; intro w hSw; (unfold GoneS at hSw); go_simp; try with_reducible rfl)
    try simp only [Act.put, List.setIfInBounds_toArray, List.set_cons_zero, List.set_cons_succ]
    refine wpAnyH_take (i := 4) (oi := ?oi21) (v := ?v21) ?hi21 (by kernel_rfl) (by kernel_rfl) (by kernel_rfl) ?hQ21 ?hy21 (by assumption) ?_
    case hi21 => (simp only [List.getElem?_toArray, List.getElem?_cons_succ, List.getElem?_cons_zero]; rfl)
    case hQ21 => exact fun _ _ _ h => h
    case hy21 => (refine Or.inl ⟨by rfl, ?_⟩; intro w hSw; (unfold GoneS at hSw); go_simp; try with_reducible rfl)
    try simp only [Act.put, List.setIfInBounds_toArray, List.set_cons_zero, List.set_cons_succ]
    refine wpAnyH_ready (rs := [5]) (by kernel_rfl) (by simp) ?_
    refine AllReadyH.cons (o := ?oi2200) ?ho2200 (fun K hK => ?_) AllReadyH.nil
    case ho2200 => (simp only [List.getElem?_toArray, List.getElem?_cons_succ, List.getElem?_cons_zero]; rfl)
    go_simp
    go_at_call 61
    refine (pgone_any (nth T k).id HR3d.out hid).mono ?_
    rintro e w4 ⟨rfl, hr4, f4⟩
    have k4 : GoneS a (nth T k).id w4 := (f4.isObj OA3.out.drew (by omega) (by omega) (by simp [Value.ownBlock]; omega)).cell 0
    refine hK.out _ _ ?_ (fun hHeld => ?_)
    · (try dsimp only); exact k4
    clear hK K
    try simp only [Act.put, List.setIfInBounds_toArray, List.set_cons_zero, List.set_cons_succ]
    refine wpAnyH_done (by kernel_rfl) ?_ _
    have HP4 := Lib.hid (show PAt w4 p M most (.slice (some ⟨g, 0, none⟩) L cap) (cutT T k L) by
      have hn2 := HP2.out.nd
      rw [swapT_end HL.out hk] at hn2
      have hx3 := HX2.out.1
      rw [swapT_end HL.out hk] at hx3
      have hsz := HX2.out.2
      have hdel := size_del_in (id := (nth T k).id) HT2.out (by rw [hx3.has]; exact decide_eq_true (by simp))
      rw [swapT_len] at hsz
      have hl2 := HL.out
      have hc2 := HCL.out
      exact ⟨⟨_, hr4, hx3.pop hn2, by rw [hc2]; omega⟩, by rw [List.map_append, List.nodup_append] at hn2; exact hn2.1⟩)
    have OA4 := Lib.hid (f4.isObj OA3.out.drew (by omega) (by omega) (by simp [Value.ownBlock]; omega))
    have OH4 := Lib.hid (f4.isObj OH3.out.drew (by omega) (by omega) (by simp [Value.ownBlock]; omega))
    have F4 := Lib.hid ((F2.out.trans F3.out).trans ((Frp.below (w := w3) (v := w3.drew) (Below.refl _ _).drew).trans f4))
    clear hr4 f4 HR3 HR3d OA3 OH3 F2 F3 K1
    by_cases hkl : k < L
    · have i6 : (k : Int) < (L : Int) := by omega
      have HO := Lib.hid (show outT T k = downT (upT (cutT T k L) k) k by unfold outT; have h9 := HL.out; rw [show T.length - 1 = L by omega, if_pos hkl])
      go_upto_region 6 with (fail)
      go_upto_region 7 with (fail)
      refine (pup_any k HP4.out (by rw [HCL.out]; exact hkl)).mono ?_
      rintro e w5 ⟨rfl, h5, f5⟩
      have HP5 := Lib.hid h5
      have OA5 := Lib.hid (f5.isObj OA4.out (by omega) (by omega) (by simp [Value.ownBlock]; omega))
      have OH5 := Lib.hid (f5.isObj OH4.out (by omega) (by omega) (by simp [Value.ownBlock]; omega))
      have F5 := Lib.hid (F4.out.trans f5)
      have hul : (upT (cutT T k L) k).length = L := by rw [(upT_perm k _ k (Nat.le_refl _) (by rw [HCL.out]; exact hkl)).length_eq, HCL.out]
      have HUL := Lib.hid hul
      clear h5 f5 hul
      go_upto_region 7 with (fail)
      go_upto_region 8 with (fail)
      refine (pdown_any k HP5.out (by rw [HUL.out]; exact hkl)).mono ?_
      rintro e w6 ⟨rfl, h6, f6⟩
      have HP6 := Lib.hid h6
      have OA6 := Lib.hid (f6.isObj OA5.out (by omega) (by omega) (by simp [Value.ownBlock]; omega))
      have OH6 := Lib.hid (f6.isObj OH5.out (by omega) (by omega) (by simp [Value.ownBlock]; omega))
      have F6 := Lib.hid (F5.out.trans f6)
      clear h6 f6
      rw [← HO.out] at HP6
      have RA := Lib.hid (IsObj.range OA6.out)
      have RT := Lib.hid (show w6.there H 0 (itCells (nth T k)).toArray.size from IsObj.there OH6.out 0 7 (by simp))
      have OF := Lib.hid (show IsObj (w6.setCells H 0 (itCells (nth T k)).toArray.toList) H 31 (itCells (nth T k)) from IsObj.setAll OH6.out rfl)
      have BF := Lib.hid (show Only H w6 (w6.setCells H 0 (itCells (nth T k)).toArray.toList) from Only.setCells (b := H) (itCells (nth T k)) 0 (Only.refl H w6))
      go_wp2_with (first | (refine wpList_load_mid (by rfl) 31 _ (by rfl) a 0 (by rfl) (itCells (nth T k)) _ (by exact RA.out) Try.underlying31 rfl (by kernel_rfl) ?_) | (refine wpList_store_mid (by rfl) 31 _ _ (by rfl) H 0 (itCells (nth T k)).toArray (by rfl) (by rfl) (by exact RT.out) (by kernel_rfl) (it_one _) ?_; generalize w6.setCells H 0 (itCells (nth T k)).toArray.toList = wf at *))
      have RL := run_loadVar_mid (P := Try.prog) wf H 0 31 (itCells (nth T k)) _ (IsObj.range OF.out) Try.underlying31 rfl (by kernel_rfl)
      refine bodyPost_ret (v := .tuple #[.agg (itCells (nth T k)).toArray, .bool true]) ?_ rfl ?_
      · exact results_cell_tmp (by rfl) (by rfl) (by rfl) RL
      · have hh := HH.out
        exact ⟨rfl, _, HP6.out.other BF.out (by omega) (by omega) (by simp [Value.ownBlock]; omega), F6.out.late BF.out (by omega)⟩
    · have i6 : (L : Int) ≤ (k : Int) := by omega
      have HO := Lib.hid (show outT T k = cutT T k L by unfold outT; have h9 := HL.out; rw [show T.length - 1 = L by omega, if_neg hkl])
      rw [← HO.out] at HP4
      have RA := Lib.hid (IsObj.range OA4.out)
      have RT := Lib.hid (show w4.there H 0 (itCells (nth T k)).toArray.size from IsObj.there OH4.out 0 7 (by simp))
      have OF := Lib.hid (show IsObj (w4.setCells H 0 (itCells (nth T k)).toArray.toList) H 31 (itCells (nth T k)) from IsObj.setAll OH4.out rfl)
      have BF := Lib.hid (show Only H w4 (w4.setCells H 0 (itCells (nth T k)).toArray.toList) from Only.setCells (b := H) (itCells (nth T k)) 0 (Only.refl H w4))
      go_wp2_with (first | (refine wpList_load_mid (by rfl) 31 _ (by rfl) a 0 (by rfl) (itCells (nth T k)) _ (by exact RA.out) Try.underlying31 rfl (by kernel_rfl) ?_) | (refine wpList_store_mid (by rfl) 31 _ _ (by rfl) H 0 (itCells (nth T k)).toArray (by rfl) (by rfl) (by exact RT.out) (by kernel_rfl) (it_one _) ?_; generalize w4.setCells H 0 (itCells (nth T k)).toArray.toList = wf at *))
      have RL := run_loadVar_mid (P := Try.prog) wf H 0 31 (itCells (nth T k)) _ (IsObj.range OF.out) Try.underlying31 rfl (by kernel_rfl)
      refine bodyPost_ret (v := .tuple #[.agg (itCells (nth T k)).toArray, .bool true]) ?_ rfl ?_
      · exact results_cell_tmp (by rfl) (by rfl) (by rfl) RL
      · have hh := HH.out
        exact ⟨rfl, _, HP4.out.other BF.out (by omega) (by omega) (by simp [Value.ownBlock]; omega), F4.out.late BF.out (by omega)⟩
end Go.Proofs.Ytmanmebgmhpilaa
