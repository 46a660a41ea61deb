/-
  Layer 12 (pile): an item is put at a place.
-/
import Derived.Test.YtmanmebgmhpilaaPileR
import Derived.Deep.DeepCutAuto
namespace Go.Proofs.Ytmanmebgmhpilaa
open Go.RowKit Go.Maps Go.ChangeMaps Go.MapKept
set_option linter.unusedVariables false
set_option linter.unusedSimpArgs false

theorem it_one (x : It) : (itCells x).toArray.all (·.oneCell') = true := by kernel_rfl
theorem own_blk {w w' : World} {base g n cap size : Nat} {e : TypeId} {xs : List Value} (h : w.ownsRow base e size (.slice (some ⟨g, 0, none⟩) n cap) n xs) (hb : w'.heap[g]? = w.heap[g]?) : w'.ownsRow base e size (.slice (some ⟨g, 0, none⟩) n cap) n xs := by
  rcases h.2 with ⟨h1, _⟩ | ⟨g', cap', cur, h1, h2, hg, h3⟩
  · cases h1
  · cases h1
    exact ⟨h.1, .inr ⟨g, cap, cur, rfl, h2, hb.trans hg, h3⟩⟩
def SetS (p M B : Nat) (tv : Value) (x : It) (W : World) : Prop := W.cell? ⟨p, 0, none⟩ = some (.map (some M)) ∧ W.cell? ⟨p, 2, none⟩ = some tv ∧ W.cell? ⟨B, 0, none⟩ = some (.int .i64 x.id) ∧ W.cell? ⟨B, 1, none⟩ = some (.int .i64 x.lev) ∧ W.cell? ⟨B, 2, none⟩ = some (.int .i64 x.frm) ∧ W.cell? ⟨B, 3, none⟩ = some (.int .i64 x.dl) ∧ W.cell? ⟨B, 4, none⟩ = some (.int .i64 x.bud) ∧ W.cell? ⟨B, 5, none⟩ = some (.int .i64 x.since) ∧ W.cell? ⟨B, 6, none⟩ = some (.int .i64 x.seq)
theorem SetS.move {p M B : Nat} {tv : Value} {x : It} {W W' : World} (hp : W'.heap[p]? = W.heap[p]?) (hB : W'.heap[B]? = W.heap[B]?) (h : SetS p M B tv x W) : SetS p M B tv x W' := by
  obtain ⟨h0, h1, h2, h3, h4, h5, h6, h7, h8⟩ := h
  have kp : ∀ (i : Nat), W'.cell? ⟨p, i, none⟩ = W.cell? ⟨p, i, none⟩ := fun i => World.cell?_of_block (w := W) hp
  have kB : ∀ (i : Nat), W'.cell? ⟨B, i, none⟩ = W.cell? ⟨B, i, none⟩ := fun i => World.cell?_of_block (w := W) hB
  exact ⟨(kp 0).trans h0, (kp 2).trans h1, (kB 0).trans h2, (kB 1).trans h3, (kB 2).trans h4, (kB 3).trans h5, (kB 4).trans h6, (kB 5).trans h7, (kB 6).trans h8⟩
set_option maxRecDepth 100000 in
set_option maxHeartbeats 2000000 in
theorem pset_any {w : World} {p M : Nat} {most : Int} {tv : Value} {T : List It} {D : Dat} (k : Nat) (x : It) (h : PRaw w p M most tv T D) (hk : k < T.length) (hx : IdOk x.id) (hn : Maps.size D ≤ 1000) : Calls Try.prog 45 #[.pointer (some ⟨p, 0, none⟩), .int .i64 k, itV x] w fun e w' => e = .returned (.tuple #[]) ∧ PRaw w' p M most tv (T.set k x) (D.put (kL x.id) (vL k)) ∧ Frp p M tv tv w w' := by
  obtain ⟨g, cap, rfl, hg⟩ : ∃ g cap, tv = .slice (some ⟨g, 0, none⟩) T.length cap ∧ p + 1 ≤ g ∧ g < w.heap.size := by
    rcases h.t.2 with ⟨_, h0⟩ | ⟨g, cap, cur, e, hb, hg, _⟩
    · omega
    · exact ⟨g, cap, e, hb, (Array.getElem?_eq_some_iff.1 hg).1⟩
  have hkk := id_key hx
  have hMl := h.m.lt
  have hMg : M ≠ g := by
    intro e
    have h1 := h.t.2
    rcases h1 with ⟨e1, _⟩ | ⟨g', cap', cur, e1, _, hg1, _⟩
    · cases e1
    · cases e1
      obtain ⟨es, cl, hb, _⟩ := h.m
      rw [e] at hb
      rw [hb] at hg1
      cases hg1
  have hord := h.ord
  have hpl := h.o.lt
  obtain ⟨B, hB⟩ : ∃ B, B = w.heap.size := ⟨_, rfl⟩
  have b0 : Below w.heap.size w (w.alloc (.cells #[.int .i64 x.id, .int .i64 x.lev, .int .i64 x.frm, .int .i64 x.dl, .int .i64 x.bud, .int .i64 x.since, .int .i64 x.seq] 31)) := (Below.refl _ w).alloc (Nat.le_refl _) _
  have OB := Lib.hid (show IsObj (w.alloc (.cells #[.int .i64 x.id, .int .i64 x.lev, .int .i64 x.frm, .int .i64 x.dl, .int .i64 x.bud, .int .i64 x.since, .int .i64 x.seq] 31)) B 31 (itCells x) by rw [hB]; exact IsObj.new w _ (itCells x))
  have H0 := Lib.hid (h.same b0)
  have B0 := Lib.hid b0
  have HB := Lib.hid hB
  have hBg : g < B ∧ p < B ∧ M < B := by omega
  have i3 : (k : Int) < (T.length : Int) := by omega
  clear h b0 hB
  go_enter Try.func45, Try.ntmps45
  go_upto_region 1 with (fail)
  rw [← HB.out]
  generalize w.alloc (.cells #[.int .i64 x.id, .int .i64 x.lev, .int .i64 x.frm, .int .i64 x.dl, .int .i64 x.bud, .int .i64 x.since, .int .i64 x.seq] 31) = w0 at *
  have K0 : SetS p M B (.slice (some ⟨g, 0, none⟩) T.length cap) x w0.drew := ⟨H0.out.o.drew.cell 0, H0.out.o.drew.cell 2, OB.out.drew.cell 0, OB.out.drew.cell 1, OB.out.drew.cell 2, OB.out.drew.cell 3, OB.out.drew.cell 4, OB.out.drew.cell 5, OB.out.drew.cell 6⟩
  refine wp_region_held_drew (S := SetS p M B (.slice (some ⟨g, 0, none⟩) T.length cap) x) (by kernel_rfl) ?_ (fun hHeld => ?_)
  · exact K0
  refine wpAnyH_take (i := 0) (oi := ?oi1) (v := ?v1) ?hi1 (by kernel_rfl) (by kernel_rfl) (by kernel_rfl) ?hQ1 ?hy1 (by assumption) ?_
  case hi1 => (simp only [List.getElem?_toArray, List.getElem?_cons_succ, List.getElem?_cons_zero]; rfl)
  case hQ1 => exact fun _ _ _ h => h
  case hy1 => (refine Or.inl ⟨by rfl, ?_⟩; intro w hSw; (obtain ⟨hSw0, hSw1, hSw2, hSw3, hSw4, hSw5, hSw6, hSw7, hSw8⟩ := hSw); go_simp; try with_reducible rfl)
  try simp only [Act.put, List.setIfInBounds_toArray, List.set_cons_zero, List.set_cons_succ]
  refine wpAnyH_take (i := 1) (oi := ?oi2) (v := ?v2) ?hi2 (by kernel_rfl) (by kernel_rfl) (by kernel_rfl) ?hQ2 ?hy2 (by assumption) ?_
  case hi2 => (simp only [List.getElem?_toArray, List.getElem?_cons_succ, List.getElem?_cons_zero]; rfl)
  case hQ2 => exact fun _ _ _ h => h
  case hy2 => (refine Or.inl ⟨by rfl, ?_⟩; intro w hSw; (obtain ⟨hSw0, hSw1, hSw2, hSw3, hSw4, hSw5, hSw6, hSw7, hSw8⟩ := hSw); go_simp; try with_reducible rfl)
  try simp only [Act.put, List.setIfInBounds_toArray, List.set_cons_zero, List.set_cons_succ]
  refine wpAnyH_take (i := 2) (oi := ?oi3) (v := ?v3) ?hi3 (by kernel_rfl) (by kernel_rfl) (by kernel_rfl) ?hQ3 ?hy3 (by assumption) ?_
  case hi3 => (simp only [List.getElem?_toArray, List.getElem?_cons_succ, List.getElem?_cons_zero]; rfl)
  case hQ3 => exact fun _ _ _ h => h
  case hy3 => (refine Or.inl ⟨by rfl, ?_⟩; intro w hSw; (obtain ⟨hSw0, hSw1, hSw2, hSw3, hSw4, hSw5, hSw6, hSw7, hSw8⟩ := hSw); go_simp; try with_reducible rfl)
  try simp only [Act.put, List.setIfInBounds_toArray, List.set_cons_zero, List.set_cons_succ]
  refine wpAnyH_take (i := 3) (oi := ?oi4) (v := ?v4) ?hi4 (by kernel_rfl) (by kernel_rfl) (by kernel_rfl) ?hQ4 ?hy4 (by assumption) ?_
  case hi4 => (simp only [List.getElem?_toArray, List.getElem?_cons_succ, List.getElem?_cons_zero]; rfl)
  case hQ4 => exact fun _ _ _ h => h
  case hy4 => (refine Or.inl ⟨by rfl, ?_⟩; intro w hSw; (obtain ⟨hSw0, hSw1, hSw2, hSw3, hSw4, hSw5, hSw6, hSw7, hSw8⟩ := hSw); go_simp; try with_reducible rfl)
  try simp only [Act.put, List.setIfInBounds_toArray, List.set_cons_zero, List.set_cons_succ]
  refine wpAnyH_take (i := 4) (oi := ?oi5) (v := ?v5) ?hi5 (by kernel_rfl) (by kernel_rfl) (by kernel_rfl) ?hQ5 ?hy5 (by assumption) ?_
  case hi5 => (simp only [List.getElem?_toArray, List.getElem?_cons_succ, List.getElem?_cons_zero]; rfl)
  case hQ5 => exact fun _ _ _ h => h
  case hy5 => (refine Or.inl ⟨by rfl, ?_⟩; intro w hSw; (obtain ⟨hSw0, hSw1, hSw2, hSw3, hSw4, hSw5, hSw6, hSw7, hSw8⟩ := hSw); go_simp; try with_reducible rfl)
  try simp only [Act.put, List.setIfInBounds_toArray, List.set_cons_zero, List.set_cons_succ]
  refine wpAnyH_take (i := 5) (oi := ?oi6) (v := ?v6) ?hi6 (by kernel_rfl) (by kernel_rfl) (by kernel_rfl) ?hQ6 ?hy6 (by assumption) ?_
  case hi6 => (simp only [List.getElem?_toArray, List.getElem?_cons_succ, List.getElem?_cons_zero]; rfl)
  case hQ6 => exact fun _ _ _ h => h
  case hy6 => (refine Or.inl ⟨by rfl, ?_⟩; intro w hSw; (obtain ⟨hSw0, hSw1, hSw2, hSw3, hSw4, hSw5, hSw6, hSw7, hSw8⟩ := hSw); go_simp; try with_reducible rfl)
  try simp only [Act.put, List.setIfInBounds_toArray, List.set_cons_zero, List.set_cons_succ]
  refine wpAnyH_take (i := 6) (oi := ?oi7) (v := ?v7) ?hi7 (by kernel_rfl) (by kernel_rfl) (by kernel_rfl) ?hQ7 ?hy7 (by assumption) ?_
  case hi7 => (simp only [List.getElem?_toArray, List.getElem?_cons_succ, List.getElem?_cons_zero]; rfl)
  case hQ7 => exact fun _ _ _ h => h
  case hy7 => (refine Or.inl ⟨by rfl, ?_⟩; intro w hSw; (obtain ⟨hSw0, hSw1, hSw2, hSw3, hSw4, hSw5, hSw6, hSw7, hSw8⟩ := hSw); go_simp; try with_reducible rfl)
  try simp only [Act.put, List.setIfInBounds_toArray, List.set_cons_zero, List.set_cons_succ]
  refine wpAnyH_take (i := 7) (oi := ?oi8) (v := ?v8) ?hi8 (by kernel_rfl) (by kernel_rfl) (by kernel_rfl) ?hQ8 ?hy8 (by assumption) ?_
  case hi8 => (simp only [List.getElem?_toArray, List.getElem?_cons_succ, List.getElem?_cons_zero]; rfl)
  case hQ8 => exact fun _ _ _ h => h
  case hy8 => (refine Or.inl ⟨by rfl, ?_⟩; intro w hSw; (obtain ⟨hSw0, hSw1, hSw2, hSw3, hSw4, hSw5, hSw6, hSw7, hSw8⟩ := hSw); go_simp; try with_reducible rfl)
  try simp only [Act.put, List.setIfInBounds_toArray, List.set_cons_zero, List.set_cons_succ]
  refine wpAnyH_take (i := 8) (oi := ?oi9) (v := ?v9) ?hi9 (by kernel_rfl) (by kernel_rfl) (by kernel_rfl) ?hQ9 ?hy9 (by assumption) ?_
  case hi9 => (simp only [List.getElem?_toArray, List.getElem?_cons_succ, List.getElem?_cons_zero]; rfl)
  case hQ9 => exact fun _ _ _ h => h
  case hy9 => (refine Or.inl ⟨by rfl, ?_⟩; intro w hSw; (obtain ⟨hSw0, hSw1, hSw2, hSw3, hSw4, hSw5, hSw6, hSw7, hSw8⟩ := hSw); go_simp; try with_reducible rfl)
  try simp only [Act.put, List.setIfInBounds_toArray, List.set_cons_zero, List.set_cons_succ]
  refine wpAnyH_take (i := 9) (oi := ?oi10) (v := ?v10) ?hi10 (by kernel_rfl) (by kernel_rfl) (by kernel_rfl) ?hQ10 ?hy10 (by assumption) ?_
  case hi10 => (simp only [List.getElem?_toArray, List.getElem?_cons_succ, List.getElem?_cons_zero]; rfl)
  case hQ10 => exact fun _ _ _ h => h
  case hy10 => (refine Or.inl ⟨by rfl, ?_⟩; intro w hSw; (obtain ⟨hSw0, hSw1, hSw2, hSw3, hSw4, hSw5, hSw6, hSw7, hSw8⟩ := hSw); go_simp; try with_reducible rfl)
  try simp only [Act.put, List.setIfInBounds_toArray, List.set_cons_zero, List.set_cons_succ]
  refine wpAnyH_take (i := 10) (oi := ?oi11) (v := ?v11) ?hi11 (by kernel_rfl) (by kernel_rfl) (by kernel_rfl) ?hQ11 ?hy11 (by assumption) ?_
  case hi11 => (simp only [List.getElem?_toArray, List.getElem?_cons_succ, List.getElem?_cons_zero]; rfl)
  case hQ11 => exact fun _ _ _ h => h
  case hy11 => (refine Or.inl ⟨by rfl, ?_⟩; intro w hSw; (obtain ⟨hSw0, hSw1, hSw2, hSw3, hSw4, hSw5, hSw6, hSw7, hSw8⟩ := hSw); go_simp; try with_reducible rfl)
  try simp only [Act.put, List.setIfInBounds_toArray, List.set_cons_zero, List.set_cons_succ]
  refine wpAnyH_take (i := 11) (oi := ?oi12) (v := ?v12) ?hi12 (by kernel_rfl) (by kernel_rfl) (by kernel_rfl) ?hQ12 ?hy12 (by assumption) ?_
  case hi12 => (simp only [List.getElem?_toArray, List.getElem?_cons_succ, List.getElem?_cons_zero]; rfl)
  case hQ12 => exact fun _ _ _ h => h
  case hy12 => (refine Or.inl ⟨by rfl, ?_⟩; intro w hSw; (obtain ⟨hSw0, hSw1, hSw2, hSw3, hSw4, hSw5, hSw6, hSw7, hSw8⟩ := hSw); go_simp; try with_reducible rfl)
  try simp only [Act.put, List.setIfInBounds_toArray, List.set_cons_zero, List.set_cons_succ]
  refine wpAnyH_take (i := 12) (oi := ?oi13) (v := ?v13) ?hi13 (by kernel_rfl) (by kernel_rfl) (by kernel_rfl) ?hQ13 ?hy13 (by assumption) ?_
  case hi13 => (simp only [List.getElem?_toArray, List.getElem?_cons_succ, List.getElem?_cons_zero]; rfl)
  case hQ13 => exact fun _ _ _ h => h
  case hy13 => (refine Or.inl ⟨by rfl, ?_⟩; intro w hSw; (obtain ⟨hSw0, hSw1, hSw2, hSw3, hSw4, hSw5, hSw6, hSw7, hSw8⟩ := hSw); go_simp; try with_reducible rfl)
  try simp only [Act.put, List.setIfInBounds_toArray, List.set_cons_zero, List.set_cons_succ]
  refine wpAnyH_take (i := 13) (oi := ?oi14) (v := ?v14) ?hi14 (by kernel_rfl) (by kernel_rfl) (by kernel_rfl) ?hQ14 ?hy14 (by assumption) ?_
  case hi14 => (simp only [List.getElem?_toArray, List.getElem?_cons_succ, List.getElem?_cons_zero]; rfl)
  case hQ14 => exact fun _ _ _ h => h
  case hy14 => (refine Or.inl ⟨by rfl, ?_⟩; intro w hSw; (obtain ⟨hSw0, hSw1, hSw2, hSw3, hSw4, hSw5, hSw6, hSw7, hSw8⟩ := hSw); go_simp; try with_reducible rfl)
  try simp only [Act.put, List.setIfInBounds_toArray, List.set_cons_zero, List.set_cons_succ]
  refine wpAnyH_take (i := 14) (oi := ?oi15) (v := ?v15) ?hi15 (by kernel_rfl) (by kernel_rfl) (by kernel_rfl) ?hQ15 ?hy15 (by assumption) ?_
  case hi15 => (simp only [List.getElem?_toArray, List.getElem?_cons_succ, List.getElem?_cons_zero]; rfl)
  case hQ15 => exact fun _ _ _ h => h
  case hy15 => (refine Or.inl ⟨by rfl, ?_⟩; intro w hSw; (obtain ⟨hSw0, hSw1, hSw2, hSw3, hSw4, hSw5, hSw6, hSw7, hSw8⟩ := hSw); go_simp; try with_reducible rfl)
  try simp only [Act.put, List.setIfInBounds_toArray, List.set_cons_zero, List.set_cons_succ]
  have hrow := own_there H0.out.t k hk
  have hT1 := own_setIt (w := w0.drew) H0.out.t k x hk
  have hO1 := Only.setCells (b := g) (itCells x) (k * 7) (Only.refl g w0.drew)
  have h7 : w0.drew.there g (k * 7) (itCells x).toArray.size := hrow
  have hm1 : (w0.drew.setCells g (k * 7) (itCells x)).ownsMap Try.prog 3 (plainElem Try.prog 3) M (Maps.size D) D := H0.out.m.kept (row := some g) ⟨hO1.os, hO1.tape, hO1.output, hO1.size, fun i hi hne => hO1.block i hi (fun e => hne (by rw [e]))⟩ (by simp; exact hMg)
  have k1 := K0.move (W' := w0.drew.setCells g (k * 7) (itCells x)) (hO1.block p (by show p < w0.heap.size; exact H0.out.o.lt) (by simp; omega)) (hO1.block B (by show B < w0.heap.size; exact OB.out.lt) (by simp; omega))
  have O1 := Lib.hid (IsObj.only H0.out.o.drew hO1 (by omega))
  have F1 := Lib.hid (show Only g w0 (w0.drew.setCells g (k * 7) (itCells x)) from ⟨hO1.os, hO1.tape, hO1.output, hO1.size, hO1.block⟩)
  have T1 := Lib.hid hT1
  refine wpAnyH_ready (rs := [15]) (by kernel_rfl) (by simp) ?_
  refine AllReadyH.cons (o := ?oi1600) ?ho1600 (fun K hK => ?_) AllReadyH.nil
  case ho1600 => (simp only [List.getElem?_toArray, List.getElem?_cons_succ, List.getElem?_cons_zero]; rfl)
  refine wp_store_mid 31 _ _ (by rfl) g (k * 7) (itCells x).toArray (by rfl) (by rfl) h7 (by kernel_rfl) (it_one x) ?_
  generalize w0.drew.setCells g (k * 7) (itCells x).toArray.toList = w1 at *
  refine hK.out _ _ ?_ (fun hHeld => ?_)
  · (try dsimp only); exact k1
  clear hK K
  try simp only [Act.put, List.setIfInBounds_toArray, List.set_cons_zero, List.set_cons_succ]
  obtain ⟨v, st, es1, cl1, hrun, hsome, hfin⟩ := own_entry hm1 int_law Try.underlying54 (zero_int _) (by unfold maxLen; omega) hkk
  have hb2 : (setBlock w1 M (.map es1 cl1)).heap[M]? = some (.map es1 cl1) := by
    obtain ⟨es, cl, hb, _⟩ := hm1
    exact heap_setBlock_same hb _
  have hbo : ∀ i, i ≠ M → (setBlock w1 M (.map es1 cl1)).heap[i]? = w1.heap[i]? := by
    intro i hi
    obtain ⟨es, cl, hb, _⟩ := hm1
    exact heap_setBlock_other hb _ hi
  have k2 := k1.move (W' := setBlock w1 M (.map es1 cl1)) (hbo p (by omega)) (hbo B (by omega))
  refine wpAnyH_ready (rs := [16]) (by kernel_rfl) (by simp) ?_
  refine AllReadyH.cons (o := ?oi1700) ?ho1700 (fun K hK => ?_) AllReadyH.nil
  case ho1700 => (simp only [List.getElem?_toArray, List.getElem?_cons_succ, List.getElem?_cons_zero]; rfl)
  go_simp
  refine hK.out _ _ ?_ (fun hHeld => ?_)
  · (try dsimp only); exact k2
  clear hK K
  try simp only [Act.put, List.setIfInBounds_toArray, List.set_cons_zero, List.set_cons_succ]
  refine wpAnyH_take (i := 17) (oi := ?oi18) (v := ?v18) ?hi18 (by kernel_rfl) (by kernel_rfl) (by kernel_rfl) ?hQ18 ?hy18 (by assumption) ?_
  case hi18 => (simp only [List.getElem?_toArray, List.getElem?_cons_succ, List.getElem?_cons_zero]; rfl)
  case hQ18 => exact fun _ _ _ h => h
  case hy18 => (refine Or.inl ⟨by rfl, ?_⟩; intro w hSw; (obtain ⟨hSw0, hSw1, hSw2, hSw3, hSw4, hSw5, hSw6, hSw7, hSw8⟩ := hSw); go_simp; try with_reducible rfl)
  try simp only [Act.put, List.setIfInBounds_toArray, List.set_cons_zero, List.set_cons_succ]
  obtain ⟨w3, hrun3, hm3, hg3⟩ := hfin (setBlock w1 M (.map es1 cl1)) hb2 (plainElem_int Try.underlying3 (a := (k : Int)) (WalkArith.wf_i64 (by have := H0.out.len; omega)))
  have k3 := k2.move (W' := w3) (hg3.block p (by have h1 := O1.out.lt; simp [setBlock]; exact h1) (by simp; omega)) (hg3.block B (by have h1 := OB.out.lt; have h2 := F1.out.size; simp [setBlock]; omega) (by simp; omega))
  refine wpAnyH_ready (rs := [18]) (by kernel_rfl) (by simp) ?_
  refine AllReadyH.cons (o := ?oi1900) ?ho1900 (fun K hK => ?_) AllReadyH.nil
  case ho1900 => (simp only [List.getElem?_toArray, List.getElem?_cons_succ, List.getElem?_cons_zero]; rfl)
  go_simp
  refine hK.out _ _ ?_ (fun hHeld => ?_)
  · (try dsimp only); exact k3
  clear hK K
  try simp only [Act.put, List.setIfInBounds_toArray, List.set_cons_zero, List.set_cons_succ]
  refine wpAnyH_done (by kernel_rfl) ?_ _
  have hbl : ∀ i, i < w0.heap.size → i ≠ M → i ≠ g → w3.heap[i]? = w0.heap[i]? := by
    intro i hi h1 h2
    have e1 := hg3.block i (by have := F1.out.size; simp [setBlock]; omega) (by simp; exact h1)
    rw [e1, hbo i h1]
    exact F1.out.block i hi (by simp; exact h2)
  have hsz : w0.heap.size ≤ w3.heap.size := by have h1 := F1.out.size; have h2 := hg3.size; simp [setBlock] at h2; omega
  have hwf := H0.out.wf
  have hB2 := OB.out.lt
  have hs1 := F1.out.size
  have HR := Lib.hid (show PRaw w3 p M most (.slice (some ⟨g, 0, none⟩) T.length cap) (T.set k x) (D.put (kL x.id) (vL k)) from ⟨(hbl p (by omega) (by omega) (by omega)).trans H0.out.o, own_sharp hm3 (Nat.le_refl _), by rw [List.length_set]; exact own_blk T1.out (by rw [hg3.block g (by have := F1.out.size; simp [setBlock]; omega) (by simp; omega), hbo g (by omega)]), hord, fun y hy => (List.mem_or_eq_of_mem_set hy).elim (fun h => hwf y h) (fun e => e ▸ hx), by rw [List.length_set]; exact H0.out.len⟩)
  have HF := Lib.hid (show Frp p M (.slice (some ⟨g, 0, none⟩) T.length cap) (.slice (some ⟨g, 0, none⟩) T.length cap) w w3 from ⟨hg3.os.trans (F1.out.os.trans B0.out.os), hg3.tape.trans (F1.out.tape.trans B0.out.tape), hg3.output.trans (F1.out.output.trans B0.out.output), Nat.le_trans B0.out.size hsz, fun i hi h1 h2 h3 => (hbl i (Nat.lt_of_lt_of_le hi B0.out.size) h2 (fun e => h3 (by rw [e]; rfl))).trans (B0.out.block i hi), .inl rfl⟩)
  clear hbl hsz hwf hB2 hs1 k1 k2 k3 hm1 hm3 hg3 hrun hrun3 hfin hb2 hbo hrow hT1 hO1 h7 hsome
  go_wp2_with fail
  first | go_end0 | (refine bodyPost_ret (results_none rfl _ _ _) rfl ?_)
  exact ⟨rfl, HR.out, HF.out⟩
end Go.Proofs.Ytmanmebgmhpilaa
