/-
  What the law's of makes of what was told: a table, and the document's now.
-/
import Derived.Test.YtgkmmoiniidhlaaFan5
namespace Go.Proofs.Ytgkmmoiniidhlaa
open Go.RowKit
set_option linter.unusedVariables false
set_option linter.unusedSimpArgs false

structure Td where
  to : Int
  th : Int
  ep : Int
  tm : Int
instance : Inhabited Td := ⟨⟨0, 0, 0, 0⟩⟩
def tdCells (x : Td) : List Value := [.int .i64 x.to, .int .i64 x.th, .int .i64 x.ep, .int .i64 x.tm]
theorem tdCells_len (x : Td) : (tdCells x).length = 4 := rfl
def tolds (l : List Td) : Ents := l.foldl (fun f t => lrn f t.to t.th t.ep t.tm) (fun _ => none)
theorem tolds_next (l : List Td) (k : Nat) (h : k < l.length) : tolds (l.take (k + 1)) = lrn (tolds (l.take k)) (nth l k).to (nth l k).th (nth l k).ep (nth l k).tm := by
  unfold tolds
  rw [take_nth l k h, List.foldl_append]
  rfl
theorem td_cells {w : World} {b off : Nat} {l : List Td} (h : ∀ i, i < l.length → ∀ j, j < 4 → w.cell? ⟨b, off + i * 4 + j, none⟩ = (tdCells (nth l i))[j]?) (i : Nat) (hi : i < l.length) :
    w.cell? ⟨b, off + i * 4, none⟩ = some (.int .i64 (nth l i).to) ∧ w.cell? ⟨b, off + i * 4 + 1, none⟩ = some (.int .i64 (nth l i).th) ∧ w.cell? ⟨b, off + i * 4 + 2, none⟩ = some (.int .i64 (nth l i).ep) ∧ w.cell? ⟨b, off + i * 4 + 3, none⟩ = some (.int .i64 (nth l i).tm) :=
  ⟨h i hi 0 (by omega), h i hi 1 (by omega), h i hi 2 (by omega), h i hi 3 (by omega)⟩
/-- What a round of of knows. -/
structure OfAt (w0 : World) (H : Nat) (x : Nw) (ttl : Int) (f g : Ents) (v : Value) (wr : World) : Prop where
  res : IsObj wr (H + 1) 30 [.int .i64 0, .int .i64 0, .int .i64 0, .int .i64 0, .int .i64 0, .slice none 0 0]
  n : IsObj wr (H + 1 + 1) 30 [.int .i64 x.tier, .int .i64 x.lev, .int .i64 x.tick, .int .i64 x.dl, .int .i64 ttl, v]
  t : TableAt wr (H + 1 + 1 + 1) ttl f
  kn : KnB (H + 1 + 1 + 1 + 1) wr v (knL g)
  below : Below H w0 wr
theorem OfAt.size {w0 : World} {H : Nat} {x : Nw} {ttl : Int} {f g : Ents} {v : Value} {wr : World} (h : OfAt w0 H x ttl f g v wr) : H + 1 + 1 + 1 + 1 ≤ wr.heap.size := IsObj.lt h.t
theorem OfAt.same {w0 : World} {H : Nat} {x : Nw} {ttl : Int} {f g : Ents} {v : Value} {wr w' : World} (h : OfAt w0 H x ttl f g v wr) (hb : Below wr.heap.size wr w') : OfAt w0 H x ttl f g v w' :=
  ⟨h.res.below hb h.res.lt, h.n.below hb h.n.lt, h.t.same hb, h.kn.same hb, h.below.trans (hb.mono (by have := h.size; omega))⟩
theorem OfAt.learn {w0 : World} {H : Nat} {x : Nw} {ttl : Int} {f f' g : Ents} {v : Value} {wr w' : World} (h : OfAt w0 H x ttl f g v wr) (ht : TableAt w' (H + 1 + 1 + 1) ttl f') (ho : Only (H + 1 + 1 + 1) wr w') : OfAt w0 H x ttl f' g v w' :=
  ⟨h.res.only ho (by omega), h.n.only ho (by omega), ht, h.kn.only ho (by omega), h.below.trans (ho.below (by omega) (by have := h.size; omega))⟩
theorem OfAt.put {w0 : World} {H : Nat} {x : Nw} {ttl : Int} {f g g' : Ents} {v v' : Value} {wr : World} (h : OfAt w0 H x ttl f g v wr) (hk : KnB (H + 1 + 1 + 1 + 1) wr v' (knL g')) : OfAt w0 H x ttl f g' v' (wr.setCell ⟨H + 1 + 1, 5, none⟩ v') := by
  refine ⟨h.res.setOther _ _ (by simp), h.n.set 5 v', IsObj.setOther h.t _ _ (by simp), ?_, h.below.setCell (by simp; omega) _⟩
  obtain ⟨a, c, h1, h2, h3, h4, h5⟩ := hk
  refine ⟨a, c, h1, h2, h3, ?_, h5⟩
  rcases h4 with h4 | ⟨b, off, rfl, hc⟩
  · exact .inl h4
  · refine .inr ⟨b, off, rfl, fun i hi j hj => ?_⟩
    rw [← hc i hi j hj]
    exact World.cell?_of_block (Below.heap_setCell wr _ v' b (by have := h5 b off rfl; simp; omega))
/-- What holds while of draws the order of its operations. -/
structure RegO (wr : World) (ba o C : Nat) (t : Td) (x : Nw) (ttl : Int) (v : Value) (W : World) : Prop where
  d0 : W.cell? ⟨ba, o, none⟩ = some (.int .i64 t.to)
  d1 : W.cell? ⟨ba, o + 1, none⟩ = some (.int .i64 t.th)
  d2 : W.cell? ⟨ba, o + 2, none⟩ = some (.int .i64 t.ep)
  d3 : W.cell? ⟨ba, o + 3, none⟩ = some (.int .i64 t.tm)
  n0 : W.cell? ⟨C, 0, none⟩ = some (.int .i64 x.tier)
  n1 : W.cell? ⟨C, 1, none⟩ = some (.int .i64 x.lev)
  n2 : W.cell? ⟨C, 2, none⟩ = some (.int .i64 x.tick)
  n3 : W.cell? ⟨C, 3, none⟩ = some (.int .i64 x.dl)
  n4 : W.cell? ⟨C, 4, none⟩ = some (.int .i64 ttl)
  n5 : W.cell? ⟨C, 5, none⟩ = some v
  b : Below C wr W
theorem RegO.below {wr : World} {ba o C : Nat} {t : Td} {x : Nw} {ttl : Int} {v : Value} {W W1 : World} (h : RegO wr ba o C t x ttl v W) (hb : Below W.heap.size W W1) : RegO wr ba o C t x ttl v W1 :=
  ⟨cell_keep hb h.d0, cell_keep hb h.d1, cell_keep hb h.d2, cell_keep hb h.d3, cell_keep hb h.n0, cell_keep hb h.n1, cell_keep hb h.n2, cell_keep hb h.n3, cell_keep hb h.n4, cell_keep hb h.n5, h.b.trans (hb.mono (Nat.le_of_lt (cell_lt h.n0)))⟩
theorem RegO.only {wr : World} {ba o C T : Nat} {t : Td} {x : Nw} {ttl : Int} {v : Value} {W W1 : World} (h : RegO wr ba o C t x ttl v W) (hb : Only T W W1) (hC : C < T) (ha : ba ≠ T) : RegO wr ba o C t x ttl v W1 :=
  ⟨hb.keep h.d0 ha, hb.keep h.d1 ha, hb.keep h.d2 ha, hb.keep h.d3 ha, hb.keep h.n0 (by simp; omega), hb.keep h.n1 (by simp; omega), hb.keep h.n2 (by simp; omega), hb.keep h.n3 (by simp; omega), hb.keep h.n4 (by simp; omega), hb.keep h.n5 (by simp; omega), h.b.trans (hb.below (Nat.le_of_lt hC) (Nat.le_of_lt (cell_lt h.n0)))⟩

set_option maxRecDepth 100000 in
set_option maxHeartbeats 4000000 in
theorem of_any (ttl : Int) (a : Option Addr) (cap : Nat) (l : List Td) (x : Nw) (w : World) (h0 : 0 ≤ ttl) (h1 : ttl ≤ 1099511627776) (hm : l.length ≤ 1000) (hA : RowOf tdCells 4 w a l) :
    Calls Try.prog 13 #[.int .i64 ttl, .slice a l.length cap, nwV x] w fun e w' => ∃ b v, e = .returned (.tuple #[.pointer (some ⟨b, 0, none⟩), rnV x ttl v]) ∧ TableAt w' b ttl (tolds l) ∧ KnAt w' v (knL (tolds l)) ∧ Below w.heap.size w w' := by
  have HA := Lib.hid hA
  clear hA
  go_enter Try.func13, Try.ntmps13
  go_wp2_with fail
  refine (tnew_any ttl _ h0 h1).mono ?_
  rintro e w1 ⟨rfl, hT, hb, hs⟩
  obtain ⟨H, hH⟩ : ∃ H, H = w.heap.size := ⟨_, rfl⟩
  have hN : OfAt w H x ttl (fun _ => none) (fun _ => none) (.slice none 0 0) w1 := by
    subst hH
    refine ⟨IsObj.below ?_ hb (by simp), IsObj.below ?_ hb (by simp), ?_, KnB.nil _ _, Below.trans ?_ (hb.mono (by simp; omega))⟩
    · repeat (first | (refine IsObj.newAt _ _ _ ?_; (simp; done)) | refine IsObj.alloc ?_ _)
    · repeat (first | (refine IsObj.newAt _ _ _ ?_; (simp; done)) | refine IsObj.alloc ?_ _)
    · simpa using hT
    · repeat (first | exact Below.refl _ _ | (refine Below.alloc ?_ (by simp <;> omega) _))
  have HN := Lib.hid hN
  have HW := Lib.hid hH
  simp only [World.size_alloc]
  rw [← hH]
  clear hN hb hs hT hH
  go_wp2_with fail
  go_loopw [11] (fun i wr => ∃ (k : Nat) (v : Value), k ≤ l.length ∧ i = .int .i64 k ∧ OfAt w H x ttl (tolds (l.take k)) (tolds (l.take k)) v wr) (fun i _ => l.length - (intOf i).toNat)
  case atStart => exact ⟨0, _, Nat.zero_le _, rfl, HN.out⟩
  case round =>
    obtain ⟨k, v, hk, rfl, hP⟩ := hrel
    obtain ⟨av, cv, rfl⟩ : ∃ a c, v = .slice a (knL (tolds (l.take k))).length c := by
      obtain ⟨a, c, h, _⟩ := hP.kn
      exact ⟨a, c, h⟩
    have HP := Lib.hid hP
    clear HN
    by_cases hlt : k < l.length
    · obtain ⟨ba, off, rfl, hc⟩ : ∃ b off, a = some ⟨b, off, none⟩ ∧ ∀ i, i < l.length → ∀ j, j < 4 → w.cell? ⟨b, off + i * 4 + j, none⟩ = (tdCells (nth l i))[j]? := by
        rcases HA.out with rfl | ⟨b, off, rfl, hc⟩
        · simp at hlt
        · exact ⟨b, off, rfl, hc⟩
      obtain ⟨c0, c1, c2, c3⟩ := td_cells hc k hlt
      have hba : ba < H := by have := cell_lt c0; have := HW.out; simp_all
      replace c0 := (HW.out ▸ HP.out.below).cell (cell_lt c0) |>.trans c0
      replace c1 := (HW.out ▸ HP.out.below).cell (cell_lt c1) |>.trans c1
      replace c2 := (HW.out ▸ HP.out.below).cell (cell_lt c2) |>.trans c2
      replace c3 := (HW.out ▸ HP.out.below).cell (cell_lt c3) |>.trans c3
      have HF := Lib.hid (tolds_next l k hlt)
      generalize nth l k = t at *
      have i1 : (0 : Int) ≤ (k : Int) := by omega
      have i2 : (k : Int) < (l.length : Int) := by omega
      have n0 := hP.n.cell 0
      have n1 := hP.n.cell 1
      have n2 := hP.n.cell 2
      have n3 := hP.n.cell 3
      have n4 := hP.n.cell 4
      have n5 := hP.n.cell 5
      simp only [List.getElem?_cons_succ, List.getElem?_cons_zero] at n0 n1 n2 n3 n4 n5
      clear hc hP
      obtain ⟨f, hf⟩ : ∃ f, f = tolds (l.take k) := ⟨_, rfl⟩
      rw [← hf] at HP HF n5
      clear hf
      go_wp2_with fail
      refine wp_region_held_drew (S := fun W => RegO wr ba (off + k * 4) (H + 1 + 1) t x ttl (.slice av (knL f).length cv) W) (by kernel_rfl) ?_ (fun hHeld => ?_)
      · (try dsimp only); exact ⟨c0, c1, c2, c3, n0, n1, n2, n3, n4, n5, (Below.refl _ _).drew⟩
      refine wpAnyH_take (i := 0) (oi := ?oi1) (v := ?v1) ?hi1 (by kernel_rfl) (by kernel_rfl) (by kernel_rfl) ?hQ1 ?hy1 (by assumption) ?_
      case hi1 => (simp only [List.getElem?_toArray, List.getElem?_cons_succ, List.getElem?_cons_zero]; rfl)
      case hQ1 => exact fun _ _ _ h => h
      case hy1 => (refine Or.inl ⟨by rfl, ?_⟩; intro w hSw; obtain ⟨d0, d1, d2, d3, e0, e1, e2, e3, e4, e5, _⟩ := hSw; go_simp; try with_reducible rfl)
      try simp only [Act.put, List.setIfInBounds_toArray, List.set_cons_zero, List.set_cons_succ]
      refine wpAnyH_take (i := 1) (oi := ?oi2) (v := ?v2) ?hi2 (by kernel_rfl) (by kernel_rfl) (by kernel_rfl) ?hQ2 ?hy2 (by assumption) ?_
      case hi2 => (simp only [List.getElem?_toArray, List.getElem?_cons_succ, List.getElem?_cons_zero]; rfl)
      case hQ2 => exact fun _ _ _ h => h
      case hy2 => (refine Or.inl ⟨by rfl, ?_⟩; intro w hSw; obtain ⟨d0, d1, d2, d3, e0, e1, e2, e3, e4, e5, _⟩ := hSw; go_simp; try with_reducible rfl)
      try simp only [Act.put, List.setIfInBounds_toArray, List.set_cons_zero, List.set_cons_succ]
      refine wpAnyH_take (i := 2) (oi := ?oi3) (v := ?v3) ?hi3 (by kernel_rfl) (by kernel_rfl) (by kernel_rfl) ?hQ3 ?hy3 (by assumption) ?_
      case hi3 => (simp only [List.getElem?_toArray, List.getElem?_cons_succ, List.getElem?_cons_zero]; rfl)
      case hQ3 => exact fun _ _ _ h => h
      case hy3 => (refine Or.inl ⟨by rfl, ?_⟩; intro w hSw; obtain ⟨d0, d1, d2, d3, e0, e1, e2, e3, e4, e5, _⟩ := hSw; go_simp; try with_reducible rfl)
      try simp only [Act.put, List.setIfInBounds_toArray, List.set_cons_zero, List.set_cons_succ]
      refine wpAnyH_take (i := 3) (oi := ?oi4) (v := ?v4) ?hi4 (by kernel_rfl) (by kernel_rfl) (by kernel_rfl) ?hQ4 ?hy4 (by assumption) ?_
      case hi4 => (simp only [List.getElem?_toArray, List.getElem?_cons_succ, List.getElem?_cons_zero]; rfl)
      case hQ4 => exact fun _ _ _ h => h
      case hy4 => (refine Or.inl ⟨by rfl, ?_⟩; intro w hSw; obtain ⟨d0, d1, d2, d3, e0, e1, e2, e3, e4, e5, _⟩ := hSw; go_simp; try with_reducible rfl)
      try simp only [Act.put, List.setIfInBounds_toArray, List.set_cons_zero, List.set_cons_succ]
      refine wpAnyH_take (i := 4) (oi := ?oi5) (v := ?v5) ?hi5 (by kernel_rfl) (by kernel_rfl) (by kernel_rfl) ?hQ5 ?hy5 (by assumption) ?_
      case hi5 => (simp only [List.getElem?_toArray, List.getElem?_cons_succ, List.getElem?_cons_zero]; rfl)
      case hQ5 => exact fun _ _ _ h => h
      case hy5 => (refine Or.inl ⟨by rfl, ?_⟩; intro w hSw; obtain ⟨d0, d1, d2, d3, e0, e1, e2, e3, e4, e5, _⟩ := hSw; go_simp; try with_reducible rfl)
      try simp only [Act.put, List.setIfInBounds_toArray, List.set_cons_zero, List.set_cons_succ]
      refine wpAnyH_take (i := 5) (oi := ?oi6) (v := ?v6) ?hi6 (by kernel_rfl) (by kernel_rfl) (by kernel_rfl) ?hQ6 ?hy6 (by assumption) ?_
      case hi6 => (simp only [List.getElem?_toArray, List.getElem?_cons_succ, List.getElem?_cons_zero]; rfl)
      case hQ6 => exact fun _ _ _ h => h
      case hy6 => (refine Or.inl ⟨by rfl, ?_⟩; intro w hSw; obtain ⟨d0, d1, d2, d3, e0, e1, e2, e3, e4, e5, _⟩ := hSw; go_simp; try with_reducible rfl)
      try simp only [Act.put, List.setIfInBounds_toArray, List.set_cons_zero, List.set_cons_succ]
      refine wpAnyH_take (i := 6) (oi := ?oi7) (v := ?v7) ?hi7 (by kernel_rfl) (by kernel_rfl) (by kernel_rfl) ?hQ7 ?hy7 (by assumption) ?_
      case hi7 => (simp only [List.getElem?_toArray, List.getElem?_cons_succ, List.getElem?_cons_zero]; rfl)
      case hQ7 => exact fun _ _ _ h => h
      case hy7 => (refine Or.inl ⟨by rfl, ?_⟩; intro w hSw; obtain ⟨d0, d1, d2, d3, e0, e1, e2, e3, e4, e5, _⟩ := hSw; go_simp; try with_reducible rfl)
      try simp only [Act.put, List.setIfInBounds_toArray, List.set_cons_zero, List.set_cons_succ]
      refine wpAnyH_take (i := 7) (oi := ?oi8) (v := ?v8) ?hi8 (by kernel_rfl) (by kernel_rfl) (by kernel_rfl) ?hQ8 ?hy8 (by assumption) ?_
      case hi8 => (simp only [List.getElem?_toArray, List.getElem?_cons_succ, List.getElem?_cons_zero]; rfl)
      case hQ8 => exact fun _ _ _ h => h
      case hy8 => (refine Or.inl ⟨by rfl, ?_⟩; intro w hSw; obtain ⟨d0, d1, d2, d3, e0, e1, e2, e3, e4, e5, _⟩ := hSw; go_simp; try with_reducible rfl)
      try simp only [Act.put, List.setIfInBounds_toArray, List.set_cons_zero, List.set_cons_succ]
      refine wpAnyH_take (i := 8) (oi := ?oi9) (v := ?v9) ?hi9 (by kernel_rfl) (by kernel_rfl) (by kernel_rfl) ?hQ9 ?hy9 (by assumption) ?_
      case hi9 => (simp only [List.getElem?_toArray, List.getElem?_cons_succ, List.getElem?_cons_zero]; rfl)
      case hQ9 => exact fun _ _ _ h => h
      case hy9 => (refine Or.inl ⟨by rfl, ?_⟩; intro w hSw; obtain ⟨d0, d1, d2, d3, e0, e1, e2, e3, e4, e5, _⟩ := hSw; go_simp; try with_reducible rfl)
      try simp only [Act.put, List.setIfInBounds_toArray, List.set_cons_zero, List.set_cons_succ]
      refine wpAnyH_take (i := 9) (oi := ?oi10) (v := ?v10) ?hi10 (by kernel_rfl) (by kernel_rfl) (by kernel_rfl) ?hQ10 ?hy10 (by assumption) ?_
      case hi10 => (simp only [List.getElem?_toArray, List.getElem?_cons_succ, List.getElem?_cons_zero]; rfl)
      case hQ10 => exact fun _ _ _ h => h
      case hy10 => (refine Or.inl ⟨by rfl, ?_⟩; intro w hSw; obtain ⟨d0, d1, d2, d3, e0, e1, e2, e3, e4, e5, _⟩ := hSw; go_simp; try with_reducible rfl)
      try simp only [Act.put, List.setIfInBounds_toArray, List.set_cons_zero, List.set_cons_succ]
      refine wpAnyH_take (i := 10) (oi := ?oi11) (v := ?v11) ?hi11 (by kernel_rfl) (by kernel_rfl) (by kernel_rfl) ?hQ11 ?hy11 (by assumption) ?_
      case hi11 => (simp only [List.getElem?_toArray, List.getElem?_cons_succ, List.getElem?_cons_zero]; rfl)
      case hQ11 => exact fun _ _ _ h => h
      case hy11 => (refine Or.inl ⟨by rfl, ?_⟩; intro w hSw; obtain ⟨d0, d1, d2, d3, e0, e1, e2, e3, e4, e5, _⟩ := hSw; go_simp; try with_reducible rfl)
      try simp only [Act.put, List.setIfInBounds_toArray, List.set_cons_zero, List.set_cons_succ]
      refine wpAnyH_take (i := 11) (oi := ?oi12) (v := ?v12) ?hi12 (by kernel_rfl) (by kernel_rfl) (by kernel_rfl) ?hQ12 ?hy12 (by assumption) ?_
      case hi12 => (simp only [List.getElem?_toArray, List.getElem?_cons_succ, List.getElem?_cons_zero]; rfl)
      case hQ12 => exact fun _ _ _ h => h
      case hy12 => (refine Or.inl ⟨by rfl, ?_⟩; intro w hSw; obtain ⟨d0, d1, d2, d3, e0, e1, e2, e3, e4, e5, _⟩ := hSw; go_simp; try with_reducible rfl)
      try simp only [Act.put, List.setIfInBounds_toArray, List.set_cons_zero, List.set_cons_succ]
      refine wpAnyH_take (i := 12) (oi := ?oi13) (v := ?v13) ?hi13 (by kernel_rfl) (by kernel_rfl) (by kernel_rfl) ?hQ13 ?hy13 (by assumption) ?_
      case hi13 => (simp only [List.getElem?_toArray, List.getElem?_cons_succ, List.getElem?_cons_zero]; rfl)
      case hQ13 => exact fun _ _ _ h => h
      case hy13 => (refine Or.inl ⟨by rfl, ?_⟩; intro w hSw; obtain ⟨d0, d1, d2, d3, e0, e1, e2, e3, e4, e5, _⟩ := hSw; go_simp; try with_reducible rfl)
      try simp only [Act.put, List.setIfInBounds_toArray, List.set_cons_zero, List.set_cons_succ]
      refine wpAnyH_take (i := 13) (oi := ?oi14) (v := ?v14) ?hi14 (by kernel_rfl) (by kernel_rfl) (by kernel_rfl) ?hQ14 ?hy14 (by assumption) ?_
      case hi14 => (simp only [List.getElem?_toArray, List.getElem?_cons_succ, List.getElem?_cons_zero]; rfl)
      case hQ14 => exact fun _ _ _ h => h
      case hy14 => (refine Or.inl ⟨by rfl, ?_⟩; intro w hSw; obtain ⟨d0, d1, d2, d3, e0, e1, e2, e3, e4, e5, _⟩ := hSw; go_simp; try with_reducible rfl)
      try simp only [Act.put, List.setIfInBounds_toArray, List.set_cons_zero, List.set_cons_succ]
      refine wpAnyH_take (i := 14) (oi := ?oi15) (v := ?v15) ?hi15 (by kernel_rfl) (by kernel_rfl) (by kernel_rfl) ?hQ15 ?hy15 (by assumption) ?_
      case hi15 => (simp only [List.getElem?_toArray, List.getElem?_cons_succ, List.getElem?_cons_zero]; rfl)
      case hQ15 => exact fun _ _ _ h => h
      case hy15 => (refine Or.inl ⟨by rfl, ?_⟩; intro w hSw; obtain ⟨d0, d1, d2, d3, e0, e1, e2, e3, e4, e5, _⟩ := hSw; go_simp; try with_reducible rfl)
      try simp only [Act.put, List.setIfInBounds_toArray, List.set_cons_zero, List.set_cons_succ]
      refine wpAnyH_take (i := 15) (oi := ?oi16) (v := ?v16) ?hi16 (by kernel_rfl) (by kernel_rfl) (by kernel_rfl) ?hQ16 ?hy16 (by assumption) ?_
      case hi16 => (simp only [List.getElem?_toArray, List.getElem?_cons_succ, List.getElem?_cons_zero]; rfl)
      case hQ16 => exact fun _ _ _ h => h
      case hy16 => (refine Or.inl ⟨by rfl, ?_⟩; intro w hSw; obtain ⟨d0, d1, d2, d3, e0, e1, e2, e3, e4, e5, _⟩ := hSw; go_simp; try with_reducible rfl)
      try simp only [Act.put, List.setIfInBounds_toArray, List.set_cons_zero, List.set_cons_succ]
      refine wpAnyH_take (i := 16) (oi := ?oi17) (v := ?v17) ?hi17 (by kernel_rfl) (by kernel_rfl) (by kernel_rfl) ?hQ17 ?hy17 (by assumption) ?_
      case hi17 => (simp only [List.getElem?_toArray, List.getElem?_cons_succ, List.getElem?_cons_zero]; rfl)
      case hQ17 => exact fun _ _ _ h => h
      case hy17 => (refine Or.inl ⟨by rfl, ?_⟩; intro w hSw; obtain ⟨d0, d1, d2, d3, e0, e1, e2, e3, e4, e5, _⟩ := hSw; go_simp; try with_reducible rfl)
      try simp only [Act.put, List.setIfInBounds_toArray, List.set_cons_zero, List.set_cons_succ]
      refine wpAnyH_take (i := 17) (oi := ?oi18) (v := ?v18) ?hi18 (by kernel_rfl) (by kernel_rfl) (by kernel_rfl) ?hQ18 ?hy18 (by assumption) ?_
      case hi18 => (simp only [List.getElem?_toArray, List.getElem?_cons_succ, List.getElem?_cons_zero]; rfl)
      case hQ18 => exact fun _ _ _ h => h
      case hy18 => (refine Or.inl ⟨by rfl, ?_⟩; intro w hSw; obtain ⟨d0, d1, d2, d3, e0, e1, e2, e3, e4, e5, _⟩ := hSw; go_simp; try with_reducible rfl)
      try simp only [Act.put, List.setIfInBounds_toArray, List.set_cons_zero, List.set_cons_succ]
      refine wpAnyH_take (i := 18) (oi := ?oi19) (v := ?v19) ?hi19 (by kernel_rfl) (by kernel_rfl) (by kernel_rfl) ?hQ19 ?hy19 (by assumption) ?_
      case hi19 => (simp only [List.getElem?_toArray, List.getElem?_cons_succ, List.getElem?_cons_zero]; rfl)
      case hQ19 => exact fun _ _ _ h => h
      case hy19 => (refine Or.inl ⟨by rfl, ?_⟩; intro w hSw; obtain ⟨d0, d1, d2, d3, e0, e1, e2, e3, e4, e5, _⟩ := hSw; go_simp; try with_reducible rfl)
      try simp only [Act.put, List.setIfInBounds_toArray, List.set_cons_zero, List.set_cons_succ]
      refine wpAnyH_take (i := 19) (oi := ?oi20) (v := ?v20) ?hi20 (by kernel_rfl) (by kernel_rfl) (by kernel_rfl) ?hQ20 ?hy20 (by assumption) ?_
      case hi20 => (simp only [List.getElem?_toArray, List.getElem?_cons_succ, List.getElem?_cons_zero]; rfl)
      case hQ20 => exact fun _ _ _ h => h
      case hy20 => (refine Or.inl ⟨by rfl, ?_⟩; intro w hSw; obtain ⟨d0, d1, d2, d3, e0, e1, e2, e3, e4, e5, _⟩ := hSw; go_simp; try with_reducible rfl)
      try simp only [Act.put, List.setIfInBounds_toArray, List.set_cons_zero, List.set_cons_succ]
      refine wpAnyH_take (i := 20) (oi := ?oi21) (v := ?v21) ?hi21 (by kernel_rfl) (by kernel_rfl) (by kernel_rfl) ?hQ21 ?hy21 (by assumption) ?_
      case hi21 => (simp only [List.getElem?_toArray, List.getElem?_cons_succ, List.getElem?_cons_zero]; rfl)
      case hQ21 => exact fun _ _ _ h => h
      case hy21 => (refine Or.inl ⟨by rfl, ?_⟩; intro w hSw; obtain ⟨d0, d1, d2, d3, e0, e1, e2, e3, e4, e5, _⟩ := hSw; go_simp; try with_reducible rfl)
      try simp only [Act.put, List.setIfInBounds_toArray, List.set_cons_zero, List.set_cons_succ]
      refine wpAnyH_ready (rs := [21]) (by kernel_rfl) (by simp) ?_
      refine AllReadyH.cons (o := ?oi2221) ?ho2221 (fun K hK => ?_) AllReadyH.nil
      case ho2221 => (simp only [List.getElem?_toArray, List.getElem?_cons_succ, List.getElem?_cons_zero]; rfl)
      go_simp
      go_at_call 59; (with_reducible refine (learn_any (H + 1 + 1 + 1) ttl f t.to t.th t.ep t.tm _ (HP.out.same (Below.refl _ wr).drew).t).mono ?_); rintro e w2 ⟨rfl, ht2, ho2⟩
      refine hK.out _ _ ?_ (fun hHeld => ?_)
      · (try dsimp only); exact RegO.only (by assumption) ho2 (by omega) (by omega)
      clear hK K
      try simp only [Act.put, List.setIfInBounds_toArray, List.set_cons_zero, List.set_cons_succ]
      have HP2 : Hid (OfAt w H x ttl (lrn f t.to t.th t.ep t.tm) f (.slice av (knL f).length cv) w2) := Lib.hid (OfAt.learn (HP.out.same (Below.refl _ _).drew) ht2 ho2)
      obtain ⟨c0, c1, c2, c3, n0, n1, n2, n3, n4, n5, _⟩ := hHeld
      clear ht2 ho2 HP
      refine wpAnyH_done (by kernel_rfl) ?_ _
      go_wp2_with fail
      refine wp_region_held_drew (S := fun W => RegO w2 ba (off + k * 4) (H + 1 + 1) t x ttl (.slice av (knL f).length cv) W) (by kernel_rfl) ?_ (fun hHeld => ?_)
      · (try dsimp only); exact ⟨c0, c1, c2, c3, n0, n1, n2, n3, n4, n5, (Below.refl _ _).drew⟩
      refine wpAnyH_take (i := 0) (oi := ?oi23) (v := ?v23) ?hi23 (by kernel_rfl) (by kernel_rfl) (by kernel_rfl) ?hQ23 ?hy23 (by assumption) ?_
      case hi23 => (simp only [List.getElem?_toArray, List.getElem?_cons_succ, List.getElem?_cons_zero]; rfl)
      case hQ23 => exact fun _ _ _ h => h
      case hy23 => (refine Or.inl ⟨by rfl, ?_⟩; intro w hSw; obtain ⟨d0, d1, d2, d3, e0, e1, e2, e3, e4, e5, _⟩ := hSw; go_simp; try with_reducible rfl)
      try simp only [Act.put, List.setIfInBounds_toArray, List.set_cons_zero, List.set_cons_succ]
      refine wpAnyH_take (i := 1) (oi := ?oi24) (v := ?v24) ?hi24 (by kernel_rfl) (by kernel_rfl) (by kernel_rfl) ?hQ24 ?hy24 (by assumption) ?_
      case hi24 => (simp only [List.getElem?_toArray, List.getElem?_cons_succ, List.getElem?_cons_zero]; rfl)
      case hQ24 => exact fun _ _ _ h => h
      case hy24 => (refine Or.inl ⟨by rfl, ?_⟩; intro w hSw; obtain ⟨d0, d1, d2, d3, e0, e1, e2, e3, e4, e5, _⟩ := hSw; go_simp; try with_reducible rfl)
      try simp only [Act.put, List.setIfInBounds_toArray, List.set_cons_zero, List.set_cons_succ]
      refine wpAnyH_take (i := 2) (oi := ?oi25) (v := ?v25) ?hi25 (by kernel_rfl) (by kernel_rfl) (by kernel_rfl) ?hQ25 ?hy25 (by assumption) ?_
      case hi25 => (simp only [List.getElem?_toArray, List.getElem?_cons_succ, List.getElem?_cons_zero]; rfl)
      case hQ25 => exact fun _ _ _ h => h
      case hy25 => (refine Or.inl ⟨by rfl, ?_⟩; intro w hSw; obtain ⟨d0, d1, d2, d3, e0, e1, e2, e3, e4, e5, _⟩ := hSw; go_simp; try with_reducible rfl)
      try simp only [Act.put, List.setIfInBounds_toArray, List.set_cons_zero, List.set_cons_succ]
      refine wpAnyH_take (i := 3) (oi := ?oi26) (v := ?v26) ?hi26 (by kernel_rfl) (by kernel_rfl) (by kernel_rfl) ?hQ26 ?hy26 (by assumption) ?_
      case hi26 => (simp only [List.getElem?_toArray, List.getElem?_cons_succ, List.getElem?_cons_zero]; rfl)
      case hQ26 => exact fun _ _ _ h => h
      case hy26 => (refine Or.inl ⟨by rfl, ?_⟩; intro w hSw; obtain ⟨d0, d1, d2, d3, e0, e1, e2, e3, e4, e5, _⟩ := hSw; go_simp; try with_reducible rfl)
      try simp only [Act.put, List.setIfInBounds_toArray, List.set_cons_zero, List.set_cons_succ]
      refine wpAnyH_take (i := 4) (oi := ?oi27) (v := ?v27) ?hi27 (by kernel_rfl) (by kernel_rfl) (by kernel_rfl) ?hQ27 ?hy27 (by assumption) ?_
      case hi27 => (simp only [List.getElem?_toArray, List.getElem?_cons_succ, List.getElem?_cons_zero]; rfl)
      case hQ27 => exact fun _ _ _ h => h
      case hy27 => (refine Or.inl ⟨by rfl, ?_⟩; intro w hSw; obtain ⟨d0, d1, d2, d3, e0, e1, e2, e3, e4, e5, _⟩ := hSw; go_simp; try with_reducible rfl)
      try simp only [Act.put, List.setIfInBounds_toArray, List.set_cons_zero, List.set_cons_succ]
      refine wpAnyH_take (i := 5) (oi := ?oi28) (v := ?v28) ?hi28 (by kernel_rfl) (by kernel_rfl) (by kernel_rfl) ?hQ28 ?hy28 (by assumption) ?_
      case hi28 => (simp only [List.getElem?_toArray, List.getElem?_cons_succ, List.getElem?_cons_zero]; rfl)
      case hQ28 => exact fun _ _ _ h => h
      case hy28 => (refine Or.inl ⟨by rfl, ?_⟩; intro w hSw; obtain ⟨d0, d1, d2, d3, e0, e1, e2, e3, e4, e5, _⟩ := hSw; go_simp; try with_reducible rfl)
      try simp only [Act.put, List.setIfInBounds_toArray, List.set_cons_zero, List.set_cons_succ]
      refine wpAnyH_take (i := 6) (oi := ?oi29) (v := ?v29) ?hi29 (by kernel_rfl) (by kernel_rfl) (by kernel_rfl) ?hQ29 ?hy29 (by assumption) ?_
      case hi29 => (simp only [List.getElem?_toArray, List.getElem?_cons_succ, List.getElem?_cons_zero]; rfl)
      case hQ29 => exact fun _ _ _ h => h
      case hy29 => (refine Or.inl ⟨by rfl, ?_⟩; intro w hSw; obtain ⟨d0, d1, d2, d3, e0, e1, e2, e3, e4, e5, _⟩ := hSw; go_simp; try with_reducible rfl)
      try simp only [Act.put, List.setIfInBounds_toArray, List.set_cons_zero, List.set_cons_succ]
      refine wpAnyH_take (i := 7) (oi := ?oi30) (v := ?v30) ?hi30 (by kernel_rfl) (by kernel_rfl) (by kernel_rfl) ?hQ30 ?hy30 (by assumption) ?_
      case hi30 => (simp only [List.getElem?_toArray, List.getElem?_cons_succ, List.getElem?_cons_zero]; rfl)
      case hQ30 => exact fun _ _ _ h => h
      case hy30 => (refine Or.inl ⟨by rfl, ?_⟩; intro w hSw; obtain ⟨d0, d1, d2, d3, e0, e1, e2, e3, e4, e5, _⟩ := hSw; go_simp; try with_reducible rfl)
      try simp only [Act.put, List.setIfInBounds_toArray, List.set_cons_zero, List.set_cons_succ]
      refine wpAnyH_take (i := 8) (oi := ?oi31) (v := ?v31) ?hi31 (by kernel_rfl) (by kernel_rfl) (by kernel_rfl) ?hQ31 ?hy31 (by assumption) ?_
      case hi31 => (simp only [List.getElem?_toArray, List.getElem?_cons_succ, List.getElem?_cons_zero]; rfl)
      case hQ31 => exact fun _ _ _ h => h
      case hy31 => (refine Or.inl ⟨by rfl, ?_⟩; intro w hSw; obtain ⟨d0, d1, d2, d3, e0, e1, e2, e3, e4, e5, _⟩ := hSw; go_simp; try with_reducible rfl)
      try simp only [Act.put, List.setIfInBounds_toArray, List.set_cons_zero, List.set_cons_succ]
      refine wpAnyH_take (i := 9) (oi := ?oi32) (v := ?v32) ?hi32 (by kernel_rfl) (by kernel_rfl) (by kernel_rfl) ?hQ32 ?hy32 (by assumption) ?_
      case hi32 => (simp only [List.getElem?_toArray, List.getElem?_cons_succ, List.getElem?_cons_zero]; rfl)
      case hQ32 => exact fun _ _ _ h => h
      case hy32 => (refine Or.inl ⟨by rfl, ?_⟩; intro w hSw; obtain ⟨d0, d1, d2, d3, e0, e1, e2, e3, e4, e5, _⟩ := hSw; go_simp; try with_reducible rfl)
      try simp only [Act.put, List.setIfInBounds_toArray, List.set_cons_zero, List.set_cons_succ]
      refine wpAnyH_take (i := 10) (oi := ?oi33) (v := ?v33) ?hi33 (by kernel_rfl) (by kernel_rfl) (by kernel_rfl) ?hQ33 ?hy33 (by assumption) ?_
      case hi33 => (simp only [List.getElem?_toArray, List.getElem?_cons_succ, List.getElem?_cons_zero]; rfl)
      case hQ33 => exact fun _ _ _ h => h
      case hy33 => (refine Or.inl ⟨by rfl, ?_⟩; intro w hSw; obtain ⟨d0, d1, d2, d3, e0, e1, e2, e3, e4, e5, _⟩ := hSw; go_simp; try with_reducible rfl)
      try simp only [Act.put, List.setIfInBounds_toArray, List.set_cons_zero, List.set_cons_succ]
      refine wpAnyH_take (i := 11) (oi := ?oi34) (v := ?v34) ?hi34 (by kernel_rfl) (by kernel_rfl) (by kernel_rfl) ?hQ34 ?hy34 (by assumption) ?_
      case hi34 => (simp only [List.getElem?_toArray, List.getElem?_cons_succ, List.getElem?_cons_zero]; rfl)
      case hQ34 => exact fun _ _ _ h => h
      case hy34 => (refine Or.inl ⟨by rfl, ?_⟩; intro w hSw; obtain ⟨d0, d1, d2, d3, e0, e1, e2, e3, e4, e5, _⟩ := hSw; go_simp; try with_reducible rfl)
      try simp only [Act.put, List.setIfInBounds_toArray, List.set_cons_zero, List.set_cons_succ]
      refine wpAnyH_take (i := 12) (oi := ?oi35) (v := ?v35) ?hi35 (by kernel_rfl) (by kernel_rfl) (by kernel_rfl) ?hQ35 ?hy35 (by assumption) ?_
      case hi35 => (simp only [List.getElem?_toArray, List.getElem?_cons_succ, List.getElem?_cons_zero]; rfl)
      case hQ35 => exact fun _ _ _ h => h
      case hy35 => (refine Or.inl ⟨by rfl, ?_⟩; intro w hSw; obtain ⟨d0, d1, d2, d3, e0, e1, e2, e3, e4, e5, _⟩ := hSw; go_simp; try with_reducible rfl)
      try simp only [Act.put, List.setIfInBounds_toArray, List.set_cons_zero, List.set_cons_succ]
      refine wpAnyH_take (i := 13) (oi := ?oi36) (v := ?v36) ?hi36 (by kernel_rfl) (by kernel_rfl) (by kernel_rfl) ?hQ36 ?hy36 (by assumption) ?_
      case hi36 => (simp only [List.getElem?_toArray, List.getElem?_cons_succ, List.getElem?_cons_zero]; rfl)
      case hQ36 => exact fun _ _ _ h => h
      case hy36 => (refine Or.inl ⟨by rfl, ?_⟩; intro w hSw; obtain ⟨d0, d1, d2, d3, e0, e1, e2, e3, e4, e5, _⟩ := hSw; go_simp; try with_reducible rfl)
      try simp only [Act.put, List.setIfInBounds_toArray, List.set_cons_zero, List.set_cons_succ]
      refine wpAnyH_take (i := 14) (oi := ?oi37) (v := ?v37) ?hi37 (by kernel_rfl) (by kernel_rfl) (by kernel_rfl) ?hQ37 ?hy37 (by assumption) ?_
      case hi37 => (simp only [List.getElem?_toArray, List.getElem?_cons_succ, List.getElem?_cons_zero]; rfl)
      case hQ37 => exact fun _ _ _ h => h
      case hy37 => (refine Or.inl ⟨by rfl, ?_⟩; intro w hSw; obtain ⟨d0, d1, d2, d3, e0, e1, e2, e3, e4, e5, _⟩ := hSw; go_simp; try with_reducible rfl)
      try simp only [Act.put, List.setIfInBounds_toArray, List.set_cons_zero, List.set_cons_succ]
      refine wpAnyH_take (i := 15) (oi := ?oi38) (v := ?v38) ?hi38 (by kernel_rfl) (by kernel_rfl) (by kernel_rfl) ?hQ38 ?hy38 (by assumption) ?_
      case hi38 => (simp only [List.getElem?_toArray, List.getElem?_cons_succ, List.getElem?_cons_zero]; rfl)
      case hQ38 => exact fun _ _ _ h => h
      case hy38 => (refine Or.inl ⟨by rfl, ?_⟩; intro w hSw; obtain ⟨d0, d1, d2, d3, e0, e1, e2, e3, e4, e5, _⟩ := hSw; go_simp; try with_reducible rfl)
      try simp only [Act.put, List.setIfInBounds_toArray, List.set_cons_zero, List.set_cons_succ]
      refine wpAnyH_take (i := 16) (oi := ?oi39) (v := ?v39) ?hi39 (by kernel_rfl) (by kernel_rfl) (by kernel_rfl) ?hQ39 ?hy39 (by assumption) ?_
      case hi39 => (simp only [List.getElem?_toArray, List.getElem?_cons_succ, List.getElem?_cons_zero]; rfl)
      case hQ39 => exact fun _ _ _ h => h
      case hy39 => (refine Or.inl ⟨by rfl, ?_⟩; intro w hSw; obtain ⟨d0, d1, d2, d3, e0, e1, e2, e3, e4, e5, _⟩ := hSw; go_simp; try with_reducible rfl)
      try simp only [Act.put, List.setIfInBounds_toArray, List.set_cons_zero, List.set_cons_succ]
      refine wpAnyH_take (i := 17) (oi := ?oi40) (v := ?v40) ?hi40 (by kernel_rfl) (by kernel_rfl) (by kernel_rfl) ?hQ40 ?hy40 (by assumption) ?_
      case hi40 => (simp only [List.getElem?_toArray, List.getElem?_cons_succ, List.getElem?_cons_zero]; rfl)
      case hQ40 => exact fun _ _ _ h => h
      case hy40 => (refine Or.inl ⟨by rfl, ?_⟩; intro w hSw; obtain ⟨d0, d1, d2, d3, e0, e1, e2, e3, e4, e5, _⟩ := hSw; go_simp; try with_reducible rfl)
      try simp only [Act.put, List.setIfInBounds_toArray, List.set_cons_zero, List.set_cons_succ]
      refine wpAnyH_take (i := 18) (oi := ?oi41) (v := ?v41) ?hi41 (by kernel_rfl) (by kernel_rfl) (by kernel_rfl) ?hQ41 ?hy41 (by assumption) ?_
      case hi41 => (simp only [List.getElem?_toArray, List.getElem?_cons_succ, List.getElem?_cons_zero]; rfl)
      case hQ41 => exact fun _ _ _ h => h
      case hy41 => (refine Or.inl ⟨by rfl, ?_⟩; intro w hSw; obtain ⟨d0, d1, d2, d3, e0, e1, e2, e3, e4, e5, _⟩ := hSw; go_simp; try with_reducible rfl)
      try simp only [Act.put, List.setIfInBounds_toArray, List.set_cons_zero, List.set_cons_succ]
      refine wpAnyH_take (i := 19) (oi := ?oi42) (v := ?v42) ?hi42 (by kernel_rfl) (by kernel_rfl) (by kernel_rfl) ?hQ42 ?hy42 (by assumption) ?_
      case hi42 => (simp only [List.getElem?_toArray, List.getElem?_cons_succ, List.getElem?_cons_zero]; rfl)
      case hQ42 => exact fun _ _ _ h => h
      case hy42 => (refine Or.inl ⟨by rfl, ?_⟩; intro w hSw; obtain ⟨d0, d1, d2, d3, e0, e1, e2, e3, e4, e5, _⟩ := hSw; go_simp; try with_reducible rfl)
      try simp only [Act.put, List.setIfInBounds_toArray, List.set_cons_zero, List.set_cons_succ]
      refine wpAnyH_take (i := 20) (oi := ?oi43) (v := ?v43) ?hi43 (by kernel_rfl) (by kernel_rfl) (by kernel_rfl) ?hQ43 ?hy43 (by assumption) ?_
      case hi43 => (simp only [List.getElem?_toArray, List.getElem?_cons_succ, List.getElem?_cons_zero]; rfl)
      case hQ43 => exact fun _ _ _ h => h
      case hy43 => (refine Or.inl ⟨by rfl, ?_⟩; intro w hSw; obtain ⟨d0, d1, d2, d3, e0, e1, e2, e3, e4, e5, _⟩ := hSw; go_simp; try with_reducible rfl)
      try simp only [Act.put, List.setIfInBounds_toArray, List.set_cons_zero, List.set_cons_succ]
      refine wpAnyH_take (i := 21) (oi := ?oi44) (v := ?v44) ?hi44 (by kernel_rfl) (by kernel_rfl) (by kernel_rfl) ?hQ44 ?hy44 (by assumption) ?_
      case hi44 => (simp only [List.getElem?_toArray, List.getElem?_cons_succ, List.getElem?_cons_zero]; rfl)
      case hQ44 => exact fun _ _ _ h => h
      case hy44 => (refine Or.inl ⟨by rfl, ?_⟩; intro w hSw; obtain ⟨d0, d1, d2, d3, e0, e1, e2, e3, e4, e5, _⟩ := hSw; go_simp; try with_reducible rfl)
      try simp only [Act.put, List.setIfInBounds_toArray, List.set_cons_zero, List.set_cons_succ]
      refine wpAnyH_ready (rs := [22]) (by kernel_rfl) (by simp) ?_
      refine AllReadyH.cons (o := ?oi4522) ?ho4522 (fun K hK => ?_) AllReadyH.nil
      case ho4522 => (simp only [List.getElem?_toArray, List.getElem?_cons_succ, List.getElem?_cons_zero]; rfl)
      go_simp
      go_at_call 60; (with_reducible refine (rlearn_any (H + 1 + 1 + 1 + 1) _ f t.to t.th t.ep t.tm _ (HP2.out.same (Below.refl _ w2).drew).kn (by have := HP2.out.size; simp; omega)).mono ?_); rintro e w3 ⟨v3, rfl, hk3, hb3⟩
      obtain ⟨a3, m3, e3⟩ : ∃ a c, v3 = .slice a (knL (lrn f t.to t.th t.ep t.tm)).length c := by
        obtain ⟨a, c, h, _⟩ := hk3
        exact ⟨a, c, h⟩
      subst e3
      refine hK.out _ _ ?_ (fun hHeld => ?_)
      · (try dsimp only); exact RegO.below (by assumption) hb3
      clear hK K
      try simp only [Act.put, List.setIfInBounds_toArray, List.set_cons_zero, List.set_cons_succ]
      have hP3 := HP2.out.same (Below.trans (Below.refl _ _).drew hb3)
      have r5 := hP3.n.cell 5
      simp only [List.getElem?_cons_succ, List.getElem?_cons_zero] at r5
      have rf := hP3.n.free
      have HP3 := Lib.hid (hP3.put hk3)
      clear hP3 hk3 hb3 HP2 c0 c1 c2 c3 n0 n1 n2 n3 n4 n5
      refine wpAnyH_take (i := 23) (oi := ?oi46) (v := ?v46) ?hi46 (by kernel_rfl) (by kernel_rfl) (by kernel_rfl) ?hQ46 ?hy46 (by assumption) ?_
      case hi46 => (simp only [List.getElem?_toArray, List.getElem?_cons_succ, List.getElem?_cons_zero]; rfl)
      case hQ46 => exact fun _ _ _ h => h
      case hy46 => (refine Or.inl ⟨by rfl, ?_⟩; intro w hSw; obtain ⟨d0, d1, d2, d3, e0, e1, e2, e3, e4, e5, _⟩ := hSw; go_simp; try with_reducible rfl)
      try simp only [Act.put, List.setIfInBounds_toArray, List.set_cons_zero, List.set_cons_succ]
      refine wpAnyH_take (i := 24) (oi := ?oi47) (v := ?v47) ?hi47 (by kernel_rfl) (by kernel_rfl) (by kernel_rfl) ?hQ47 ?hy47 (by assumption) ?_
      case hi47 => (simp only [List.getElem?_toArray, List.getElem?_cons_succ, List.getElem?_cons_zero]; rfl)
      case hQ47 => exact fun _ _ _ h => h
      case hy47 => (refine Or.inl ⟨by rfl, ?_⟩; intro w hSw; obtain ⟨d0, d1, d2, d3, e0, e1, e2, e3, e4, e5, _⟩ := hSw; go_simp; try with_reducible rfl)
      try simp only [Act.put, List.setIfInBounds_toArray, List.set_cons_zero, List.set_cons_succ]
      refine wpAnyH_take (i := 25) (oi := ?oi48) (v := ?v48) ?hi48 (by kernel_rfl) (by kernel_rfl) (by kernel_rfl) ?hQ48 ?hy48 (by assumption) ?_
      case hi48 => (simp only [List.getElem?_toArray, List.getElem?_cons_succ, List.getElem?_cons_zero]; rfl)
      case hQ48 => exact fun _ _ _ h => h
      case hy48 => (refine Or.inl ⟨by rfl, ?_⟩; intro w hSw; obtain ⟨d0, d1, d2, d3, e0, e1, e2, e3, e4, e5, _⟩ := hSw; go_simp; try with_reducible rfl)
      try simp only [Act.put, List.setIfInBounds_toArray, List.set_cons_zero, List.set_cons_succ]
      refine wpAnyH_take (i := 26) (oi := ?oi49) (v := ?v49) ?hi49 (by kernel_rfl) (by kernel_rfl) (by kernel_rfl) ?hQ49 ?hy49 (by assumption) ?_
      case hi49 => (simp only [List.getElem?_toArray, List.getElem?_cons_succ, List.getElem?_cons_zero]; rfl)
      case hQ49 => exact fun _ _ _ h => h
      case hy49 => (refine Or.inl ⟨by rfl, ?_⟩; intro w hSw; obtain ⟨d0, d1, d2, d3, e0, e1, e2, e3, e4, e5, _⟩ := hSw; go_simp; try with_reducible rfl)
      try simp only [Act.put, List.setIfInBounds_toArray, List.set_cons_zero, List.set_cons_succ]
      refine wpAnyH_take (i := 27) (oi := ?oi50) (v := ?v50) ?hi50 (by kernel_rfl) (by kernel_rfl) (by kernel_rfl) ?hQ50 ?hy50 (by assumption) ?_
      case hi50 => (simp only [List.getElem?_toArray, List.getElem?_cons_succ, List.getElem?_cons_zero]; rfl)
      case hQ50 => exact fun _ _ _ h => h
      case hy50 => (refine Or.inl ⟨by rfl, ?_⟩; intro w hSw; obtain ⟨d0, d1, d2, d3, e0, e1, e2, e3, e4, e5, _⟩ := hSw; go_simp; try with_reducible rfl)
      try simp only [Act.put, List.setIfInBounds_toArray, List.set_cons_zero, List.set_cons_succ]
      refine wpAnyH_done (by kernel_rfl) ?_ _
      clear hHeld
      go_wp2_with fail
      exact ⟨⟨k + 1, _, by omega, by go_num, by rw [HF.out]; exact HP3.out⟩, by simp only [intOf]; omega⟩
    · obtain rfl : k = l.length := by omega
      have HP' : Hid (OfAt w H x ttl (tolds l) (tolds l) (.slice av (knL (tolds (l.take l.length))).length cv) wr) := by
        have := HP.out
        rw [List.take_of_length_le (Nat.le_refl _)] at this ⊢
        exact Lib.hid this
      rw [List.take_of_length_le (Nat.le_refl _)] at HP'
      obtain ⟨f, hf⟩ : ∃ f, f = tolds l := ⟨_, rfl⟩
      rw [← hf] at HP'
      have HE := Lib.hid hf
      clear hf
      have n0 := HP'.out.n.cell 0
      have n1 := HP'.out.n.cell 1
      have n2 := HP'.out.n.cell 2
      have n3 := HP'.out.n.cell 3
      have n4 := HP'.out.n.cell 4
      have n5 := HP'.out.n.cell 5
      simp only [List.getElem?_cons_succ, List.getElem?_cons_zero] at n0 n1 n2 n3 n4 n5
      have r0 := HP'.out.res.cell 0
      have r1 := HP'.out.res.cell 1
      have r2 := HP'.out.res.cell 2
      have r3 := HP'.out.res.cell 3
      have r4 := HP'.out.res.cell 4
      have r5 := HP'.out.res.cell 5
      simp only [List.getElem?_cons_succ, List.getElem?_cons_zero] at r0 r1 r2 r3 r4 r5
      have rf := HP'.out.res.free
      clear hP HP
      have rl := HP'.out.res.lt
      obtain ⟨wf, hwf⟩ : ∃ wf, wf = ((((((wr.setCell ⟨H + 1, 0, none⟩ (.int .i64 x.tier)).setCell ⟨H + 1, 1, none⟩ (.int .i64 x.lev)).setCell ⟨H + 1, 2, none⟩ (.int .i64 x.tick)).setCell ⟨H + 1, 3, none⟩ (.int .i64 x.dl)).setCell ⟨H + 1, 4, none⟩ (.int .i64 ttl)).setCell ⟨H + 1, 5, none⟩ (.slice av (knL f).length cv)).drew := ⟨_, rfl⟩
      have hof : IsObj wf (H + 1) 30 [.int .i64 x.tier, .int .i64 x.lev, .int .i64 x.tick, .int .i64 x.dl, .int .i64 ttl, .slice av (knL f).length cv] := by rw [hwf]; exact ((((((HP'.out.res.set 0 (.int .i64 x.tier)).set 1 (.int .i64 x.lev)).set 2 (.int .i64 x.tick)).set 3 (.int .i64 x.dl)).set 4 (.int .i64 ttl)).set 5 _).drew
      have hbf : Below (H + 1) wr wf := by rw [hwf]; exact (((((((Below.refl _ _).setCell (by simp) _).setCell (by simp) _).setCell (by simp) _).setCell (by simp) _).setCell (by simp) _).setCell (by simp) _).drew
      have hkf : KnAt wf (.slice av (knL f).length cv) (knL f) := by
        obtain ⟨a3, c3, e1, e2, e3, e4, e5⟩ := HP'.out.kn
        refine ⟨a3, c3, e1, e2, e3, ?_⟩
        rcases e4 with e4 | ⟨b, off, rfl, hc⟩
        · exact .inl e4
        · refine .inr ⟨b, off, rfl, fun i hi j hj => ?_⟩
          rw [← hc i hi j hj, hwf]
          have hne := e5 b off rfl
          simp only [World.cell?_drew]
          iterate 6 (refine (World.cell?_of_block (Below.heap_setCell _ _ _ b (by simp; omega))).trans ?_)
          rfl
      have htf : TableAt wf (H + 1 + 1 + 1) ttl f := by
        rw [hwf]
        exact (((((IsObj.setOther (IsObj.setOther HP'.out.t _ _ (by simp <;> omega)) _ _ (by simp <;> omega)).setOther _ _ (by simp <;> omega)).setOther _ _ (by simp <;> omega)).setOther _ _ (by simp <;> omega)).setOther _ _ (by simp <;> omega)).drew
      have HF : Hid (∃ b v, Ending.returned (.tuple #[.pointer (some ⟨H + 1 + 1 + 1, 0, none⟩), rnV x ttl (.slice av (knL f).length cv)]) = .returned (.tuple #[.pointer (some ⟨b, 0, none⟩), rnV x ttl v]) ∧ TableAt wf b ttl (tolds l) ∧ KnAt wf v (knL (tolds l)) ∧ Below w.heap.size w wf) := by
        rw [← HE.out]
        exact Lib.hid ⟨_, _, rfl, htf, hkf, by have := HW.out; exact (this ▸ HP'.out.below).trans (hbf.mono (by omega))⟩
      have f0 := hof.cell 0
      have f1 := hof.cell 1
      have f2 := hof.cell 2
      have f3 := hof.cell 3
      have f4 := hof.cell 4
      have f5 := hof.cell 5
      simp only [List.getElem?_cons_succ, List.getElem?_cons_zero] at f0 f1 f2 f3 f4 f5
      clear hof hbf hkf htf HP'
      go_wp2_with fail
      refine wp_region_held_drew (S := fun W => W.cell? ⟨H + 1 + 1, 0, none⟩ = some (.int .i64 x.tier) ∧ W.cell? ⟨H + 1 + 1, 1, none⟩ = some (.int .i64 x.lev) ∧ W.cell? ⟨H + 1 + 1, 2, none⟩ = some (.int .i64 x.tick) ∧ W.cell? ⟨H + 1 + 1, 3, none⟩ = some (.int .i64 x.dl) ∧ W.cell? ⟨H + 1 + 1, 4, none⟩ = some (.int .i64 ttl) ∧ W.cell? ⟨H + 1 + 1, 5, none⟩ = some (.slice av (knL f).length cv)) (by kernel_rfl) ?_ (fun hHeld => ?_)
      · (try dsimp only); exact ⟨n0, n1, n2, n3, n4, n5⟩
      refine wpAnyH_take (i := 0) (oi := ?oi51) (v := ?v51) ?hi51 (by kernel_rfl) (by kernel_rfl) (by kernel_rfl) ?hQ51 ?hy51 (by assumption) ?_
      case hi51 => (simp only [List.getElem?_toArray, List.getElem?_cons_succ, List.getElem?_cons_zero]; rfl)
      case hQ51 => exact fun _ _ _ h => h
      case hy51 => (refine Or.inl ⟨by rfl, ?_⟩; intro w hSw; obtain ⟨e0, e1, e2, e3, e4, e5⟩ := hSw; go_simp; try with_reducible rfl)
      try simp only [Act.put, List.setIfInBounds_toArray, List.set_cons_zero, List.set_cons_succ]
      refine wpAnyH_take (i := 1) (oi := ?oi52) (v := ?v52) ?hi52 (by kernel_rfl) (by kernel_rfl) (by kernel_rfl) ?hQ52 ?hy52 (by assumption) ?_
      case hi52 => (simp only [List.getElem?_toArray, List.getElem?_cons_succ, List.getElem?_cons_zero]; rfl)
      case hQ52 => exact fun _ _ _ h => h
      case hy52 => (refine Or.inl ⟨by rfl, ?_⟩; intro w hSw; obtain ⟨e0, e1, e2, e3, e4, e5⟩ := hSw; go_simp; try with_reducible rfl)
      try simp only [Act.put, List.setIfInBounds_toArray, List.set_cons_zero, List.set_cons_succ]
      refine wpAnyH_take (i := 2) (oi := ?oi53) (v := ?v53) ?hi53 (by kernel_rfl) (by kernel_rfl) (by kernel_rfl) ?hQ53 ?hy53 (by assumption) ?_
      case hi53 => (simp only [List.getElem?_toArray, List.getElem?_cons_succ, List.getElem?_cons_zero]; rfl)
      case hQ53 => exact fun _ _ _ h => h
      case hy53 => (refine Or.inl ⟨by rfl, ?_⟩; intro w hSw; obtain ⟨e0, e1, e2, e3, e4, e5⟩ := hSw; go_simp; try with_reducible rfl)
      try simp only [Act.put, List.setIfInBounds_toArray, List.set_cons_zero, List.set_cons_succ]
      refine wpAnyH_ready (rs := [3]) (by kernel_rfl) (by simp) ?_
      refine AllReadyH.cons (o := ?oi5403) ?ho5403 (fun K hK => ?_) AllReadyH.nil
      case ho5403 => (simp only [List.getElem?_toArray, List.getElem?_cons_succ, List.getElem?_cons_zero]; rfl)
      go_simp
      refine hK.out _ _ ?_ (fun hHeld => ?_)
      · (try dsimp only); (refine ⟨?_, ?_, ?_, ?_, ?_, ?_⟩ <;> go_simp)
      clear hK K
      try simp only [Act.put, List.setIfInBounds_toArray, List.set_cons_zero, List.set_cons_succ]
      refine wpAnyH_done (by kernel_rfl) ?_ _
      clear hHeld
      rw [← hwf]
      clear hwf
      go_wp2_with fail
      exact bodyPost_ret (v := .tuple #[.pointer (some ⟨H + 1 + 1 + 1, 0, none⟩), rnV x ttl (.slice av (knL f).length cv)]) (by simp [results, Try.results13, go_sem, f0, f1, f2, f3, f4, f5]) rfl HF.out
end Go.Proofs.Ytgkmmoiniidhlaa
