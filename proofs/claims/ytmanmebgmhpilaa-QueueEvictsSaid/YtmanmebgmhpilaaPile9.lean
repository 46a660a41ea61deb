/-
  Layer 12 (pile): an item is put there; a new pile.
-/
import Derived.Test.YtmanmebgmhpilaaPile8
import Derived.Maps.AppendAt
namespace Go.Proofs.Ytmanmebgmhpilaa
open Go.RowKit Go.Maps
set_option linter.unusedVariables false
set_option linter.unusedSimpArgs false

theorem pnew_ok (most : Int) (w : World) (h0 : 0 ≤ most) (h1 : most ≤ 64) : Calls Try.prog 11 #[.int .i64 most] w fun e w' => e = .returned (.tuple #[.pointer (some ⟨w.heap.size + 1, 0, none⟩), .int .i64 0]) ∧ PAt w' (w.heap.size + 1) w.heap.size most (.slice none 0 0) [] ∧ Below w.heap.size w w' := by
  have hmm := @run_makeMap Try.prog
  have o1 : IsObj ((w.alloc (.map #[] 0)).alloc (.cells #[.map (some w.heap.size), .int .i64 most, .slice none 0 0] 58)) (w.heap.size + 1) 58 [.map (some w.heap.size), .int .i64 most, .slice none 0 0] := by
    have h := IsObj.new (w.alloc (.map #[] 0)) 58 [.map (some w.heap.size), .int .i64 most, .slice none 0 0]
    rw [World.size_alloc] at h
    exact h
  have HP := Lib.hid (show PAt ((w.alloc (.map #[] 0)).alloc (.cells #[.map (some w.heap.size), .int .i64 most, .slice none 0 0] 58)) (w.heap.size + 1) w.heap.size most (.slice none 0 0) [] from ⟨⟨.map [], ⟨o1, (World.ownsMap_made w _ _ _).alloc _, World.ownsRow_nil _ _ _ _, by omega, fun _ h => by simp at h, by simp⟩, idx_empty, by simp [Maps.size]⟩, by simp⟩)
  have HB := Lib.hid (show Below w.heap.size w ((w.alloc (.map #[] 0)).alloc (.cells #[.map (some w.heap.size), .int .i64 most, .slice none 0 0] 58)) from ((Below.refl _ w).alloc (Nat.le_refl _) _).alloc (by simp) _)
  clear o1
  have j0 : decide (most < 0) = false := by simp; omega
  have j1 : decide (64 < most) = false := by simp; omega
  go_enter Try.func11, Try.ntmps11
  go_wp2
  go_returns
  exact ⟨rfl, HP.out, HB.out⟩
theorem own_sl7 {w : World} {base n : Nat} {e : TypeId} {v : Value} {xs : List Value} (h : w.ownsRow base e 7 v n xs) : ∃ a m c, v = .slice a m c := by
  rcases h.2 with ⟨rfl, _⟩ | ⟨g, cap, _, rfl, _⟩
  · exact ⟨_, _, _, rfl⟩
  · exact ⟨_, _, _, rfl⟩
theorem step_run_append {P : Program} {o : Oper} {a : Act} {w w' : World} {K : Act → World → Prop} {Q : Exit → Act → World → Prop} {ops : Array Oper} {s x : Operand} {ty : TypeId} {v u v' : Value} (hw : Region.wanted o (yielded ops a.tmps) = true) (ho : o.op = .call { callee := .builtin .append, args := #[s, x], argTypes := #[ty, ty] }) (hs : a.eval s = v) (hx : a.eval x = u) (hr : (Builtin.append_ #[ty, ty] o.type #[v, u]).run P w = .ok v' w') (h : K (a.put o.dst v') w') : if Region.wanted o (yielded ops a.tmps) = true then Oper.wp P o a w K Q else K (a.put o.dst undef) w := by
  rw [if_pos hw]
  unfold Oper.wp execOp
  simp only [ho, resolve, invoke, builtin, Sem.run_bind, Sem.run_pure, Result.andThen_ok, List.map_toArray, List.map_cons, List.map_nil, hs, hx, hr]
  exact h
def PushS7 (p B : Nat) (tv : Value) (x : It) (W : World) : Prop := W.cell? ⟨p, 2, none⟩ = some tv ∧ W.cell? ⟨B, 0, none⟩ = some (.int .i64 x.id) ∧ W.cell? ⟨B, 1, none⟩ = some (.int .i64 x.lev) ∧ W.cell? ⟨B, 2, none⟩ = some (.int .i64 x.frm) ∧ W.cell? ⟨B, 3, none⟩ = some (.int .i64 x.dl) ∧ W.cell? ⟨B, 4, none⟩ = some (.int .i64 x.bud) ∧ W.cell? ⟨B, 5, none⟩ = some (.int .i64 x.since) ∧ W.cell? ⟨B, 6, none⟩ = some (.int .i64 x.seq)
theorem item_parts : (Try.prog.info? 31).map (fun i => (i.zero, i.size, i.bytes)) = some (some (.agg #[.int .i64 0, .int .i64 0, .int .i64 0, .int .i64 0, .int .i64 0, .int .i64 0, .int .i64 0]), 7, 56) := by kernel_rfl
def PushS (B : Nat) (x : It) (W : World) : Prop := W.cell? ⟨B, 0, none⟩ = some (.int .i64 x.id) ∧ W.cell? ⟨B, 1, none⟩ = some (.int .i64 x.lev) ∧ W.cell? ⟨B, 2, none⟩ = some (.int .i64 x.frm) ∧ W.cell? ⟨B, 3, none⟩ = some (.int .i64 x.dl) ∧ W.cell? ⟨B, 4, none⟩ = some (.int .i64 x.bud) ∧ W.cell? ⟨B, 5, none⟩ = some (.int .i64 x.since) ∧ W.cell? ⟨B, 6, none⟩ = some (.int .i64 x.seq)
theorem PushS.move {B : Nat} {x : It} {W W' : World} (hB : W'.heap[B]? = W.heap[B]?) (h : PushS B x W) : PushS B x W' := ⟨(World.cell?_of_block (w := W) hB).trans h.1, (World.cell?_of_block (w := W) hB).trans h.2.1, (World.cell?_of_block (w := W) hB).trans h.2.2.1, (World.cell?_of_block (w := W) hB).trans h.2.2.2.1, (World.cell?_of_block (w := W) hB).trans h.2.2.2.2.1, (World.cell?_of_block (w := W) hB).trans h.2.2.2.2.2.1, (World.cell?_of_block (w := W) hB).trans h.2.2.2.2.2.2⟩
set_option maxRecDepth 100000 in
set_option maxHeartbeats 4000000 in
theorem ppush_ok {w : World} {p M : Nat} {most : Int} {tv : Value} {T : List It} (x : It) (h : PAt w p M most tv T) (hx : IdOk x.id) (hn : x.id ∉ T.map It.id) (hm : (T.length : Int) < most) (hm64 : most ≤ 64) : Calls Try.prog 12 #[.pointer (some ⟨p, 0, none⟩), itV x] w fun e w' => e = .returned (.int .i64 0) ∧ ∃ tv', PAt w' p M most tv' (upT (T ++ [x]) T.length) ∧ Frp p M tv tv' w w' := by
  obtain ⟨i0, hi, hz0, hz1, hz2⟩ := info_parts item_parts
  obtain ⟨a, cap, htv⟩ : ∃ a c, tv = .slice a T.length c := by
    obtain ⟨D, hr, _⟩ := h.raw
    exact hr.sl
  have HTV := Lib.hid htv
  obtain ⟨hpl, hMl, hgl⟩ : p < w.heap.size ∧ M < w.heap.size ∧ ∀ g, tv.ownBlock = some g → g < w.heap.size := by
    obtain ⟨D, hr, _⟩ := h.raw
    exact ⟨hr.o.lt, hr.m.lt, fun g hg => (hr.t.lt g hg).2⟩
  obtain ⟨B, hB⟩ : ∃ B, B = w.heap.size := ⟨_, rfl⟩
  have HB := Lib.hid hB
  have B0 := Lib.hid (show Below w.heap.size w (w.alloc (.cells #[.int .i64 x.id, .int .i64 x.lev, .int .i64 x.frm, .int .i64 x.dl, .int .i64 x.bud, .int .i64 x.since, .int .i64 x.seq] 31)) from (Below.refl _ w).alloc (Nat.le_refl _) _)
  have O0 := Lib.hid (show IsObj (w.alloc (.cells #[.int .i64 x.id, .int .i64 x.lev, .int .i64 x.frm, .int .i64 x.dl, .int .i64 x.bud, .int .i64 x.since, .int .i64 x.seq] 31)) B 31 (itCells x) by rw [hB]; exact IsObj.new w _ (itCells x))
  have H0 := Lib.hid (h.same B0.out)
  have hpB : p < B ∧ M < B := by omega
  have hgB : ∀ g, tv.ownBlock = some g → g < B := fun g hg => by have := hgl g hg; omega
  clear h hB htv hgl
  go_enter Try.func12, Try.ntmps12
  go_upto_region 1 with (fail)
  rw [← HB.out]
  generalize w.alloc (.cells #[.int .i64 x.id, .int .i64 x.lev, .int .i64 x.frm, .int .i64 x.dl, .int .i64 x.bud, .int .i64 x.since, .int .i64 x.seq] 31) = w0 at *
  have q0 : w0.cell? ⟨B, 0, none⟩ = some (.int .i64 x.id) := O0.out.cell 0
  go_upto_region 4 with (fail)
  refine (pget_out x.id H0.out hx hn).mono ?_
  rintro e w1 ⟨rfl, b1⟩
  have H1 := Lib.hid (H0.out.same b1)
  have O1 := Lib.hid (IsObj.below O0.out b1 O0.out.lt)
  have B1 := Lib.hid (B0.out.trans (b1.mono B0.out.size))
  have TH := Lib.hid (show (w1.alloc (.cells #[.int .i64 0, .int .i64 0, .int .i64 0, .int .i64 0, .int .i64 0, .int .i64 0, .int .i64 0] 31)).there w1.heap.size 0 (itCells it0).toArray.size from IsObj.there (IsObj.new w1 31 [.int .i64 0, .int .i64 0, .int .i64 0, .int .i64 0, .int .i64 0, .int .i64 0, .int .i64 0]) 0 7 (by decide))
  have bz : Below w1.heap.size w1 ((w1.alloc (.cells #[.int .i64 0, .int .i64 0, .int .i64 0, .int .i64 0, .int .i64 0, .int .i64 0, .int .i64 0] 31)).setCells w1.heap.size 0 (itCells it0).toArray.toList) := ((Below.refl _ w1).alloc (Nat.le_refl _) _).trans ((Only.setCells (b := w1.heap.size) (itCells it0) 0 (Only.refl w1.heap.size (w1.alloc (.cells #[.int .i64 0, .int .i64 0, .int .i64 0, .int .i64 0, .int .i64 0, .int .i64 0, .int .i64 0] 31)))).below (Nat.le_refl _) (by simp))
  have H2 := Lib.hid (H1.out.same bz)
  have O2 := Lib.hid (IsObj.below O1.out bz O1.out.lt)
  have B2 := Lib.hid (B1.out.trans (bz.mono B1.out.size))
  clear b1 bz q0
  go_upto_region 4 with (refine wpList_store_mid (by rfl) 31 _ _ (by rfl) w1.heap.size 0 (itCells it0).toArray (by rfl) (by rfl) (by exact TH.out) (by kernel_rfl) (it_one _) ?_; generalize (w1.alloc (.cells #[.int .i64 0, .int .i64 0, .int .i64 0, .int .i64 0, .int .i64 0, .int .i64 0, .int .i64 0] 31)).setCells w1.heap.size 0 (itCells it0).toArray.toList = w2 at *)
  have c1 : w2.cell? ⟨p, 1, none⟩ = some (.int .i64 most) := by
    obtain ⟨D, hr, _⟩ := H2.out.raw
    exact hr.o.cell 1
  have c2 : w2.cell? ⟨p, 2, none⟩ = some (.slice a T.length cap) := by
    obtain ⟨D, hr, _⟩ := H2.out.raw
    rw [← HTV.out]
    exact hr.o.cell 2
  have j1 : decide (most ≤ (T.length : Int)) = false := by simp; omega
  go_quiet (fail)
  have hbd : Below w2.heap.size w2 (w2.drewN nq) := below_drewN (Below.refl _ _) nq
  have H3 := Lib.hid (H2.out.same hbd)
  have O3 := Lib.hid (IsObj.below O2.out hbd O2.out.lt)
  have B3 := Lib.hid (B2.out.trans (hbd.mono B2.out.size))
  clear hbd c1 c2 TH
  generalize w2.drewN nq = w3 at *
  go_upto_region 6 with (fail)
  clear j1
  obtain ⟨D, hr, hxx, hs⟩ := H3.out.raw
  have d7 : w3.drew.cell? ⟨p, 2, none⟩ = some (.slice a T.length cap) := by rw [← HTV.out]; exact hr.o.drew.cell 2
  have d0 : w3.drew.cell? ⟨B, 0, none⟩ = some (.int .i64 x.id) := O3.out.drew.cell 0
  have d1 : w3.drew.cell? ⟨B, 1, none⟩ = some (.int .i64 x.lev) := O3.out.drew.cell 1
  have d2 : w3.drew.cell? ⟨B, 2, none⟩ = some (.int .i64 x.frm) := O3.out.drew.cell 2
  have d3 : w3.drew.cell? ⟨B, 3, none⟩ = some (.int .i64 x.dl) := O3.out.drew.cell 3
  have d4 : w3.drew.cell? ⟨B, 4, none⟩ = some (.int .i64 x.bud) := O3.out.drew.cell 4
  have d5 : w3.drew.cell? ⟨B, 5, none⟩ = some (.int .i64 x.since) := O3.out.drew.cell 5
  have d6 : w3.drew.cell? ⟨B, 6, none⟩ = some (.int .i64 x.seq) := O3.out.drew.cell 6
  have HR3 := Lib.hid hr
  have HO3 := Lib.hid (show w3.drew.ownsRow (p + 1) 31 7 (.slice a T.length cap) T.length (T.flatMap itCells) by rw [← HTV.out]; exact hr.t)
  have HX := Lib.hid (And.intro hxx hs)
  have hlen := hr.len
  have hsz3 : p + 1 ≤ w3.drew.heap.size := by have h1 := hr.o.lt; exact h1
  clear hr hxx hs
  have K0 : PushS B x w3.drew := ⟨d0, d1, d2, d3, d4, d5, d6⟩
  clear d0 d1 d2 d3 d4 d5 d6
  have hal : ((w3.alloc (.cells #[.int .i64 x.id, .int .i64 x.lev, .int .i64 x.frm, .int .i64 x.dl, .int .i64 x.bud, .int .i64 x.since, .int .i64 x.seq] 31)).drew).heap[B]? = w3.drew.heap[B]? := Below.heap_alloc w3 _ B O3.out.lt
  have hap : ((w3.alloc (.cells #[.int .i64 x.id, .int .i64 x.lev, .int .i64 x.frm, .int .i64 x.dl, .int .i64 x.bud, .int .i64 x.since, .int .i64 x.seq] 31)).drew).heap[p]? = w3.drew.heap[p]? := Below.heap_alloc w3 _ p HR3.out.o.lt
  have dA : ((w3.alloc (.cells #[.int .i64 x.id, .int .i64 x.lev, .int .i64 x.frm, .int .i64 x.dl, .int .i64 x.bud, .int .i64 x.since, .int .i64 x.seq] 31)).drew).cell? ⟨p, 2, none⟩ = some (.slice a T.length cap) := (World.cell?_of_block (w := w3.drew) hap).trans d7
  have KA := K0.move hal
  obtain ⟨v', w4, hra, hown4, hg4, hnil, hob⟩ := run_append_own_at (P := Try.prog) ((w3.alloc (.cells #[.int .i64 x.id, .int .i64 x.lev, .int .i64 x.frm, .int .i64 x.dl, .int .i64 x.bud, .int .i64 x.since, .int .i64 x.seq] 31)).drew) (p + 1) 22 22 31 i0 (.agg #[.int .i64 0, .int .i64 0, .int .i64 0, .int .i64 0, .int .i64 0, .int .i64 0, .int .i64 0]) 7 56 Try.underlying22 hi hz0 hz1 hz2 rfl (by decide) (.slice a T.length cap) T.length (T.flatMap itCells) (HO3.out.alloc _) ⟨w3.heap.size, 0, none⟩ 1 1 (itCells x) (by rw [itCells_len])
    (fun j u hu => by rw [addr_add, Nat.zero_add]; exact ((IsObj.new w3 31 (itCells x)).drew.cell j).trans hu)
    (fun u hu => by simp [itCells] at hu; rcases hu with rfl | rfl | rfl | rfl | rfl | rfl | rfl <;> rfl) (by unfold maxLen; omega) (by omega) (by have h1 : p + 1 ≤ w3.heap.size := hsz3; show p + 1 ≤ (w3.alloc _).heap.size; rw [World.size_alloc]; omega)
  obtain ⟨av, mv, cv, rfl⟩ := own_sl7 hown4
  have hpo : some p ≠ (Value.slice a T.length cap).ownBlock := fun e => by have := (HO3.out.lt p e.symm).1; omega
  have hBo : some B ≠ (Value.slice a T.length cap).ownBlock := fun e => by have := hgB B (by rw [HTV.out]; exact e.symm); omega
  have hp4 : w4.heap[p]? = w3.drew.heap[p]? := (hg4.block p (by have h1 := HR3.out.o.lt; simp; omega) hpo).trans hap
  have hB4 : w4.heap[B]? = w3.drew.heap[B]? := (hg4.block B (by have h1 := O3.out.lt; simp; omega) hBo).trans hal
  have K4 := K0.move hB4
  have OP4 : IsObj w4 p 58 [.map (some M), .int .i64 most, .slice a T.length cap] := hp4.trans (by rw [← HTV.out]; exact HR3.out.o)
  have dp4 : w4.cell? ⟨p, 2, none⟩ = some (.slice a T.length cap) := OP4.cell 2
  have fp4 := OP4.free 2
  have K5 := K4.move (W' := w4.setCell ⟨p, 2, none⟩ (.slice av mv cv)) (Below.heap_setCell w4 _ _ B (by simp; omega))
  go_cut [] (fun wx => wx = w4.setCell ⟨p, 2, none⟩ (.slice av mv cv))
  case first =>
    refine wp_region_held_drew (S := PushS B x) (by kernel_rfl) ?_ (fun hHeld => ?_)
    · exact K0
    refine wpAnyH_take (i := 0) (oi := ?oi1) (v := ?v1) ?hi1 (by kernel_rfl) (by kernel_rfl) (by kernel_rfl) ?hQ1 ?hy1 (by assumption) ?_
    case hi1 => (simp only [List.getElem?_toArray, List.getElem?_cons_succ, List.getElem?_cons_zero]; rfl)
    case hQ1 => exact fun _ _ _ h => h
    case hy1 => (refine Or.inl ⟨by rfl, ?_⟩; intro w hSw; (obtain ⟨hSw0, hSw1, hSw2, hSw3, hSw4, hSw5, hSw6⟩ := hSw); go_simp; try with_reducible rfl)
    try simp only [Act.put, List.setIfInBounds_toArray, List.set_cons_zero, List.set_cons_succ]
    refine wpAnyH_take (i := 1) (oi := ?oi2) (v := ?v2) ?hi2 (by kernel_rfl) (by kernel_rfl) (by kernel_rfl) ?hQ2 ?hy2 (by assumption) ?_
    case hi2 => (simp only [List.getElem?_toArray, List.getElem?_cons_succ, List.getElem?_cons_zero]; rfl)
    case hQ2 => exact fun _ _ _ h => h
    case hy2 => (refine Or.inl ⟨by rfl, ?_⟩; intro w hSw; (obtain ⟨hSw0, hSw1, hSw2, hSw3, hSw4, hSw5, hSw6⟩ := hSw); go_simp; try with_reducible rfl)
    try simp only [Act.put, List.setIfInBounds_toArray, List.set_cons_zero, List.set_cons_succ]
    refine wpAnyH_take (i := 2) (oi := ?oi3) (v := ?v3) ?hi3 (by kernel_rfl) (by kernel_rfl) (by kernel_rfl) ?hQ3 ?hy3 (by assumption) ?_
    case hi3 => (simp only [List.getElem?_toArray, List.getElem?_cons_succ, List.getElem?_cons_zero]; rfl)
    case hQ3 => exact fun _ _ _ h => h
    case hy3 => (refine Or.inl ⟨by rfl, ?_⟩; intro w hSw; (obtain ⟨hSw0, hSw1, hSw2, hSw3, hSw4, hSw5, hSw6⟩ := hSw); go_simp; try with_reducible rfl)
    try simp only [Act.put, List.setIfInBounds_toArray, List.set_cons_zero, List.set_cons_succ]
    refine wpAnyH_take (i := 3) (oi := ?oi4) (v := ?v4) ?hi4 (by kernel_rfl) (by kernel_rfl) (by kernel_rfl) ?hQ4 ?hy4 (by assumption) ?_
    case hi4 => (simp only [List.getElem?_toArray, List.getElem?_cons_succ, List.getElem?_cons_zero]; rfl)
    case hQ4 => exact fun _ _ _ h => h
    case hy4 => (refine Or.inl ⟨by rfl, ?_⟩; intro w hSw; (obtain ⟨hSw0, hSw1, hSw2, hSw3, hSw4, hSw5, hSw6⟩ := hSw); go_simp; try with_reducible rfl)
    try simp only [Act.put, List.setIfInBounds_toArray, List.set_cons_zero, List.set_cons_succ]
    refine wpAnyH_take (i := 5) (oi := ?oi5) (v := ?v5) ?hi5 (by kernel_rfl) (by kernel_rfl) (by kernel_rfl) ?hQ5 ?hy5 (by assumption) ?_
    case hi5 => (simp only [List.getElem?_toArray, List.getElem?_cons_succ, List.getElem?_cons_zero]; rfl)
    case hQ5 => exact fun _ _ _ h => h
    case hy5 => (refine Or.inl ⟨by rfl, ?_⟩; intro w hSw; (obtain ⟨hSw0, hSw1, hSw2, hSw3, hSw4, hSw5, hSw6⟩ := hSw); go_simp; try with_reducible rfl)
    try simp only [Act.put, List.setIfInBounds_toArray, List.set_cons_zero, List.set_cons_succ]
    refine wpAnyH_ready (rs := [4, 6]) (by kernel_rfl) (by simp) ?_
    refine AllReadyH.cons (o := ?oi1604) ?ho1604 (fun K hK => ?_) (AllReadyH.cons (o := ?oi1606) ?ho1606 (fun K hK => ?_) AllReadyH.nil)
    case ho1604 => (simp only [List.getElem?_toArray, List.getElem?_cons_succ, List.getElem?_cons_zero]; rfl)
    case ho1606 => (simp only [List.getElem?_toArray, List.getElem?_cons_succ, List.getElem?_cons_zero]; rfl)
    · go_simp
      refine hK.out _ _ ?_ (fun hHeld => ?_)
      · (try dsimp only); exact K0
      clear hK K
      try simp only [Act.put, List.setIfInBounds_toArray, List.set_cons_zero, List.set_cons_succ]
      refine wpAnyH_ready (rs := [6]) (by kernel_rfl) (by simp) ?_
      refine AllReadyH.cons (o := ?oi600) ?ho600 (fun K hK => ?_) AllReadyH.nil
      case ho600 => (simp only [List.getElem?_toArray, List.getElem?_cons_succ, List.getElem?_cons_zero]; rfl)
      go_simp
      refine hK.out _ _ ?_ (fun hHeld => ?_)
      · (try dsimp only); exact KA
      clear hK K
      try simp only [Act.put, List.setIfInBounds_toArray, List.set_cons_zero, List.set_cons_succ]
      refine wpAnyH_ready (rs := [7]) (by kernel_rfl) (by simp) ?_
      refine AllReadyH.cons (o := ?oi700) ?ho700 (fun K hK => ?_) AllReadyH.nil
      case ho700 => (simp only [List.getElem?_toArray, List.getElem?_cons_succ, List.getElem?_cons_zero]; rfl)
      refine step_run_append (by rfl) (by rfl) (by rfl) (by rfl) hra ?_
      refine hK.out _ _ ?_ (fun hHeld => ?_)
      · (try dsimp only); exact K4
      clear hK K
      try simp only [Act.put, List.setIfInBounds_toArray, List.set_cons_zero, List.set_cons_succ]
      refine wpAnyH_take (i := 8) (oi := ?oi8) (v := ?v8) ?hi8 (by kernel_rfl) (by kernel_rfl) (by kernel_rfl) ?hQ8 ?hy8 (by assumption) ?_
      case hi8 => (simp only [List.getElem?_toArray, List.getElem?_cons_succ, List.getElem?_cons_zero]; rfl)
      case hQ8 => exact fun _ _ _ h => h
      case hy8 => (refine Or.inl ⟨by rfl, ?_⟩; intro w hSw; (obtain ⟨hSw0, hSw1, hSw2, hSw3, hSw4, hSw5, hSw6⟩ := hSw); go_simp; try with_reducible rfl)
      try simp only [Act.put, List.setIfInBounds_toArray, List.set_cons_zero, List.set_cons_succ]
      refine wpAnyH_take (i := 9) (oi := ?oi9) (v := ?v9) ?hi9 (by kernel_rfl) (by kernel_rfl) (by kernel_rfl) ?hQ9 ?hy9 (by assumption) ?_
      case hi9 => (simp only [List.getElem?_toArray, List.getElem?_cons_succ, List.getElem?_cons_zero]; rfl)
      case hQ9 => exact fun _ _ _ h => h
      case hy9 => (refine Or.inl ⟨by rfl, ?_⟩; intro w hSw; (obtain ⟨hSw0, hSw1, hSw2, hSw3, hSw4, hSw5, hSw6⟩ := hSw); go_simp; try with_reducible rfl)
      try simp only [Act.put, List.setIfInBounds_toArray, List.set_cons_zero, List.set_cons_succ]
      refine wpAnyH_ready (rs := [10]) (by kernel_rfl) (by simp) ?_
      refine AllReadyH.cons (o := ?oi1000) ?ho1000 (fun K hK => ?_) AllReadyH.nil
      case ho1000 => (simp only [List.getElem?_toArray, List.getElem?_cons_succ, List.getElem?_cons_zero]; rfl)
      go_simp
      refine hK.out _ _ ?_ (fun hHeld => ?_)
      · (try dsimp only); exact K5
      clear hK K
      try simp only [Act.put, List.setIfInBounds_toArray, List.set_cons_zero, List.set_cons_succ]
      refine wpAnyH_done (by kernel_rfl) ?_ _
      go_wp2_with fail
      go_meet
      exact rfl
    · go_simp
      refine hK.out _ _ ?_ (fun hHeld => ?_)
      · (try dsimp only); exact KA
      clear hK K
      try simp only [Act.put, List.setIfInBounds_toArray, List.set_cons_zero, List.set_cons_succ]
      refine wpAnyH_ready (rs := [4]) (by kernel_rfl) (by simp) ?_
      refine AllReadyH.cons (o := ?oi1100) ?ho1100 (fun K hK => ?_) AllReadyH.nil
      case ho1100 => (simp only [List.getElem?_toArray, List.getElem?_cons_succ, List.getElem?_cons_zero]; rfl)
      go_simp
      refine hK.out _ _ ?_ (fun hHeld => ?_)
      · (try dsimp only); exact KA
      clear hK K
      try simp only [Act.put, List.setIfInBounds_toArray, List.set_cons_zero, List.set_cons_succ]
      refine wpAnyH_ready (rs := [7]) (by kernel_rfl) (by simp) ?_
      refine AllReadyH.cons (o := ?oi1200) ?ho1200 (fun K hK => ?_) AllReadyH.nil
      case ho1200 => (simp only [List.getElem?_toArray, List.getElem?_cons_succ, List.getElem?_cons_zero]; rfl)
      refine step_run_append (by rfl) (by rfl) (by rfl) (by rfl) hra ?_
      refine hK.out _ _ ?_ (fun hHeld => ?_)
      · (try dsimp only); exact K4
      clear hK K
      try simp only [Act.put, List.setIfInBounds_toArray, List.set_cons_zero, List.set_cons_succ]
      refine wpAnyH_take (i := 8) (oi := ?oi13) (v := ?v13) ?hi13 (by kernel_rfl) (by kernel_rfl) (by kernel_rfl) ?hQ13 ?hy13 (by assumption) ?_
      case hi13 => (simp only [List.getElem?_toArray, List.getElem?_cons_succ, List.getElem?_cons_zero]; rfl)
      case hQ13 => exact fun _ _ _ h => h
      case hy13 => (refine Or.inl ⟨by rfl, ?_⟩; intro w hSw; (obtain ⟨hSw0, hSw1, hSw2, hSw3, hSw4, hSw5, hSw6⟩ := hSw); go_simp; try with_reducible rfl)
      try simp only [Act.put, List.setIfInBounds_toArray, List.set_cons_zero, List.set_cons_succ]
      refine wpAnyH_take (i := 9) (oi := ?oi14) (v := ?v14) ?hi14 (by kernel_rfl) (by kernel_rfl) (by kernel_rfl) ?hQ14 ?hy14 (by assumption) ?_
      case hi14 => (simp only [List.getElem?_toArray, List.getElem?_cons_succ, List.getElem?_cons_zero]; rfl)
      case hQ14 => exact fun _ _ _ h => h
      case hy14 => (refine Or.inl ⟨by rfl, ?_⟩; intro w hSw; (obtain ⟨hSw0, hSw1, hSw2, hSw3, hSw4, hSw5, hSw6⟩ := hSw); go_simp; try with_reducible rfl)
      try simp only [Act.put, List.setIfInBounds_toArray, List.set_cons_zero, List.set_cons_succ]
      refine wpAnyH_ready (rs := [10]) (by kernel_rfl) (by simp) ?_
      refine AllReadyH.cons (o := ?oi1500) ?ho1500 (fun K hK => ?_) AllReadyH.nil
      case ho1500 => (simp only [List.getElem?_toArray, List.getElem?_cons_succ, List.getElem?_cons_zero]; rfl)
      go_simp
      refine hK.out _ _ ?_ (fun hHeld => ?_)
      · (try dsimp only); exact K5
      clear hK K
      try simp only [Act.put, List.setIfInBounds_toArray, List.set_cons_zero, List.set_cons_succ]
      refine wpAnyH_done (by kernel_rfl) ?_ _
      go_wp2_with fail
      go_meet
      exact rfl
  case rest =>
    obtain rfl := hcut
    have hset := (Only.refl p w4).setCell (p := ⟨p, 2, none⟩) (.inl rfl) (.slice av mv cv)
    have hmv : mv = T.length + 1 := by
      rcases hown4.2 with ⟨e1, e2⟩ | ⟨g, cp, cur, e1, _⟩
      · omega
      · injection e1
    have hg : ∃ g, av = some ⟨g, 0, none⟩ ∧ p + 1 ≤ g := by
      rcases hown4.2 with ⟨e1, e2⟩ | ⟨g, cp, cur, e1, h2, _⟩
      · omega
      · exact ⟨g, by injection e1, h2⟩
    subst hmv
    have HR5 := Lib.hid (show PRaw (w4.setCell ⟨p, 2, none⟩ (.slice av (T.length + 1) cv)) p M most (.slice av (T.length + 1) cv) (T ++ [x]) D by
      have hMg : some M ≠ (Value.slice a T.length cap).ownBlock := fun e => by have h1 := (HO3.out.lt M e.symm).1; have h2 := HR3.out.ord; omega
      refine ⟨OP4.set 2 _, ?_, ?_, HR3.out.ord, ?_, by rw [List.length_append, List.length_singleton]; omega⟩
      · have m1 : (w3.alloc (.cells #[.int .i64 x.id, .int .i64 x.lev, .int .i64 x.frm, .int .i64 x.dl, .int .i64 x.bud, .int .i64 x.since, .int .i64 x.seq] 31)).drew.ownsMap Try.prog 3 (plainElem Try.prog 3) M (Maps.size D) D := HR3.out.m.alloc _
        have m2 := m1.kept hg4 hMg
        exact m2.kept (row := some p) ⟨hset.os, hset.tape, hset.output, hset.size, fun i hi hne => hset.block i hi (fun e => hne (by rw [e]))⟩ (by simp; have := HR3.out.ord; omega)
      · have h1 : (T ++ [x]).flatMap itCells = T.flatMap itCells ++ itCells x := by rw [List.flatMap_append, List.flatMap_singleton]
        rw [List.length_append, List.length_singleton, h1]
        obtain ⟨g, rfl, hgp⟩ := hg
        exact own_blk hown4 (hset.block g (hown4.lt g rfl).2 (by simp; omega))
      · intro y hy
        rcases List.mem_append.1 hy with h | h
        · exact HR3.out.wf y h
        · rw [List.mem_singleton.1 h]; exact hx)
    have F5 := Lib.hid (show Frp p M tv (.slice av (T.length + 1) cv) w3 (w4.setCell ⟨p, 2, none⟩ (.slice av (T.length + 1) cv)) by
      refine ⟨hset.os.trans hg4.os, hset.tape.trans hg4.tape, hset.output.trans hg4.output, ?_, fun i hi h1 h2 h3 => ?_, ?_⟩
      · have h1 := hg4.size
        have h2 := hset.size
        simp at h1 h2 ⊢
        omega
      · rw [HTV.out] at h3
        have e1 := hset.block i (by have h4 := hg4.size; simp at h4; omega) (by simp; exact h1)
        have e2 := hg4.block i (by simp; omega) h3
        exact (e1.trans e2).trans (Below.heap_alloc w3 _ i hi)
      · rw [HTV.out]
        rcases hob with e | e
        · exact .inl e
        · refine .inr fun g hg => ?_
          rw [hg] at e
          have e2 := Option.some.inj e
          simp at e2
          omega)
    have OB5 := Lib.hid (show IsObj (w4.setCell ⟨p, 2, none⟩ (.slice av (T.length + 1) cv)) B 31 (itCells x) from (Below.heap_setCell w4 _ _ B (by simp; omega)).trans (hB4.trans O3.out.drew))
    have L1 := Lib.hid (show IntKind.i64.wrap (T.length : Int) = (T.length : Int) by rw [IntWalk.i64_left, w64_id _ (by omega) (by omega)])
    clear hset hg hob hnil hown4 hg4 hra hp4 hB4 OP4 dp4 fp4 hal hap dA d7 KA K0 K4 K5 hpo hBo
    generalize w4.setCell ⟨p, 2, none⟩ (.slice av (T.length + 1) cv) = w5 at *
    go_upto_region 7 with (fail)
    have K7 : PushS7 p B (.slice av (T.length + 1) cv) x w5.drew := ⟨HR5.out.o.drew.cell 2, OB5.out.drew.cell 0, OB5.out.drew.cell 1, OB5.out.drew.cell 2, OB5.out.drew.cell 3, OB5.out.drew.cell 4, OB5.out.drew.cell 5, OB5.out.drew.cell 6⟩
    have HR5d := Lib.hid (HR5.out.same (w' := w5.drew) (Below.refl _ _).drew)
    refine wp_region_held_drew (S := PushS7 p B (.slice av (T.length + 1) cv) x) (by kernel_rfl) ?_ (fun hHeld => ?_)
    · exact K7
    refine wpAnyH_take (i := 0) (oi := ?oi17) (v := ?v17) ?hi17 (by kernel_rfl) (by kernel_rfl) (by kernel_rfl) ?hQ17 ?hy17 (by assumption) ?_
    case hi17 => (simp only [List.getElem?_toArray, List.getElem?_cons_succ, List.getElem?_cons_zero]; rfl)
    case hQ17 => exact fun _ _ _ h => h
    case hy17 => (refine Or.inl ⟨by rfl, ?_⟩; intro w hSw; (obtain ⟨hSw7, hSw0, hSw1, hSw2, hSw3, hSw4, hSw5, hSw6⟩ := hSw); go_simp; try with_reducible rfl)
    try simp only [Act.put, List.setIfInBounds_toArray, List.set_cons_zero, List.set_cons_succ]
    refine wpAnyH_take (i := 1) (oi := ?oi18) (v := ?v18) ?hi18 (by kernel_rfl) (by kernel_rfl) (by kernel_rfl) ?hQ18 ?hy18 (by assumption) ?_
    case hi18 => (simp only [List.getElem?_toArray, List.getElem?_cons_succ, List.getElem?_cons_zero]; rfl)
    case hQ18 => exact fun _ _ _ h => h
    case hy18 => (refine Or.inl ⟨by rfl, ?_⟩; intro w hSw; (obtain ⟨hSw7, hSw0, hSw1, hSw2, hSw3, hSw4, hSw5, hSw6⟩ := hSw); go_simp; try with_reducible rfl)
    try simp only [Act.put, List.setIfInBounds_toArray, List.set_cons_zero, List.set_cons_succ]
    refine wpAnyH_take (i := 2) (oi := ?oi19) (v := ?v19) ?hi19 (by kernel_rfl) (by kernel_rfl) (by kernel_rfl) ?hQ19 ?hy19 (by assumption) ?_
    case hi19 => (simp only [List.getElem?_toArray, List.getElem?_cons_succ, List.getElem?_cons_zero]; rfl)
    case hQ19 => exact fun _ _ _ h => h
    case hy19 => (refine Or.inl ⟨by rfl, ?_⟩; intro w hSw; (obtain ⟨hSw7, hSw0, hSw1, hSw2, hSw3, hSw4, hSw5, hSw6⟩ := hSw); go_simp; try with_reducible rfl)
    try simp only [Act.put, List.setIfInBounds_toArray, List.set_cons_zero, List.set_cons_succ]
    refine wpAnyH_take (i := 3) (oi := ?oi20) (v := ?v20) ?hi20 (by kernel_rfl) (by kernel_rfl) (by kernel_rfl) ?hQ20 ?hy20 (by assumption) ?_
    case hi20 => (simp only [List.getElem?_toArray, List.getElem?_cons_succ, List.getElem?_cons_zero]; rfl)
    case hQ20 => exact fun _ _ _ h => h
    case hy20 => (refine Or.inl ⟨by rfl, ?_⟩; intro w hSw; (obtain ⟨hSw7, hSw0, hSw1, hSw2, hSw3, hSw4, hSw5, hSw6⟩ := hSw); go_simp; try with_reducible rfl)
    try simp only [Act.put, List.setIfInBounds_toArray, List.set_cons_zero, List.set_cons_succ]
    refine wpAnyH_take (i := 4) (oi := ?oi21) (v := ?v21) ?hi21 (by kernel_rfl) (by kernel_rfl) (by kernel_rfl) ?hQ21 ?hy21 (by assumption) ?_
    case hi21 => (simp only [List.getElem?_toArray, List.getElem?_cons_succ, List.getElem?_cons_zero]; rfl)
    case hQ21 => exact fun _ _ _ h => h
    case hy21 => (refine Or.inl ⟨by rfl, ?_⟩; intro w hSw; (obtain ⟨hSw7, hSw0, hSw1, hSw2, hSw3, hSw4, hSw5, hSw6⟩ := hSw); go_simp; try with_reducible rfl)
    try simp only [Act.put, List.setIfInBounds_toArray, List.set_cons_zero, List.set_cons_succ]
    refine wpAnyH_take (i := 5) (oi := ?oi22) (v := ?v22) ?hi22 (by kernel_rfl) (by kernel_rfl) (by kernel_rfl) ?hQ22 ?hy22 (by assumption) ?_
    case hi22 => (simp only [List.getElem?_toArray, List.getElem?_cons_succ, List.getElem?_cons_zero]; rfl)
    case hQ22 => exact fun _ _ _ h => h
    case hy22 => (refine Or.inl ⟨by rfl, ?_⟩; intro w hSw; (obtain ⟨hSw7, hSw0, hSw1, hSw2, hSw3, hSw4, hSw5, hSw6⟩ := hSw); go_simp; try with_reducible rfl)
    try simp only [Act.put, List.setIfInBounds_toArray, List.set_cons_zero, List.set_cons_succ]
    refine wpAnyH_take (i := 6) (oi := ?oi23) (v := ?v23) ?hi23 (by kernel_rfl) (by kernel_rfl) (by kernel_rfl) ?hQ23 ?hy23 (by assumption) ?_
    case hi23 => (simp only [List.getElem?_toArray, List.getElem?_cons_succ, List.getElem?_cons_zero]; rfl)
    case hQ23 => exact fun _ _ _ h => h
    case hy23 => (refine Or.inl ⟨by rfl, ?_⟩; intro w hSw; (obtain ⟨hSw7, hSw0, hSw1, hSw2, hSw3, hSw4, hSw5, hSw6⟩ := hSw); go_simp; try with_reducible rfl)
    try simp only [Act.put, List.setIfInBounds_toArray, List.set_cons_zero, List.set_cons_succ]
    refine wpAnyH_take (i := 7) (oi := ?oi24) (v := ?v24) ?hi24 (by kernel_rfl) (by kernel_rfl) (by kernel_rfl) ?hQ24 ?hy24 (by assumption) ?_
    case hi24 => (simp only [List.getElem?_toArray, List.getElem?_cons_succ, List.getElem?_cons_zero]; rfl)
    case hQ24 => exact fun _ _ _ h => h
    case hy24 => (refine Or.inl ⟨by rfl, ?_⟩; intro w hSw; (obtain ⟨hSw7, hSw0, hSw1, hSw2, hSw3, hSw4, hSw5, hSw6⟩ := hSw); go_simp; try with_reducible rfl)
    try simp only [Act.put, List.setIfInBounds_toArray, List.set_cons_zero, List.set_cons_succ]
    refine wpAnyH_ready (rs := [8]) (by kernel_rfl) (by simp) ?_
    refine AllReadyH.cons (o := ?oi2500) ?ho2500 (fun K hK => ?_) AllReadyH.nil
    case ho2500 => (simp only [List.getElem?_toArray, List.getElem?_cons_succ, List.getElem?_cons_zero]; rfl)
    go_simp
    simp only [L1.out]
    go_at_call 45
    refine (pset_any T.length x HR5d.out (by rw [List.length_append, List.length_singleton]; omega) hx (by have := HX.out.2; omega)).mono ?_
    rintro e w6 ⟨rfl, hr6, f6⟩
    have k7 : PushS7 p B (.slice av (T.length + 1) cv) x w6 := by
      have hBv : some B ≠ (Value.slice av (T.length + 1) cv).ownBlock := fun e => by
        rcases F5.out.own with h1 | h1
        · have h2 := hgB B (by rw [← h1]; exact e.symm)
          omega
        · have h2 := h1 B e.symm
          have h3 := O3.out.lt
          omega
      have ob := f6.isObj OB5.out.drew (by omega) (by omega) hBv
      exact ⟨hr6.o.cell 2, ob.cell 0, ob.cell 1, ob.cell 2, ob.cell 3, ob.cell 4, ob.cell 5, ob.cell 6⟩
    refine hK.out _ _ ?_ (fun hHeld => ?_)
    · (try dsimp only); exact k7
    clear hK K
    try simp only [Act.put, List.setIfInBounds_toArray, List.set_cons_zero, List.set_cons_succ]
    refine wpAnyH_done (by kernel_rfl) ?_ _
    have hlast : (T ++ [x]).set T.length x = T ++ [x] := by
      rw [List.set_append_right _ _ (Nat.le_refl _)]
      simp
    rw [hlast] at hr6
    have HP6 := Lib.hid (show PAt w6 p M most (.slice av (T.length + 1) cv) (T ++ [x]) from ⟨⟨_, hr6, HX.out.1.push x hn, by
      have h1 := size_put_le (id := x.id) (v := vL T.length) (HR3.out.m.tidy int_law)
      have h2 := HX.out.2
      rw [List.length_append, List.length_singleton]
      omega⟩, by
      have h3 := H3.out.nd
      rw [List.map_append, List.nodup_append]
      refine ⟨h3, by simp, fun a ha b hb => ?_⟩
      have hb2 : b = x.id := by simpa using hb
      rw [hb2]
      intro e
      exact hn (e ▸ ha)⟩)
    have F6 := Lib.hid (((Frp.below B3.out).trans F5.out).trans ((Frp.below (w := w5) (v := w5.drew) (Below.refl _ _).drew).trans f6))
    have c6 : w6.cell? ⟨p, 2, none⟩ = some (.slice av (T.length + 1) cv) := hr6.o.cell 2
    clear hr6 f6 hlast k7 K7
    have HL1 := L1.out
    have HL2 : wrap64 (T.length : Int) = (T.length : Int) := by rw [← IntWalk.i64_left]; exact L1.out
    go_upto_region 8 with (fail)
    go_upto_region 9 with (fail)
    clear HL1 HL2
    refine (pup_any T.length HP6.out (by rw [List.length_append, List.length_singleton]; omega)).mono ?_
    rintro e w7 ⟨rfl, h7, f7⟩
    have H7 := Lib.hid h7
    have F7 := Lib.hid (F6.out.trans f7)
    clear h7 f7 c6
    go_wp2_with fail
    go_ret
    exact ⟨rfl, _, H7.out, F7.out⟩
end Go.Proofs.Ytmanmebgmhpilaa
