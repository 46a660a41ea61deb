/-
  The plan of all calls: the document's Plan.
-/
import Derived.Test.YtgkmmoiniidhlaaFan3
namespace Go.Proofs.Ytgkmmoiniidhlaa
open Go.RowKit
set_option linter.unusedVariables false
set_option linter.unusedSimpArgs false

theorem set_keep {w : World} {p q : Addr} {v x : Value} {B : Nat} (hp : B ≤ p.block) (hq : q.block < B) (h : w.cell? q = some x) : (w.setCell p v).cell? q = some x :=
  (World.cell?_of_block (w := w) (Below.heap_setCell w p v q.block (by omega))).trans h
/-- What a round of the document's Plan knows. -/
structure RPlanAt (w0 : World) (H : Nat) (x : Nw) (ttl : Int) (kv v : Value) (k : Nat) (xs : List Stp) (wr : World) : Prop where
  box : IsObj wr H 30 [.int .i64 x.tier, .int .i64 x.lev, .int .i64 x.tick, .int .i64 x.dl, .int .i64 ttl, kv]
  res : IsObj wr (H + 1) 35 [.int .i64 0, .slice none 0 0]
  p : IsObj wr (H + 1 + 1) 35 [.int .i64 0, v]
  own : wr.ownsRow (H + 1 + 1 + 1) 42 5 v k (xs.flatMap stpCells)
  below : Below H w0 wr
  size : H + 1 + 1 + 1 ≤ wr.heap.size
theorem RPlanAt.same {w0 : World} {H : Nat} {x : Nw} {ttl : Int} {kv v : Value} {k : Nat} {xs : List Stp} {wr w' : World} (h : RPlanAt w0 H x ttl kv v k xs wr) (hb : Below wr.heap.size wr w') : RPlanAt w0 H x ttl kv v k xs w' :=
  ⟨h.box.below hb h.box.lt, h.res.below hb h.res.lt, h.p.below hb h.p.lt, own_below h.own hb, h.below.trans (hb.mono (by have := h.size; omega)), Nat.le_trans h.size hb.size⟩
theorem RPlanAt.push {w0 : World} {H : Nat} {x : Nw} {ttl : Int} {kv v v' : Value} {k : Nat} {xs ys : List Stp} {wr w' : World} (h : RPlanAt w0 H x ttl kv v k xs wr) (hb : Below (H + 1 + 1 + 1) wr w') (ho : w'.ownsRow (H + 1 + 1 + 1) 42 5 v' (k + 1) (ys.flatMap stpCells)) :
    RPlanAt w0 H x ttl kv v' (k + 1) ys (w'.setCell ⟨H + 1 + 1, 1, none⟩ v') :=
  ⟨(h.box.below hb (by omega)).setOther _ _ (by simp; omega), (h.res.below hb (by omega)).setOther _ _ (by simp), (h.p.below hb (by omega)).set 1 v', own_set ho _ _ (by simp), (h.below.trans (hb.mono (by omega))).setCell (by simp; omega) _, by have := hb.size; have := h.size; simp [World.setCell]; omega⟩

/-- What holds while the document's Plan draws the order of one round's first line. -/
structure RegS (wr : World) (ba o H : Nat) (c : Cl) (x : Nw) (ttl : Int) (kv : Value) (W : World) : Prop where
  c0 : W.cell? ⟨ba, o, none⟩ = some (.int .i64 c.to)
  c1 : W.cell? ⟨ba, o + 1, none⟩ = some (.int .i64 c.tier)
  c2 : W.cell? ⟨ba, o + 2, none⟩ = some (.int .i64 c.wt)
  c3 : W.cell? ⟨ba, o + 3, none⟩ = some (.int .i64 c.most)
  x0 : W.cell? ⟨H, 0, none⟩ = some (.int .i64 x.tier)
  x1 : W.cell? ⟨H, 1, none⟩ = some (.int .i64 x.lev)
  x2 : W.cell? ⟨H, 2, none⟩ = some (.int .i64 x.tick)
  x3 : W.cell? ⟨H, 3, none⟩ = some (.int .i64 x.dl)
  x4 : W.cell? ⟨H, 4, none⟩ = some (.int .i64 ttl)
  x5 : W.cell? ⟨H, 5, none⟩ = some kv
  b : Below wr.heap.size wr W
  lb : ba < wr.heap.size
  lh : H < wr.heap.size
theorem RegS.keep {wr : World} {ba o H : Nat} {c : Cl} {x : Nw} {ttl : Int} {kv : Value} {W W1 : World} (h : RegS wr ba o H c x ttl kv W) (hb : Below W.heap.size W W1) : RegS wr ba o H c x ttl kv W1 :=
  ⟨cell_keep hb h.c0, cell_keep hb h.c1, cell_keep hb h.c2, cell_keep hb h.c3, cell_keep hb h.x0, cell_keep hb h.x1, cell_keep hb h.x2, cell_keep hb h.x3, cell_keep hb h.x4, cell_keep hb h.x5, h.b.trans (hb.mono h.b.size), h.lb, h.lh⟩
theorem RegS.set {wr : World} {ba o H : Nat} {c : Cl} {x : Nw} {ttl : Int} {kv : Value} {W : World} (h : RegS wr ba o H c x ttl kv W) (p : Addr) (v : Value) (hp : wr.heap.size ≤ p.block) : RegS wr ba o H c x ttl kv (W.setCell p v) :=
  ⟨set_keep hp h.lb h.c0, set_keep hp h.lb h.c1, set_keep hp h.lb h.c2, set_keep hp h.lb h.c3, set_keep hp h.lh h.x0, set_keep hp h.lh h.x1, set_keep hp h.lh h.x2, set_keep hp h.lh h.x3, set_keep hp h.lh h.x4, set_keep hp h.lh h.x5, h.b.setCell hp v, h.lb, h.lh⟩
theorem RegS.five {wr : World} {ba o H : Nat} {c : Cl} {x : Nw} {ttl : Int} {kv : Value} {W : World} (h : RegS wr ba o H c x ttl kv W) (b : Nat) (v0 v1 v2 v3 v4 : Value) (hp : wr.heap.size ≤ b) :
    RegS wr ba o H c x ttl kv (((((W.setCell ⟨b, 0, none⟩ v0).setCell ⟨b, 1, none⟩ v1).setCell ⟨b, 2, none⟩ v2).setCell ⟨b, 3, none⟩ v3).setCell ⟨b, 4, none⟩ v4) :=
  ((((h.set _ v0 hp).set _ v1 hp).set _ v2 hp).set _ v3 hp).set _ v4 hp

set_option maxRecDepth 100000 in
set_option maxHeartbeats 4000000 in
theorem rplan_any (a : Option Addr) (cap : Nat) (l : List Cl) (x : Nw) (ttl : Int) (f : Ents) (kv : Value) (w : World) (hm : l.length ≤ 1000) (hA : RowOf clCells 4 w a l) (hT : KnAt w kv (knL f)) :
    Calls Try.prog 17 #[.slice a l.length cap, rnV x ttl kv] w (GivesPlan w (planCode (fun c => stepOf c x ttl f) l) (planSteps (fun c => stepOf c x ttl f) l)) := by
  obtain ⟨ka, kn, kc, rfl⟩ : ∃ ka kn kc, kv = .slice ka kn kc := by
    obtain ⟨ka, kc, h, _⟩ := hT
    exact ⟨ka, _, kc, h⟩
  obtain ⟨i0, hi, hz0, hz1, hz2⟩ := info_parts info_stp
  have HA := Lib.hid hA
  have HT := Lib.hid hT
  have HST := Lib.hid (fun c w h => rstep_any c x ttl f (.slice ka kn kc) w h)
  clear hA
  obtain ⟨g, hg⟩ : ∃ g, g = fun c => stepOf c x ttl f := ⟨_, rfl⟩
  rw [← hg]
  have HG := Lib.hid (fun c => congrFun hg.symm c)
  clear hg
  clear hT
  go_enter Try.func17, Try.ntmps17
  go_wp2_with fail
  obtain ⟨H, hH⟩ : ∃ H, H = w.heap.size := ⟨_, rfl⟩
  have h0 : RPlanAt w H x ttl (.slice ka kn kc) (.slice none 0 0) 0 [] (((w.alloc (.cells #[.int .i64 x.tier, .int .i64 x.lev, .int .i64 x.tick, .int .i64 x.dl, .int .i64 ttl, .slice ka kn kc] 30)).alloc (.cells #[.int .i64 0, .slice none 0 0] 35)).alloc (.cells #[.int .i64 0, .slice none 0 0] 35)) := by
    subst hH
    refine ⟨?_, ?_, ?_, World.ownsRow_nil _ _ _ _, ?_, by simp⟩
    · repeat (first | (refine IsObj.newAt _ _ _ ?_; (simp; done)) | refine IsObj.alloc ?_ _)
    · repeat (first | (refine IsObj.newAt _ _ _ ?_; (simp; done)) | refine IsObj.alloc ?_ _)
    · repeat (first | (refine IsObj.newAt _ _ _ ?_; (simp; done)) | refine IsObj.alloc ?_ _)
    · repeat (first | exact Below.refl _ _ | (refine Below.alloc ?_ (by simp <;> omega) _))
  have HP0 := Lib.hid h0
  rw [← hH]
  have HW := Lib.hid hH
  clear h0 hH
  go_loopw [6] (fun i wr => ∃ (k : Nat) (v : Value), k ≤ l.length ∧ i = .int .i64 k ∧ (l.take k).find? (bad g) = none ∧ RPlanAt w H x ttl (.slice ka kn kc) v k ((l.take k).map g) wr) (fun i _ => l.length - (intOf i).toNat)
  case atStart => exact ⟨0, _, Nat.zero_le _, rfl, rfl, HP0.out⟩
  case round =>
    obtain ⟨k, v, hk, rfl, hgood, hP⟩ := hrel
    obtain ⟨av, cv, rfl⟩ := own_slice hP.own
    have HP := Lib.hid hP
    have HGood := Lib.hid hgood
    have hsz := hP.size
    have hlx := hP.box.lt
    have hlr := hP.res.lt
    have hlp := hP.p.lt
    clear HP0 hgood
    by_cases hlt : k < l.length
    · obtain ⟨ba, off, rfl, hc⟩ : ∃ b off, a = some ⟨b, off, none⟩ ∧ ∀ i, i < l.length → ∀ j, j < 4 → wr.cell? ⟨b, off + i * 4 + j, none⟩ = (clCells (nth l i))[j]? := by
        rcases (HA.out.same clCells_len (HW.out ▸ HP.out.below)) with rfl | ⟨b, off, rfl, hc⟩
        · simp at hlt
        · exact ⟨b, off, rfl, hc⟩
      obtain ⟨c0, c1, c2, c3⟩ := cl_cells hc k hlt
      obtain ⟨c, hcn⟩ : ∃ c, c = nth l k := ⟨_, rfl⟩
      have HN := Lib.hid hcn
      rw [← hcn] at c0 c1 c2 c3
      clear hc hcn hP
      have x0 := HP.out.box.cell 0
      have x1 := HP.out.box.cell 1
      have x2 := HP.out.box.cell 2
      have x3 := HP.out.box.cell 3
      have x4 := HP.out.box.cell 4
      have x5 := HP.out.box.cell 5
      simp only [List.getElem?_cons_succ, List.getElem?_cons_zero] at x0 x1 x2 x3 x4 x5
      have i1 : (0 : Int) ≤ (k : Int) := by omega
      have i2 : (k : Int) < (l.length : Int) := by omega
      have hbl := cell_lt c0
      simp only at hbl
      have HTr := Lib.hid (HT.out.same (HW.out ▸ HP.out.below))
      obtain ⟨s, hs⟩ : ∃ s, s = g c := ⟨_, rfl⟩
      have hC : ∀ W, KnAt W (.slice ka kn kc) (knL f) → Calls Try.prog 21 #[clV c, rnV x ttl (.slice ka kn kc)] W fun e w' => e = .returned (stpV s) ∧ Below W.heap.size W w' := fun W hW => by
        rw [hs, ← HG.out c]
        exact HST.out c W hW
      have HC := Lib.hid hC
      have HS := Lib.hid hs
      clear hC hs
      go_wp2_with fail
      refine wp_region_held_drew (S := fun W => RegS wr ba (off + k * 4) H c x ttl (.slice ka kn kc) W) (by kernel_rfl) ?_ (fun hHeld => ?_)
      · (try dsimp only); exact ⟨c0, c1, c2, c3, x0, x1, x2, x3, x4, x5, (Below.refl _ _).drew, hbl, hlx⟩
      refine wpAnyH_take (i := 0) (oi := ?oi1) (v := ?v1) ?hi1 (by kernel_rfl) (by kernel_rfl) (by kernel_rfl) ?hQ1 ?hy1 (by assumption) ?_
      case hi1 => (simp only [List.getElem?_toArray, List.getElem?_cons_succ, List.getElem?_cons_zero]; rfl)
      case hQ1 => exact fun _ _ _ h => h
      case hy1 => (refine Or.inl ⟨by rfl, ?_⟩; intro w hSw; obtain ⟨d0, d1, d2, d3, e0, e1, e2, e3, e4, e5, _, _, _⟩ := hSw; go_simp; try with_reducible rfl)
      try simp only [Act.put, List.setIfInBounds_toArray, List.set_cons_zero, List.set_cons_succ]
      refine wpAnyH_take (i := 1) (oi := ?oi2) (v := ?v2) ?hi2 (by kernel_rfl) (by kernel_rfl) (by kernel_rfl) ?hQ2 ?hy2 (by assumption) ?_
      case hi2 => (simp only [List.getElem?_toArray, List.getElem?_cons_succ, List.getElem?_cons_zero]; rfl)
      case hQ2 => exact fun _ _ _ h => h
      case hy2 => (refine Or.inl ⟨by rfl, ?_⟩; intro w hSw; obtain ⟨d0, d1, d2, d3, e0, e1, e2, e3, e4, e5, _, _, _⟩ := hSw; go_simp; try with_reducible rfl)
      try simp only [Act.put, List.setIfInBounds_toArray, List.set_cons_zero, List.set_cons_succ]
      refine wpAnyH_take (i := 2) (oi := ?oi3) (v := ?v3) ?hi3 (by kernel_rfl) (by kernel_rfl) (by kernel_rfl) ?hQ3 ?hy3 (by assumption) ?_
      case hi3 => (simp only [List.getElem?_toArray, List.getElem?_cons_succ, List.getElem?_cons_zero]; rfl)
      case hQ3 => exact fun _ _ _ h => h
      case hy3 => (refine Or.inl ⟨by rfl, ?_⟩; intro w hSw; obtain ⟨d0, d1, d2, d3, e0, e1, e2, e3, e4, e5, _, _, _⟩ := hSw; go_simp; try with_reducible rfl)
      try simp only [Act.put, List.setIfInBounds_toArray, List.set_cons_zero, List.set_cons_succ]
      refine wpAnyH_take (i := 3) (oi := ?oi4) (v := ?v4) ?hi4 (by kernel_rfl) (by kernel_rfl) (by kernel_rfl) ?hQ4 ?hy4 (by assumption) ?_
      case hi4 => (simp only [List.getElem?_toArray, List.getElem?_cons_succ, List.getElem?_cons_zero]; rfl)
      case hQ4 => exact fun _ _ _ h => h
      case hy4 => (refine Or.inl ⟨by rfl, ?_⟩; intro w hSw; obtain ⟨d0, d1, d2, d3, e0, e1, e2, e3, e4, e5, _, _, _⟩ := hSw; go_simp; try with_reducible rfl)
      try simp only [Act.put, List.setIfInBounds_toArray, List.set_cons_zero, List.set_cons_succ]
      refine wpAnyH_take (i := 4) (oi := ?oi5) (v := ?v5) ?hi5 (by kernel_rfl) (by kernel_rfl) (by kernel_rfl) ?hQ5 ?hy5 (by assumption) ?_
      case hi5 => (simp only [List.getElem?_toArray, List.getElem?_cons_succ, List.getElem?_cons_zero]; rfl)
      case hQ5 => exact fun _ _ _ h => h
      case hy5 => (refine Or.inl ⟨by rfl, ?_⟩; intro w hSw; obtain ⟨d0, d1, d2, d3, e0, e1, e2, e3, e4, e5, _, _, _⟩ := hSw; go_simp; try with_reducible rfl)
      try simp only [Act.put, List.setIfInBounds_toArray, List.set_cons_zero, List.set_cons_succ]
      refine wpAnyH_ready (rs := [5, 6]) (by kernel_rfl) (by simp) ?_
      refine AllReadyH.cons (o := ?oi1005) ?ho1005 (fun K hK => ?_) (AllReadyH.cons (o := ?oi1006) ?ho1006 (fun K hK => ?_) AllReadyH.nil)
      case ho1005 => (simp only [List.getElem?_toArray, List.getElem?_cons_succ, List.getElem?_cons_zero]; rfl)
      case ho1006 => (simp only [List.getElem?_toArray, List.getElem?_cons_succ, List.getElem?_cons_zero]; rfl)
      · go_simp
        go_at_call 21; (with_reducible refine (HC.out _ (HTr.out.same (RegS.b (by assumption)))).mono ?_); rintro e w2 ⟨rfl, hb2⟩
        refine hK.out _ _ ?_ (fun hHeld => ?_)
        · (try dsimp only); exact RegS.keep (by assumption) hb2
        clear hK K
        try simp only [Act.put, List.setIfInBounds_toArray, List.set_cons_zero, List.set_cons_succ]
        refine wpAnyH_ready (rs := [6]) (by kernel_rfl) (by simp) ?_
        refine AllReadyH.cons (o := ?oi706) ?ho706 (fun K hK => ?_) AllReadyH.nil
        case ho706 => (simp only [List.getElem?_toArray, List.getElem?_cons_succ, List.getElem?_cons_zero]; rfl)
        go_simp
        refine hK.out _ _ ?_ (fun hHeld => ?_)
        · (try dsimp only); exact RegS.keep (by assumption) ((Below.refl _ _).alloc (Nat.le_refl _) _)
        clear hK K
        try simp only [Act.put, List.setIfInBounds_toArray, List.set_cons_zero, List.set_cons_succ]
        refine wpAnyH_ready (rs := [7]) (by kernel_rfl) (by simp) ?_
        refine AllReadyH.cons (o := ?oi607) ?ho607 (fun K hK => ?_) AllReadyH.nil
        case ho607 => (simp only [List.getElem?_toArray, List.getElem?_cons_succ, List.getElem?_cons_zero]; rfl)
        go_simp
        refine hK.out _ _ ?_ (fun hHeld => ?_)
        · (try dsimp only); exact RegS.keep (by assumption) ((Below.refl _ _).alloc (Nat.le_refl _) _)
        clear hK K
        try simp only [Act.put, List.setIfInBounds_toArray, List.set_cons_zero, List.set_cons_succ]
        refine wpAnyH_done (by kernel_rfl) ?_ _
        obtain ⟨W9, hW9⟩ : ∃ W9, W9 = w2.alloc (.cells #[.int .i64 s.to, .int .i64 s.code, .int .i64 s.dl, .int .i64 s.bud, .bool s.req] 42) := ⟨_, rfl⟩
        have hO9 : IsObj W9 w2.heap.size 42 [.int .i64 s.to, .int .i64 s.code, .int .i64 s.dl, .int .i64 s.bud, .bool s.req] := by rw [hW9]; exact IsObj.new w2 _ _
        have hb9 : Below wr.heap.size wr W9 := by rw [hW9]; exact RegS.b (by assumption)
        have HP9 := Lib.hid (HP.out.same hb9)
        rw [← hW9]
        clear hW9
        have hA9 : wr.heap.size ≤ w2.heap.size := hb2.size
        generalize w2.heap.size = A0 at *
        rename_i hh1 hh2 hh3
        clear hh1 hh2 hHeld hb2
        have HO := Lib.hid hO9
        have hsz9 := HP9.out.size
        have p1 := HP9.out.p.cell 1
        simp only [List.getElem?_cons_succ, List.getElem?_cons_zero] at p1
        clear hb9 hO9 x0 x1 x2 x3 x4 x5 c0 c1 c2 c3 hlx hlr hlp hbl hsz HTr HC HP
        obtain ⟨sto, scode, sdl, sbud, sreq⟩ := s
        simp only at HO
        obtain ⟨q0, q1, q2, q3, q4⟩ := obj5 HO.out
        cases sreq with
        | false =>
          have HBad : Hid (bad g c = false) := Lib.hid (bad_false (by rw [← HS.out]; exact .inl rfl))
          have HNext := Lib.hid (good_next hlt HGood.out (by rw [← HN.out]; exact HBad.out))
          have HX : Hid (((l.take (k + 1)).map g).flatMap stpCells = ((l.take k).map g).flatMap stpCells ++ stpCells (g c)) := Lib.hid (by rw [take_nth l k hlt, ← HN.out, List.map_append, List.flatMap_append]; simp)
          rw [← HS.out] at HX
          go_wp2_with (first | (at_builtin; refine wpList_append_one (by rfl) _ _ 33 (by rfl) (H + 1 + 1 + 1) 42 i0 (.agg #[.int .i64 0, .int .i64 0, .int .i64 0, .int .i64 0, .bool false]) 5 40 Try.underlying33 hi hz0 hz1 hz2 rfl (by decide) _ _ _ _ (by rfl) HP9.out.own (by rfl) (by rfl) (by rfl) (by omega) (by omega) hsz9 ?_; intro v' w5 hown5 hb5; obtain ⟨av', cv', rfl⟩ := own_slice hown5; have hp5 := HP9.out.p.below hb5 (by omega); have e5 := hp5.cell 1; have fr5 := hp5.free; simp only [List.getElem?_cons_succ, List.getElem?_cons_zero] at e5; clear hp5))
          have HQ := Lib.hid (HP9.out.push hb5 (ys := (l.take (k + 1)).map g) (by rw [HX.out]; exact hown5))
          clear hown5 hb5 e5 fr5
          exact ⟨⟨k + 1, _, by omega, by go_num, HNext.out, HQ.out⟩, by simp only [intOf]; omega⟩
        | true =>
          by_cases hcode : scode = 0
          · subst hcode
            have HBad : Hid (bad g c = false) := Lib.hid (bad_false (by rw [← HS.out]; exact .inr rfl))
            have HNext := Lib.hid (good_next hlt HGood.out (by rw [← HN.out]; exact HBad.out))
            have HX : Hid (((l.take (k + 1)).map g).flatMap stpCells = ((l.take k).map g).flatMap stpCells ++ stpCells (g c)) := Lib.hid (by rw [take_nth l k hlt, ← HN.out, List.map_append, List.flatMap_append]; simp)
            rw [← HS.out] at HX
            go_wp2_with (first | (at_builtin; refine wpList_append_one (by rfl) _ _ 33 (by rfl) (H + 1 + 1 + 1) 42 i0 (.agg #[.int .i64 0, .int .i64 0, .int .i64 0, .int .i64 0, .bool false]) 5 40 Try.underlying33 hi hz0 hz1 hz2 rfl (by decide) _ _ _ _ (by rfl) HP9.out.own (by rfl) (by rfl) (by rfl) (by omega) (by omega) hsz9 ?_; intro v' w5 hown5 hb5; obtain ⟨av', cv', rfl⟩ := own_slice hown5; have hp5 := HP9.out.p.below hb5 (by omega); have e5 := hp5.cell 1; have fr5 := hp5.free; simp only [List.getElem?_cons_succ, List.getElem?_cons_zero] at e5; clear hp5))
            have HQ := Lib.hid (HP9.out.push hb5 (ys := (l.take (k + 1)).map g) (by rw [HX.out]; exact hown5))
            clear hown5 hb5 e5 fr5
            exact ⟨⟨k + 1, _, by omega, by go_num, HNext.out, HQ.out⟩, by simp only [intOf]; omega⟩
          · have HBad : Hid (bad g c = true) := Lib.hid (bad_true (by rw [← HS.out]) (by rw [← HS.out]; exact hcode))
            obtain ⟨pc, ps⟩ := plan_bad hlt HGood.out (by rw [← HN.out]; exact HBad.out)
            rw [← HN.out, ← HS.out] at pc
            have PC := Lib.hid pc
            have PS := Lib.hid ps
            have hcb : (scode != 0) = true := by simpa using hcode
            clear pc ps
            have hP4 := HP9.out
            have r0 := hP4.res.cell 0
            have r1 := hP4.res.cell 1
            simp only [List.getElem?_cons_succ, List.getElem?_cons_zero] at r0 r1
            have rf := hP4.res.free
            obtain ⟨wf, hwf⟩ : ∃ wf, wf = (W9.setCell ⟨H + 1, 0, none⟩ (.int .i64 scode)).setCell ⟨H + 1, 1, none⟩ (.slice none 0 0) := ⟨_, rfl⟩
            have hof : IsObj wf (H + 1) 35 [.int .i64 scode, .slice none 0 0] := by rw [hwf]; exact (hP4.res.set 0 (.int .i64 scode)).set 1 _
            have HF : Hid (GivesPlan w (planCode g l) (planSteps g l) (.returned (.agg #[.int .i64 scode, .slice none 0 0])) wf) := by
              have := HW.out
              rw [PC.out, PS.out]
              refine Lib.hid ⟨_, rfl, StpAt.nil _, ?_⟩
              rw [hwf]
              exact ((this ▸ hP4.below).setCell (by simp; omega) _).setCell (by simp; omega) _
            have f0 := hof.cell 0
            have f1 := hof.cell 1
            simp only [List.getElem?_cons_succ, List.getElem?_cons_zero] at f0 f1
            clear hof hP4
            go_wp2_with fail
            rw [← hwf]
            clear hwf
            exact bodyPost_ret (by simp [results, Try.results17, go_sem, f0, f1]) rfl HF.out
      · go_simp
        refine hK.out _ _ ?_ (fun hHeld => ?_)
        · (try dsimp only); exact RegS.keep (by assumption) ((Below.refl _ _).alloc (Nat.le_refl _) _)
        clear hK K
        try simp only [Act.put, List.setIfInBounds_toArray, List.set_cons_zero, List.set_cons_succ]
        refine wpAnyH_ready (rs := [5]) (by kernel_rfl) (by simp) ?_
        refine AllReadyH.cons (o := ?oi905) ?ho905 (fun K hK => ?_) AllReadyH.nil
        case ho905 => (simp only [List.getElem?_toArray, List.getElem?_cons_succ, List.getElem?_cons_zero]; rfl)
        go_simp
        go_at_call 21; (with_reducible refine (HC.out _ (HTr.out.same (RegS.b (by assumption)))).mono ?_); rintro e w2 ⟨rfl, hb2⟩
        refine hK.out _ _ ?_ (fun hHeld => ?_)
        · (try dsimp only); exact RegS.keep (by assumption) hb2
        clear hK K
        try simp only [Act.put, List.setIfInBounds_toArray, List.set_cons_zero, List.set_cons_succ]
        have hO2 : IsObj w2 wr.heap.size 42 [.int .i64 0, .int .i64 0, .int .i64 0, .int .i64 0, .bool false] := IsObj.below (IsObj.new wr.drew _ _) hb2 (by simp)
        obtain ⟨o0, o1, o2, o3, o4⟩ := obj5 hO2
        have of := hO2.free
        refine wpAnyH_ready (rs := [7]) (by kernel_rfl) (by simp) ?_
        refine AllReadyH.cons (o := ?oi807) ?ho807 (fun K hK => ?_) AllReadyH.nil
        case ho807 => (simp only [List.getElem?_toArray, List.getElem?_cons_succ, List.getElem?_cons_zero]; rfl)
        go_simp
        refine hK.out _ _ ?_ (fun hHeld => ?_)
        · (try dsimp only); exact RegS.five (by assumption) _ _ _ _ _ _ (Nat.le_refl _)
        clear hK K
        try simp only [Act.put, List.setIfInBounds_toArray, List.set_cons_zero, List.set_cons_succ]
        refine wpAnyH_done (by kernel_rfl) ?_ _
        obtain ⟨W9, hW9⟩ : ∃ W9, W9 = ((((w2.setCell ⟨wr.heap.size, 0, none⟩ (.int .i64 s.to)).setCell ⟨wr.heap.size, 1, none⟩ (.int .i64 s.code)).setCell ⟨wr.heap.size, 2, none⟩ (.int .i64 s.dl)).setCell ⟨wr.heap.size, 3, none⟩ (.int .i64 s.bud)).setCell ⟨wr.heap.size, 4, none⟩ (.bool s.req) := ⟨_, rfl⟩
        have hO9 : IsObj W9 wr.heap.size 42 [.int .i64 s.to, .int .i64 s.code, .int .i64 s.dl, .int .i64 s.bud, .bool s.req] := by rw [hW9]; exact hO2.put5 _ _ _ _ _
        have hb9 : Below wr.heap.size wr W9 := by rw [hW9]; exact RegS.b (by assumption)
        have HP9 := Lib.hid (HP.out.same hb9)
        rw [← hW9]
        clear hW9
        have hA9 : wr.heap.size ≤ wr.heap.size := Nat.le_refl _
        generalize hA0 : wr.heap.size = A0 at *
        have HO := Lib.hid hO9
        have hsz9 := HP9.out.size
        have p1 := HP9.out.p.cell 1
        simp only [List.getElem?_cons_succ, List.getElem?_cons_zero] at p1
        clear hb9 hO9 x0 x1 x2 x3 x4 x5 c0 c1 c2 c3 hlx hlr hlp hbl hsz HTr HC HP
        obtain ⟨sto, scode, sdl, sbud, sreq⟩ := s
        simp only at HO
        obtain ⟨q0, q1, q2, q3, q4⟩ := obj5 HO.out
        cases sreq with
        | false =>
          have HBad : Hid (bad g c = false) := Lib.hid (bad_false (by rw [← HS.out]; exact .inl rfl))
          have HNext := Lib.hid (good_next hlt HGood.out (by rw [← HN.out]; exact HBad.out))
          have HX : Hid (((l.take (k + 1)).map g).flatMap stpCells = ((l.take k).map g).flatMap stpCells ++ stpCells (g c)) := Lib.hid (by rw [take_nth l k hlt, ← HN.out, List.map_append, List.flatMap_append]; simp)
          rw [← HS.out] at HX
          go_wp2_with (first | (at_builtin; refine wpList_append_one (by rfl) _ _ 33 (by rfl) (H + 1 + 1 + 1) 42 i0 (.agg #[.int .i64 0, .int .i64 0, .int .i64 0, .int .i64 0, .bool false]) 5 40 Try.underlying33 hi hz0 hz1 hz2 rfl (by decide) _ _ _ _ (by rfl) HP9.out.own (by rfl) (by rfl) (by rfl) (by omega) (by omega) hsz9 ?_; intro v' w5 hown5 hb5; obtain ⟨av', cv', rfl⟩ := own_slice hown5; have hp5 := HP9.out.p.below hb5 (by omega); have e5 := hp5.cell 1; have fr5 := hp5.free; simp only [List.getElem?_cons_succ, List.getElem?_cons_zero] at e5; clear hp5))
          have HQ := Lib.hid (HP9.out.push hb5 (ys := (l.take (k + 1)).map g) (by rw [HX.out]; exact hown5))
          clear hown5 hb5 e5 fr5
          exact ⟨⟨k + 1, _, by omega, by go_num, HNext.out, HQ.out⟩, by simp only [intOf]; omega⟩
        | true =>
          by_cases hcode : scode = 0
          · subst hcode
            have HBad : Hid (bad g c = false) := Lib.hid (bad_false (by rw [← HS.out]; exact .inr rfl))
            have HNext := Lib.hid (good_next hlt HGood.out (by rw [← HN.out]; exact HBad.out))
            have HX : Hid (((l.take (k + 1)).map g).flatMap stpCells = ((l.take k).map g).flatMap stpCells ++ stpCells (g c)) := Lib.hid (by rw [take_nth l k hlt, ← HN.out, List.map_append, List.flatMap_append]; simp)
            rw [← HS.out] at HX
            go_wp2_with (first | (at_builtin; refine wpList_append_one (by rfl) _ _ 33 (by rfl) (H + 1 + 1 + 1) 42 i0 (.agg #[.int .i64 0, .int .i64 0, .int .i64 0, .int .i64 0, .bool false]) 5 40 Try.underlying33 hi hz0 hz1 hz2 rfl (by decide) _ _ _ _ (by rfl) HP9.out.own (by rfl) (by rfl) (by rfl) (by omega) (by omega) hsz9 ?_; intro v' w5 hown5 hb5; obtain ⟨av', cv', rfl⟩ := own_slice hown5; have hp5 := HP9.out.p.below hb5 (by omega); have e5 := hp5.cell 1; have fr5 := hp5.free; simp only [List.getElem?_cons_succ, List.getElem?_cons_zero] at e5; clear hp5))
            have HQ := Lib.hid (HP9.out.push hb5 (ys := (l.take (k + 1)).map g) (by rw [HX.out]; exact hown5))
            clear hown5 hb5 e5 fr5
            exact ⟨⟨k + 1, _, by omega, by go_num, HNext.out, HQ.out⟩, by simp only [intOf]; omega⟩
          · have HBad : Hid (bad g c = true) := Lib.hid (bad_true (by rw [← HS.out]) (by rw [← HS.out]; exact hcode))
            obtain ⟨pc, ps⟩ := plan_bad hlt HGood.out (by rw [← HN.out]; exact HBad.out)
            rw [← HN.out, ← HS.out] at pc
            have PC := Lib.hid pc
            have PS := Lib.hid ps
            have hcb : (scode != 0) = true := by simpa using hcode
            clear pc ps
            have hP4 := HP9.out
            have r0 := hP4.res.cell 0
            have r1 := hP4.res.cell 1
            simp only [List.getElem?_cons_succ, List.getElem?_cons_zero] at r0 r1
            have rf := hP4.res.free
            obtain ⟨wf, hwf⟩ : ∃ wf, wf = (W9.setCell ⟨H + 1, 0, none⟩ (.int .i64 scode)).setCell ⟨H + 1, 1, none⟩ (.slice none 0 0) := ⟨_, rfl⟩
            have hof : IsObj wf (H + 1) 35 [.int .i64 scode, .slice none 0 0] := by rw [hwf]; exact (hP4.res.set 0 (.int .i64 scode)).set 1 _
            have HF : Hid (GivesPlan w (planCode g l) (planSteps g l) (.returned (.agg #[.int .i64 scode, .slice none 0 0])) wf) := by
              have := HW.out
              rw [PC.out, PS.out]
              refine Lib.hid ⟨_, rfl, StpAt.nil _, ?_⟩
              rw [hwf]
              exact ((this ▸ hP4.below).setCell (by simp; omega) _).setCell (by simp; omega) _
            have f0 := hof.cell 0
            have f1 := hof.cell 1
            simp only [List.getElem?_cons_succ, List.getElem?_cons_zero] at f0 f1
            clear hof hP4
            go_wp2_with fail
            rw [← hwf]
            clear hwf
            exact bodyPost_ret (by simp [results, Try.results17, go_sem, f0, f1]) rfl HF.out
    · obtain rfl : k = l.length := by omega
      have hgood := HGood.out
      rw [List.take_of_length_le (Nat.le_refl _)] at hgood
      obtain ⟨q1, q2⟩ := plan_good hgood
      have HP' : Hid (RPlanAt w H x ttl (.slice ka kn kc) (.slice av l.length cv) l.length (l.map g) wr) := by
        have := HP.out
        rwa [List.take_of_length_le (Nat.le_refl _)] at this
      have p0 := hP.p.cell 0
      have p1 := hP.p.cell 1
      have r0 := hP.res.cell 0
      have r1 := hP.res.cell 1
      simp only [List.getElem?_cons_succ, List.getElem?_cons_zero] at p0 p1 r0 r1
      have rf := hP.res.free
      clear hP hgood HP HGood hsz
      obtain ⟨wf, hwf⟩ : ∃ wf, wf = (wr.setCell ⟨H + 1, 0, none⟩ (.int .i64 0)).setCell ⟨H + 1, 1, none⟩ (.slice av l.length cv) := ⟨_, rfl⟩
      have hof : IsObj wf (H + 1) 35 [.int .i64 0, .slice av l.length cv] := by rw [hwf]; exact (HP'.out.res.set 0 (.int .i64 0)).set 1 _
      have HF : Hid (GivesPlan w (planCode g l) (planSteps g l) (.returned (.agg #[.int .i64 0, .slice av l.length cv])) wf) := by
        rw [q1, q2]
        have := HW.out
        refine Lib.hid ⟨.slice av l.length cv, rfl, ?_, ?_⟩
        · rw [hwf]; exact stp_of_own (own_set (own_set HP'.out.own _ _ (by simp)) _ _ (by simp)) (by simp)
        · rw [hwf]; exact ((this ▸ HP'.out.below).setCell (by simp; omega) _).setCell (by simp; omega) _
      have f0 := hof.cell 0
      have f1 := hof.cell 1
      simp only [List.getElem?_cons_succ, List.getElem?_cons_zero] at f0 f1
      clear hof HP' q1 q2
      go_wp2_with fail
      rw [← hwf]
      clear hwf
      exact bodyPost_ret (by simp [results, Try.results17, go_sem, f0, f1]) rfl HF.out
end Go.Proofs.Ytgkmmoiniidhlaa
