/-
  The plan of all calls: the code's Plan.
-/
import Derived.Test.YtgkmmoiniidhlaaFan2
namespace Go.Proofs.Ytgkmmoiniidhlaa
open Go.RowKit
set_option linter.unusedVariables false

/-! ### Plans -/
def bad (g : Cl → Stp) (c : Cl) : Bool := (g c).req && (g c).code != 0
def planCode (g : Cl → Stp) (l : List Cl) : Int := match l.find? (bad g) with | some c => (g c).code | none => 0
def planSteps (g : Cl → Stp) (l : List Cl) : List Stp := if planCode g l = 0 then l.map g else []
theorem bad_false {g : Cl → Stp} {c : Cl} (h : (g c).req = false ∨ (g c).code = 0) : bad g c = false := by
  unfold bad
  rcases h with h | h <;> simp [h]
theorem bad_true {g : Cl → Stp} {c : Cl} (h : (g c).req = true) (h2 : (g c).code ≠ 0) : bad g c = true := by
  unfold bad
  simp [h, h2]
theorem good_next {g : Cl → Stp} {l : List Cl} {k : Nat} (hk : k < l.length) (h : (l.take k).find? (bad g) = none) (hb : bad g (nth l k) = false) : (l.take (k + 1)).find? (bad g) = none := by
  rw [take_nth l k hk, List.find?_append, h]
  simp [hb]
theorem plan_bad {g : Cl → Stp} {l : List Cl} {k : Nat} (hk : k < l.length) (h : (l.take k).find? (bad g) = none) (hb : bad g (nth l k) = true) : planCode g l = (g (nth l k)).code ∧ planSteps g l = [] := by
  have h1 : l.find? (bad g) = some (nth l k) := by
    have key : (l.take (k + 1) ++ l.drop (k + 1)).find? (bad g) = some (nth l k) := by
      rw [List.find?_append, take_nth l k hk, List.find?_append, h]
      simp [hb]
    rwa [List.take_append_drop] at key
  have h2 : planCode g l = (g (nth l k)).code := by unfold planCode; rw [h1]
  refine ⟨h2, ?_⟩
  unfold planSteps
  rw [if_neg]
  rw [h2]
  intro h3
  unfold bad at hb
  rw [h3] at hb
  simp at hb
theorem plan_good {g : Cl → Stp} {l : List Cl} (h : l.find? (bad g) = none) : planCode g l = 0 ∧ planSteps g l = l.map g := by
  have h2 : planCode g l = 0 := by unfold planCode; rw [h]
  exact ⟨h2, by unfold planSteps; rw [if_pos h2]⟩

/-- v is a row of steps. -/
def StpAt (w : World) (v : Value) (l : List Stp) : Prop := ∃ a c, v = .slice a l.length c ∧ l.length ≤ c ∧ c ≤ 9223372036854775807 ∧ RowOf stpCells 5 w a l
theorem StpAt.same {w w' : World} {v : Value} {l : List Stp} (h : StpAt w v l) (hb : Below w.heap.size w w') : StpAt w' v l := by
  obtain ⟨a, c, h1, h2, h3, h4⟩ := h
  exact ⟨a, c, h1, h2, h3, h4.same stpCells_len hb⟩
theorem StpAt.nil (w : World) : StpAt w (.slice none 0 0) [] := ⟨none, 0, rfl, Nat.le_refl _, by omega, .inl rfl⟩
theorem stp_of_own {w : World} {base n : Nat} {e : TypeId} {v : Value} {l : List Stp} (h : w.ownsRow base e 5 v n (l.flatMap stpCells)) (hn : n = l.length) : StpAt w v l := by
  subst hn
  rcases h.2 with ⟨rfl, h0⟩ | ⟨g, cap, cur, rfl, hb, hg, hnc, hcm, hcs, htake⟩
  · exact ⟨none, 0, by rw [h0], by omega, by omega, .inl (List.eq_nil_of_length_eq_zero h0)⟩
  · refine ⟨_, cap, rfl, hnc, hcm, .inr ⟨g, 0, rfl, fun i hi j hj => ?_⟩⟩
    have := World.ownsRow.cellAt h (i * 5 + j) (by omega)
    rw [Nat.zero_add, this, flatK_at stpCells 5 stpCells_len l i hi j hj]
theorem own_set {w : World} {base : Nat} {e : TypeId} {size n : Nat} {v : Value} {xs : List Value} (h : w.ownsRow base e size v n xs) (p : Addr) (x : Value) (hp : p.block < base) : (w.setCell p x).ownsRow base e size v n xs := by
  rcases h.2 with ⟨h1, h2⟩ | ⟨g, cap, cur, h1, h2, hg, h3⟩
  · exact ⟨h.1, .inl ⟨h1, h2⟩⟩
  · exact ⟨h.1, .inr ⟨g, cap, cur, h1, h2, (Below.heap_setCell w p x g (by omega)).trans hg, h3⟩⟩
theorem own_slice {w : World} {base : Nat} {e : TypeId} {size n : Nat} {v : Value} {xs : List Value} (h : w.ownsRow base e size v n xs) : ∃ a c, v = .slice a n c := by
  rcases h.2 with ⟨rfl, rfl⟩ | ⟨g, cap, cur, rfl, _⟩
  · exact ⟨none, 0, rfl⟩
  · exact ⟨_, cap, rfl⟩
/-- A call that makes a plan. -/
def GivesPlan (w : World) (code : Int) (l : List Stp) (e : Ending) (w' : World) : Prop := ∃ v, e = .returned (.agg #[.int .i64 code, v]) ∧ StpAt w' v l ∧ Below w.heap.size w w'
theorem info_stp : (Try.prog.info? 42).map (fun i => (i.zero, i.size, i.bytes)) = some (some (.agg #[.int .i64 0, .int .i64 0, .int .i64 0, .int .i64 0, .bool false]), 5, 40) := by kernel_rfl

theorem none_any (s : Stp) (w : World) : Calls Try.prog 61 #[stpV s] w fun e w' => e = .returned (.bool s.req) ∧ Below w.heap.size w w' := by
  obtain ⟨a, b, c, d, r⟩ := s
  cases r
  all_goals
    go_enter Try.func61, Try.ntmps61
    go_wp2
    go_ret
    exact ⟨ret_bool (by simp), (Below.refl _ _).alloc (Nat.le_refl _) _⟩

abbrev svcV (v : Value) : Value := .agg #[.int .i64 0, .int .i64 0, .int .i64 0, .int .i64 0, .int .i64 0, .int .i64 0, .int .i64 0, .int .i64 0, .int .i64 0, .int .i64 0, .int .i64 0, .int .i64 0, .int .i64 0, v]
theorem cl_cells {w : World} {b off : Nat} {l : List Cl} (h : ∀ i, i < l.length → ∀ j, j < 4 → w.cell? ⟨b, off + i * 4 + j, none⟩ = (clCells (nth l i))[j]?) (i : Nat) (hi : i < l.length) :
    w.cell? ⟨b, off + i * 4, none⟩ = some (.int .i64 (nth l i).to) ∧ w.cell? ⟨b, off + i * 4 + 1, none⟩ = some (.int .i64 (nth l i).tier) ∧ w.cell? ⟨b, off + i * 4 + 2, none⟩ = some (.int .i64 (nth l i).wt) ∧ w.cell? ⟨b, off + i * 4 + 3, none⟩ = some (.int .i64 (nth l i).most) :=
  ⟨h i hi 0 (by omega), h i hi 1 (by omega), h i hi 2 (by omega), h i hi 3 (by omega)⟩

/-- What a round of Plan knows: the boxes of the call, and the row so far. -/
structure PlanAt (w0 : World) (H : Nat) (x : Nw) (v : Value) (k : Nat) (xs : List Stp) (wr : World) : Prop where
  box : IsObj wr (H + 1) 24 [.int .i64 x.tier, .int .i64 x.lev, .int .i64 x.tick, .int .i64 x.dl]
  res : IsObj wr (H + 1 + 1) 35 [.int .i64 0, .slice none 0 0]
  p : IsObj wr (H + 1 + 1 + 1) 35 [.int .i64 0, v]
  own : wr.ownsRow (H + 1 + 1 + 1 + 1) 42 5 v k (xs.flatMap stpCells)
  below : Below H w0 wr
  size : H + 1 + 1 + 1 + 1 ≤ wr.heap.size
theorem PlanAt.same {w0 : World} {H : Nat} {x : Nw} {v : Value} {k : Nat} {xs : List Stp} {wr w' : World} (h : PlanAt w0 H x v k xs wr) (hb : Below wr.heap.size wr w') : PlanAt w0 H x v k xs w' :=
  ⟨h.box.below hb h.box.lt, h.res.below hb h.res.lt, h.p.below hb h.p.lt, own_below h.own hb, h.below.trans (hb.mono (by have := h.size; omega)), Nat.le_trans h.size hb.size⟩
theorem PlanAt.push {w0 : World} {H : Nat} {x : Nw} {v v' : Value} {k : Nat} {xs ys : List Stp} {wr w' : World} (h : PlanAt w0 H x v k xs wr) (hb : Below (H + 1 + 1 + 1 + 1) wr w') (ho : w'.ownsRow (H + 1 + 1 + 1 + 1) 42 5 v' (k + 1) (ys.flatMap stpCells)) :
    PlanAt w0 H x v' (k + 1) ys (w'.setCell ⟨H + 1 + 1 + 1, 1, none⟩ v') :=
  ⟨(h.box.below hb (by omega)).setOther _ _ (by simp), (h.res.below hb (by omega)).setOther _ _ (by simp), (h.p.below hb (by omega)).set 1 v', own_set ho _ _ (by simp), (h.below.trans (hb.mono (by omega))).setCell (by simp; omega) _, by have := hb.size; have := h.size; simp [World.setCell]; omega⟩

set_option maxRecDepth 100000 in
set_option maxHeartbeats 4000000 in
theorem plan_any (a : Option Addr) (cap : Nat) (l : List Cl) (x : Nw) (b : Nat) (ttl : Int) (f : Ents) (w : World) (hm : l.length ≤ 1000) (hA : RowOf clCells 4 w a l) (hT : TableAt w b ttl f) :
    Calls Try.prog 14 #[svcV (.slice a l.length cap), nwV x, .pointer (some ⟨b, 0, none⟩)] w (GivesPlan w (planCode (fun c => stepOf c x ttl f) l) (planSteps (fun c => stepOf c x ttl f) l)) := by
  obtain ⟨i0, hi, hz0, hz1, hz2⟩ := info_parts info_stp
  have HA := Lib.hid hA
  have HT := Lib.hid hT
  have HST := Lib.hid (fun c w h => step_any c x b ttl f w h)
  clear hA hT
  obtain ⟨g, hg⟩ : ∃ g, g = fun c => stepOf c x ttl f := ⟨_, rfl⟩
  rw [← hg]
  have HG := Lib.hid (fun c => congrFun hg.symm c)
  clear hg
  go_enter Try.func14, Try.ntmps14
  go_wp2_with fail
  obtain ⟨H, hH⟩ : ∃ H, H = w.heap.size := ⟨_, rfl⟩
  have h0 : PlanAt w H x (.slice none 0 0) 0 [] ((((w.alloc (.cells #[.int .i64 0, .int .i64 0, .int .i64 0, .int .i64 0, .int .i64 0, .int .i64 0, .int .i64 0, .int .i64 0, .int .i64 0, .int .i64 0, .int .i64 0, .int .i64 0, .int .i64 0, .slice a l.length cap] 40)).alloc (.cells #[.int .i64 x.tier, .int .i64 x.lev, .int .i64 x.tick, .int .i64 x.dl] 24)).alloc (.cells #[.int .i64 0, .slice none 0 0] 35)).alloc (.cells #[.int .i64 0, .slice none 0 0] 35)) := by
    subst hH
    refine ⟨?_, ?_, ?_, World.ownsRow_nil _ _ _ _, ?_, by simp⟩
    · repeat (first | (refine IsObj.newAt _ _ _ ?_; (simp; done)) | refine IsObj.alloc ?_ _)
    · repeat (first | (refine IsObj.newAt _ _ _ ?_; (simp; done)) | refine IsObj.alloc ?_ _)
    · repeat (first | (refine IsObj.newAt _ _ _ ?_; (simp; done)) | refine IsObj.alloc ?_ _)
    · repeat (first | exact Below.refl _ _ | (refine Below.alloc ?_ (by simp <;> omega) _))
  have HP0 := Lib.hid h0
  rw [← hH]
  have HW := Lib.hid hH
  clear h0 hH
  go_loopw [14] (fun i wr => ∃ (k : Nat) (v : Value), k ≤ l.length ∧ i = .int .i64 k ∧ (l.take k).find? (bad g) = none ∧ PlanAt w H x v k ((l.take k).map g) wr) (fun i _ => l.length - (intOf i).toNat)
  case atStart => exact ⟨0, _, Nat.zero_le _, rfl, rfl, HP0.out⟩
  case round =>
    obtain ⟨k, v, hk, rfl, hgood, hP⟩ := hrel
    obtain ⟨av, cv, rfl⟩ := own_slice hP.own
    have HP := Lib.hid hP
    have HGood := Lib.hid hgood
    have hsz := hP.size
    have hlx := hP.box.lt
    have hlr := hP.res.lt
    have hlp := hP.p.lt
    clear HP0 hgood
    by_cases hlt : k < l.length
    · obtain ⟨ba, off, rfl, hc⟩ : ∃ b off, a = some ⟨b, off, none⟩ ∧ ∀ i, i < l.length → ∀ j, j < 4 → wr.cell? ⟨b, off + i * 4 + j, none⟩ = (clCells (nth l i))[j]? := by
        rcases (HA.out.same clCells_len (HW.out ▸ HP.out.below)) with rfl | ⟨b, off, rfl, hc⟩
        · simp at hlt
        · exact ⟨b, off, rfl, hc⟩
      obtain ⟨c0, c1, c2, c3⟩ := cl_cells hc k hlt
      obtain ⟨c, hcn⟩ : ∃ c, c = nth l k := ⟨_, rfl⟩
      have HN := Lib.hid hcn
      rw [← hcn] at c0 c1 c2 c3
      clear hc hcn hP
      have x0 := HP.out.box.cell 0
      have x1 := HP.out.box.cell 1
      have x2 := HP.out.box.cell 2
      have x3 := HP.out.box.cell 3
      simp only [List.getElem?_cons_succ, List.getElem?_cons_zero] at x0 x1 x2 x3
      have i1 : (0 : Int) ≤ (k : Int) := by omega
      have i2 : (k : Int) < (l.length : Int) := by omega
      have hTr := HT.out.same (HW.out ▸ HP.out.below)
      obtain ⟨W1, hW1⟩ : ∃ W1, W1 = wr.alloc (.cells #[.int .i64 c.to, .int .i64 c.tier, .int .i64 c.wt, .int .i64 c.most] 48) := ⟨_, rfl⟩
      have hb1 : Below wr.heap.size wr W1 := by rw [hW1]; exact (Below.refl _ _).alloc (Nat.le_refl _) _
      have hC := HST.out c W1 (hTr.same hb1)
      have HP1 := Lib.hid (HP.out.same hb1)
      unfold stepCall at hC
      rw [HG.out c] at hC
      obtain ⟨s, hs⟩ : ∃ s, s = g c := ⟨_, rfl⟩
      rw [← hs] at hC
      have HS := Lib.hid hs
      have HC := Lib.hid hC
      clear hC hTr hb1 hs
      go_wp2_with fail
      rw [← hW1]
      clear hW1
      refine HC.out.mono ?_
      rintro e w2 ⟨rfl, hb2⟩
      have HP2 := Lib.hid (HP1.out.same hb2)
      clear hb2 HC HP1 x0 x1 x2 x3 hlx hlr hlp HP hsz
      obtain ⟨W3, hW3⟩ : ∃ W3, W3 = w2.alloc (.cells #[.int .i64 s.to, .int .i64 s.code, .int .i64 s.dl, .int .i64 s.bud, .bool s.req] 42) := ⟨_, rfl⟩
      have HP3 := Lib.hid (show PlanAt w H x (.slice av k cv) k ((l.take k).map g) W3 by rw [hW3]; exact HP2.out.same ((Below.refl _ _).alloc (Nat.le_refl _) _))
      have hs3 : W3.heap.size = w2.heap.size + 1 := by rw [hW3]; simp
      have hO : IsObj W3 w2.heap.size 42 [.int .i64 s.to, .int .i64 s.code, .int .i64 s.dl, .int .i64 s.bud, .bool s.req] := by rw [hW3]; exact IsObj.new w2 _ _
      have HO := Lib.hid hO
      have HW3 := Lib.hid hW3
      clear hW3 HP2
      obtain ⟨sto, scode, sdl, sbud, sreq⟩ := s
      have hWs := HW3.out
      simp only at hWs HO
      clear HW3
      by_cases hcode : scode = 0
      · subst hcode
        subst hWs
        have HAl := Lib.hid (show w2.heap.size + 1 = (w2.alloc (.cells #[.int .i64 sto, .int .i64 0, .int .i64 sdl, .int .i64 sbud, .bool sreq] 42)).heap.size by simp)
        have HBad : Hid (bad g c = false) := Lib.hid (bad_false (by rw [← HS.out]; exact .inr rfl))
        have HNext := Lib.hid (good_next hlt HGood.out (by rw [← HN.out]; exact HBad.out))
        have HX : Hid (((l.take (k + 1)).map g).flatMap stpCells = ((l.take k).map g).flatMap stpCells ++ stpCells ⟨sto, 0, sdl, sbud, sreq⟩) := Lib.hid (by rw [take_nth l k hlt, ← HN.out, List.map_append, List.flatMap_append, HS.out]; simp)
        have HPx := Lib.hid (HP3.out)
        have hOx := HO.out
        have q0 := hOx.cell 0
        have q1 := hOx.cell 1
        have q2 := hOx.cell 2
        have q3 := hOx.cell 3
        have q4 := hOx.cell 4
        simp only [List.getElem?_cons_succ, List.getElem?_cons_zero] at q0 q1 q2 q3 q4
        have p1 := HPx.out.p.cell 1
        simp only [List.getElem?_cons_succ, List.getElem?_cons_zero] at p1
        have hszx := HPx.out.size
        clear hOx
        go_wp2_with (first | (at_builtin; rw [HAl.out]; refine wpList_append_one (by rfl) _ _ 33 (by rfl) (H + 1 + 1 + 1 + 1) 42 i0 (.agg #[.int .i64 0, .int .i64 0, .int .i64 0, .int .i64 0, .bool false]) 5 40 Try.underlying33 hi hz0 hz1 hz2 rfl (by decide) _ _ _ _ (by rfl) HPx.out.own (by rfl) (by rfl) (by rfl) (by omega) (by omega) hszx ?_; intro v' w5 hown5 hb5; obtain ⟨av', cv', rfl⟩ := own_slice hown5; have hp5 := HPx.out.p.below hb5 (by omega); have e5 := hp5.cell 1; have fr5 := hp5.free; simp only [List.getElem?_cons_succ, List.getElem?_cons_zero] at e5; clear hp5))
        have HQ := Lib.hid (HPx.out.push hb5 (ys := (l.take (k + 1)).map g) (by rw [HX.out]; exact hown5))
        clear hown5 hb5 e5 fr5
        exact ⟨⟨k + 1, _, by omega, by go_num, HNext.out, HQ.out⟩, by simp only [intOf]; omega⟩
      · go_wp2_with fail
        rw [← hWs]
        clear hWs
        have hcb : (scode != 0) = true := by simpa using hcode
        cases sreq with
        | false =>
          have HBad : Hid (bad g c = false) := Lib.hid (bad_false (by rw [← HS.out]; exact .inl rfl))
          have HNext := Lib.hid (good_next hlt HGood.out (by rw [← HN.out]; exact HBad.out))
          have HX : Hid (((l.take (k + 1)).map g).flatMap stpCells = ((l.take k).map g).flatMap stpCells ++ stpCells ⟨sto, scode, sdl, sbud, false⟩) := Lib.hid (by rw [take_nth l k hlt, ← HN.out, List.map_append, List.flatMap_append, HS.out]; simp)
          have q1 := HO.out.cell 1
          simp only [List.getElem?_cons_succ, List.getElem?_cons_zero] at q1
          go_wp2_with fail
          refine (none_any ⟨sto, scode, sdl, sbud, false⟩ _).mono ?_
          rintro e w4 ⟨rfl, hb4⟩
          clear q1
          have HPx := Lib.hid (HP3.out.same hb4)
          have hOx := HO.out.below hb4 HO.out.lt
          have q0 := hOx.cell 0
          have q1 := hOx.cell 1
          have q2 := hOx.cell 2
          have q3 := hOx.cell 3
          have q4 := hOx.cell 4
          simp only [List.getElem?_cons_succ, List.getElem?_cons_zero] at q0 q1 q2 q3 q4
          have p1 := HPx.out.p.cell 1
          simp only [List.getElem?_cons_succ, List.getElem?_cons_zero] at p1
          have hszx := HPx.out.size
          clear hOx
          clear hb4
          go_wp2_with (first | (at_builtin; refine wpList_append_one (by rfl) _ _ 33 (by rfl) (H + 1 + 1 + 1 + 1) 42 i0 (.agg #[.int .i64 0, .int .i64 0, .int .i64 0, .int .i64 0, .bool false]) 5 40 Try.underlying33 hi hz0 hz1 hz2 rfl (by decide) _ _ _ _ (by rfl) HPx.out.own (by rfl) (by rfl) (by rfl) (by omega) (by omega) hszx ?_; intro v' w5 hown5 hb5; obtain ⟨av', cv', rfl⟩ := own_slice hown5; have hp5 := HPx.out.p.below hb5 (by omega); have e5 := hp5.cell 1; have fr5 := hp5.free; simp only [List.getElem?_cons_succ, List.getElem?_cons_zero] at e5; clear hp5))
          have HQ := Lib.hid (HPx.out.push hb5 (ys := (l.take (k + 1)).map g) (by rw [HX.out]; exact hown5))
          clear hown5 hb5 e5 fr5
          exact ⟨⟨k + 1, _, by omega, by go_num, HNext.out, HQ.out⟩, by simp only [intOf]; omega⟩
        | true =>
          have HBad : Hid (bad g c = true) := Lib.hid (bad_true (by rw [← HS.out]) (by rw [← HS.out]; exact hcode))
          obtain ⟨pc, ps⟩ := plan_bad hlt HGood.out (by rw [← HN.out]; exact HBad.out)
          rw [← HN.out, ← HS.out] at pc
          have PC := Lib.hid pc
          have PS := Lib.hid ps
          have q1 := HO.out.cell 1
          simp only [List.getElem?_cons_succ, List.getElem?_cons_zero] at q1
          clear pc ps
          go_wp2_with fail
          refine (none_any ⟨sto, scode, sdl, sbud, true⟩ _).mono ?_
          rintro e w4 ⟨rfl, hb4⟩
          clear q1
          have hP4 := HP3.out.same hb4
          have q1 := (HO.out.below hb4 HO.out.lt).cell 1
          have r0 := hP4.res.cell 0
          have r1 := hP4.res.cell 1
          simp only [List.getElem?_cons_succ, List.getElem?_cons_zero] at q1 r0 r1
          have rf := hP4.res.free
          obtain ⟨wf, hwf⟩ : ∃ wf, wf = (w4.setCell ⟨H + 1 + 1, 0, none⟩ (.int .i64 scode)).setCell ⟨H + 1 + 1, 1, none⟩ (.slice none 0 0) := ⟨_, rfl⟩
          have hof : IsObj wf (H + 1 + 1) 35 [.int .i64 scode, .slice none 0 0] := by rw [hwf]; exact (hP4.res.set 0 (.int .i64 scode)).set 1 _
          have HF : Hid (GivesPlan w (planCode g l) (planSteps g l) (.returned (.agg #[.int .i64 scode, .slice none 0 0])) wf) := by
            have := HW.out
            rw [PC.out, PS.out]
            refine Lib.hid ⟨_, rfl, StpAt.nil _, ?_⟩
            rw [hwf]
            exact ((this ▸ hP4.below).setCell (by simp; omega) _).setCell (by simp; omega) _
          have f0 := hof.cell 0
          have f1 := hof.cell 1
          simp only [List.getElem?_cons_succ, List.getElem?_cons_zero] at f0 f1
          clear hof hP4 hb4
          go_wp2_with fail
          rw [← hwf]
          clear hwf
          exact bodyPost_ret (by simp [results, Try.results14, go_sem, f0, f1]) rfl HF.out
    · obtain rfl : k = l.length := by omega
      have hgood := HGood.out
      rw [List.take_of_length_le (Nat.le_refl _)] at hgood
      obtain ⟨q1, q2⟩ := plan_good hgood
      have HP' : Hid (PlanAt w H x (.slice av l.length cv) l.length (l.map g) wr) := by
        have := HP.out
        rwa [List.take_of_length_le (Nat.le_refl _)] at this
      have p0 := hP.p.cell 0
      have p1 := hP.p.cell 1
      have r0 := hP.res.cell 0
      have r1 := hP.res.cell 1
      simp only [List.getElem?_cons_succ, List.getElem?_cons_zero] at p0 p1 r0 r1
      have rf := hP.res.free
      clear hP hgood HP HGood hsz
      obtain ⟨wf, hwf⟩ : ∃ wf, wf = (wr.setCell ⟨H + 1 + 1, 0, none⟩ (.int .i64 0)).setCell ⟨H + 1 + 1, 1, none⟩ (.slice av l.length cv) := ⟨_, rfl⟩
      have hof : IsObj wf (H + 1 + 1) 35 [.int .i64 0, .slice av l.length cv] := by rw [hwf]; exact (HP'.out.res.set 0 (.int .i64 0)).set 1 _
      have HF : Hid (GivesPlan w (planCode g l) (planSteps g l) (.returned (.agg #[.int .i64 0, .slice av l.length cv])) wf) := by
        rw [q1, q2]
        have := HW.out
        refine Lib.hid ⟨.slice av l.length cv, rfl, ?_, ?_⟩
        · rw [hwf]; exact stp_of_own (own_set (own_set HP'.out.own _ _ (by simp)) _ _ (by simp)) (by simp)
        · rw [hwf]; exact ((this ▸ HP'.out.below).setCell (by simp; omega) _).setCell (by simp; omega) _
      have f0 := hof.cell 0
      have f1 := hof.cell 1
      simp only [List.getElem?_cons_succ, List.getElem?_cons_zero] at f0 f1
      clear hof HP' q1 q2
      go_wp2_with fail
      rw [← hwf]
      clear hwf
      exact bodyPost_ret (by simp [results, Try.results14, go_sem, f0, f1]) rfl HF.out
end Go.Proofs.Ytgkmmoiniidhlaa
