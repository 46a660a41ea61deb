/-
  Layer 20 (control), the document's: its controller's state, and what each act makes of it.
-/
import Derived.Test.YtagfbnfbiadpfaaGreatRef20
namespace Go.Proofs.YtagfbnfbiadpfaaGreat
open Go.RowKit Go.Shelf
set_option linter.unusedVariables false
set_option linter.unusedSimpArgs false

/-- The cells of the document's controller. -/
def zC (z : CSt) (sv wv : Value) : List Value := [.int .i64 z.lv, .int .i64 z.k.k0, .int .i64 z.k.k1, .int .i64 z.k.k2, .int .i64 z.k.k3, .int .i64 z.k.k4, .int .i64 z.k.k5, .int .i64 z.k.k6, sv, wv, .int .i64 z.way, .int .i64 z.held, .int .i64 z.tr, .int .i64 z.ti, .int .i64 z.dh, .int .i64 z.th, .int .i64 z.ep]
abbrev zV (z : CSt) (sv wv : Value) : Value := .agg (zC z sv wv).toArray
theorem zC_one {z : CSt} {sv wv : Value} (hs : sv.oneCell' = true) (hw : wv.oneCell' = true) : (zC z sv wv).toArray.all (·.oneCell') = true := by
  simp only [zC, List.all_toArray, List.all_cons, List.all_nil, hs, hw, Bool.and_true, Bool.true_and]
  rfl
theorem zC_len {z : CSt} {sv wv : Value} : (zC z sv wv).length = 17 := rfl
theorem zinfo : (Tryz.prog.info? 38).map (·.size) = some 17 := by kernel_rfl
theorem IsObj.range {w : World} {b : Nat} {ty : TypeId} {cs : List Value} (h : IsObj w b ty cs) : w.rangeAt b 0 cs := fun j v hv => by rw [Nat.zero_add, h.cell j]; exact hv
theorem IsObj.setAll {w : World} {b : Nat} {ty : TypeId} {cs xs : List Value} (h : IsObj w b ty cs) (hl : xs.length = cs.length) : IsObj (w.setCells b 0 xs) b ty xs := by
  have k := IsObj.setCells xs 0 h (by omega)
  rw [List.take_zero, List.nil_append, List.drop_eq_nil_of_le (by omega), List.append_nil] at k
  exact k
theorem results_cell {fn : Func} {tmps : Array Value} {a : Nat} {t : TypeId} {ad : Addr} {w : World} {v : Value} (h : fn.results = #[.cell a t]) (ha : tmps.getD a undef = .pointer (some ad)) (hl : (loadVar t ad).run Tryz.prog w = .ok v w) : (results fn tmps).run Tryz.prog w = .ok v w := by
  rw [Array.getD_eq_getD_getElem?] at ha
  simp [results, h, ha, asAddr, hl]
theorem results_cell_tmp {fn : Func} {tmps : Array Value} {a k : Nat} {t : TypeId} {ad : Addr} {w : World} {v x : Value} (h : fn.results = #[.cell a t, .tmp k]) (ha : tmps.getD a undef = .pointer (some ad)) (hx : tmps.getD k undef = x) (hl : (loadVar t ad).run Tryz.prog w = .ok v w) : (results fn tmps).run Tryz.prog w = .ok (.tuple #[v, x]) w := by
  rw [Array.getD_eq_getD_getElem?] at ha hx
  simp [results, h, ha, asAddr, hl, hx]
theorem results_cell_cell {fn : Func} {tmps : Array Value} {a b : Nat} {t u : TypeId} {ad bd : Addr} {w : World} {v x : Value} (h : fn.results = #[.cell a t, .cell b u]) (ha : tmps.getD a undef = .pointer (some ad)) (hb : tmps.getD b undef = .pointer (some bd)) (hl : (loadVar t ad).run Tryz.prog w = .ok v w) (hm : (loadVar u bd).run Tryz.prog w = .ok x w) : (results fn tmps).run Tryz.prog w = .ok (.tuple #[v, x]) w := by
  rw [Array.getD_eq_getD_getElem?] at ha hb
  simp [results, h, ha, hb, asAddr, hl, hm]
/-- The block of a slice is one of those. -/
def BOk (Q : Nat → Prop) (v : Value) : Prop := ∀ a n c, v = .slice (some a) n c → Q a.block
theorem nth_zeros (i : Nat) : nth zeros i = 0 := by
  unfold nth zeros
  rw [List.getD_eq_getElem?_getD, List.getElem?_replicate]
  split <;> rfl
/-- What the document's controller holds, and where. -/
structure RSt (Q : Nat → Prop) (N : Nat) (w : World) (z : CSt) (sv wv : Value) : Prop where
  l2 : z.lv ≤ 128
  lc : z.lv ≤ z.c.length
  s : ∃ a cap, sv = .slice a z.lv cap ∧ IntsAt w a (z.c.take z.lv)
  sq : BOk Q sv
  w : ∃ ws, Ints w wv ws ∧ z.s = bSum ws ∧ z.m = ws.length ∧ ws.length ≤ N
  wq : BOk Q wv
theorem RSt.so {Q : Nat → Prop} {N : Nat} {w : World} {z : CSt} {sv wv : Value} (h : RSt Q N w z sv wv) : sv.oneCell' = true := by
  obtain ⟨a, c, rfl, _⟩ := h.s
  rfl
theorem RSt.wo {Q : Nat → Prop} {N : Nat} {w : World} {z : CSt} {sv wv : Value} (h : RSt Q N w z sv wv) : wv.oneCell' = true := by
  obtain ⟨ws, ⟨a, c, rfl, _⟩, _⟩ := h.w
  rfl
theorem RSt.same {Q : Nat → Prop} {N : Nat} {w w' : World} {z : CSt} {sv wv : Value} (h : RSt Q N w z sv wv) (hb : Below w.heap.size w w') : RSt Q N w' z sv wv := by
  obtain ⟨a, c, e, hi⟩ := h.s
  obtain ⟨ws, h1, h2⟩ := h.w
  exact ⟨h.l2, h.lc, ⟨a, c, e, hi.same hb⟩, h.sq, ⟨ws, h1.same hb, h2⟩, h.wq⟩
theorem RSt.fresh {Q : Nat → Prop} {N : Nat} {w' : World} {z : CSt}  {g : Nat} (l2 : z.lv ≤ 128) (h : IsObj w' g 3 (List.replicate z.lv (.int .i64 0))) (hq : Q g) : RSt Q N w' { z with c := zeros, m := 0, s := 0, x := 0 } (.slice (some ⟨g, 0, none⟩) z.lv z.lv) (.slice none 0 0) := by
  refine ⟨l2, by show z.lv ≤ 128; exact l2, ⟨_, _, rfl, ?_⟩, ?_, ⟨[], ⟨none, 0, rfl, by simp, by simp, .inl rfl⟩, rfl, rfl, by simp⟩, ?_⟩
  · refine .inr ⟨g, 0, rfl, fun i hi => ?_⟩
    have hl : i < z.lv := by
      have := hi
      simp at this
      omega
    rw [Nat.zero_add, h.cell i, List.getElem?_replicate, if_pos hl, nth_take _ _ _ hl]
    rw [nth_zeros]
  · intro a n c e
    cases e
    exact hq
  · intro a n c e
    cases e
set_option maxRecDepth 100000 in
set_option maxHeartbeats 4000000 in
theorem rfresh20_any {Q : Nat → Prop} {N : Nat} (z : CSt) (sv wv : Value) (w : World) (l2 : z.lv ≤ 128) (hQ : ∀ b, w.heap.size ≤ b → Q b) : Calls Tryz.prog 45 #[zV z sv wv] w fun e w' => ∃ sv', e = .returned (zV z sv' (.slice none 0 0)) ∧ RSt Q N w' { z with c := zeros, m := 0, s := 0, x := 0 } sv' (.slice none 0 0) ∧ Below w.heap.size w w' := by
  obtain ⟨B, hB⟩ : ∃ B, B = w.heap.size := ⟨_, rfl⟩
  have B0 := Lib.hid (show Below w.heap.size w ((w.alloc (.cells (zC z sv wv).toArray 38)).alloc (.cells #[.int .i64 0, .int .i64 0, .int .i64 0, .int .i64 0, .int .i64 0, .int .i64 0, .int .i64 0, .int .i64 0, .slice none 0 0, .slice none 0 0, .int .i64 0, .int .i64 0, .int .i64 0, .int .i64 0, .int .i64 0, .int .i64 0, .int .i64 0] 38)) from ((Below.refl _ w).alloc (Nat.le_refl _) _).alloc (by simp) _)
  have HB := Lib.hid hB
  have HS := Lib.hid (show ((w.alloc (.cells (zC z sv wv).toArray 38)).alloc (.cells #[.int .i64 0, .int .i64 0, .int .i64 0, .int .i64 0, .int .i64 0, .int .i64 0, .int .i64 0, .int .i64 0, .slice none 0 0, .slice none 0 0, .int .i64 0, .int .i64 0, .int .i64 0, .int .i64 0, .int .i64 0, .int .i64 0, .int .i64 0] 38)).heap.size = B + 2 by rw [hB]; simp)
  have O0 := Lib.hid (show IsObj ((w.alloc (.cells (zC z sv wv).toArray 38)).alloc (.cells #[.int .i64 0, .int .i64 0, .int .i64 0, .int .i64 0, .int .i64 0, .int .i64 0, .int .i64 0, .int .i64 0, .slice none 0 0, .slice none 0 0, .int .i64 0, .int .i64 0, .int .i64 0, .int .i64 0, .int .i64 0, .int .i64 0, .int .i64 0] 38)) B 38 (zC z sv wv) by rw [hB]; exact (IsObj.new w _ (zC z sv wv)).alloc _)
  have R0 := Lib.hid (show IsObj ((w.alloc (.cells (zC z sv wv).toArray 38)).alloc (.cells #[.int .i64 0, .int .i64 0, .int .i64 0, .int .i64 0, .int .i64 0, .int .i64 0, .int .i64 0, .int .i64 0, .slice none 0 0, .slice none 0 0, .int .i64 0, .int .i64 0, .int .i64 0, .int .i64 0, .int .i64 0, .int .i64 0, .int .i64 0] 38)) (B + 1) 38 [.int .i64 0, .int .i64 0, .int .i64 0, .int .i64 0, .int .i64 0, .int .i64 0, .int .i64 0, .int .i64 0, .slice none 0 0, .slice none 0 0, .int .i64 0, .int .i64 0, .int .i64 0, .int .i64 0, .int .i64 0, .int .i64 0, .int .i64 0] by
    have h := IsObj.new (w.alloc (.cells (zC z sv wv).toArray 38)) 38 [.int .i64 0, .int .i64 0, .int .i64 0, .int .i64 0, .int .i64 0, .int .i64 0, .int .i64 0, .int .i64 0, .slice none 0 0, .slice none 0 0, .int .i64 0, .int .i64 0, .int .i64 0, .int .i64 0, .int .i64 0, .int .i64 0, .int .i64 0]
    rw [World.size_alloc, ← hB] at h
    exact h)
  clear hB
  go_enter Tryz.func45, Tryz.ntmps45
  go_upto_region 1 with (fail)
  rw [← HB.out]
  generalize ((w.alloc (.cells (zC z sv wv).toArray 38)).alloc (.cells #[.int .i64 0, .int .i64 0, .int .i64 0, .int .i64 0, .int .i64 0, .int .i64 0, .int .i64 0, .int .i64 0, .slice none 0 0, .slice none 0 0, .int .i64 0, .int .i64 0, .int .i64 0, .int .i64 0, .int .i64 0, .int .i64 0, .int .i64 0] 38)) = w0 at *
  have q0 : w0.cell? ⟨B, 0, none⟩ = some (.int .i64 z.lv) := O0.out.cell 0
  obtain ⟨w1, hmk, hO, hB1, hlt1⟩ := make_ints z.lv w0 (by omega)
  obtain ⟨g, hg⟩ : ∃ g, g = w0.heap.size := ⟨_, rfl⟩
  rw [← hg] at hmk hO
  have HG := Lib.hid hg
  have O1 := Lib.hid (IsObj.below O0.out hB1 O0.out.lt)
  have R1 := Lib.hid (IsObj.below R0.out hB1 R0.out.lt)
  have BB1 := Lib.hid hB1
  have HO := Lib.hid hO
  have f8 := O1.out.free 8
  have f9 : (w1.setCell ⟨B, 8, none⟩ (.slice (some ⟨g, 0, none⟩) z.lv z.lv)).frozen? ⟨B, 9, none⟩ = false := (O1.out.set 8 (.slice (some ⟨g, 0, none⟩) z.lv z.lv)).free 9
  have f9' : (w1.setCell ⟨B, 8, none⟩ (.slice (some ⟨g, 0, none⟩) z.lv z.lv)).cell? ⟨B, 9, none⟩ = some wv := (O1.out.set 8 (.slice (some ⟨g, 0, none⟩) z.lv z.lv)).cell 9
  have f8' : w1.cell? ⟨B, 8, none⟩ = some sv := O1.out.cell 8
  have hsz : g = B + 2 := by rw [hg]; exact HS.out
  have O3 := Lib.hid (show IsObj ((w1.setCell ⟨B, 8, none⟩ (.slice (some ⟨g, 0, none⟩) z.lv z.lv)).setCell ⟨B, 9, none⟩ (.slice none 0 0)) B 38 (zC z (.slice (some ⟨g, 0, none⟩) z.lv z.lv) (.slice none 0 0)) from (O1.out.set 8 (.slice (some ⟨g, 0, none⟩) z.lv z.lv)).set 9 (.slice none 0 0))
  have R3 := Lib.hid (show IsObj ((w1.setCell ⟨B, 8, none⟩ (.slice (some ⟨g, 0, none⟩) z.lv z.lv)).setCell ⟨B, 9, none⟩ (.slice none 0 0)) (B + 1) 38 [.int .i64 0, .int .i64 0, .int .i64 0, .int .i64 0, .int .i64 0, .int .i64 0, .int .i64 0, .int .i64 0, .slice none 0 0, .slice none 0 0, .int .i64 0, .int .i64 0, .int .i64 0, .int .i64 0, .int .i64 0, .int .i64 0, .int .i64 0] from (R1.out.setOther ⟨B, 8, none⟩ _ (by simp)).setOther ⟨B, 9, none⟩ _ (by simp))
  have H3 := Lib.hid (show IsObj ((w1.setCell ⟨B, 8, none⟩ (.slice (some ⟨g, 0, none⟩) z.lv z.lv)).setCell ⟨B, 9, none⟩ (.slice none 0 0)) g 3 (List.replicate z.lv (.int .i64 0)) from (HO.out.setOther ⟨B, 8, none⟩ _ (by simp; omega)).setOther ⟨B, 9, none⟩ _ (by simp; omega))
  have BO := Lib.hid (show Only B w1 ((w1.setCell ⟨B, 8, none⟩ (.slice (some ⟨g, 0, none⟩) z.lv z.lv)).setCell ⟨B, 9, none⟩ (.slice none 0 0)) from ((Only.refl B w1).setCell (p := ⟨B, 8, none⟩) (.inl rfl) _).setCell (p := ⟨B, 9, none⟩) (.inl rfl) _)
  clear hO hB1 hg hsz
  go_upto_region 3 with (fail)
  clear hmk q0 f8 f9 f8' f9'
  generalize ((w1.setCell ⟨B, 8, none⟩ (.slice (some ⟨g, 0, none⟩) z.lv z.lv)).setCell ⟨B, 9, none⟩ (.slice none 0 0)) = w2 at *
  have RG := Lib.hid (IsObj.range O3.out)
  have RT := Lib.hid (show w2.there (B + 1) 0 (zC z (.slice (some ⟨g, 0, none⟩) z.lv z.lv) (.slice none 0 0)).toArray.size from IsObj.there R3.out 0 17 (by simp))
  have OF := Lib.hid (show IsObj (w2.setCells (B + 1) 0 (zC z (.slice (some ⟨g, 0, none⟩) z.lv z.lv) (.slice none 0 0)).toArray.toList) (B + 1) 38 (zC z (.slice (some ⟨g, 0, none⟩) z.lv z.lv) (.slice none 0 0)) from IsObj.setAll R3.out (by rfl))
  have BF := Lib.hid (show Only (B + 1) w2 (w2.setCells (B + 1) 0 (zC z (.slice (some ⟨g, 0, none⟩) z.lv z.lv) (.slice none 0 0)).toArray.toList) from Only.setCells (b := (B + 1)) (zC z (.slice (some ⟨g, 0, none⟩) z.lv z.lv) (.slice none 0 0)) 0 (Only.refl (B + 1) w2))
  have ZO : (zC z (.slice (some ⟨g, 0, none⟩) z.lv z.lv) (.slice none 0 0)).toArray.all (·.oneCell') = true := zC_one rfl rfl
  go_wp2_with (first
    | (refine wpList_load_mid (by rfl) 38 _ (by rfl) B 0 (by rfl) (zC z (.slice (some ⟨g, 0, none⟩) z.lv z.lv) (.slice none 0 0)) _ RG.out Tryz.underlying38 rfl zinfo ?_)
    | (refine wpList_store_mid (by rfl) 38 _ _ (by rfl) (B + 1) 0 (zC z (.slice (some ⟨g, 0, none⟩) z.lv z.lv) (.slice none 0 0)).toArray (by rfl) (by rfl) RT.out zinfo ZO ?_; generalize w2.setCells (B + 1) 0 (zC z (.slice (some ⟨g, 0, none⟩) z.lv z.lv) (.slice none 0 0)).toArray.toList = wf at *))
  have RL := run_loadVar_mid (P := Tryz.prog) wf (B + 1) 0 38 (zC z (.slice (some ⟨g, 0, none⟩) z.lv z.lv) (.slice none 0 0)) _ (IsObj.range OF.out) Tryz.underlying38 rfl zinfo
  refine bodyPost_ret (v := zV z (.slice (some ⟨g, 0, none⟩) z.lv z.lv) (.slice none 0 0)) ?_ rfl ?_
  · exact results_cell (by rfl) (by rfl) RL
  · have hg := HG.out
    have hs := HS.out
    have hw := HB.out
    refine ⟨_, rfl, RSt.fresh l2 (IsObj.only H3.out BF.out (by omega)) (hQ g (by omega)), ?_⟩
    have b1 := B0.out.trans (BB1.out.mono (by omega))
    have b2 := b1.trans (BO.out.below (by omega) b1.size)
    exact b2.trans (BF.out.below (by omega) b2.size)
theorem hadd_take (lv : Nat) (c : List Int) (n m : Int) : (hadd lv c n m).take lv = hadd lv (c.take lv) n m := by
  unfold hadd
  split
  · next h =>
    have h' : 0 ≤ n ∧ n < lv := by simpa [hasL] using h
    rw [List.take_set, nth_take _ _ _ (by omega)]
  · rfl
theorem radd10_any (a : Option Addr) (c lv : Nat) (l : List Int) (level : Int) (w : World) (hl : l.length = lv) (m : lv ≤ 128) (h : IntsAt w a l) :
    Calls Tryz.prog 34 #[.slice a lv c, .int .i64 level, .int .i64 1] w fun e w' => ∃ a' c', e = .returned (.tuple #[.slice a' lv c', .bool (hasL lv level)]) ∧ IntsAt w' a' (hadd lv l level 1) ∧ Below w.heap.size w w' ∧ ((a' = a ∧ hadd lv l level 1 = l) ∨ ∀ x, a' = some x → w.heap.size ≤ x.block) := by
  subst hl
  cases ho : hasL l.length level with
  | false =>
    refine (hadd10_out a c l level 1 w (by omega) ho).mono ?_
    rintro e w' ⟨rfl, rfl⟩
    have h2 : hadd l.length l level 1 = l := by unfold hadd; rw [if_neg (by rw [ho]; decide)]
    exact ⟨a, c, rfl, by rw [h2]; exact h, Below.refl _ _, .inl ⟨rfl, h2⟩⟩
  | true =>
    obtain ⟨k, rfl, hk⟩ : ∃ k : Nat, level = (k : Int) ∧ k < l.length := by
      have : 0 ≤ level ∧ level < l.length := by simpa [hasL] using ho
      exact ⟨level.toNat, by omega, by omega⟩
    refine (hadd10_in a c l k 1 w (by omega) h hk).mono ?_
    rintro e w' ⟨g, cap, rfl, hown, hb⟩
    have hg := hown.lt g rfl
    obtain ⟨a2, c2, e2, _, _, hI⟩ := ints_of_own hown
    rw [List.length_set] at e2
    cases e2
    refine ⟨_, _, rfl, ?_, hb, .inr fun x hx => by cases hx; exact hg.1⟩
    unfold hadd
    rw [if_pos ho]
    exact hI
theorem BOk.of {Q : Nat → Prop} {H : Nat} {a a' : Option Addr} {n n' c c' : Nat} (h : BOk Q (.slice a n c)) (hQ : ∀ b, H ≤ b → Q b) (h' : a' = a ∨ ∀ x, a' = some x → H ≤ x.block) : BOk Q (.slice a' n' c') := by
  intro x m d e
  cases e
  rcases h' with rfl | h'
  · exact h x n c rfl
  · exact hQ _ (h' x rfl)
theorem RSt.saw {Q : Nat → Prop} {N : Nat} {w w' : World} {z : CSt} {sv wv : Value} {a a' : Option Addr} {c c' : Nat} {n : Int} {H : Nat} (h : RSt Q N w z sv wv) (e : sv = .slice a z.lv c) (hb : Below w.heap.size w w') (hQ : ∀ b, H ≤ b → Q b) (hi : IntsAt w' a' (hadd z.lv (z.c.take z.lv) n 1)) (h' : a' = a ∨ ∀ x, a' = some x → H ≤ x.block) : RSt Q N w' { z with c := hadd z.lv z.c n 1 } (.slice a' z.lv c') wv := by
  subst e
  obtain ⟨ws, h1, h2⟩ := h.w
  exact ⟨h.l2, by show z.lv ≤ (hadd z.lv z.c n 1).length; unfold hadd; split <;> simp [h.lc], ⟨a', c', rfl, by show IntsAt w' a' ((hadd z.lv z.c n 1).take z.lv); rw [hadd_take]; exact hi⟩, h.sq.of hQ h', ⟨ws, h1.same hb, h2⟩, h.wq⟩
theorem IntsAt.only {w w' : World} {b : Nat} {a : Option Addr} {l : List Int} (hi : IntsAt w a l) (ho : Only b w w') (hb : ∀ x, a = some x → x.block ≠ b) : IntsAt w' a l := by
  rcases hi with hi | ⟨g, off, rfl, hc⟩
  · exact .inl hi
  · exact .inr ⟨g, off, rfl, fun i hlt => ho.keep (hc i hlt) (hb ⟨g, off, none⟩ rfl)⟩
theorem RSt.only {Q : Nat → Prop} {N : Nat} {w w' : World} {z : CSt} {sv wv : Value} {b : Nat} (h : RSt Q N w z sv wv) (ho : Only b w w') (hb : ∀ k, Q k → k ≠ b) : RSt Q N w' z sv wv := by
  obtain ⟨a, c, e, hi⟩ := h.s
  obtain ⟨ws, ⟨a2, c2, e2, l2, l3, h1⟩, h2⟩ := h.w
  refine ⟨h.l2, h.lc, ⟨a, c, e, ?_⟩, h.sq, ⟨ws, ⟨a2, c2, e2, l2, l3, ?_⟩, h2⟩, h.wq⟩
  · rcases hi with hi | ⟨g, off, rfl, hc⟩
    · exact .inl hi
    · exact .inr ⟨g, off, rfl, fun i hlt => ho.keep (hc i hlt) (hb g (h.sq _ _ _ e))⟩
  · rcases h1 with h1 | ⟨g, off, rfl, hc⟩
    · exact .inl h1
    · exact .inr ⟨g, off, rfl, fun i hlt => ho.keep (hc i hlt) (hb g (h.wq _ _ _ e2))⟩
set_option maxRecDepth 100000 in
set_option maxHeartbeats 4000000 in
theorem rsaw20_any {Q : Nat → Prop} {N : Nat} (z : CSt) (sv wv : Value) (n : Int) (w : World) (h : RSt Q N w z sv wv) (hQ : ∀ b, w.heap.size ≤ b → Q b) : Calls Tryz.prog 8 #[zV z sv wv, .int .i64 n] w fun e w' => ∃ sv', e = .returned (.tuple #[zV z sv' wv, .bool (hasL z.lv n)]) ∧ RSt Q N w' { z with c := hadd z.lv z.c n 1 } sv' wv ∧ Below w.heap.size w w' := by
  obtain ⟨a, c, es, hi⟩ := h.s
  have HQ := Lib.hid hQ
  have HR := Lib.hid h
  have HI := Lib.hid hi
  have HE := Lib.hid es
  have hl : (z.c.take z.lv).length = z.lv := by
    have := h.lc
    simp
    omega
  have l2 := h.l2
  have wo := h.wo
  clear h hi es hQ
  obtain ⟨B, hB⟩ : ∃ B, B = w.heap.size := ⟨_, rfl⟩
  have B0 := Lib.hid (show Below w.heap.size w ((w.alloc (.cells (zC z sv wv).toArray 38)).alloc (.cells #[.int .i64 0, .int .i64 0, .int .i64 0, .int .i64 0, .int .i64 0, .int .i64 0, .int .i64 0, .int .i64 0, .slice none 0 0, .slice none 0 0, .int .i64 0, .int .i64 0, .int .i64 0, .int .i64 0, .int .i64 0, .int .i64 0, .int .i64 0] 38)) from ((Below.refl _ w).alloc (Nat.le_refl _) _).alloc (by simp) _)
  have HB := Lib.hid hB
  have HS := Lib.hid (show ((w.alloc (.cells (zC z sv wv).toArray 38)).alloc (.cells #[.int .i64 0, .int .i64 0, .int .i64 0, .int .i64 0, .int .i64 0, .int .i64 0, .int .i64 0, .int .i64 0, .slice none 0 0, .slice none 0 0, .int .i64 0, .int .i64 0, .int .i64 0, .int .i64 0, .int .i64 0, .int .i64 0, .int .i64 0] 38)).heap.size = B + 2 by rw [hB]; simp)
  have O0 := Lib.hid (show IsObj ((w.alloc (.cells (zC z sv wv).toArray 38)).alloc (.cells #[.int .i64 0, .int .i64 0, .int .i64 0, .int .i64 0, .int .i64 0, .int .i64 0, .int .i64 0, .int .i64 0, .slice none 0 0, .slice none 0 0, .int .i64 0, .int .i64 0, .int .i64 0, .int .i64 0, .int .i64 0, .int .i64 0, .int .i64 0] 38)) B 38 (zC z sv wv) by rw [hB]; exact (IsObj.new w _ (zC z sv wv)).alloc _)
  have R0 := Lib.hid (show IsObj ((w.alloc (.cells (zC z sv wv).toArray 38)).alloc (.cells #[.int .i64 0, .int .i64 0, .int .i64 0, .int .i64 0, .int .i64 0, .int .i64 0, .int .i64 0, .int .i64 0, .slice none 0 0, .slice none 0 0, .int .i64 0, .int .i64 0, .int .i64 0, .int .i64 0, .int .i64 0, .int .i64 0, .int .i64 0] 38)) (B + 1) 38 [.int .i64 0, .int .i64 0, .int .i64 0, .int .i64 0, .int .i64 0, .int .i64 0, .int .i64 0, .int .i64 0, .slice none 0 0, .slice none 0 0, .int .i64 0, .int .i64 0, .int .i64 0, .int .i64 0, .int .i64 0, .int .i64 0, .int .i64 0] by
    have h := IsObj.new (w.alloc (.cells (zC z sv wv).toArray 38)) 38 [.int .i64 0, .int .i64 0, .int .i64 0, .int .i64 0, .int .i64 0, .int .i64 0, .int .i64 0, .int .i64 0, .slice none 0 0, .slice none 0 0, .int .i64 0, .int .i64 0, .int .i64 0, .int .i64 0, .int .i64 0, .int .i64 0, .int .i64 0]
    rw [World.size_alloc, ← hB] at h
    exact h)
  clear hB
  go_enter Tryz.func8, Tryz.ntmps8
  go_upto_region 1 with (fail)
  rw [← HB.out]
  generalize ((w.alloc (.cells (zC z sv wv).toArray 38)).alloc (.cells #[.int .i64 0, .int .i64 0, .int .i64 0, .int .i64 0, .int .i64 0, .int .i64 0, .int .i64 0, .int .i64 0, .slice none 0 0, .slice none 0 0, .int .i64 0, .int .i64 0, .int .i64 0, .int .i64 0, .int .i64 0, .int .i64 0, .int .i64 0] 38)) = w0 at *
  have q8 : w0.cell? ⟨B, 8, none⟩ = some (.slice a z.lv c) := by rw [← HE.out]; exact O0.out.cell 8
  go_upto_region 2 with (fail)
  refine (radd10_any a c z.lv (z.c.take z.lv) n w0 hl l2 (HI.out.same B0.out)).mono ?_
  rintro e w1 ⟨a', c', rfl, hi1, hb1, hq1⟩
  have O1 := Lib.hid (IsObj.below O0.out hb1 O0.out.lt)
  have R1 := Lib.hid (IsObj.below R0.out hb1 R0.out.lt)
  have B1 := Lib.hid (B0.out.trans (hb1.mono B0.out.size))
  have c8 : w1.cell? ⟨B, 8, none⟩ = some sv := O1.out.cell 8
  have f8 := O1.out.free 8
  have HI1 := Lib.hid hi1
  have HQ1 := Lib.hid hq1
  clear hi1 hb1 hq1 q8
  have O2 := Lib.hid (show IsObj (w1.setCell ⟨B, 8, none⟩ (.slice a' z.lv c')) B 38 (zC z (.slice a' z.lv c') wv) from O1.out.set 8 (.slice a' z.lv c'))
  have R2 := Lib.hid (show IsObj (w1.setCell ⟨B, 8, none⟩ (.slice a' z.lv c')) (B + 1) 38 [.int .i64 0, .int .i64 0, .int .i64 0, .int .i64 0, .int .i64 0, .int .i64 0, .int .i64 0, .int .i64 0, .slice none 0 0, .slice none 0 0, .int .i64 0, .int .i64 0, .int .i64 0, .int .i64 0, .int .i64 0, .int .i64 0, .int .i64 0] from R1.out.setOther ⟨B, 8, none⟩ _ (by simp))
  have BO := Lib.hid (show Only B w1 (w1.setCell ⟨B, 8, none⟩ (.slice a' z.lv c')) from (Only.refl B w1).setCell (p := ⟨B, 8, none⟩) (.inl rfl) _)
  go_upto_region 3 with (fail)
  clear c8 f8
  generalize (w1.setCell ⟨B, 8, none⟩ (.slice a' z.lv c')) = w2 at *
  have RG := Lib.hid (IsObj.range O2.out)
  have RT := Lib.hid (show w2.there (B + 1) 0 (zC z (.slice a' z.lv c') wv).toArray.size from IsObj.there R2.out 0 17 (by simp))
  have OF := Lib.hid (show IsObj (w2.setCells (B + 1) 0 (zC z (.slice a' z.lv c') wv).toArray.toList) (B + 1) 38 (zC z (.slice a' z.lv c') wv) from IsObj.setAll R2.out (by rfl))
  have BF := Lib.hid (show Only (B + 1) w2 (w2.setCells (B + 1) 0 (zC z (.slice a' z.lv c') wv).toArray.toList) from Only.setCells (b := (B + 1)) (zC z (.slice a' z.lv c') wv) 0 (Only.refl (B + 1) w2))
  have ZO : (zC z (.slice a' z.lv c') wv).toArray.all (·.oneCell') = true := zC_one rfl wo
  go_wp2_with (first
    | (refine wpList_load_mid (by rfl) 38 _ (by rfl) B 0 (by rfl) (zC z (.slice a' z.lv c') wv) _ RG.out Tryz.underlying38 rfl zinfo ?_)
    | (refine wpList_store_mid (by rfl) 38 _ _ (by rfl) (B + 1) 0 (zC z (.slice a' z.lv c') wv).toArray (by rfl) (by rfl) RT.out zinfo ZO ?_; generalize w2.setCells (B + 1) 0 (zC z (.slice a' z.lv c') wv).toArray.toList = wf at *))
  have RL := run_loadVar_mid (P := Tryz.prog) wf (B + 1) 0 38 (zC z (.slice a' z.lv c') wv) _ (IsObj.range OF.out) Tryz.underlying38 rfl zinfo
  refine bodyPost_ret (v := (.tuple #[zV z (.slice a' z.lv c') wv, .bool (hasL z.lv n)])) ?_ rfl ?_
  · exact results_cell_tmp (by rfl) (by rfl) (by rfl) RL
  · have hw := HB.out
    have b2 := B1.out.trans (BO.out.below (by omega) B1.out.size)
    have b3 := b2.trans (BF.out.below (by omega) b2.size)
    have hs := HS.out
    refine ⟨_, rfl, HR.out.saw HE.out b3 HQ.out ?_ (HQ1.out.imp (fun f => f.1) fun f x hx => Nat.le_trans B0.out.size (f x hx)), b3⟩
    rcases HQ1.out with ⟨ha, hi0⟩ | hi0
    · subst ha
      rw [hi0]
      exact HI.out.same b3
    · exact (HI1.out.only BO.out (fun x hx => by have := hi0 x hx; omega)).only BF.out (fun x hx => by have := hi0 x hx; omega)
theorem RSt.wait {Q : Nat → Prop} {N : Nat} {w w' : World} {z : CSt} {sv wv : Value} {ws : List Int} {n : Int} {v' : Value} (h : RSt Q N w z sv wv) (h1 : z.s = bSum ws) (h2 : z.m = ws.length) (h3 : ws.length ≤ N) (hN : N ≤ 1000) (hb : Below w.heap.size w w') (hi : Ints w' v' (ws ++ [n])) (hq : BOk Q v') : RSt Q (N + 1) w' { z with m := bAdd z.m 1, s := bAdd z.s n, x := max z.x (cnt n) } sv v' := by
  obtain ⟨a, c, e, hi1⟩ := h.s
  refine ⟨h.l2, h.lc, ⟨a, c, e, hi1.same hb⟩, h.sq, ⟨ws ++ [n], hi, ?_, ?_, by simp; omega⟩, hq⟩
  · show bAdd z.s n = _
    rw [bSum_snoc, h1]
  · show bAdd z.m 1 = _
    rw [h2]
    unfold bAdd
    have e1 : cnt 1 = 1 := rfl
    have e2 : cnt (ws.length : Int) = ws.length := cnt_id _ (by omega) (by omega)
    rw [e1, e2]
    rw [cnt_id _ (by omega) (by omega)]
    simp
theorem own_sl {w : World} {H n : Nat} {e : TypeId} {v : Value} {xs : List Value} (h : w.ownsRow H e 1 v n xs) : ∃ a m c, v = .slice a m c := by
  rcases h.2 with ⟨rfl, _⟩ | ⟨g, cap, _, rfl, _⟩
  · exact ⟨_, _, _, rfl⟩
  · exact ⟨_, _, _, rfl⟩
theorem bok_own {Q : Nat → Prop} {w : World} {H n : Nat} {e : TypeId} {v : Value} {xs : List Value} (h : w.ownsRow H e 1 v n xs) (hQ : ∀ b, H ≤ b → Q b) : BOk Q v := by
  intro a m c e
  subst e
  exact hQ _ (h.lt a.block rfl).1
set_option maxRecDepth 100000 in
set_option maxHeartbeats 4000000 in
theorem rwaited20_any {Q : Nat → Prop} {N : Nat} (z : CSt) (sv wv : Value) (n : Int) (w : World) (hN : N ≤ 1000) (h : RSt Q N w z sv wv) (hQ : ∀ b, w.heap.size ≤ b → Q b) : Calls Tryz.prog 11 #[zV z sv wv, .int .i64 n] w fun e w' => ∃ wv', e = .returned (zV z sv wv') ∧ RSt Q (N + 1) w' { z with m := bAdd z.m 1, s := bAdd z.s n, x := max z.x (cnt n) } sv wv' ∧ Below w.heap.size w w' := by
  obtain ⟨i0, hi, hz0, hz1, hz2⟩ := info_parts info_int
  obtain ⟨ws, ⟨a, c, ew, hlc, hcm, hI⟩, hs, hm, hlN⟩ := h.w
  have HQ := Lib.hid hQ
  have HR := Lib.hid h
  have HI := Lib.hid hI
  have HE := Lib.hid ew
  have HSM := Lib.hid (And.intro hs hm)
  have so := h.so
  clear h hI ew hQ hs hm
  obtain ⟨B, hB⟩ : ∃ B, B = w.heap.size := ⟨_, rfl⟩
  have B0 := Lib.hid (show Below w.heap.size w ((w.alloc (.cells (zC z sv wv).toArray 38)).alloc (.cells #[.int .i64 0, .int .i64 0, .int .i64 0, .int .i64 0, .int .i64 0, .int .i64 0, .int .i64 0, .int .i64 0, .slice none 0 0, .slice none 0 0, .int .i64 0, .int .i64 0, .int .i64 0, .int .i64 0, .int .i64 0, .int .i64 0, .int .i64 0] 38)) from ((Below.refl _ w).alloc (Nat.le_refl _) _).alloc (by simp) _)
  have HB := Lib.hid hB
  have HS := Lib.hid (show ((w.alloc (.cells (zC z sv wv).toArray 38)).alloc (.cells #[.int .i64 0, .int .i64 0, .int .i64 0, .int .i64 0, .int .i64 0, .int .i64 0, .int .i64 0, .int .i64 0, .slice none 0 0, .slice none 0 0, .int .i64 0, .int .i64 0, .int .i64 0, .int .i64 0, .int .i64 0, .int .i64 0, .int .i64 0] 38)).heap.size = B + 2 by rw [hB]; simp)
  have O0 := Lib.hid (show IsObj ((w.alloc (.cells (zC z sv wv).toArray 38)).alloc (.cells #[.int .i64 0, .int .i64 0, .int .i64 0, .int .i64 0, .int .i64 0, .int .i64 0, .int .i64 0, .int .i64 0, .slice none 0 0, .slice none 0 0, .int .i64 0, .int .i64 0, .int .i64 0, .int .i64 0, .int .i64 0, .int .i64 0, .int .i64 0] 38)) B 38 (zC z sv wv) by rw [hB]; exact (IsObj.new w _ (zC z sv wv)).alloc _)
  have R0 := Lib.hid (show IsObj ((w.alloc (.cells (zC z sv wv).toArray 38)).alloc (.cells #[.int .i64 0, .int .i64 0, .int .i64 0, .int .i64 0, .int .i64 0, .int .i64 0, .int .i64 0, .int .i64 0, .slice none 0 0, .slice none 0 0, .int .i64 0, .int .i64 0, .int .i64 0, .int .i64 0, .int .i64 0, .int .i64 0, .int .i64 0] 38)) (B + 1) 38 [.int .i64 0, .int .i64 0, .int .i64 0, .int .i64 0, .int .i64 0, .int .i64 0, .int .i64 0, .int .i64 0, .slice none 0 0, .slice none 0 0, .int .i64 0, .int .i64 0, .int .i64 0, .int .i64 0, .int .i64 0, .int .i64 0, .int .i64 0] by
    have h := IsObj.new (w.alloc (.cells (zC z sv wv).toArray 38)) 38 [.int .i64 0, .int .i64 0, .int .i64 0, .int .i64 0, .int .i64 0, .int .i64 0, .int .i64 0, .int .i64 0, .slice none 0 0, .slice none 0 0, .int .i64 0, .int .i64 0, .int .i64 0, .int .i64 0, .int .i64 0, .int .i64 0, .int .i64 0]
    rw [World.size_alloc, ← hB] at h
    exact h)
  clear hB
  go_enter Tryz.func11, Tryz.ntmps11
  go_upto_region 1 with (fail)
  rw [← HB.out]
  generalize ((w.alloc (.cells (zC z sv wv).toArray 38)).alloc (.cells #[.int .i64 0, .int .i64 0, .int .i64 0, .int .i64 0, .int .i64 0, .int .i64 0, .int .i64 0, .int .i64 0, .slice none 0 0, .slice none 0 0, .int .i64 0, .int .i64 0, .int .i64 0, .int .i64 0, .int .i64 0, .int .i64 0, .int .i64 0] 38)) = w0 at *
  have q9 : w0.cell? ⟨B, 9, none⟩ = some (.slice a ws.length c) := by rw [← HE.out]; exact O0.out.cell 9

  have hlN2 : ws.length ≤ 1000 := by omega
  by_cases hws : ws = []
  · subst hws
    have q9' : w0.cell? ⟨B, 9, none⟩ = some (.slice a 0 c) := q9
    clear q9
    have HO1 := Lib.hid (World.ownsRow_nil w0 w0.heap.size 3 1)
    have B2 := Lib.hid (Below.refl w0.heap.size w0)
    rcases a with _ | ad
    · go_upto_region 3 with (fail)
      clear q9'
      have hsz : w0.heap.size ≤ w0.heap.size := B2.out.size
      go_upto_region 4 with (at_builtin; refine wpList_append_one (by rfl) _ _ 32 (by rfl) w0.heap.size 3 i0 (.int .i64 0) 1 8 Tryz.underlying32 hi hz0 hz1 hz2 rfl (by decide) _ _ _ _ (by rfl) HO1.out (by rfl) (by rfl) (by rfl) (by omega) (by omega) hsz ?_; intro v' w2 hown2 hb2; obtain ⟨av, mv, cv, rfl⟩ := own_sl hown2; have O2 := Lib.hid (IsObj.below (IsObj.below O0.out B2.out O0.out.lt) hb2 O0.out.lt); have R2 := Lib.hid (IsObj.below (IsObj.below R0.out B2.out R0.out.lt) hb2 R0.out.lt); have c9 : w2.cell? ⟨B, 9, none⟩ = some wv := O2.out.cell 9; have f9 := O2.out.free 9; have B3 := Lib.hid (B2.out.trans hb2); have HW := Lib.hid hown2; clear hown2 hb2)
      have O3 := Lib.hid (show IsObj (w2.setCell ⟨B, 9, none⟩ (.slice av mv cv)) B 38 (zC z sv (.slice av mv cv)) from O2.out.set 9 (.slice av mv cv))
      have R3 := Lib.hid (show IsObj (w2.setCell ⟨B, 9, none⟩ (.slice av mv cv)) (B + 1) 38 [.int .i64 0, .int .i64 0, .int .i64 0, .int .i64 0, .int .i64 0, .int .i64 0, .int .i64 0, .int .i64 0, .slice none 0 0, .slice none 0 0, .int .i64 0, .int .i64 0, .int .i64 0, .int .i64 0, .int .i64 0, .int .i64 0, .int .i64 0] from R2.out.setOther ⟨B, 9, none⟩ _ (by simp))
      have BO := Lib.hid (show Only B w2 (w2.setCell ⟨B, 9, none⟩ (.slice av mv cv)) from (Only.refl B w2).setCell (p := ⟨B, 9, none⟩) (.inl rfl) _)
      clear c9 f9
      generalize (w2.setCell ⟨B, 9, none⟩ (.slice av mv cv)) = w3 at *
      have HI2 := Lib.hid (show Ints w2 (.slice av mv cv) ([] ++ [n]) from ints_of_own (by simpa using HW.out))
      have RG := Lib.hid (IsObj.range O3.out)
      have RT := Lib.hid (show w3.there (B + 1) 0 (zC z sv (.slice av mv cv)).toArray.size from IsObj.there R3.out 0 17 (by simp))
      have OF := Lib.hid (show IsObj (w3.setCells (B + 1) 0 (zC z sv (.slice av mv cv)).toArray.toList) (B + 1) 38 (zC z sv (.slice av mv cv)) from IsObj.setAll R3.out (by rfl))
      have BF := Lib.hid (show Only (B + 1) w3 (w3.setCells (B + 1) 0 (zC z sv (.slice av mv cv)).toArray.toList) from Only.setCells (b := (B + 1)) (zC z sv (.slice av mv cv)) 0 (Only.refl (B + 1) w3))
      have ZO : (zC z sv (.slice av mv cv)).toArray.all (·.oneCell') = true := zC_one so rfl
      go_wp2_with (first
        | (refine wpList_load_mid (by rfl) 38 _ (by rfl) B 0 (by rfl) (zC z sv (.slice av mv cv)) _ RG.out Tryz.underlying38 rfl zinfo ?_)
        | (refine wpList_store_mid (by rfl) 38 _ _ (by rfl) (B + 1) 0 (zC z sv (.slice av mv cv)).toArray (by rfl) (by rfl) RT.out zinfo ZO ?_; generalize w3.setCells (B + 1) 0 (zC z sv (.slice av mv cv)).toArray.toList = wf at *))
      have RL := run_loadVar_mid (P := Tryz.prog) wf (B + 1) 0 38 (zC z sv (.slice av mv cv)) _ (IsObj.range OF.out) Tryz.underlying38 rfl zinfo
      refine bodyPost_ret (v := zV z sv (.slice av mv cv)) ?_ rfl ?_
      · exact results_cell (by rfl) (by rfl) RL
      · have hs := HS.out
        have hw := HB.out
        have b2 := B0.out.trans (B3.out.mono B0.out.size)
        have b3 := b2.trans (BO.out.below (by omega) b2.size)
        have b4 := b3.trans (BF.out.below (by omega) b3.size)
        obtain ⟨a3, c3, e3, l3, m3, i3⟩ := HI2.out
        have hq3 : ∀ x, a3 = some x → w0.heap.size ≤ x.block := by
          intro x hx
          have h5 := HW.out
          rw [e3, hx] at h5
          exact (h5.lt x.block rfl).1
        refine ⟨(.slice av mv cv), rfl, HR.out.wait HSM.out.1 HSM.out.2 hlN hN b4 ⟨a3, c3, e3, l3, m3, (i3.only BO.out (fun x hx => by have := hq3 x hx; omega)).only BF.out (fun x hx => by have := hq3 x hx; omega)⟩ ?_, b4⟩
        intro x n1 c1 e1
        rw [e3] at e1
        cases e1
        exact HQ.out _ (by have := hq3 x rfl; omega)
    · go_upto_region 3 with (fail)
      clear q9'
      have hsz : w0.heap.size ≤ w0.heap.size := B2.out.size
      go_upto_region 4 with (at_builtin; refine wpList_append_one (by rfl) _ _ 32 (by rfl) w0.heap.size 3 i0 (.int .i64 0) 1 8 Tryz.underlying32 hi hz0 hz1 hz2 rfl (by decide) _ _ _ _ (by rfl) HO1.out (by rfl) (by rfl) (by rfl) (by omega) (by omega) hsz ?_; intro v' w2 hown2 hb2; obtain ⟨av, mv, cv, rfl⟩ := own_sl hown2; have O2 := Lib.hid (IsObj.below (IsObj.below O0.out B2.out O0.out.lt) hb2 O0.out.lt); have R2 := Lib.hid (IsObj.below (IsObj.below R0.out B2.out R0.out.lt) hb2 R0.out.lt); have c9 : w2.cell? ⟨B, 9, none⟩ = some wv := O2.out.cell 9; have f9 := O2.out.free 9; have B3 := Lib.hid (B2.out.trans hb2); have HW := Lib.hid hown2; clear hown2 hb2)
      have O3 := Lib.hid (show IsObj (w2.setCell ⟨B, 9, none⟩ (.slice av mv cv)) B 38 (zC z sv (.slice av mv cv)) from O2.out.set 9 (.slice av mv cv))
      have R3 := Lib.hid (show IsObj (w2.setCell ⟨B, 9, none⟩ (.slice av mv cv)) (B + 1) 38 [.int .i64 0, .int .i64 0, .int .i64 0, .int .i64 0, .int .i64 0, .int .i64 0, .int .i64 0, .int .i64 0, .slice none 0 0, .slice none 0 0, .int .i64 0, .int .i64 0, .int .i64 0, .int .i64 0, .int .i64 0, .int .i64 0, .int .i64 0] from R2.out.setOther ⟨B, 9, none⟩ _ (by simp))
      have BO := Lib.hid (show Only B w2 (w2.setCell ⟨B, 9, none⟩ (.slice av mv cv)) from (Only.refl B w2).setCell (p := ⟨B, 9, none⟩) (.inl rfl) _)
      clear c9 f9
      generalize (w2.setCell ⟨B, 9, none⟩ (.slice av mv cv)) = w3 at *
      have HI2 := Lib.hid (show Ints w2 (.slice av mv cv) ([] ++ [n]) from ints_of_own (by simpa using HW.out))
      have RG := Lib.hid (IsObj.range O3.out)
      have RT := Lib.hid (show w3.there (B + 1) 0 (zC z sv (.slice av mv cv)).toArray.size from IsObj.there R3.out 0 17 (by simp))
      have OF := Lib.hid (show IsObj (w3.setCells (B + 1) 0 (zC z sv (.slice av mv cv)).toArray.toList) (B + 1) 38 (zC z sv (.slice av mv cv)) from IsObj.setAll R3.out (by rfl))
      have BF := Lib.hid (show Only (B + 1) w3 (w3.setCells (B + 1) 0 (zC z sv (.slice av mv cv)).toArray.toList) from Only.setCells (b := (B + 1)) (zC z sv (.slice av mv cv)) 0 (Only.refl (B + 1) w3))
      have ZO : (zC z sv (.slice av mv cv)).toArray.all (·.oneCell') = true := zC_one so rfl
      go_wp2_with (first
        | (refine wpList_load_mid (by rfl) 38 _ (by rfl) B 0 (by rfl) (zC z sv (.slice av mv cv)) _ RG.out Tryz.underlying38 rfl zinfo ?_)
        | (refine wpList_store_mid (by rfl) 38 _ _ (by rfl) (B + 1) 0 (zC z sv (.slice av mv cv)).toArray (by rfl) (by rfl) RT.out zinfo ZO ?_; generalize w3.setCells (B + 1) 0 (zC z sv (.slice av mv cv)).toArray.toList = wf at *))
      have RL := run_loadVar_mid (P := Tryz.prog) wf (B + 1) 0 38 (zC z sv (.slice av mv cv)) _ (IsObj.range OF.out) Tryz.underlying38 rfl zinfo
      refine bodyPost_ret (v := zV z sv (.slice av mv cv)) ?_ rfl ?_
      · exact results_cell (by rfl) (by rfl) RL
      · have hs := HS.out
        have hw := HB.out
        have b2 := B0.out.trans (B3.out.mono B0.out.size)
        have b3 := b2.trans (BO.out.below (by omega) b2.size)
        have b4 := b3.trans (BF.out.below (by omega) b3.size)
        obtain ⟨a3, c3, e3, l3, m3, i3⟩ := HI2.out
        have hq3 : ∀ x, a3 = some x → w0.heap.size ≤ x.block := by
          intro x hx
          have h5 := HW.out
          rw [e3, hx] at h5
          exact (h5.lt x.block rfl).1
        refine ⟨(.slice av mv cv), rfl, HR.out.wait HSM.out.1 HSM.out.2 hlN hN b4 ⟨a3, c3, e3, l3, m3, (i3.only BO.out (fun x hx => by have := hq3 x hx; omega)).only BF.out (fun x hx => by have := hq3 x hx; omega)⟩ ?_, b4⟩
        intro x n1 c1 e1
        rw [e3] at e1
        cases e1
        exact HQ.out _ (by have := hq3 x rfl; omega)
  · have hlt : 0 < ws.length := List.length_pos_iff.2 hws
    obtain ⟨b, off, rfl, hc⟩ : ∃ b off, a = some ⟨b, off, none⟩ ∧ ∀ i, i < ws.length → w0.cell? ⟨b, off + i, none⟩ = some (.int .i64 (nth ws i)) := by
      rcases HI.out.same B0.out with h | ⟨b, off, rfl, hc⟩
      · exact absurd h hws
      · exact ⟨b, off, rfl, hc⟩
    have HN := Lib.hid (show ∀ j u, (ws.map (Value.int .i64))[j]? = some u → w0.cell? ((⟨b, off, none⟩ : Addr).add j) = some u by
      intro j u hu
      have hj : j < ws.length := by
        have := (List.getElem?_eq_some_iff.1 hu).1
        simpa using this
      rw [addr_add, hc j hj]
      rw [List.getElem?_map, List.getElem?_eq_getElem hj] at hu
      rw [nth_lt ws j hj]
      simpa using hu)
    have HO := Lib.hid (show ∀ u ∈ ws.map (Value.int .i64), u.oneCell' = true by
      intro u hu
      obtain ⟨x, _, rfl⟩ := List.mem_map.1 hu
      rfl)
    clear hc
    go_upto_region 3 with (at_builtin; refine wpList_append_lies _ (by rfl) _ _ 32 (by rfl) w0.heap.size 3 i0 (.int .i64 0) 1 8 Tryz.underlying32 hi hz0 hz1 hz2 rfl (by decide) _ 0 [] (by rfl) (World.ownsRow_nil w0 _ _ _) ⟨b, off, none⟩ ws.length _ _ (by rfl) (by simp) HN.out HO.out (by omega) (by unfold maxLen; omega) (by omega) (Nat.le_refl _) w0.heap.size rfl ?_; intro g cap w1 hown1 hg1 hat hglt; rw [Nat.zero_add, List.nil_append] at hown1; have HO1 := Lib.hid hown1; have B2 := Lib.hid (show Below w0.heap.size w0 w1 from Below.grown (Below.refl _ _) hg1 (Nat.le_refl _) (by intro q hq; simp [Value.ownBlock] at hq)); clear hown1 hg1 hat hglt q9)
    have hsz : w0.heap.size ≤ w1.heap.size := B2.out.size
    go_upto_region 4 with (at_builtin; refine wpList_append_one (by rfl) _ _ 32 (by rfl) w0.heap.size 3 i0 (.int .i64 0) 1 8 Tryz.underlying32 hi hz0 hz1 hz2 rfl (by decide) _ _ _ _ (by rfl) HO1.out (by rfl) (by rfl) (by rfl) (by omega) (by omega) hsz ?_; intro v' w2 hown2 hb2; obtain ⟨av, mv, cv, rfl⟩ := own_sl hown2; have O2 := Lib.hid (IsObj.below (IsObj.below O0.out B2.out O0.out.lt) hb2 O0.out.lt); have R2 := Lib.hid (IsObj.below (IsObj.below R0.out B2.out R0.out.lt) hb2 R0.out.lt); have c9 : w2.cell? ⟨B, 9, none⟩ = some wv := O2.out.cell 9; have f9 := O2.out.free 9; have B3 := Lib.hid (B2.out.trans hb2); have HW := Lib.hid hown2; clear hown2 hb2)
    have O3 := Lib.hid (show IsObj (w2.setCell ⟨B, 9, none⟩ (.slice av mv cv)) B 38 (zC z sv (.slice av mv cv)) from O2.out.set 9 (.slice av mv cv))
    have R3 := Lib.hid (show IsObj (w2.setCell ⟨B, 9, none⟩ (.slice av mv cv)) (B + 1) 38 [.int .i64 0, .int .i64 0, .int .i64 0, .int .i64 0, .int .i64 0, .int .i64 0, .int .i64 0, .int .i64 0, .slice none 0 0, .slice none 0 0, .int .i64 0, .int .i64 0, .int .i64 0, .int .i64 0, .int .i64 0, .int .i64 0, .int .i64 0] from R2.out.setOther ⟨B, 9, none⟩ _ (by simp))
    have BO := Lib.hid (show Only B w2 (w2.setCell ⟨B, 9, none⟩ (.slice av mv cv)) from (Only.refl B w2).setCell (p := ⟨B, 9, none⟩) (.inl rfl) _)
    clear c9 f9
    generalize (w2.setCell ⟨B, 9, none⟩ (.slice av mv cv)) = w3 at *
    have HI2 := Lib.hid (show Ints w2 (.slice av mv cv) (ws ++ [n]) from ints_of_own (by simpa using HW.out))
    have RG := Lib.hid (IsObj.range O3.out)
    have RT := Lib.hid (show w3.there (B + 1) 0 (zC z sv (.slice av mv cv)).toArray.size from IsObj.there R3.out 0 17 (by simp))
    have OF := Lib.hid (show IsObj (w3.setCells (B + 1) 0 (zC z sv (.slice av mv cv)).toArray.toList) (B + 1) 38 (zC z sv (.slice av mv cv)) from IsObj.setAll R3.out (by rfl))
    have BF := Lib.hid (show Only (B + 1) w3 (w3.setCells (B + 1) 0 (zC z sv (.slice av mv cv)).toArray.toList) from Only.setCells (b := (B + 1)) (zC z sv (.slice av mv cv)) 0 (Only.refl (B + 1) w3))
    have ZO : (zC z sv (.slice av mv cv)).toArray.all (·.oneCell') = true := zC_one so rfl
    go_wp2_with (first
      | (refine wpList_load_mid (by rfl) 38 _ (by rfl) B 0 (by rfl) (zC z sv (.slice av mv cv)) _ RG.out Tryz.underlying38 rfl zinfo ?_)
      | (refine wpList_store_mid (by rfl) 38 _ _ (by rfl) (B + 1) 0 (zC z sv (.slice av mv cv)).toArray (by rfl) (by rfl) RT.out zinfo ZO ?_; generalize w3.setCells (B + 1) 0 (zC z sv (.slice av mv cv)).toArray.toList = wf at *))
    have RL := run_loadVar_mid (P := Tryz.prog) wf (B + 1) 0 38 (zC z sv (.slice av mv cv)) _ (IsObj.range OF.out) Tryz.underlying38 rfl zinfo
    refine bodyPost_ret (v := zV z sv (.slice av mv cv)) ?_ rfl ?_
    · exact results_cell (by rfl) (by rfl) RL
    · have hs := HS.out
      have hw := HB.out
      have b2 := B0.out.trans (B3.out.mono B0.out.size)
      have b3 := b2.trans (BO.out.below (by omega) b2.size)
      have b4 := b3.trans (BF.out.below (by omega) b3.size)
      obtain ⟨a3, c3, e3, l3, m3, i3⟩ := HI2.out
      have hq3 : ∀ x, a3 = some x → w0.heap.size ≤ x.block := by
        intro x hx
        have h5 := HW.out
        rw [e3, hx] at h5
        exact (h5.lt x.block rfl).1
      refine ⟨(.slice av mv cv), rfl, HR.out.wait HSM.out.1 HSM.out.2 hlN hN b4 ⟨a3, c3, e3, l3, m3, (i3.only BO.out (fun x hx => by have := hq3 x hx; omega)).only BF.out (fun x hx => by have := hq3 x hx; omega)⟩ ?_, b4⟩
      intro x n1 c1 e1
      rw [e3] at e1
      cases e1
      exact HQ.out _ (by have := hq3 x rfl; omega)
theorem RSt.weak {Q Q2 : Nat → Prop} {N : Nat} {w : World} {z : CSt} {sv wv : Value} (h : RSt Q2 N w z sv wv) (hq : ∀ k, Q2 k → Q k) : RSt Q N w z sv wv :=
  ⟨h.l2, h.lc, h.s, fun a n c e => hq _ (h.sq a n c e), h.w, fun a n c e => hq _ (h.wq a n c e)⟩
def tV (a b : Int) : List Value := [.int .i64 a, .int .i64 b]
def dV (a b c : Int) : List Value := [.int .i64 a, .int .i64 b, .int .i64 c]
set_option maxRecDepth 100000 in
set_option maxHeartbeats 4000000 in
theorem rrestart20_any {Q : Nat → Prop} {N : Nat} (z : CSt) (sv wv : Value) (w : World) (ok : COk z) (so : sv.oneCell' = true) (wo : wv.oneCell' = true) (hQ : ∀ b, w.heap.size ≤ b → Q b) : Calls Tryz.prog 17 #[zV z sv wv] w fun e w' => ∃ sv', e = .returned (zV (restSt z) sv' (.slice none 0 0)) ∧ RSt Q N w' (restSt z) sv' (.slice none 0 0) ∧ Below w.heap.size w w' := by
  have e0 := ok.e0
  have e1 := ok.e1
  have l2 := ok.l2
  have HQ := Lib.hid hQ
  clear hQ ok
  obtain ⟨B, hB⟩ : ∃ B, B = w.heap.size := ⟨_, rfl⟩
  have B0 := Lib.hid (show Below w.heap.size w ((w.alloc (.cells (zC z sv wv).toArray 38)).alloc (.cells #[.int .i64 0, .int .i64 0, .int .i64 0, .int .i64 0, .int .i64 0, .int .i64 0, .int .i64 0, .int .i64 0, .slice none 0 0, .slice none 0 0, .int .i64 0, .int .i64 0, .int .i64 0, .int .i64 0, .int .i64 0, .int .i64 0, .int .i64 0] 38)) from ((Below.refl _ w).alloc (Nat.le_refl _) _).alloc (by simp) _)
  have HB := Lib.hid hB
  have HS := Lib.hid (show ((w.alloc (.cells (zC z sv wv).toArray 38)).alloc (.cells #[.int .i64 0, .int .i64 0, .int .i64 0, .int .i64 0, .int .i64 0, .int .i64 0, .int .i64 0, .int .i64 0, .slice none 0 0, .slice none 0 0, .int .i64 0, .int .i64 0, .int .i64 0, .int .i64 0, .int .i64 0, .int .i64 0, .int .i64 0] 38)).heap.size = B + 2 by rw [hB]; simp)
  have O0 := Lib.hid (show IsObj ((w.alloc (.cells (zC z sv wv).toArray 38)).alloc (.cells #[.int .i64 0, .int .i64 0, .int .i64 0, .int .i64 0, .int .i64 0, .int .i64 0, .int .i64 0, .int .i64 0, .slice none 0 0, .slice none 0 0, .int .i64 0, .int .i64 0, .int .i64 0, .int .i64 0, .int .i64 0, .int .i64 0, .int .i64 0] 38)) B 38 (zC z sv wv) by rw [hB]; exact (IsObj.new w _ (zC z sv wv)).alloc _)
  have R0 := Lib.hid (show IsObj ((w.alloc (.cells (zC z sv wv).toArray 38)).alloc (.cells #[.int .i64 0, .int .i64 0, .int .i64 0, .int .i64 0, .int .i64 0, .int .i64 0, .int .i64 0, .int .i64 0, .slice none 0 0, .slice none 0 0, .int .i64 0, .int .i64 0, .int .i64 0, .int .i64 0, .int .i64 0, .int .i64 0, .int .i64 0] 38)) (B + 1) 38 [.int .i64 0, .int .i64 0, .int .i64 0, .int .i64 0, .int .i64 0, .int .i64 0, .int .i64 0, .int .i64 0, .slice none 0 0, .slice none 0 0, .int .i64 0, .int .i64 0, .int .i64 0, .int .i64 0, .int .i64 0, .int .i64 0, .int .i64 0] by
    have h := IsObj.new (w.alloc (.cells (zC z sv wv).toArray 38)) 38 [.int .i64 0, .int .i64 0, .int .i64 0, .int .i64 0, .int .i64 0, .int .i64 0, .int .i64 0, .int .i64 0, .slice none 0 0, .slice none 0 0, .int .i64 0, .int .i64 0, .int .i64 0, .int .i64 0, .int .i64 0, .int .i64 0, .int .i64 0]
    rw [World.size_alloc, ← hB] at h
    exact h)
  clear hB
  go_enter Tryz.func17, Tryz.ntmps17
  go_upto_region 1 with (fail)
  rw [← HB.out]
  generalize ((w.alloc (.cells (zC z sv wv).toArray 38)).alloc (.cells #[.int .i64 0, .int .i64 0, .int .i64 0, .int .i64 0, .int .i64 0, .int .i64 0, .int .i64 0, .int .i64 0, .slice none 0 0, .slice none 0 0, .int .i64 0, .int .i64 0, .int .i64 0, .int .i64 0, .int .i64 0, .int .i64 0, .int .i64 0] 38)) = w0 at *
  have q0 : w0.cell? ⟨B, 0, none⟩ = some (.int .i64 z.lv) := O0.out.cell 0
  have q15 : w0.cell? ⟨B, 15, none⟩ = some (.int .i64 z.th) := O0.out.cell 15
  have f15 := O0.out.free 15
  have O1 := Lib.hid (show IsObj (w0.setCell ⟨B, 15, none⟩ (.int .i64 z.lv)) B 38 (zC { z with th := z.lv } sv wv) from O0.out.set 15 (.int .i64 z.lv))
  have R1 := Lib.hid (show IsObj (w0.setCell ⟨B, 15, none⟩ (.int .i64 z.lv)) (B + 1) 38 [.int .i64 0, .int .i64 0, .int .i64 0, .int .i64 0, .int .i64 0, .int .i64 0, .int .i64 0, .int .i64 0, .slice none 0 0, .slice none 0 0, .int .i64 0, .int .i64 0, .int .i64 0, .int .i64 0, .int .i64 0, .int .i64 0, .int .i64 0] from R0.out.setOther ⟨B, 15, none⟩ _ (by simp))
  have A1 := Lib.hid (show Only B w0 (w0.setCell ⟨B, 15, none⟩ (.int .i64 z.lv)) from (Only.refl B w0).setCell (p := ⟨B, 15, none⟩) (.inl rfl) _)
  go_upto_region 2 with (fail)
  clear q0 q15 f15
  generalize (w0.setCell ⟨B, 15, none⟩ (.int .i64 z.lv)) = w1 at *
  have q16 : w1.cell? ⟨B, 16, none⟩ = some (.int .i64 z.ep) := O1.out.cell 16
  have f16 := O1.out.free 16
  have O2 := Lib.hid (show IsObj (w1.setCell ⟨B, 16, none⟩ (.int .i64 (laterE z.ep))) B 38 (zC { z with th := z.lv, ep := laterE z.ep } sv wv) from O1.out.set 16 (.int .i64 (laterE z.ep)))
  have R2 := Lib.hid (show IsObj (w1.setCell ⟨B, 16, none⟩ (.int .i64 (laterE z.ep))) (B + 1) 38 [.int .i64 0, .int .i64 0, .int .i64 0, .int .i64 0, .int .i64 0, .int .i64 0, .int .i64 0, .int .i64 0, .slice none 0 0, .slice none 0 0, .int .i64 0, .int .i64 0, .int .i64 0, .int .i64 0, .int .i64 0, .int .i64 0, .int .i64 0] from R1.out.setOther ⟨B, 16, none⟩ _ (by simp))
  have A2 := Lib.hid (show Only B w1 (w1.setCell ⟨B, 16, none⟩ (.int .i64 (laterE z.ep))) from (Only.refl B w1).setCell (p := ⟨B, 16, none⟩) (.inl rfl) _)
  go_upto_region 3 with (go_at_call 43; (with_reducible refine (rlater20_any z.ep w1 (by omega) e1).mono ?_); rintro e w' ⟨rfl, rfl⟩)
  clear q16 f16
  generalize (w1.setCell ⟨B, 16, none⟩ (.int .i64 (laterE z.ep))) = w2 at *
  have O3 := Lib.hid (show IsObj (w2.setCells B 10 (tV 0 0).toArray.toList) B 38 (zC { z with th := z.lv, ep := laterE z.ep, way := 0, held := 0 } sv wv) from IsObj.setCells (tV 0 0) 10 O2.out (show 10 + 2 ≤ 17 by decide))
  have R3 := Lib.hid (show IsObj (w2.setCells B 10 (tV 0 0).toArray.toList) (B + 1) 38 [.int .i64 0, .int .i64 0, .int .i64 0, .int .i64 0, .int .i64 0, .int .i64 0, .int .i64 0, .int .i64 0, .slice none 0 0, .slice none 0 0, .int .i64 0, .int .i64 0, .int .i64 0, .int .i64 0, .int .i64 0, .int .i64 0, .int .i64 0] from IsObj.only R2.out (Only.setCells (b := B) (tV 0 0) 10 (Only.refl B w2)) (by omega))
  have A3 := Lib.hid (show Only B w2 (w2.setCells B 10 (tV 0 0).toArray.toList) from Only.setCells (b := B) (tV 0 0) 10 (Only.refl B w2))
  have T2 := Lib.hid (show w2.there B 10 (tV 0 0).toArray.size from IsObj.there O2.out 10 2 (show 10 + 2 ≤ 17 by decide))
  go_upto_region 4 with (refine wpList_store_mid (by rfl) 34 _ _ (by rfl) B 10 (tV 0 0).toArray (by rfl) (by rfl) T2.out (by kernel_rfl) (by kernel_rfl) ?_; generalize w2.setCells B 10 (tV 0 0).toArray.toList = w3 at *)
  have q12 : w3.cell? ⟨B, 12, none⟩ = some (.int .i64 z.tr) := O3.out.cell 12
  go_upto_region 5 with (fail)
  refine (rdNew_any z.tr w3).mono ?_
  rintro e w4 ⟨rfl, hb4⟩
  have O4 := Lib.hid (IsObj.below O3.out hb4 O3.out.lt)
  have R4 := Lib.hid (IsObj.below R3.out hb4 R3.out.lt)
  have A4 := Lib.hid hb4
  clear q12 hb4
  have O5 := Lib.hid (show IsObj (w4.setCells B 12 (dV z.tr z.tr 32).toArray.toList) B 38 (zC { z with th := z.lv, ep := laterE z.ep, way := 0, held := 0, ti := z.tr, dh := 32 } sv wv) from IsObj.setCells (dV z.tr z.tr 32) 12 O4.out (show 12 + 3 ≤ 17 by decide))
  have R5 := Lib.hid (show IsObj (w4.setCells B 12 (dV z.tr z.tr 32).toArray.toList) (B + 1) 38 [.int .i64 0, .int .i64 0, .int .i64 0, .int .i64 0, .int .i64 0, .int .i64 0, .int .i64 0, .int .i64 0, .slice none 0 0, .slice none 0 0, .int .i64 0, .int .i64 0, .int .i64 0, .int .i64 0, .int .i64 0, .int .i64 0, .int .i64 0] from IsObj.only R4.out (Only.setCells (b := B) (dV z.tr z.tr 32) 12 (Only.refl B w4)) (by omega))
  have A5 := Lib.hid (show Only B w4 (w4.setCells B 12 (dV z.tr z.tr 32).toArray.toList) from Only.setCells (b := B) (dV z.tr z.tr 32) 12 (Only.refl B w4))
  have T4 := Lib.hid (show w4.there B 12 (dV z.tr z.tr 32).toArray.size from IsObj.there O4.out 12 3 (show 12 + 3 ≤ 17 by decide))
  go_upto_region 5 with (refine wpList_store_mid (by rfl) 36 _ _ (by rfl) B 12 (dV z.tr z.tr 32).toArray (by rfl) (by rfl) T4.out (by kernel_rfl) (by kernel_rfl) ?_; generalize w4.setCells B 12 (dV z.tr z.tr 32).toArray.toList = w5 at *)
  have RG := Lib.hid (IsObj.range O5.out)
  go_wp2_with (refine wpList_load_mid (by rfl) 38 _ (by rfl) B 0 (by rfl) (zC { z with th := z.lv, ep := laterE z.ep, way := 0, held := 0, ti := z.tr, dh := 32 } sv wv) _ RG.out Tryz.underlying38 rfl zinfo ?_)
  refine (rfresh20_any (Q := fun k => Q k ∧ B + 1 < k) (N := N) { z with th := z.lv, ep := laterE z.ep, way := 0, held := 0, ti := z.tr, dh := 32 } sv wv w5 l2 (fun b hb => ?_)).mono ?_
  · have h5 := R5.out.lt
    have hs := HB.out
    exact ⟨HQ.out b (by omega), by omega⟩
  rintro e w6 ⟨sv', rfl, h6, hb6⟩
  have R6 := Lib.hid (IsObj.below R5.out hb6 R5.out.lt)
  have H6 := Lib.hid (show RSt (fun k => Q k ∧ B + 1 < k) N w6 (restSt z) sv' (.slice none 0 0) from h6)
  have B6 := Lib.hid hb6
  have so6 := h6.so
  clear h6 hb6
  have RT := Lib.hid (show w6.there (B + 1) 0 (zC (restSt z) sv' (.slice none 0 0)).toArray.size from IsObj.there R6.out 0 17 (by simp))
  have OF := Lib.hid (show IsObj (w6.setCells (B + 1) 0 (zC (restSt z) sv' (.slice none 0 0)).toArray.toList) (B + 1) 38 (zC (restSt z) sv' (.slice none 0 0)) from IsObj.setAll R6.out (by rfl))
  have BF := Lib.hid (show Only (B + 1) w6 (w6.setCells (B + 1) 0 (zC (restSt z) sv' (.slice none 0 0)).toArray.toList) from Only.setCells (b := (B + 1)) (zC (restSt z) sv' (.slice none 0 0)) 0 (Only.refl (B + 1) w6))
  have ZO : (zC (restSt z) sv' (.slice none 0 0)).toArray.all (·.oneCell') = true := zC_one so6 rfl
  go_wp2_with (first
    | (refine wpList_store_mid (by rfl) 38 _ _ (by rfl) (B + 1) 0 (zC (restSt z) sv' (.slice none 0 0)).toArray (by rfl) (by rfl) RT.out zinfo ZO ?_; generalize w6.setCells (B + 1) 0 (zC (restSt z) sv' (.slice none 0 0)).toArray.toList = wf at *))
  have RL := run_loadVar_mid (P := Tryz.prog) wf (B + 1) 0 38 (zC (restSt z) sv' (.slice none 0 0)) _ (IsObj.range OF.out) Tryz.underlying38 rfl zinfo
  refine bodyPost_ret (v := zV (restSt z) sv' (.slice none 0 0)) ?_ rfl ?_
  · exact results_cell (by rfl) (by rfl) RL
  · have hw := HB.out
    have b1 := B0.out.trans (A1.out.below (by omega) B0.out.size)
    have b2 := b1.trans (A2.out.below (by omega) b1.size)
    have b3 := b2.trans (A3.out.below (by omega) b2.size)
    have b4 := b3.trans (A4.out.mono b3.size)
    have b5 := b4.trans (A5.out.below (by omega) b4.size)
    have b6 := b5.trans (B6.out.mono b5.size)
    have b7 := b6.trans (BF.out.below (by omega) b6.size)
    exact ⟨sv', rfl, (H6.out.only BF.out (fun k hk => by have := hk.2; omega)).weak (fun k hk => hk.1), b7⟩
end Go.Proofs.YtagfbnfbiadpfaaGreat
