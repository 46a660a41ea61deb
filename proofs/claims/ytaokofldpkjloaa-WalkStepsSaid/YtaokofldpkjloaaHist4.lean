/-
  hist.Hist: the first threshold that is as asked for; Most, Least.
-/
import Derived.Test.YtaokofldpkjloaaHist3
namespace Go.Proofs.Ytaokofldpkjloaa
open Go.RowKit Go.Shelf
set_option linter.unusedVariables false
set_option linter.unusedSimpArgs false
attribute [local go_sem] Oper.semAt_some

/-- The first threshold of which the sum below is as asked for. -/
def firstH (lv : Nat) (c : List Int) (q : Int → Bool) : Option Nat := (List.range (lv + 1)).find? fun t => q (sumH lv c t)
theorem first_none' (lv : Nat) (c : List Int) (q : Int → Bool) (h : ∀ p ∈ upto (sumAt lv c) (lv + 1), q p.2 = false) : firstH lv c q = none := by
  unfold firstH
  rw [List.find?_eq_none]
  intro t ht
  have := h _ (mem_upto lv c t (lv + 1) (List.mem_range.1 ht))
  have h2 : q (sumH lv c t) = false := this
  simp [h2]
theorem first_some' (lv : Nat) (c : List Int) (q : Int → Bool) (k : Nat) (hk : k ≤ lv + 1) (pre : List (Int × Int)) (x : Int × Int) (he : upto (sumAt lv c) k = pre ++ [x]) (hx : q x.2 = true) (h : ∀ p ∈ pre, q p.2 = false) : ∃ t : Nat, firstH lv c q = some t ∧ x.1 = t := by
  cases k with
  | zero => simp [upto] at he
  | succ k =>
    rw [upto_succ] at he
    obtain ⟨rfl, e2⟩ := List.append_inj' he rfl
    have e3 : sumAt lv c k = x := by simpa using e2
    subst e3
    refine ⟨k, ?_, rfl⟩
    unfold firstH
    rw [List.find?_eq_some_iff_getElem]
    refine ⟨hx, k, by rw [List.length_range]; omega, List.getElem_range .., fun j hj => ?_⟩
    rw [List.getElem_range]
    have h2 : q (sumH lv c j) = false := h _ (mem_upto lv c j k hj)
    simp [h2]
theorem IsObj.newAt' {n : Nat} (w : World) (ty : TypeId) (cs : List Value) (h : n = w.heap.size) : IsObj (w.alloc (.cells cs.toArray ty)) n ty cs := by
  subst h
  exact IsObj.new w ty cs
def firstV : Option Nat → Value
  | some t => .tuple #[.int .i64 t, .bool true]
  | none => .tuple #[.int .i64 0, .bool false]

set_option maxRecDepth 100000 in
set_option maxHeartbeats 2000000 in
theorem first_in (fq Bq : Nat) (vq : Value) (q : Int → Bool) (efq : ∀ args w, (callFunc fq args).run Try.prog w = .ok (.enter fq args) w)
    (hq : ∀ (s : Int) (W : World), W.cell? ⟨Bq, 0, none⟩ = some vq → Calls Try.prog fq #[.int .i64 s, .pointer (some ⟨Bq, 0, none⟩)] W fun e w' => e = .returned (.bool (q s)) ∧ W = w')
    (b lv : Nat) (c : List Int) (w : World) (h : HistAt w b lv c) (hBq : w.cell? ⟨Bq, 0, none⟩ = some vq) :
    CallsIn Fence.wide 6 Try.prog 34 #[.pointer (some ⟨b, 0, none⟩), .func (.func fq) #[] #[.pointer (some ⟨Bq, 0, none⟩)]] w fun e W' => e = .returned (firstV (firstH lv c q)) ∧ Below w.heap.size w W' := by
  have hbw := h.o.lt
  have hqw := cell_lt hBq
  refine callsIn_of_wp_marks Try.func34 rfl trivial ?_ rfl
  simp only [Try.ntmps34, List.size_toArray, List.length_cons, List.length_nil, Nat.reduceAdd, Nat.reduceSub, Array.replicate_succ, Array.replicate_zero, List.push_toArray, List.append_toArray, List.nil_append, List.cons_append]
  gi_wp2_with (refine ⟨trivial, ?_⟩; gi_at_call 36; refine (callsIn_wide.2 (sums_any _ _)).mono ?_; rintro e w' ⟨rfl, rfl⟩)
  obtain ⟨H, hH⟩ : ∃ H, H = w.heap.size := ⟨_, rfl⟩
  have bA : IsObj ((((w.alloc (.cells #[.func (.func fq) #[] #[.pointer (some ⟨Bq, 0, none⟩)]] 36)).alloc (.cells #[.int .i64 0] 3)).alloc (.cells #[.bool false] 4)).alloc (.cells #[.pointer (some ⟨b, 0, none⟩)] 25)) H 36 [.func (.func fq) #[] #[.pointer (some ⟨Bq, 0, none⟩)]] := by
    rw [hH]; exact (((IsObj.new w 36 [.func (.func fq) #[] #[.pointer (some ⟨Bq, 0, none⟩)]]).alloc _).alloc _).alloc _
  have bR : IsObj ((((w.alloc (.cells #[.func (.func fq) #[] #[.pointer (some ⟨Bq, 0, none⟩)]] 36)).alloc (.cells #[.int .i64 0] 3)).alloc (.cells #[.bool false] 4)).alloc (.cells #[.pointer (some ⟨b, 0, none⟩)] 25)) (H + 1) 3 [.int .i64 0] := by
    refine ((IsObj.newAt' _ 3 [.int .i64 0] ?_).alloc _).alloc _
    simp [hH]
  have bO : IsObj ((((w.alloc (.cells #[.func (.func fq) #[] #[.pointer (some ⟨Bq, 0, none⟩)]] 36)).alloc (.cells #[.int .i64 0] 3)).alloc (.cells #[.bool false] 4)).alloc (.cells #[.pointer (some ⟨b, 0, none⟩)] 25)) (H + 1 + 1) 4 [.bool false] := by
    refine (IsObj.newAt' _ 4 [.bool false] ?_).alloc _
    simp [hH]
  have bS : IsObj ((((w.alloc (.cells #[.func (.func fq) #[] #[.pointer (some ⟨Bq, 0, none⟩)]] 36)).alloc (.cells #[.int .i64 0] 3)).alloc (.cells #[.bool false] 4)).alloc (.cells #[.pointer (some ⟨b, 0, none⟩)] 25)) (H + 1 + 1 + 1) 25 [.pointer (some ⟨b, 0, none⟩)] := by
    refine IsObj.newAt' _ 25 [.pointer (some ⟨b, 0, none⟩)] ?_
    simp [hH]
  have hB0 : Below H w ((((w.alloc (.cells #[.func (.func fq) #[] #[.pointer (some ⟨Bq, 0, none⟩)]] 36)).alloc (.cells #[.int .i64 0] 3)).alloc (.cells #[.bool false] 4)).alloc (.cells #[.pointer (some ⟨b, 0, none⟩)] 25)) := by
    rw [hH]; exact ((((Below.refl _ w).alloc (Nat.le_refl _) _).alloc (by simp) _).alloc (by simp; omega) _).alloc (by simp; omega) _
  have hsz : ((((w.alloc (.cells #[.func (.func fq) #[] #[.pointer (some ⟨Bq, 0, none⟩)]] 36)).alloc (.cells #[.int .i64 0] 3)).alloc (.cells #[.bool false] 4)).alloc (.cells #[.pointer (some ⟨b, 0, none⟩)] 25)).heap.size = H + 4 := by
    simp [hH]
  rw [← hH] at hbw hqw ⊢
  have hn1 : H ≤ w.heap.size := by omega
  have hn2 : w.heap.size ≤ H := by omega
  clear hH
  generalize ((((w.alloc (.cells #[.func (.func fq) #[] #[.pointer (some ⟨Bq, 0, none⟩)]] 36)).alloc (.cells #[.int .i64 0] 3)).alloc (.cells #[.bool false] 4)).alloc (.cells #[.pointer (some ⟨b, 0, none⟩)] 25)) = w3 at *
  have HQ := Lib.hid hq
  have hq0 := Lib.hid hBq
  clear hq hBq
  refine wpIn_rangeFunc_ownF rfl (by omega) (gf := 50) (lb := #[.pointer (some ⟨H + 1 + 1 + 1, 0, none⟩)]) rfl trivial (enters_of Try.func50 (by kernel_rfl) rfl)
    (sums_stops 5 (by omega) (H + 1 + 1 + 1) H b lv c hbw w3 (by omega) (by omega) (by rw [bS.cell]; rfl) (h.below hB0 hbw)) KpH.trans (kpH_b (by omega)) (Below.refl _ _) (fun _ => rfl)
    (fun pre W => ((∀ p ∈ pre, q p.2 = false) ∧ IsObj W H 36 [.func (.func fq) #[] #[.pointer (some ⟨Bq, 0, none⟩)]] ∧ IsObj W (H + 1) 3 [.int .i64 0] ∧ IsObj W (H + 1 + 1) 4 [.bool false]) ∧ Below H w W)
    (fun cc pre W => (cc = .ret ∧ ∃ pre' x, pre = pre' ++ [x] ∧ q x.2 = true ∧ (∀ p ∈ pre', q p.2 = false) ∧ IsObj W (H + 1) 3 [.int .i64 x.1] ∧ IsObj W (H + 1 + 1) 4 [.bool true]) ∧ Below H w W)
    (OwnFrom.and (Own.from (fun s A B row hs hg hr => ⟨hs.1, isObj_kept hs.2.1 hg hr, isObj_kept hs.2.2.1 hg hr, isObj_kept hs.2.2.2 hg hr⟩) _) (ownFrom_below (by omega) (by omega)))
    (fun cc => OwnFrom.and (Own.from (fun s A B row hs hg hr => by obtain ⟨e, p, x, e1, e2, e3, e4, e5⟩ := hs; exact ⟨e, p, x, e1, e2, e3, isObj_kept e4 hg hr, isObj_kept e5 hg hr⟩) _) (ownFrom_below (by omega) (by omega)))
    ⟨⟨by simp, bA, bR, bO⟩, hB0⟩
    (fun x => { tmps := #[.pointer (some ⟨b, 0, none⟩), .func (.func fq) #[] #[.pointer (some ⟨Bq, 0, none⟩)], undef, .pointer (some ⟨H, 0, none⟩), .pointer (some ⟨H + 1, 0, none⟩), .pointer (some ⟨H + 1 + 1, 0, none⟩), .int .i64 x.1, .int .i64 x.2, .pointer (some ⟨b, 0, none⟩), .func (.func 50) #[] #[.pointer (some ⟨H + 1 + 1 + 1, 0, none⟩)], .int .i64 x.1, .int .i64 x.2, undef, undef, undef, undef], defers := [] }) ?assign ?body ?done ?stop
  case assign =>
    intro l x W K hK
    gi_wp2
    exact hK
  case body =>
    rintro l pre x W ⟨⟨hp, hA, hR, hO⟩, hB⟩ _
    have cA : W.cell? ⟨H, 0, none⟩ = some (.func (.func fq) #[] #[.pointer (some ⟨Bq, 0, none⟩)]) := hA.cell 0
    have cR : W.cell? ⟨H + 1, 0, none⟩ = some (.int .i64 0) := hR.cell 0
    have cO : W.cell? ⟨H + 1 + 1, 0, none⟩ = some (.bool false) := hO.cell 0
    have fR := hR.free 0
    have fO := hO.free 0
    have CQ := Lib.hid (HQ.out x.2 W ((hB.cell (p := ⟨Bq, 0, none⟩) hqw).trans hq0.out))
    have HA := Lib.hid hA
    have HR := Lib.hid hR
    have HO := Lib.hid hO
    have HB := Lib.hid hB
    have HP := Lib.hid hp
    clear hA hR hO hB hp
    cases hx : q x.2 with
    | true =>
      rw [hx] at CQ
      have HX := Lib.hid hx
      clear hx
      gi_wp2
      refine ⟨trivial, ?_⟩
      refine (CallsIn.inRound l (callsIn_wide.2 CQ.out)).mono ?_
      rintro e w' ⟨rfl, rfl⟩
      gi_wp2
      refine ⟨(KeepsOthers.setCell _ _ _).trans (KeepsOthers.setCell _ _ _), ⟨rfl, pre, x, rfl, HX.out, HP.out, ?_, ?_⟩, (HB.out.setCell (p := ⟨H + 1, 0, none⟩) (by simp) _).setCell (p := ⟨H + 1 + 1, 0, none⟩) (by simp; omega) _⟩
      · exact (HR.out.set 0 _).setOther ⟨H + 1 + 1, 0, none⟩ _ (by simp)
      · exact (HO.out.setOther ⟨H + 1, 0, none⟩ _ (by simp)).set 0 _
    | false =>
      rw [hx] at CQ
      have HX := Lib.hid hx
      clear hx
      gi_wp2
      refine ⟨trivial, ?_⟩
      refine (CallsIn.inRound l (callsIn_wide.2 CQ.out)).mono ?_
      rintro e w' ⟨rfl, rfl⟩
      gi_wp2
      refine ⟨KeepsOthers.refl _, KpH.refl _ _ _, ⟨?_, HA.out, HR.out, HO.out⟩, HB.out⟩
      have hnext : ∀ p ∈ pre ++ [x], q p.2 = false := by
        intro p hpm
        rcases List.mem_append.1 hpm with h1 | h1
        · exact HP.out p h1
        · rw [List.mem_singleton.1 h1]; exact HX.out
      first
        | exact hnext
        | simpa using hnext
  case done =>
    rintro D ys W hD rfl ⟨⟨hp, _, hR, hO⟩, hB⟩ hK
    have cR : W.cell? ⟨H + 1, 0, none⟩ = some (.int .i64 0) := hR.cell 0
    have cO : W.cell? ⟨H + 1 + 1, 0, none⟩ = some (.bool false) := hO.cell 0
    have fR := hR.free 0
    have fO := hO.free 0
    have hf := first_none' lv c q hp
    have HR := Lib.hid hR
    have HO := Lib.hid hO
    clear hR hO hp
    gi_wp2
    have hK' := ((KeepsOthers.setCell W ⟨H + 1, 0, none⟩ (.int .i64 0)).trans (KeepsOthers.setCell _ ⟨H + 1 + 1, 0, none⟩ (.bool false))).same D _ hK rfl
    refine ⟨by simp, .inl ⟨_, _, rfl, run_takeDeferred hK', ?_⟩⟩
    have h1 := isObj_kept ((HR.out.set 0 (.int .i64 0)).setOther ⟨H + 1 + 1, 0, none⟩ (.bool false) (by simp)) (grownBy_putObj' _ D (.deferred none)) (fun r e => by cases e; exact ⟨_, hK', rfl⟩)
    have h2 := isObj_kept ((HO.out.setOther ⟨H + 1, 0, none⟩ (.int .i64 0) (by simp)).set 0 (.bool false)) (grownBy_putObj' _ D (.deferred none)) (fun r e => by cases e; exact ⟨_, hK', rfl⟩)
    have k1 := h1.cell 0
    have k2 := h2.cell 0
    refine ⟨.tuple #[.int .i64 0, .bool false], ?_, by rw [hf]; rfl, (((hB.setCell (p := ⟨H + 1, 0, none⟩) (by simp) _).setCell (p := ⟨H + 1 + 1, 0, none⟩) (by simp; omega) _).trans (belowK_b (w := w3) (by omega) _ D _ _ (by omega) hK' rfl rfl)).mono hn2⟩
    simp [results, Try.f34, go_sem, k1, k2]
  case stop =>
    rintro D cc pre W hD ⟨k, hk, rfl⟩ ⟨⟨rfl, pre', x, e1, e2, e3, hR, hO⟩, hB⟩ hK
    obtain ⟨t, hf, ht⟩ := first_some' lv c q k hk pre' x e1 e2 e3
    gi_wp2
    refine ⟨by simp, .inl ⟨_, _, rfl, run_takeDeferred hK, ?_⟩⟩
    have h1 := isObj_kept hR (grownBy_putObj' _ D (.deferred none)) (fun r e => by cases e; exact ⟨_, hK, rfl⟩)
    have h2 := isObj_kept hO (grownBy_putObj' _ D (.deferred none)) (fun r e => by cases e; exact ⟨_, hK, rfl⟩)
    have k1 := h1.cell 0
    have k2 := h2.cell 0
    refine ⟨.tuple #[.int .i64 x.1, .bool true], ?_, by rw [hf, ht]; rfl, (hB.trans (belowK_b (w := w3) (by omega) W D _ _ (by omega) hK rfl rfl)).mono hn2⟩
    simp [results, Try.f34, go_sem, k1, k2]
theorem first_any' (fq Bq : Nat) (vq : Value) (q : Int → Bool) (efq : ∀ args w, (callFunc fq args).run Try.prog w = .ok (.enter fq args) w)
    (hq : ∀ (s : Int) (W : World), W.cell? ⟨Bq, 0, none⟩ = some vq → Calls Try.prog fq #[.int .i64 s, .pointer (some ⟨Bq, 0, none⟩)] W fun e w' => e = .returned (.bool (q s)) ∧ W = w')
    (b lv : Nat) (c : List Int) (w : World) (h : HistAt w b lv c) (hBq : w.cell? ⟨Bq, 0, none⟩ = some vq) :
    Calls Try.prog 34 #[.pointer (some ⟨b, 0, none⟩), .func (.func fq) #[] #[.pointer (some ⟨Bq, 0, none⟩)]] w fun e W' => e = .returned (firstV (firstH lv c q)) ∧ Below w.heap.size w W' := callsIn_wide.1 (first_in fq Bq vq q efq hq b lv c w h hBq)

/-! ### Most, Least -/
theorem most1_any (m s : Int) (B : Nat) (W : World) (h : W.cell? ⟨B, 0, none⟩ = some (.int .i64 m)) : Calls Try.prog 35 #[.int .i64 s, .pointer (some ⟨B, 0, none⟩)] W fun e w' => e = .returned (.bool (decide (m < s))) ∧ W = w' := by
  go_enter Try.func35, Try.ntmps35
  go_wp2
  go_ret
  exact ⟨rfl, rfl⟩
theorem least1_any (m s : Int) (B : Nat) (W : World) (h : W.cell? ⟨B, 0, none⟩ = some (.int .i64 m)) : Calls Try.prog 37 #[.int .i64 s, .pointer (some ⟨B, 0, none⟩)] W fun e w' => e = .returned (.bool (decide (m ≤ s))) ∧ W = w' := by
  go_enter Try.func37, Try.ntmps37
  go_wp2
  go_ret
  exact ⟨rfl, rfl⟩
/-- The greatest threshold below which there are no more than so many. -/
def mostH (lv : Nat) (c : List Int) (many : Int) : Int := match firstH lv c (fun s => decide (cnt many < s)) with | none => lv | some t => (t : Int) - 1
def leastH (lv : Nat) (c : List Int) (many : Int) : Option Nat := if lv = 0 then none else firstH lv c (fun s => decide (cnt many ≤ s))
theorem most_nilH (many : Int) (w : World) : Calls Try.prog 11 #[.pointer none, .int .i64 many] w fun e W' => e = .returned (.int .i64 0) ∧ Below w.heap.size w W' := by
  go_enter Try.func11, Try.ntmps11
  go_wp2
  go_ret
  exact ⟨rfl, (Below.refl _ _).alloc (Nat.le_refl _) _⟩
theorem least_nilH (many : Int) (w : World) : Calls Try.prog 13 #[.pointer none, .int .i64 many] w fun e W' => e = .returned (firstV none) ∧ Below w.heap.size w W' := by
  go_enter Try.func13, Try.ntmps13
  go_wp2
  go_returns
  exact ⟨rfl, (Below.refl _ _).alloc (Nat.le_refl _) _⟩
theorem first_lt (lv : Nat) (c : List Int) (q : Int → Bool) (t : Nat) (h : firstH lv c q = some t) : t ≤ lv := by
  have := List.mem_of_find?_eq_some h
  rw [List.mem_range] at this
  omega
set_option maxRecDepth 100000 in
theorem most_anyH (b lv : Nat) (c : List Int) (many : Int) (w : World) (h : HistAt w b lv c) :
    Calls Try.prog 11 #[.pointer (some ⟨b, 0, none⟩), .int .i64 many] w fun e W' => e = .returned (.int .i64 (mostH lv c many)) ∧ Below w.heap.size w W' := by
  have hlt := h.o.lt
  have hlv := h.n
  have H0 := Lib.hid h
  have hM := Lib.hid (show mostH lv c many = match firstH lv c (fun s => decide (cnt many < s)) with | none => (lv : Int) | some t => (t : Int) - 1 from rfl)
  have hT := Lib.hid (fun t => first_lt lv c (fun s => decide (cnt many < s)) t)
  clear h
  go_enter Try.func11, Try.ntmps11
  go_wp2_with (go_at_call 33; (with_reducible refine (cnt_any _ _).mono ?_); rintro e w' ⟨rfl, rfl⟩)
  have b1 : Below w.heap.size w (w.alloc (.cells #[.int .i64 (cnt many)] 3)) := (Below.refl _ w).alloc (Nat.le_refl _) _
  have c1 : (w.alloc (.cells #[.int .i64 (cnt many)] 3)).cell? ⟨w.heap.size, 0, none⟩ = some (.int .i64 (cnt many)) := (IsObj.new w 3 [.int .i64 (cnt many)]).cell 0
  refine (first_any' 35 w.heap.size (.int .i64 (cnt many)) (fun s => decide (cnt many < s)) (enters_of Try.func35 (by kernel_rfl) rfl) (fun s W hW => most1_any (cnt many) s _ W hW) b lv c _ (H0.out.below b1 hlt) c1).mono ?_
  rintro e w1 ⟨rfl, b2⟩
  have B2 := Lib.hid (b1.trans (b2.mono b1.size))
  have cl := (H0.out.below B2.out hlt).lev
  clear b1 c1 b2
  cases hF : firstH lv c (fun s => decide (cnt many < s)) with
  | none =>
    rw [hF] at hM
    clear hF
    unfold firstV
    go_wp2
    go_ret
    exact ⟨ret_int hM.out.symm, B2.out⟩
  | some t =>
    rw [hF] at hM
    have ht := hT.out t hF
    clear hF
    unfold firstV
    go_wp2
    go_ret
    exact ⟨ret_int hM.out.symm, B2.out⟩
theorem least_zero (b : Nat) (c : List Int) (many : Int) (w : World) (h : HistAt w b 0 c) :
    Calls Try.prog 13 #[.pointer (some ⟨b, 0, none⟩), .int .i64 many] w fun e W' => e = .returned (firstV none) ∧ Below w.heap.size w W' := by
  have hlt := h.o.lt
  have hne : b ≠ w.heap.size := by omega
  have cl := (h.alloc (.cells #[.int .i64 many] 3)).lev
  clear h
  go_enter Try.func13, Try.ntmps13
  go_wp2
  go_returns
  exact ⟨rfl, (Below.refl _ _).alloc (Nat.le_refl _) _⟩
set_option maxRecDepth 100000 in
theorem least_anyH (b lv : Nat) (c : List Int) (many : Int) (w : World) (h : HistAt w b lv c) :
    Calls Try.prog 13 #[.pointer (some ⟨b, 0, none⟩), .int .i64 many] w fun e W' => e = .returned (firstV (leastH lv c many)) ∧ Below w.heap.size w W' := by
  by_cases h0 : lv = 0
  · subst h0
    exact least_zero b c many w h
  · have hlt := h.o.lt
    have hlv := h.n
    have H0 := Lib.hid h
    have cl := (h.alloc (.cells #[.int .i64 many] 3)).lev
    have i0 : ((lv : Int) == 0) = false := by simp; omega
    have hL : leastH lv c many = firstH lv c (fun s => decide (cnt many ≤ s)) := by rw [leastH, if_neg h0]
    rw [hL]
    clear h hL
    go_enter Try.func13, Try.ntmps13
    go_wp2_with (go_at_call 33; (with_reducible refine (cnt_any _ _).mono ?_); rintro e w' ⟨rfl, rfl⟩)
    have b1 : Below w.heap.size w (w.alloc (.cells #[.int .i64 (cnt many)] 3)) := (Below.refl _ w).alloc (Nat.le_refl _) _
    have c1 : (w.alloc (.cells #[.int .i64 (cnt many)] 3)).cell? ⟨w.heap.size, 0, none⟩ = some (.int .i64 (cnt many)) := (IsObj.new w 3 [.int .i64 (cnt many)]).cell 0
    refine (first_any' 37 w.heap.size (.int .i64 (cnt many)) (fun s => decide (cnt many ≤ s)) (enters_of Try.func37 (by kernel_rfl) rfl) (fun s W hW => least1_any (cnt many) s _ W hW) b lv c _ (H0.out.below b1 hlt) c1).mono ?_
    rintro e w1 ⟨rfl, b2⟩
    have B2 := Lib.hid (b1.trans (b2.mono b1.size))
    clear b1 c1 b2
    cases hF : firstH lv c (fun s => decide (cnt many ≤ s)) with
    | none =>
      have HF := Lib.hid hF
      clear hF
      unfold firstV
      go_wp2
      go_returns
      exact ⟨by rw [HF.out]; rfl, B2.out⟩
    | some t =>
      have HF := Lib.hid hF
      clear hF
      unfold firstV
      go_wp2
      go_returns
      exact ⟨by rw [HF.out]; rfl, B2.out⟩
end Go.Proofs.Ytaokofldpkjloaa
