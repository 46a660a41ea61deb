/-
  hist.Hist: Below, Total.
-/
import Derived.Test.YtagfbnfbiadpfaaGreatHist2
namespace Go.Proofs.YtagfbnfbiadpfaaGreat
open Go.RowKit Go.Shelf
set_option linter.unusedVariables false
set_option linter.unusedSimpArgs false
attribute [local go_sem] Oper.semAt_some

theorem isObj_kept {A B : World} {row : Option Nat} {b : Nat} {ty : TypeId} {cs : List Value} (h : IsObj A b ty cs) (hg : A.grownBy B row) (hr : ∀ r, row = some r → ∃ o : Obj, A.heap[r]? = some o ∧ o.isCells = false) : IsObj B b ty cs := by
  refine (hg.block b h.lt fun e => ?_).trans h
  obtain ⟨o, ho, hc⟩ := hr b e.symm
  rw [h] at ho
  cases ho
  cases hc
/-- The sum that came last. -/
def lastS (pre : List (Int × Int)) : Int := pre.foldl (fun _ x => x.2) 0
theorem lastS_snoc (pre : List (Int × Int)) (x : Int × Int) : lastS (pre ++ [x]) = x.2 := by simp [lastS]
theorem lastS_upto (lv : Nat) (c : List Int) (k : Nat) : lastS (upto (sumAt lv c) (k + 1)) = sumH lv c k := by rw [upto_succ, lastS_snoc]; rfl
/-- How many lie below a threshold, whatever it is. -/
def belowH (lv : Nat) (c : List Int) (T : Int) : Int := if T < 0 then 0 else sumH lv c (min lv T.toNat)
theorem mem_upto (lv : Nat) (c : List Int) (j k : Nat) (h : j < k) : sumAt lv c j ∈ upto (sumAt lv c) k := List.mem_map.2 ⟨j, List.mem_range.2 h, rfl⟩
theorem below_done (lv : Nat) (c : List Int) (T : Int) (h : ∀ p ∈ upto (sumAt lv c) (lv + 1), p.1 ≤ T) : lastS (upto (sumAt lv c) (lv + 1)) = belowH lv c T := by
  have h1 : (lv : Int) ≤ T := h _ (mem_upto lv c lv (lv + 1) (by omega))
  rw [lastS_upto, belowH, if_neg (by omega)]
  congr 1
  omega
theorem below_stop (lv : Nat) (c : List Int) (T : Int) (k : Nat) (hk : k ≤ lv + 1) (pre : List (Int × Int)) (x : Int × Int) (he : upto (sumAt lv c) k = pre ++ [x]) (hx : T < x.1) (h : ∀ p ∈ pre, p.1 ≤ T) : lastS pre = belowH lv c T := by
  cases k with
  | zero => simp [upto] at he
  | succ k =>
    rw [upto_succ] at he
    obtain ⟨rfl, e2⟩ := List.append_inj' he rfl
    have e3 : sumAt lv c k = x := by simpa using e2
    subst e3
    cases k with
    | zero =>
      have : T < 0 := hx
      rw [belowH, if_pos this]
      rfl
    | succ k =>
      have h1 : (k : Int) ≤ T := h _ (mem_upto lv c k (k + 1) (by omega))
      have h2 : T < ((k + 1 : Nat) : Int) := hx
      rw [lastS_upto, belowH, if_neg (by omega)]
      congr 1
      omega
set_option maxRecDepth 100000 in
set_option maxHeartbeats 2000000 in
theorem below_in (b lv : Nat) (c : List Int) (T : Int) (w : World) (h : HistAt w b lv c) :
    CallsIn Fence.wide 5 Tryz.prog 95 #[.pointer (some ⟨b, 0, none⟩), .int .i64 T] w fun e W' => e = .returned (.int .i64 (belowH lv c T)) ∧ Below w.heap.size w W' := by
  have hbw := h.o.lt
  refine callsIn_of_wp_marks Tryz.func95 rfl trivial ?_ rfl
  simp only [Tryz.ntmps95, List.size_toArray, List.length_cons, List.length_nil, Nat.reduceAdd, Nat.reduceSub, Array.replicate_succ, Array.replicate_zero, List.push_toArray, List.append_toArray, List.nil_append, List.cons_append]
  gi_wp2_with (refine ⟨trivial, ?_⟩; gi_at_call 111; refine (callsIn_wide.2 (sums_any _ _)).mono ?_; rintro e w' ⟨rfl, rfl⟩)
  obtain ⟨H, hH⟩ : ∃ H, H = w.heap.size := ⟨_, rfl⟩
  have bA : IsObj (((w.alloc (.cells #[.int .i64 T] 3)).alloc (.cells #[.int .i64 0] 3)).alloc (.cells #[.pointer (some ⟨b, 0, none⟩)] 59)) H 3 [.int .i64 T] := by
    rw [hH]; exact ((IsObj.new w 3 [.int .i64 T]).alloc _).alloc _
  have bN : IsObj (((w.alloc (.cells #[.int .i64 T] 3)).alloc (.cells #[.int .i64 0] 3)).alloc (.cells #[.pointer (some ⟨b, 0, none⟩)] 59)) (H + 1) 3 [.int .i64 0] := by
    have := (IsObj.new (w.alloc (.cells #[.int .i64 T] 3)) 3 [.int .i64 0]).alloc (.cells #[.pointer (some ⟨b, 0, none⟩)] 59)
    rw [World.size_alloc] at this
    rw [hH]; exact this
  have bS : IsObj (((w.alloc (.cells #[.int .i64 T] 3)).alloc (.cells #[.int .i64 0] 3)).alloc (.cells #[.pointer (some ⟨b, 0, none⟩)] 59)) (H + 1 + 1) 59 [.pointer (some ⟨b, 0, none⟩)] := by
    have := IsObj.new ((w.alloc (.cells #[.int .i64 T] 3)).alloc (.cells #[.int .i64 0] 3)) 59 [.pointer (some ⟨b, 0, none⟩)]
    rw [World.size_alloc, World.size_alloc] at this
    rw [hH]; exact this
  have hB0 : Below H w (((w.alloc (.cells #[.int .i64 T] 3)).alloc (.cells #[.int .i64 0] 3)).alloc (.cells #[.pointer (some ⟨b, 0, none⟩)] 59)) := by
    rw [hH]; exact (((Below.refl _ w).alloc (Nat.le_refl _) _).alloc (by simp) _).alloc (by simp; omega) _
  have hsz : (((w.alloc (.cells #[.int .i64 T] 3)).alloc (.cells #[.int .i64 0] 3)).alloc (.cells #[.pointer (some ⟨b, 0, none⟩)] 59)).heap.size = H + 3 := by
    simp [hH]
  rw [← hH] at hbw ⊢
  have hn1 : H ≤ w.heap.size := by omega
  have hn2 : w.heap.size ≤ H := by omega
  clear hH
  generalize ((w.alloc (.cells #[.int .i64 T] 3)).alloc (.cells #[.int .i64 0] 3)).alloc (.cells #[.pointer (some ⟨b, 0, none⟩)] 59) = w3 at *
  refine wpIn_rangeFunc_ownF rfl (by omega) (gf := 117) (lb := #[.pointer (some ⟨H + 1 + 1, 0, none⟩)]) rfl trivial (enters_of Tryz.func117 (by kernel_rfl) rfl)
    (sums_stops 4 (by omega) (H + 1 + 1) H b lv c hbw w3 (by omega) (by omega) (by rw [bS.cell]; rfl) (h.below hB0 hbw)) KpH.trans (kpH_b (by omega)) (Below.refl _ _) (fun _ => rfl)
    (fun pre W => ((∀ p ∈ pre, p.1 ≤ T) ∧ IsObj W H 3 [.int .i64 T] ∧ IsObj W (H + 1) 3 [.int .i64 (lastS pre)]) ∧ Below H w W)
    (fun cc pre W => (cc = .exit 0 ∧ ∃ pre' x, pre = pre' ++ [x] ∧ T < x.1 ∧ (∀ p ∈ pre', p.1 ≤ T) ∧ IsObj W (H + 1) 3 [.int .i64 (lastS pre')]) ∧ Below H w W)
    (OwnFrom.and (Own.from (fun s A B row hs hg hr => ⟨hs.1, isObj_kept hs.2.1 hg hr, isObj_kept hs.2.2 hg hr⟩) _) (ownFrom_below (by omega) (by omega)))
    (fun cc => OwnFrom.and (Own.from (fun s A B row hs hg hr => by obtain ⟨e, p, x, e1, e2, e3, e4⟩ := hs; exact ⟨e, p, x, e1, e2, e3, isObj_kept e4 hg hr⟩) _) (ownFrom_below (by omega) (by omega)))
    ⟨⟨by simp, bA, bN⟩, hB0⟩
    (fun x => { tmps := #[.pointer (some ⟨b, 0, none⟩), .int .i64 T, undef, .pointer (some ⟨H, 0, none⟩), .int .i64 0, .pointer (some ⟨H + 1, 0, none⟩), .int .i64 x.1, .int .i64 x.2, .pointer (some ⟨b, 0, none⟩), .func (.func 117) #[] #[.pointer (some ⟨H + 1 + 1, 0, none⟩)], .int .i64 x.1, .int .i64 x.2, undef, undef, undef, undef, undef], defers := [] }) ?assign ?body ?done ?stop
  case assign =>
    intro l x W K hK
    gi_wp2
    exact hK
  case body =>
    rintro l pre x W ⟨⟨hp, hA, hN⟩, hB⟩ _
    have cA : W.cell? ⟨H, 0, none⟩ = some (.int .i64 T) := hA.cell 0
    have cN : W.cell? ⟨H + 1, 0, none⟩ = some (.int .i64 (lastS pre)) := hN.cell 0
    have fN := hN.free 0
    have HA := Lib.hid hA
    have HN := Lib.hid hN
    have HB := Lib.hid hB
    have HP := Lib.hid hp
    clear hA hN hB hp
    by_cases hx : T < x.1
    · gi_wp2
      exact ⟨KeepsOthers.refl _, ⟨rfl, pre, x, rfl, hx, HP.out, HN.out⟩, HB.out⟩
    · have hx1 : x.1 ≤ T := by omega
      gi_wp2
      refine ⟨KeepsOthers.setCell _ _ _, ⟨(Below.refl H W).setCell (p := ⟨H + 1, 0, none⟩) (by simp) _, ?_⟩, ⟨?_, ?_, ?_⟩, HB.out.setCell (p := ⟨H + 1, 0, none⟩) (by simp) _⟩
      · intro v hv
        rw [World.cell?_of_block (Below.heap_setCell W ⟨H + 1, 0, none⟩ _ (H + 1 + 1) (by simp))]
        exact hv
      · have hnext : ∀ p ∈ pre ++ [x], p.1 ≤ T := by
          intro p hpm
          rcases List.mem_append.1 hpm with h1 | h1
          · exact HP.out p h1
          · rw [List.mem_singleton.1 h1]; exact hx1
        first
          | exact hnext
          | simpa using hnext
      · exact HA.out.setOther ⟨H + 1, 0, none⟩ _ (by simp)
      · rw [lastS_snoc]
        exact HN.out.set 0 _
  case done =>
    rintro D ys W hD rfl ⟨⟨hp, _, hN⟩, hB⟩ hK
    have cN : W.cell? ⟨H + 1, 0, none⟩ = some (.int .i64 (lastS (upto (sumAt lv c) (lv + 1)))) := hN.cell 0
    have hr := below_done lv c T hp
    rw [hr] at cN
    gi_wp2
    refine ⟨by simp, .inl ⟨_, _, rfl, run_takeDeferred hK, ?_⟩⟩
    exact ⟨_, results_tmp rfl _ _ _, rfl, (hB.trans (belowK_b (w := w3) (by omega) W D _ _ (by omega) hK rfl rfl)).mono hn2⟩
  case stop =>
    rintro D cc pre W hD ⟨k, hk, rfl⟩ ⟨⟨rfl, pre', x, e1, e2, e3, hN⟩, hB⟩ hK
    have cN : W.cell? ⟨H + 1, 0, none⟩ = some (.int .i64 (lastS pre')) := hN.cell 0
    have hr := below_stop lv c T k hk pre' x e1 e2 e3
    rw [hr] at cN
    gi_wp2
    refine ⟨by simp, .inl ⟨_, _, rfl, run_takeDeferred hK, ?_⟩⟩
    exact ⟨_, results_tmp rfl _ _ _, rfl, (hB.trans (belowK_b (w := w3) (by omega) W D _ _ (by omega) hK rfl rfl)).mono hn2⟩
theorem below_anyH (b lv : Nat) (c : List Int) (T : Int) (w : World) (h : HistAt w b lv c) :
    Calls Tryz.prog 95 #[.pointer (some ⟨b, 0, none⟩), .int .i64 T] w fun e W' => e = .returned (.int .i64 (belowH lv c T)) ∧ Below w.heap.size w W' := callsIn_wide.1 (below_in b lv c T w h)
set_option maxRecDepth 100000 in
set_option maxHeartbeats 2000000 in
theorem below_nilH (T : Int) (w : World) :
    Calls Tryz.prog 95 #[.pointer none, .int .i64 T] w fun e W' => e = .returned (.int .i64 0) ∧ Below w.heap.size w W' := by
  refine (callsIn_wide (n := 5)).1 ?_
  refine callsIn_of_wp_marks Tryz.func95 rfl trivial ?_ rfl
  simp only [Tryz.ntmps95, List.size_toArray, List.length_cons, List.length_nil, Nat.reduceAdd, Nat.reduceSub, Array.replicate_succ, Array.replicate_zero, List.push_toArray, List.append_toArray, List.nil_append, List.cons_append]
  gi_wp2_with (refine ⟨trivial, ?_⟩; gi_at_call 111; refine (callsIn_wide.2 (sums_any _ _)).mono ?_; rintro e w' ⟨rfl, rfl⟩)
  obtain ⟨H, hH⟩ : ∃ H, H = w.heap.size := ⟨_, rfl⟩
  have bN : IsObj (((w.alloc (.cells #[.int .i64 T] 3)).alloc (.cells #[.int .i64 0] 3)).alloc (.cells #[.pointer none] 59)) (H + 1) 3 [.int .i64 0] := by
    have := (IsObj.new (w.alloc (.cells #[.int .i64 T] 3)) 3 [.int .i64 0]).alloc (.cells #[.pointer none] 59)
    rw [World.size_alloc] at this
    rw [hH]; exact this
  have bS : IsObj (((w.alloc (.cells #[.int .i64 T] 3)).alloc (.cells #[.int .i64 0] 3)).alloc (.cells #[.pointer none] 59)) (H + 1 + 1) 59 [.pointer none] := by
    have := IsObj.new ((w.alloc (.cells #[.int .i64 T] 3)).alloc (.cells #[.int .i64 0] 3)) 59 [.pointer none]
    rw [World.size_alloc, World.size_alloc] at this
    rw [hH]; exact this
  have hB0 : Below H w (((w.alloc (.cells #[.int .i64 T] 3)).alloc (.cells #[.int .i64 0] 3)).alloc (.cells #[.pointer none] 59)) := by
    rw [hH]; exact (((Below.refl _ w).alloc (Nat.le_refl _) _).alloc (by simp) _).alloc (by simp; omega) _
  have hsz : (((w.alloc (.cells #[.int .i64 T] 3)).alloc (.cells #[.int .i64 0] 3)).alloc (.cells #[.pointer none] 59)).heap.size = H + 3 := by
    simp [hH]
  rw [← hH]
  have hn1 : H ≤ w.heap.size := by omega
  have hn2 : w.heap.size ≤ H := by omega
  clear hH
  generalize ((w.alloc (.cells #[.int .i64 T] 3)).alloc (.cells #[.int .i64 0] 3)).alloc (.cells #[.pointer none] 59) = w3 at *
  refine wpIn_rangeFunc_ownF rfl (by omega) (gf := 117) (lb := #[.pointer (some ⟨H + 1 + 1, 0, none⟩)]) rfl trivial (enters_of Tryz.func117 (by kernel_rfl) rfl)
    (sums_stops_nil 4 (H + 1 + 1) H w3 (by omega) (by rw [bS.cell]; rfl)) KpH.trans (kpH_b (by omega)) (Below.refl _ _) (fun _ => rfl)
    (fun pre W => (pre = [] ∧ IsObj W (H + 1) 3 [.int .i64 0]) ∧ Below H w W)
    (fun cc pre W => False)
    (OwnFrom.and (Own.from (fun s A B row hs hg hr => ⟨hs.1, isObj_kept hs.2 hg hr⟩) _) (ownFrom_below (by omega) (by omega)))
    (fun cc s A B row hs hg hr => hs)
    ⟨⟨rfl, bN⟩, hB0⟩
    (fun x => { tmps := #[.pointer none, .int .i64 T, undef, .pointer (some ⟨H, 0, none⟩), .int .i64 0, .pointer (some ⟨H + 1, 0, none⟩), .int .i64 x.1, .int .i64 x.2, .pointer none, .func (.func 117) #[] #[.pointer (some ⟨H + 1 + 1, 0, none⟩)], .int .i64 x.1, .int .i64 x.2, undef, undef, undef, undef, undef], defers := [] }) ?assign ?body ?done ?stop
  case assign =>
    intro l x W K hK
    gi_wp2
    exact hK
  case body =>
    intro l pre x W _ hlen
    exact absurd hlen (Nat.not_lt_zero _)
  case done =>
    rintro D ys W hD rfl ⟨⟨_, hN⟩, hB⟩ hK
    have cN : W.cell? ⟨H + 1, 0, none⟩ = some (.int .i64 0) := hN.cell 0
    gi_wp2
    refine ⟨by simp, .inl ⟨_, _, rfl, run_takeDeferred hK, ?_⟩⟩
    exact ⟨_, results_tmp rfl _ _ _, rfl, (hB.trans (belowK_b (w := w3) (by omega) W D _ _ (by omega) hK rfl rfl)).mono hn2⟩
  case stop =>
    rintro D cc pre W hD hk h hK
    exact h.elim
theorem total_any (b lv : Nat) (c : List Int) (w : World) (h : HistAt w b lv c) :
    Calls Tryz.prog 97 #[.pointer (some ⟨b, 0, none⟩)] w fun e W' => e = .returned (.int .i64 (belowH lv c 128)) ∧ Below w.heap.size w W' := by
  have K := Lib.hid (below_anyH b lv c 128 w h)
  clear h
  go_enter Tryz.func97, Tryz.ntmps97
  go_wp2_with fail
  refine K.out.mono ?_
  rintro e w1 ⟨rfl, hb⟩
  go_wp2_with fail
  go_ret
  exact ⟨rfl, hb⟩
theorem total_nil (w : World) : Calls Tryz.prog 97 #[.pointer none] w fun e W' => e = .returned (.int .i64 0) ∧ Below w.heap.size w W' := by
  have K := Lib.hid (below_nilH 128 w)
  go_enter Tryz.func97, Tryz.ntmps97
  go_wp2_with fail
  refine K.out.mono ?_
  rintro e w1 ⟨rfl, hb⟩
  go_wp2_with fail
  go_ret
  exact ⟨rfl, hb⟩
end Go.Proofs.YtagfbnfbiadpfaaGreat
