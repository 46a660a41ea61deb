/-
  lockkeeperref12.Take.
-/
import Derived.Test.YtmanmebgmhpilaaRefP
namespace Go.Proofs.Ytmanmebgmhpilaa
open Go.RowKit
set_option linter.unusedVariables false
set_option linter.unusedSimpArgs false

theorem results_tct {fn : Func} {tmps : Array Value} {i a k : Nat} {t : TypeId} {ad : Addr} {w : World} {v x y : Value} (h : fn.results = #[.tmp i, .cell a t, .tmp k]) (hi : tmps.getD i undef = y) (ha : tmps.getD a undef = .pointer (some ad)) (hx : tmps.getD k undef = x) (hl : (loadVar t ad).run Try.prog w = .ok v w) : (results fn tmps).run Try.prog w = .ok (.tuple #[y, v, x]) w := by
  rw [Array.getD_eq_getD_getElem?] at hi ha hx
  simp [results, h, hi, ha, asAddr, hl, hx]
theorem range_below {w w' : World} {B b o : Nat} {cs : List Value} (h : w.rangeAt b o cs) (hb : Below B w w') (hB : b < B) : w'.rangeAt b o cs := fun j v hv => (hb.cell (p := ⟨b, o + j, none⟩) hB).trans (h j v hv)
theorem range_only {w w' : World} {H b o : Nat} {cs : List Value} (h : w.rangeAt b o cs) (ho : Only H w w') (hB : b ≠ H) : w'.rangeAt b o cs := fun j v hv => ho.keep (h j v hv) hB

set_option maxRecDepth 100000 in
set_option maxHeartbeats 1000000 in
theorem rtake_out (a : Option Addr) (c : Nat) (X : List It) (id : Int) (w : World) (hm : X.length ≤ 64) (hA : RowOf itCells 7 w a X) (hout : id ∉ X.map It.id) :
    Calls Try.prog 24 #[.slice a X.length c, .int .i64 id] w fun e w' => e = .returned (.tuple #[.slice a X.length c, .agg (itCells it0).toArray, .bool false]) ∧ Below w.heap.size w w' := by
  have hk : fnd X id = -1 := by
    rcases fnd_law X id with ⟨h, _⟩ | ⟨j, h1, _, h2, _⟩
    · exact h
    · exact absurd (by rw [← h2]; exact nth_mem h1) hout
  obtain ⟨H, hH⟩ : ∃ H, H = w.heap.size := ⟨_, rfl⟩
  have HH := Lib.hid hH
  have B0 := Lib.hid (show Below w.heap.size w (w.alloc (.cells #[.int .i64 0, .int .i64 0, .int .i64 0, .int .i64 0, .int .i64 0, .int .i64 0, .int .i64 0] 31)) from (Below.refl _ w).alloc (Nat.le_refl _) _)
  have O0 := Lib.hid (show IsObj (w.alloc (.cells #[.int .i64 0, .int .i64 0, .int .i64 0, .int .i64 0, .int .i64 0, .int .i64 0, .int .i64 0] 31)) H 31 [.int .i64 0, .int .i64 0, .int .i64 0, .int .i64 0, .int .i64 0, .int .i64 0, .int .i64 0] by rw [hH]; exact IsObj.new w _ [.int .i64 0, .int .i64 0, .int .i64 0, .int .i64 0, .int .i64 0, .int .i64 0, .int .i64 0])
  have hA0 := hA.same itCells_len B0.out
  clear hH hA
  go_enter Try.func24, Try.ntmps24
  go_upto_region 1 with (fail)
  rw [← HH.out]
  generalize w.alloc (.cells #[.int .i64 0, .int .i64 0, .int .i64 0, .int .i64 0, .int .i64 0, .int .i64 0, .int .i64 0] 31) = w0 at *
  have RT := Lib.hid (show w0.there H 0 (itCells it0).toArray.size from IsObj.there O0.out 0 7 (by simp))
  have OF := Lib.hid (show IsObj (w0.setCells H 0 (itCells it0).toArray.toList) H 31 (itCells it0) from IsObj.setAll O0.out rfl)
  have BF := Lib.hid (show Only H w0 (w0.setCells H 0 (itCells it0).toArray.toList) from Only.setCells (b := H) (itCells it0) 0 (Only.refl H w0))
  have hcon := rfind_any a c X id w0 (by omega) hA0
  rw [hk] at hcon
  clear hA0 hk
  go_wp2_with (first | (go_at_call 43; refine hcon.mono ?_; rintro e w' ⟨rfl, rfl⟩) | (refine wpList_store_mid (by rfl) 31 _ _ (by rfl) H 0 (itCells it0).toArray (by rfl) (by rfl) (by exact RT.out) (by kernel_rfl) (it_one _) ?_; generalize w0.setCells H 0 (itCells it0).toArray.toList = wf at *))
  have RL := run_loadVar_mid (P := Try.prog) wf H 0 31 (itCells it0) _ (IsObj.range OF.out) Try.underlying31 rfl (by kernel_rfl)
  refine bodyPost_ret (v := .tuple #[.slice a X.length c, .agg (itCells it0).toArray, .bool false]) ?_ rfl ?_
  · exact results_tct (by rfl) (by rfl) (by rfl) (by rfl) RL
  · exact ⟨rfl, B0.out.trans (BF.out.below (by have := HH.out; omega) B0.out.size)⟩

set_option maxRecDepth 100000 in
set_option maxHeartbeats 4000000 in
theorem rtake_in (a : Option Addr) (c : Nat) (X : List It) (id : Int) (j : Nat) (w : World) (hm : X.length ≤ 64) (hXc : X.length ≤ c) (hcm : c ≤ 9223372036854775807) (hA : RowOf itCells 7 w a X) (hap : ∀ b off, a = some ⟨b, off, none⟩ → b < w.heap.size) (hj : j < X.length) (hid : fnd X id = (j : Int)) :
    Calls Try.prog 24 #[.slice a X.length c, .int .i64 id] w fun e w' => ∃ v, e = .returned (.tuple #[v, .agg (itCells (nth X j)).toArray, .bool true]) ∧ w'.ownsRow w.heap.size 31 7 v (X.length - 1) ((X.take j ++ X.drop (j + 1)).flatMap itCells) ∧ Below w.heap.size w w' := by
  obtain ⟨i0, hi, hz0, hz1, hz2⟩ := info_parts item_parts
  obtain ⟨H, hH⟩ : ∃ H, H = w.heap.size := ⟨_, rfl⟩
  have HH := Lib.hid hH
  have B0 := Lib.hid (show Below w.heap.size w (w.alloc (.cells #[.int .i64 0, .int .i64 0, .int .i64 0, .int .i64 0, .int .i64 0, .int .i64 0, .int .i64 0] 31)) from (Below.refl _ w).alloc (Nat.le_refl _) _)
  have O0 := Lib.hid (show IsObj (w.alloc (.cells #[.int .i64 0, .int .i64 0, .int .i64 0, .int .i64 0, .int .i64 0, .int .i64 0, .int .i64 0] 31)) H 31 [.int .i64 0, .int .i64 0, .int .i64 0, .int .i64 0, .int .i64 0, .int .i64 0, .int .i64 0] by rw [hH]; exact IsObj.new w _ [.int .i64 0, .int .i64 0, .int .i64 0, .int .i64 0, .int .i64 0, .int .i64 0, .int .i64 0])
  have hA0 := hA.same itCells_len B0.out
  obtain ⟨b, off, rfl, hc⟩ : ∃ b off, a = some ⟨b, off, none⟩ ∧ ∀ i, i < X.length → ∀ j, j < 7 → (w.alloc (.cells #[.int .i64 0, .int .i64 0, .int .i64 0, .int .i64 0, .int .i64 0, .int .i64 0, .int .i64 0] 31)).cell? ⟨b, off + i * 7 + j, none⟩ = (itCells (nth X i))[j]? := by
    rcases hA0 with h | h
    · rw [h] at hj; simp at hj
    · exact h
  have hbH : b < H := by rw [hH]; exact hap b off rfl
  clear hA hap hA0
  have HC := Lib.hid hc
  clear hH hc
  go_enter Try.func24, Try.ntmps24
  go_upto_region 1 with (fail)
  rw [← HH.out]
  generalize w.alloc (.cells #[.int .i64 0, .int .i64 0, .int .i64 0, .int .i64 0, .int .i64 0, .int .i64 0, .int .i64 0] 31) = w0 at *
  have hcon := rfind_any (some ⟨b, off, none⟩) c X id w0 (by omega) (.inr ⟨b, off, rfl, HC.out⟩)
  rw [hid] at hcon
  have hj0 : (0 : Int) ≤ (j : Int) := by omega
  have hjn : ¬ ((j : Int) < 0) := by omega
  have hjl : (j : Int) < (X.length : Int) := by omega
  have hjc : (j : Int) ≤ (c : Int) := by omega
  clear hid
  go_upto_region 5 with (go_at_call 43; refine hcon.mono ?_; rintro e w' ⟨rfl, rfl⟩)
  clear hcon
  have htl : ((X.take j).flatMap itCells).length = j * 7 := by rw [itF_len, List.length_take]; omega
  have hdl : ((X.drop (j + 1)).flatMap itCells).length = (X.length - (j + 1)) * 7 := by rw [itF_len, List.length_drop]
  go_cut [8] (fun s8 wx => Aside (wx.ownsRow w0.heap.size 31 7 s8 j ((X.take j).flatMap itCells) ∧ Below w0.heap.size w0 wx))
  case first =>
    by_cases h0 : j = 0
    · subst h0
      go_wp2
      go_meet
      case rel => exact ⟨by simpa using World.ownsRow_nil w0 w0.heap.size 31 7, Below.refl _ _⟩
    · have hN : ∀ q u, ((X.take j).flatMap itCells)[q]? = some u → w0.cell? ((⟨b, off, none⟩ : Addr).add q) = some u := fun q u hu => by
        have hq := (List.getElem?_eq_some_iff.1 hu).1
        rw [← itF_take, List.getElem?_take_of_lt (by omega)] at hu
        exact row_news HC.out q u hu
      have HN := Lib.hid hN
      clear hN
      go_wp2_with (refine wpList_append_lies _ (by rfl) _ _ _ (by rfl) w0.heap.size 31 i0 (.agg #[.int .i64 0, .int .i64 0, .int .i64 0, .int .i64 0, .int .i64 0, .int .i64 0, .int .i64 0]) 7 56 Try.underlying22 hi hz0 hz1 hz2 rfl (by decide) (.slice none 0 0) 0 [] (by rfl) (World.ownsRow_nil _ _ _ _) ⟨b, off, none⟩ j c _ (by rfl) htl HN.out (row_one _) (by omega) (by unfold maxLen; omega) (by omega) (Nat.le_refl _) w0.heap.size rfl ?_; intro g cap w2 hown hgrow hat hglt)
      rw [Nat.zero_add, List.nil_append] at hown
      have hb2 : Below w0.heap.size w0 w2 := Below.grown (Below.refl _ _) hgrow (Nat.le_refl _) (fun k hk => by simp [Value.ownBlock] at hk)
      have H3 : Aside (_ ∧ _) := And.intro hown hb2
      clear hown hgrow hat hglt hb2
      try simp only [Nat.zero_add]
      go_wp2
      go_meet
      case rel => exact H3
  case rest =>
  have H3 := hcut
  clear hcut
  generalize wc = w2 at *
  have hHl := O0.out.lt
  have O2 := Lib.hid (IsObj.below O0.out H3.out.2 hHl)
  have hrow2 := RowOf.same (a := some ⟨b, off, none⟩) (.inr ⟨b, off, rfl, HC.out⟩) itCells_len H3.out.2
  have hc2 : ∀ i, i < X.length → ∀ j, j < 7 → w2.cell? ⟨b, off + i * 7 + j, none⟩ = (itCells (nth X i))[j]? := by
    rcases hrow2 with h | ⟨b', off', h, hc'⟩
    · rw [h] at hj; simp at hj
    · cases h; exact hc'
  have K0 : w2.drew.rangeAt b (off + j * 7) (itCells (nth X j)) := fun q v hv => by
    have hq : q < 7 := by have := (List.getElem?_eq_some_iff.1 hv).1; rwa [itCells_len] at this
    exact (hc2 j hj q hq).trans hv
  have hNW : ∀ q u, ((X.drop (j + 1)).flatMap itCells)[q]? = some u → w2.drew.cell? ((⟨b, off + (j + 1) * 7, none⟩ : Addr).add q) = some u := fun q u hu => by
    have hq := (List.getElem?_eq_some_iff.1 hu).1
    rw [← itF_drop, List.getElem?_drop] at hu
    have h1 := row_news hc2 ((j + 1) * 7 + q) u hu
    rw [addr_add] at h1 ⊢
    rw [Nat.add_assoc]
    exact h1
  have hbase : w0.heap.size ≤ w2.drew.heap.size := H3.out.2.size
  have HK := Lib.hid (And.intro hc2 hrow2)
  clear hrow2 hc2
  go_upto_region 6 with (fail)
  have fin : ∀ (v' : Value) (w4 w5 : World), w4.ownsRow w0.heap.size 31 7 v' (j + (X.length - (j + 1))) ((X.take j).flatMap itCells ++ (X.drop (j + 1)).flatMap itCells) → Below w0.heap.size w2.drew w4 → Only H w4 w5 →
      w5.ownsRow w.heap.size 31 7 v' (X.length - 1) ((X.take j ++ X.drop (j + 1)).flatMap itCells) ∧ Below w.heap.size w w5 := fun v' w4 w5 h1 h2 h3 => by
    have hw : Below w0.heap.size w0 w4 := (show Below w0.heap.size w0 w2.drew from H3.out.2.drew).trans h2
    have hb : Below w.heap.size w w5 := (B0.out.trans (hw.mono B0.out.size)).trans (h3.below (by have := HH.out; omega) (by have h4 := B0.out.size; have h5 := hw.size; omega))
    refine ⟨?_, hb⟩
    have h4 := own_at h1 (w' := w5) (fun g hg he => h3.block g (h1.lt g he).2 (fun e => by cases e; omega))
    rw [List.flatMap_append]
    have e : j + (X.length - (j + 1)) = X.length - 1 := by omega
    rw [e] at h4
    exact own_mono h4 B0.out.size
  have FIN := Lib.hid fin
  clear fin
  have hrj : IntKind.i64.wrap ((j : Int) + 1) = (j : Int) + 1 := by rw [IntKind.wrap_i64]; omega
  have hj01 : (0 : Int) ≤ (j : Int) + 1 := by omega
  by_cases hcc : j + 1 = c
  · have hdz : X.drop (j + 1) = [] := List.drop_eq_nil_of_le (by omega)
    have hlen : X.length = j + 1 := by omega
    have hjj : (j : Int) < (j : Int) + 1 := by omega
    subst hcc
    obtain ⟨v', w4, hra, hown4, hg4, hnil, hob⟩ := run_append_own_at (P := Try.prog) w2.drew w0.heap.size 22 22 31 i0 (.agg #[.int .i64 0, .int .i64 0, .int .i64 0, .int .i64 0, .int .i64 0, .int .i64 0, .int .i64 0]) 7 56 Try.underlying22 hi hz0 hz1 hz2 rfl (by decide) u8 j ((X.take j).flatMap itCells) H3.out.1 ⟨b, off, none⟩ 0 0 [] (by simp) (fun q u hu => by simp at hu) (fun u hu => by simp at hu) (by unfold maxLen; omega) (by omega) hbase
    have hb4 : Below w0.heap.size w2.drew w4 := Below.grown (Below.refl _ _) hg4 hbase (fun q hq => (H3.out.1.lt q hq).1)
    have K4 := range_below K0 hb4 (by omega)
    have O4 : IsObj w4 H 31 [.int .i64 0, .int .i64 0, .int .i64 0, .int .i64 0, .int .i64 0, .int .i64 0, .int .i64 0] := (hb4.block H hHl).trans (show w2.drew.heap[H]? = _ from O2.out)
    have t4 : w4.there H 0 (itCells (nth X j)).toArray.size := IsObj.there O4 0 7 (by simp)
    have q4 := IsObj.setAll (xs := itCells (nth X j)) O4 rfl
    have y4 := Only.setCells (b := H) (itCells (nth X j)) 0 (Only.refl H w4)
    have K5 := range_only K4 y4 (by omega)
    have hfin := FIN.out v' w4 _ (by rw [hdz, List.flatMap_nil, show X.length - (j + 1) = 0 by omega]; exact hown4) hb4 y4
    have HF := Lib.hid (And.intro hfin q4)
    clear hfin q4 hg4 hnil hob hown4
    refine wp_region_held_drew (S := fun W => W.rangeAt b (off + j * 7) (itCells (nth X j))) (by kernel_rfl) ?_ (fun hHeld => ?_)
    · exact K0
    refine wpAnyH_take (i := 0) (oi := ?oi1) (v := ?v1) ?hi1 (by kernel_rfl) (by kernel_rfl) (by kernel_rfl) ?hQ1 ?hy1 (by assumption) ?_
    case hi1 => (simp only [List.getElem?_toArray, List.getElem?_cons_succ, List.getElem?_cons_zero]; rfl)
    case hQ1 => exact fun _ _ _ h => h
    case hy1 => (refine Or.inl ⟨by rfl, ?_⟩; intro w hSw; (try dsimp only at hSw); go_simp; try with_reducible rfl)
    try simp only [Act.put, List.setIfInBounds_toArray, List.set_cons_zero, List.set_cons_succ]
    refine wpAnyH_take (i := 1) (oi := ?oi2) (v := ?v2) ?hi2 (by kernel_rfl) (by kernel_rfl) (by kernel_rfl) ?hQ2 ?hy2 (by assumption) ?_
    case hi2 => (simp only [List.getElem?_toArray, List.getElem?_cons_succ, List.getElem?_cons_zero]; rfl)
    case hQ2 => exact fun _ _ _ h => h
    case hy2 => (refine Or.inl ⟨by rfl, ?_⟩; intro w hSw; (try dsimp only at hSw); go_simp; try with_reducible rfl)
    try simp only [Act.put, List.setIfInBounds_toArray, List.set_cons_zero, List.set_cons_succ]
    refine wpAnyH_take (i := 2) (oi := ?oi3) (v := ?v3) ?hi3 (by kernel_rfl) (by kernel_rfl) (by kernel_rfl) ?hQ3 ?hy3 (by assumption) ?_
    case hi3 => (simp only [List.getElem?_toArray, List.getElem?_cons_succ, List.getElem?_cons_zero]; rfl)
    case hQ3 => exact fun _ _ _ h => h
    case hy3 => (refine Or.inl ⟨by rfl, ?_⟩; intro w hSw; (try dsimp only at hSw); go_simp; try with_reducible rfl)
    try simp only [Act.put, List.setIfInBounds_toArray, List.set_cons_zero, List.set_cons_succ]
    refine wpAnyH_take (i := 3) (oi := ?oi4) (v := ?v4) ?hi4 (by kernel_rfl) (by kernel_rfl) (by kernel_rfl) ?hQ4 ?hy4 (by assumption) ?_
    case hi4 => (simp only [List.getElem?_toArray, List.getElem?_cons_succ, List.getElem?_cons_zero]; rfl)
    case hQ4 => exact fun _ _ _ h => h
    case hy4 => (refine Or.inl ⟨by rfl, ?_⟩; intro w hSw; (try dsimp only at hSw); go_simp; try with_reducible rfl)
    try simp only [Act.put, List.setIfInBounds_toArray, List.set_cons_zero, List.set_cons_succ]
    refine wpAnyH_take (i := 4) (oi := ?oi5) (v := ?v5) ?hi5 (by kernel_rfl) (by kernel_rfl) (by kernel_rfl) ?hQ5 ?hy5 (by assumption) ?_
    case hi5 => (simp only [List.getElem?_toArray, List.getElem?_cons_succ, List.getElem?_cons_zero]; rfl)
    case hQ5 => exact fun _ _ _ h => h
    case hy5 => (refine Or.inl ⟨by rfl, ?_⟩; intro w hSw; (try dsimp only at hSw); go_simp; try with_reducible rfl)
    try simp only [Act.put, List.setIfInBounds_toArray, List.set_cons_zero, List.set_cons_succ]
    refine wpAnyH_take (i := 6) (oi := ?oi6) (v := ?v6) ?hi6 (by kernel_rfl) (by kernel_rfl) (by kernel_rfl) ?hQ6 ?hy6 (by assumption) ?_
    case hi6 => (simp only [List.getElem?_toArray, List.getElem?_cons_succ, List.getElem?_cons_zero]; rfl)
    case hQ6 => exact fun _ _ _ h => h
    case hy6 => (refine Or.inl ⟨by rfl, ?_⟩; intro w hSw; (try dsimp only at hSw); go_simp; try with_reducible rfl)
    try simp only [Act.put, List.setIfInBounds_toArray, List.set_cons_zero, List.set_cons_succ]
    refine wpAnyH_take (i := 7) (oi := ?oi7) (v := ?v7) ?hi7 (by kernel_rfl) (by kernel_rfl) (by kernel_rfl) ?hQ7 ?hy7 (by assumption) ?_
    case hi7 => (simp only [List.getElem?_toArray, List.getElem?_cons_succ, List.getElem?_cons_zero]; rfl)
    case hQ7 => exact fun _ _ _ h => h
    case hy7 => (refine Or.inl ⟨by rfl, ?_⟩; intro w hSw; (try dsimp only at hSw); go_simp; try with_reducible rfl)
    try simp only [Act.put, List.setIfInBounds_toArray, List.set_cons_zero, List.set_cons_succ]
    refine wpAnyH_take (i := 8) (oi := ?oi8) (v := ?v8) ?hi8 (by kernel_rfl) (by kernel_rfl) (by kernel_rfl) ?hQ8 ?hy8 (by assumption) ?_
    case hi8 => (simp only [List.getElem?_toArray, List.getElem?_cons_succ, List.getElem?_cons_zero]; rfl)
    case hQ8 => exact fun _ _ _ h => h
    case hy8 => (refine Or.inl ⟨by rfl, ?_⟩; intro w hSw; (try dsimp only at hSw); go_simp; try with_reducible rfl)
    try simp only [Act.put, List.setIfInBounds_toArray, List.set_cons_zero, List.set_cons_succ]
    refine wpAnyH_take (i := 9) (oi := ?oi9) (v := .agg (itCells (nth X j)).toArray) ?hi9 (by kernel_rfl) (by kernel_rfl) (by kernel_rfl) ?hQ9 ?hy9 (by assumption) ?_
    case hi9 => (simp only [List.getElem?_toArray, List.getElem?_cons_succ, List.getElem?_cons_zero]; rfl)
    case hQ9 => exact fun _ _ _ h => h
    case hy9 => exact yieldsIf_load_mid (by rfl) 31 _ (by rfl) b (off + j * 7) (by rfl) (itCells (nth X j)) _ (fun w hw => hw) Try.underlying31 rfl (by kernel_rfl)
    try simp only [Act.put, List.setIfInBounds_toArray, List.set_cons_zero, List.set_cons_succ]
    refine wpAnyH_ready (rs := [5]) (by kernel_rfl) (by simp) ?_
    refine AllReadyH.cons (o := ?oi1000) ?ho1000 (fun K hK => ?_) AllReadyH.nil
    case ho1000 => (simp only [List.getElem?_toArray, List.getElem?_cons_succ, List.getElem?_cons_zero]; rfl)
    refine step_run_append (by rfl) (by rfl) (by rfl) (by rfl) hra ?_
    refine hK.out _ _ ?_ (fun hHeld => ?_)
    · (try dsimp only); exact K4
    clear hK K
    try simp only [Act.put, List.setIfInBounds_toArray, List.set_cons_zero, List.set_cons_succ]
    refine wpAnyH_take (i := 10) (oi := ?oi11) (v := ?v11) ?hi11 (by kernel_rfl) (by kernel_rfl) (by kernel_rfl) ?hQ11 ?hy11 (by assumption) ?_
    case hi11 => (simp only [List.getElem?_toArray, List.getElem?_cons_succ, List.getElem?_cons_zero]; rfl)
    case hQ11 => exact fun _ _ _ h => h
    case hy11 => (refine Or.inl ⟨by rfl, ?_⟩; intro w hSw; (try dsimp only at hSw); go_simp; try with_reducible rfl)
    try simp only [Act.put, List.setIfInBounds_toArray, List.set_cons_zero, List.set_cons_succ]
    refine wpAnyH_ready (rs := [11]) (by kernel_rfl) (by simp) ?_
    refine AllReadyH.cons (o := ?oi1200) ?ho1200 (fun K hK => ?_) AllReadyH.nil
    case ho1200 => (simp only [List.getElem?_toArray, List.getElem?_cons_succ, List.getElem?_cons_zero]; rfl)
    refine wp_store_mid 31 _ _ (by rfl) H 0 (itCells (nth X j)).toArray (by rfl) (by rfl) t4 (by kernel_rfl) (it_one _) ?_
    generalize w4.setCells H 0 (itCells (nth X j)).toArray.toList = w5 at *
    refine hK.out _ _ ?_ (fun hHeld => ?_)
    · (try dsimp only); exact K5
    clear hK K
    try simp only [Act.put, List.setIfInBounds_toArray, List.set_cons_zero, List.set_cons_succ]
    refine wpAnyH_take (i := 12) (oi := ?oi13) (v := ?v13) ?hi13 (by kernel_rfl) (by kernel_rfl) (by kernel_rfl) ?hQ13 ?hy13 (by assumption) ?_
    case hi13 => (simp only [List.getElem?_toArray, List.getElem?_cons_succ, List.getElem?_cons_zero]; rfl)
    case hQ13 => exact fun _ _ _ h => h
    case hy13 => (refine Or.inl ⟨by rfl, ?_⟩; intro w hSw; (try dsimp only at hSw); go_simp; try with_reducible rfl)
    try simp only [Act.put, List.setIfInBounds_toArray, List.set_cons_zero, List.set_cons_succ]
    refine wpAnyH_done (by kernel_rfl) ?_ _
    clear hra K0 K4 K5 t4 y4
    go_wp2_with fail
    have RL := run_loadVar_mid (P := Try.prog) w5 H 0 31 (itCells (nth X j)) _ (IsObj.range HF.out.2) Try.underlying31 rfl (by kernel_rfl)
    refine bodyPost_ret (v := .tuple #[v', .agg (itCells (nth X j)).toArray, .bool true]) ?_ rfl ?_
    · exact results_tct (by rfl) (by rfl) (by rfl) (by rfl) RL
    · exact ⟨v', rfl, HF.out.1.1, HF.out.1.2⟩

  · have hccz : ¬ ((j : Int) + 1 = (c : Int)) := by omega
    have hj1 : (j : Int) + 1 ≤ (X.length : Int) := by omega
    have hccn : ¬ (c = j + 1) := by omega
    obtain ⟨v', w4, hra, hown4, hg4, hnil, hob⟩ := run_append_own_at (P := Try.prog) w2.drew w0.heap.size 22 22 31 i0 (.agg #[.int .i64 0, .int .i64 0, .int .i64 0, .int .i64 0, .int .i64 0, .int .i64 0, .int .i64 0]) 7 56 Try.underlying22 hi hz0 hz1 hz2 rfl (by decide) u8 j ((X.take j).flatMap itCells) H3.out.1 ⟨b, off + (j + 1) * 7, none⟩ (X.length - (j + 1)) (c - (j + 1)) ((X.drop (j + 1)).flatMap itCells) hdl hNW (row_one _) (by unfold maxLen; omega) (by omega) hbase
    have hb4 : Below w0.heap.size w2.drew w4 := Below.grown (Below.refl _ _) hg4 hbase (fun q hq => (H3.out.1.lt q hq).1)
    have K4 := range_below K0 hb4 (by omega)
    have O4 : IsObj w4 H 31 [.int .i64 0, .int .i64 0, .int .i64 0, .int .i64 0, .int .i64 0, .int .i64 0, .int .i64 0] := (hb4.block H hHl).trans (show w2.drew.heap[H]? = _ from O2.out)
    have t4 : w4.there H 0 (itCells (nth X j)).toArray.size := IsObj.there O4 0 7 (by simp)
    have q4 := IsObj.setAll (xs := itCells (nth X j)) O4 rfl
    have y4 := Only.setCells (b := H) (itCells (nth X j)) 0 (Only.refl H w4)
    have K5 := range_only K4 y4 (by omega)
    have hfin := FIN.out v' w4 _ hown4 hb4 y4
    have HF := Lib.hid (And.intro hfin q4)
    clear hfin q4 hg4 hnil hob hown4
    refine wp_region_held_drew (S := fun W => W.rangeAt b (off + j * 7) (itCells (nth X j))) (by kernel_rfl) ?_ (fun hHeld => ?_)
    · exact K0
    refine wpAnyH_take (i := 0) (oi := ?oi14) (v := ?v14) ?hi14 (by kernel_rfl) (by kernel_rfl) (by kernel_rfl) ?hQ14 ?hy14 (by assumption) ?_
    case hi14 => (simp only [List.getElem?_toArray, List.getElem?_cons_succ, List.getElem?_cons_zero]; rfl)
    case hQ14 => exact fun _ _ _ h => h
    case hy14 => (refine Or.inl ⟨by rfl, ?_⟩; intro w hSw; (try dsimp only at hSw); go_simp; try with_reducible rfl)
    try simp only [Act.put, List.setIfInBounds_toArray, List.set_cons_zero, List.set_cons_succ]
    refine wpAnyH_take (i := 1) (oi := ?oi15) (v := ?v15) ?hi15 (by kernel_rfl) (by kernel_rfl) (by kernel_rfl) ?hQ15 ?hy15 (by assumption) ?_
    case hi15 => (simp only [List.getElem?_toArray, List.getElem?_cons_succ, List.getElem?_cons_zero]; rfl)
    case hQ15 => exact fun _ _ _ h => h
    case hy15 => (refine Or.inl ⟨by rfl, ?_⟩; intro w hSw; (try dsimp only at hSw); go_simp; try with_reducible rfl)
    try simp only [Act.put, List.setIfInBounds_toArray, List.set_cons_zero, List.set_cons_succ]
    refine wpAnyH_take (i := 2) (oi := ?oi16) (v := ?v16) ?hi16 (by kernel_rfl) (by kernel_rfl) (by kernel_rfl) ?hQ16 ?hy16 (by assumption) ?_
    case hi16 => (simp only [List.getElem?_toArray, List.getElem?_cons_succ, List.getElem?_cons_zero]; rfl)
    case hQ16 => exact fun _ _ _ h => h
    case hy16 => (refine Or.inl ⟨by rfl, ?_⟩; intro w hSw; (try dsimp only at hSw); go_simp; try with_reducible rfl)
    try simp only [Act.put, List.setIfInBounds_toArray, List.set_cons_zero, List.set_cons_succ]
    refine wpAnyH_take (i := 3) (oi := ?oi17) (v := ?v17) ?hi17 (by kernel_rfl) (by kernel_rfl) (by kernel_rfl) ?hQ17 ?hy17 (by assumption) ?_
    case hi17 => (simp only [List.getElem?_toArray, List.getElem?_cons_succ, List.getElem?_cons_zero]; rfl)
    case hQ17 => exact fun _ _ _ h => h
    case hy17 => (refine Or.inl ⟨by rfl, ?_⟩; intro w hSw; (try dsimp only at hSw); go_simp; try with_reducible rfl)
    try simp only [Act.put, List.setIfInBounds_toArray, List.set_cons_zero, List.set_cons_succ]
    refine wpAnyH_take (i := 4) (oi := ?oi18) (v := ?v18) ?hi18 (by kernel_rfl) (by kernel_rfl) (by kernel_rfl) ?hQ18 ?hy18 (by assumption) ?_
    case hi18 => (simp only [List.getElem?_toArray, List.getElem?_cons_succ, List.getElem?_cons_zero]; rfl)
    case hQ18 => exact fun _ _ _ h => h
    case hy18 => (refine Or.inl ⟨by rfl, ?_⟩; intro w hSw; (try dsimp only at hSw); go_simp; try with_reducible rfl)
    try simp only [Act.put, List.setIfInBounds_toArray, List.set_cons_zero, List.set_cons_succ]
    refine wpAnyH_take (i := 6) (oi := ?oi19) (v := ?v19) ?hi19 (by kernel_rfl) (by kernel_rfl) (by kernel_rfl) ?hQ19 ?hy19 (by assumption) ?_
    case hi19 => (simp only [List.getElem?_toArray, List.getElem?_cons_succ, List.getElem?_cons_zero]; rfl)
    case hQ19 => exact fun _ _ _ h => h
    case hy19 => (refine Or.inl ⟨by rfl, ?_⟩; intro w hSw; (try dsimp only at hSw); go_simp; try with_reducible rfl)
    try simp only [Act.put, List.setIfInBounds_toArray, List.set_cons_zero, List.set_cons_succ]
    refine wpAnyH_take (i := 7) (oi := ?oi20) (v := ?v20) ?hi20 (by kernel_rfl) (by kernel_rfl) (by kernel_rfl) ?hQ20 ?hy20 (by assumption) ?_
    case hi20 => (simp only [List.getElem?_toArray, List.getElem?_cons_succ, List.getElem?_cons_zero]; rfl)
    case hQ20 => exact fun _ _ _ h => h
    case hy20 => (refine Or.inl ⟨by rfl, ?_⟩; intro w hSw; (try dsimp only at hSw); go_simp; try with_reducible rfl)
    try simp only [Act.put, List.setIfInBounds_toArray, List.set_cons_zero, List.set_cons_succ]
    refine wpAnyH_take (i := 8) (oi := ?oi21) (v := ?v21) ?hi21 (by kernel_rfl) (by kernel_rfl) (by kernel_rfl) ?hQ21 ?hy21 (by assumption) ?_
    case hi21 => (simp only [List.getElem?_toArray, List.getElem?_cons_succ, List.getElem?_cons_zero]; rfl)
    case hQ21 => exact fun _ _ _ h => h
    case hy21 => (refine Or.inl ⟨by rfl, ?_⟩; intro w hSw; (try dsimp only at hSw); go_simp; try with_reducible rfl)
    try simp only [Act.put, List.setIfInBounds_toArray, List.set_cons_zero, List.set_cons_succ]
    refine wpAnyH_take (i := 9) (oi := ?oi22) (v := .agg (itCells (nth X j)).toArray) ?hi22 (by kernel_rfl) (by kernel_rfl) (by kernel_rfl) ?hQ22 ?hy22 (by assumption) ?_
    case hi22 => (simp only [List.getElem?_toArray, List.getElem?_cons_succ, List.getElem?_cons_zero]; rfl)
    case hQ22 => exact fun _ _ _ h => h
    case hy22 => exact yieldsIf_load_mid (by rfl) 31 _ (by rfl) b (off + j * 7) (by rfl) (itCells (nth X j)) _ (fun w hw => hw) Try.underlying31 rfl (by kernel_rfl)
    try simp only [Act.put, List.setIfInBounds_toArray, List.set_cons_zero, List.set_cons_succ]
    refine wpAnyH_ready (rs := [5]) (by kernel_rfl) (by simp) ?_
    refine AllReadyH.cons (o := ?oi2300) ?ho2300 (fun K hK => ?_) AllReadyH.nil
    case ho2300 => (simp only [List.getElem?_toArray, List.getElem?_cons_succ, List.getElem?_cons_zero]; rfl)
    refine step_run_append (by rfl) (by rfl) (by rfl) (by rfl) hra ?_
    refine hK.out _ _ ?_ (fun hHeld => ?_)
    · (try dsimp only); exact K4
    clear hK K
    try simp only [Act.put, List.setIfInBounds_toArray, List.set_cons_zero, List.set_cons_succ]
    refine wpAnyH_take (i := 10) (oi := ?oi24) (v := ?v24) ?hi24 (by kernel_rfl) (by kernel_rfl) (by kernel_rfl) ?hQ24 ?hy24 (by assumption) ?_
    case hi24 => (simp only [List.getElem?_toArray, List.getElem?_cons_succ, List.getElem?_cons_zero]; rfl)
    case hQ24 => exact fun _ _ _ h => h
    case hy24 => (refine Or.inl ⟨by rfl, ?_⟩; intro w hSw; (try dsimp only at hSw); go_simp; try with_reducible rfl)
    try simp only [Act.put, List.setIfInBounds_toArray, List.set_cons_zero, List.set_cons_succ]
    refine wpAnyH_ready (rs := [11]) (by kernel_rfl) (by simp) ?_
    refine AllReadyH.cons (o := ?oi2500) ?ho2500 (fun K hK => ?_) AllReadyH.nil
    case ho2500 => (simp only [List.getElem?_toArray, List.getElem?_cons_succ, List.getElem?_cons_zero]; rfl)
    refine wp_store_mid 31 _ _ (by rfl) H 0 (itCells (nth X j)).toArray (by rfl) (by rfl) t4 (by kernel_rfl) (it_one _) ?_
    generalize w4.setCells H 0 (itCells (nth X j)).toArray.toList = w5 at *
    refine hK.out _ _ ?_ (fun hHeld => ?_)
    · (try dsimp only); exact K5
    clear hK K
    try simp only [Act.put, List.setIfInBounds_toArray, List.set_cons_zero, List.set_cons_succ]
    refine wpAnyH_take (i := 12) (oi := ?oi26) (v := ?v26) ?hi26 (by kernel_rfl) (by kernel_rfl) (by kernel_rfl) ?hQ26 ?hy26 (by assumption) ?_
    case hi26 => (simp only [List.getElem?_toArray, List.getElem?_cons_succ, List.getElem?_cons_zero]; rfl)
    case hQ26 => exact fun _ _ _ h => h
    case hy26 => (refine Or.inl ⟨by rfl, ?_⟩; intro w hSw; (try dsimp only at hSw); go_simp; try with_reducible rfl)
    try simp only [Act.put, List.setIfInBounds_toArray, List.set_cons_zero, List.set_cons_succ]
    refine wpAnyH_done (by kernel_rfl) ?_ _
    clear hra K0 K4 K5 t4 y4
    go_wp2_with fail
    have RL := run_loadVar_mid (P := Try.prog) w5 H 0 31 (itCells (nth X j)) _ (IsObj.range HF.out.2) Try.underlying31 rfl (by kernel_rfl)
    refine bodyPost_ret (v := .tuple #[v', .agg (itCells (nth X j)).toArray, .bool true]) ?_ rfl ?_
    · exact results_tct (by rfl) (by rfl) (by rfl) (by rfl) RL
    · exact ⟨v', rfl, HF.out.1.1, HF.out.1.2⟩

end Go.Proofs.Ytmanmebgmhpilaa
