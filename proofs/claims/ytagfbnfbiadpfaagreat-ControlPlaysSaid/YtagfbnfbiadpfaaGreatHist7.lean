/-
  hist.Hist: All, Clear; the document's sums.
-/
import Derived.Test.YtagfbnfbiadpfaaGreatHist5
import Derived.Deep.AppendLies
namespace Go.Proofs.YtagfbnfbiadpfaaGreat
open Go.RowKit Go.Shelf
set_option linter.unusedVariables false
set_option linter.unusedSimpArgs false

set_option maxRecDepth 100000 in
theorem info_int : (Tryz.prog.info? 3).map (fun i => (i.zero, i.size, i.bytes)) = some (some (.int .i64 0), 1, 8) := by kernel_rfl
theorem all_nilH (w : World) : Calls Tryz.prog 110 #[.pointer none] w fun e w' => e = .returned (.slice none 0 0) ∧ w = w' := by
  go_enter Tryz.func110, Tryz.ntmps110
  go_wp2
  go_ret
  exact ⟨rfl, rfl⟩
set_option maxRecDepth 100000 in
set_option maxHeartbeats 1000000 in
theorem all_anyH (b lv : Nat) (c : List Int) (w : World) (h : HistAt w b lv c) (h1 : 1 ≤ lv) :
    Calls Tryz.prog 110 #[.pointer (some ⟨b, 0, none⟩)] w fun e w' => ∃ g cap, e = .returned (.slice (some ⟨g, 0, none⟩) lv cap) ∧ w'.ownsRow w.heap.size 3 1 (.slice (some ⟨g, 0, none⟩) lv cap) lv ((c.take lv).map (Value.int .i64)) ∧ Below w.heap.size w w' := by
  obtain ⟨i0, hi, hz0, hz1, hz2⟩ := info_parts info_int
  have hlv := h.n
  have hlt := h.o.lt
  have hl : ((c.take lv).map (Value.int .i64)).length = lv * 1 := by rw [List.length_map, List.length_take, h.l]; omega
  have hn : ∀ j u, ((c.take lv).map (Value.int .i64))[j]? = some u → w.cell? ((⟨b, 1, none⟩ : Addr).add j) = some u := by
    intro j u hu
    have hj : j < lv := by
      have := (List.getElem?_eq_some_iff.1 hu).1
      omega
    rw [addr_add, h.at_ j (by omega)]
    rw [List.getElem?_map, List.getElem?_take_of_lt hj, List.getElem?_eq_getElem (by rw [h.l]; omega)] at hu
    rw [nth_lt c j (by rw [h.l]; omega)]
    simpa using hu
  have cl := h.lev
  have i1 : (lv : Int) ≤ 128 := by omega
  have i2 : (0 : Int) ≤ (lv : Int) := by omega
  have ho : ∀ u ∈ (c.take lv).map (Value.int .i64), u.oneCell' = true := by
    intro u hu
    obtain ⟨x, _, rfl⟩ := List.mem_map.1 hu
    rfl
  have HO := Lib.hid ho
  have HN := Lib.hid hn
  have HL := Lib.hid hl
  clear hn hl ho h
  go_enter Tryz.func110, Tryz.ntmps110
  go_wp2_with fail
  go_region_held3 (fun w' => w'.cell? ⟨b, 0, none⟩ = some (.int .i64 lv)) (first | go_keep | exact (hgrow.cell_far _ (by simp; omega) (by simp [Value.ownBlock]; omega)).trans (by assumption))
    ((refine step_append_lies _ (by rfl) _ _ _ (by rfl) w.heap.size 3 i0 (.int .i64 0) 1 8 Tryz.underlying32 hi hz0 hz1 hz2 rfl (by decide) (.slice (some ⟨w.heap.size, 0, none⟩) 0 0) 0 [] (by rfl) (World.ownsRow_lit w #[] 0 (Nat.le_refl _) (by decide) rfl)
        ⟨b, 1, none⟩ lv 128 _ (by rfl) HL.out (fun j u hu => (Below.cell ((Below.refl w.heap.size w).alloc (Nat.le_refl _) _) (by rw [addr_add]; exact hlt)).trans (HN.out j u hu)) HO.out (by omega) (by unfold maxLen; omega) (by omega) (by simp) (w.heap.size + 1) (by simp) ?_; intro g cap w1 hown hgrow hat hglt))
  go_wp2
  go_ret
  have hgr := hgrow
  rw [Nat.zero_add, List.nil_append] at hown
  refine ⟨g, cap, by simp, hown, Below.grown (below_drewN ((Below.refl w.heap.size w).alloc (Nat.le_refl _) (.cells #[] 3)) 1) hgrow (by simp) ?_⟩
  intro k hk
  simp [Value.ownBlock] at hk
  omega

/-! ### Clear -/
theorem IsObj.there {w : World} {b : Nat} {ty : TypeId} {cs : List Value} (h : IsObj w b ty cs) (o n : Nat) (hn : o + n ≤ cs.length) : w.there b o n := by
  intro j hj
  refine ⟨?_, IsObj.free h _⟩
  rw [IsObj.cell h]
  simp; omega
theorem IsObj.setCells {b : Nat} {ty : TypeId} (vs : List Value) : ∀ (o : Nat) {w : World} {cs : List Value}, IsObj w b ty cs → o + vs.length ≤ cs.length → IsObj (w.setCells b o vs) b ty (cs.take o ++ vs ++ cs.drop (o + vs.length)) := by
  induction vs with
  | nil => intro o w cs h hl; simpa [World.setCells] using h
  | cons v vs ih =>
    intro o w cs h hl
    simp only [List.length_cons] at hl
    have h1 := ih (o + 1) (h.set o v) (by rw [List.length_set]; omega)
    have e : (cs.set o v).take (o + 1) ++ vs ++ (cs.set o v).drop (o + 1 + vs.length) = cs.take o ++ (v :: vs) ++ cs.drop (o + (v :: vs).length) := by
      simp only [List.length_cons] at hl ⊢
      rw [List.drop_set_of_lt (by omega), List.take_set, List.take_succ_eq_append_getElem (by omega), List.set_append_right _ _ (by simp; omega)]
      simp [Nat.min_eq_left (show o ≤ cs.length by omega)]
      congr 1
      omega
    rw [e] at h1
    exact h1
theorem Only.setCells {b : Nat} (vs : List Value) : ∀ (o : Nat) {u w : World}, Only b u w → Only b u (w.setCells b o vs) := by
  induction vs with
  | nil => intro o u w h; exact h
  | cons v vs ih => intro o u w h; exact ih (o + 1) (h.setCell (.inl rfl) v)
def zcells : List Value := List.replicate 128 (.int .i64 0)
set_option maxRecDepth 100000 in
theorem info_row : (Tryz.prog.info? 89).map (fun i => (i.zero, i.size)) = some (some (.agg zcells.toArray), 128) := by kernel_rfl
theorem zero_row (w : World) : (zeroValue 89).run Tryz.prog w = .ok (.agg zcells.toArray) w := by
  obtain ⟨i, hi, hz⟩ := Option.map_eq_some_iff.1 info_row
  have h1 : i.zero = some (.agg zcells.toArray) := congrArg Prod.fst hz
  simp [zeroValue, typeInfo, hi, h1]
theorem hstCells_len (n : Nat) (c : List Int) (h : c.length = 128) : (hstCells n c).length = 129 := by simp [hstCells, h]
theorem hclear_nil (w : World) : Calls Tryz.prog 78 #[.pointer none] w fun e w' => e = .returned (.tuple #[]) ∧ w = w' := by
  go_enter Tryz.func78, Tryz.ntmps78
  go_wp2
  first | go_end0 | (refine bodyPost_ret (results_none rfl _ _ _) rfl ?_)
  exact ⟨rfl, rfl⟩
set_option maxRecDepth 100000 in
theorem hclear_any (b lv : Nat) (c : List Int) (w : World) (h : HistAt w b lv c) : Calls Tryz.prog 78 #[.pointer (some ⟨b, 0, none⟩)] w fun e w' => e = .returned (.tuple #[]) ∧ HistAt w' b lv zeros ∧ Only b w w' := by
  have hl := hstCells_len lv c h.l
  have ht : w.there b 1 zcells.toArray.size := IsObj.there h.o 1 128 (by rw [hl]; decide)
  have h2 := IsObj.setCells zcells 1 h.o (by rw [hl]; decide)
  have h3 := Only.setCells (b := b) zcells 1 (Only.refl b w)
  have he : (hstCells lv c).take 1 ++ zcells ++ (hstCells lv c).drop (1 + zcells.length) = hstCells lv zeros := by
    rw [List.drop_eq_nil_of_le (by rw [hl]; decide), List.append_nil]
    rfl
  rw [he] at h2
  have HT := Lib.hid ht
  have H2 := Lib.hid (show HistAt (w.setCells b 1 zcells) b lv zeros from ⟨h2, zeros_len, h.n⟩)
  have H3 := Lib.hid h3
  clear h2 h3 h ht he hl
  have zv := zero_row
  go_enter Tryz.func78, Tryz.ntmps78
  go_wp2_with (refine wpList_store_mid (by rfl) 89 _ _ (by rfl) b 1 zcells.toArray (by rfl) (by rfl) HT.out (by kernel_rfl) (by kernel_rfl) ?_)
  go_end0
  exact ⟨rfl, H2.out, H3.out⟩

/-! ### The document's sums -/
def rsum (l : List Int) : Nat → Int
  | 0 => 0
  | k + 1 => bAdd (rsum l k) (nth l k)
def rbelow (l : List Int) (T : Int) : Int := rsum l (min l.length T.toNat)
theorem rbelow_any (a : Option Addr) (c : Nat) (l : List Int) (T : Int) (w : World) (m : l.length ≤ 9223372036854775807) (h : IntsAt w a l) :
    Calls Tryz.prog 68 #[.slice a l.length c, .int .i64 T] w fun e w' => e = .returned (.int .i64 (rbelow l T)) ∧ w = w' := by
  have HI := Lib.hid h
  clear h
  go_enter Tryz.func68, Tryz.ntmps68
  go_wp2
  go_loop [5, 6] (fun n i => ∃ k : Nat, k ≤ l.length ∧ (k : Int) ≤ max T 0 ∧ i = .int .i64 k ∧ n = .int .i64 (rsum l k)) (fun _ i => l.length - (intOf i).toNat)
  case atStart => exact ⟨0, Nat.zero_le _, by omega, rfl, rfl⟩
  case round =>
    obtain ⟨k, hk, hT, rfl, rfl⟩ := hrel
    by_cases hlt : k < l.length
    · obtain ⟨b, off, rfl, hc⟩ : ∃ b off, a = some ⟨b, off, none⟩ ∧ ∀ i, i < l.length → w.cell? ⟨b, off + i, none⟩ = some (.int .i64 (nth l i)) := by
        rcases HI.out with rfl | ⟨b, off, rfl, hc⟩
        · simp at hlt
        · exact ⟨b, off, rfl, hc⟩
      have c0 := hc k hlt
      have i3 : (k : Int) < (l.length : Int) := by omega
      clear hc
      by_cases hkT : (k : Int) < T
      · go_wp2_with (go_at_call 59; (with_reducible refine (radd_any _ _ _).mono ?_); rintro e w' ⟨rfl, rfl⟩)
        go_round
        case rel => exact ⟨k + 1, by omega, by omega, by go_num, rfl⟩
        case measure => simp [intOf]; omega
      · have hE := Lib.hid (show rbelow l T = rsum l k by unfold rbelow; rw [show min l.length T.toNat = k by omega])
        have hkT2 : T ≤ (k : Int) := by omega
        go_wp2_with fail
        go_ret
        exact ⟨ret_int hE.out.symm, rfl⟩
    · obtain rfl : k = l.length := by omega
      have hE := Lib.hid (show rbelow l T = rsum l l.length by unfold rbelow; rw [show min l.length T.toNat = l.length by omega])
      go_wp2_with fail
      go_ret
      exact ⟨ret_int hE.out.symm, rfl⟩
/-- The histogram's sums are the document's, of what is told of all. -/
theorem sumH_eq (lv : Nat) (c l : List Int) (hl : l = c.take lv) (hlv : lv ≤ c.length) : ∀ k, k ≤ lv → sumH lv c k = rsum l k
  | 0, _ => rfl
  | k + 1, h => by
    have e : manyL lv c k = nth l k := by
      rw [manyL, if_pos (by simp [hasL]; omega), hl, nth_take _ _ _ (by omega)]
      rfl
    show bAdd _ _ = bAdd _ _
    rw [sumH_eq lv c l hl hlv k (by omega), e]
theorem belowH_eq (lv : Nat) (c l : List Int) (hl : l = c.take lv) (hlv : lv ≤ c.length) (T : Int) : belowH lv c T = rbelow l T := by
  have hll : l.length = lv := by rw [hl, List.length_take]; omega
  unfold belowH rbelow
  by_cases hT : T < 0
  · rw [if_pos hT, show min l.length T.toNat = 0 by omega]
    rfl
  · rw [if_neg hT, hll]
    exact sumH_eq lv c l hl hlv _ (by omega)
end Go.Proofs.YtagfbnfbiadpfaaGreat
