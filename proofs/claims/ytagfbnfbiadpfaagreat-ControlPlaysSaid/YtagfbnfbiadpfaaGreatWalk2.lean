/-
  walk: levels, Down, Up.
-/
import Derived.Test.YtagfbnfbiadpfaaGreatWalk
import Derived.Deep.DeepCutAuto
namespace Go.Proofs.YtagfbnfbiadpfaaGreat
open Go.RowKit Go.Shelf
set_option linter.unusedVariables false
set_option linter.unusedSimpArgs false

theorem levels_nil (w : World) : Calls Tryz.prog 94 #[.pointer none] w fun e w' => e = .returned (.int .i64 0) ∧ w = w' := by
  go_enter Tryz.func94, Tryz.ntmps94
  go_wp2_with (go_at_call 110; (with_reducible refine (all_nilH _).mono ?_); rintro e w' ⟨rfl, rfl⟩)
  go_ret
  exact ⟨rfl, rfl⟩
theorem levels_any (b lv : Nat) (c : List Int) (w : World) (h : HistAt w b lv c) (h1 : 1 ≤ lv) : Calls Tryz.prog 94 #[.pointer (some ⟨b, 0, none⟩)] w fun e w' => e = .returned (.int .i64 lv) ∧ Below w.heap.size w w' := by
  have K := Lib.hid (all_anyH b lv c w h h1)
  clear h
  go_enter Tryz.func94, Tryz.ntmps94
  go_wp2_with fail
  refine K.out.mono ?_
  rintro e w1 ⟨g, cap, rfl, _, hb⟩
  go_wp2
  go_ret
  exact ⟨rfl, hb⟩
theorem below_drew_left {W W1 : World} (h : Below W.drew.heap.size W.drew W1) : Below W.heap.size W W1 := ⟨h.os, h.tape, h.output, h.size, h.block⟩
theorem two_keepc {W W1 : World} {c1 c2 : Nat} {v1 v2 : Value} (hb : Below W.heap.size W W1) (h : W.cell? ⟨c1, 0, none⟩ = some v1 ∧ W.cell? ⟨c2, 0, none⟩ = some v2) : W1.cell? ⟨c1, 0, none⟩ = some v1 ∧ W1.cell? ⟨c2, 0, none⟩ = some v2 := ⟨cell_keep hb h.1, cell_keep hb h.2⟩
theorem downc_any (b lv : Nat) (c : List Int) (x m : Int) (c1 c2 : Nat) (W : World) (h1 : W.cell? ⟨c1, 0, none⟩ = some (.pointer (some ⟨b, 0, none⟩))) (h2 : W.cell? ⟨c2, 0, none⟩ = some (.int .i64 m)) (h : HistAt W b lv c) :
    Calls Tryz.prog 102 #[.int .i64 x, .pointer (some ⟨c1, 0, none⟩), .pointer (some ⟨c2, 0, none⟩)] W fun e W' => e = .returned (.bool (decide (belowH lv c x ≤ m))) ∧ Below W.heap.size W W' := by
  have HD := Lib.hid (show HistAt W.drew b lv c from ⟨h.o.drew, h.l, h.n⟩)
  clear h
  go_enter Tryz.func102, Tryz.ntmps102
  go_wp2_with fail
  go_region_held3 (fun w' => w'.cell? ⟨c1, 0, none⟩ = some (.pointer (some ⟨b, 0, none⟩)) ∧ w'.cell? ⟨c2, 0, none⟩ = some (.int .i64 m)) (first | go_keep | assumption)
    (first | (go_at_call 95; with_reducible refine (below_anyH b lv c x _ HD.out).mono ?_; rintro e w2 ⟨rfl, hb⟩; have hk := two_keepc hb (by assumption)))
  go_wp2
  go_ret
  exact ⟨rfl, below_drew_left hb⟩
theorem upc_any (b lv : Nat) (c : List Int) (x m : Int) (c1 c2 : Nat) (W : World) (h1 : W.cell? ⟨c1, 0, none⟩ = some (.pointer (some ⟨b, 0, none⟩))) (h2 : W.cell? ⟨c2, 0, none⟩ = some (.int .i64 m)) (h : HistAt W b lv c) :
    Calls Tryz.prog 100 #[.int .i64 x, .pointer (some ⟨c1, 0, none⟩), .pointer (some ⟨c2, 0, none⟩)] W fun e W' => e = .returned (.bool (decide (m ≤ belowH lv c x))) ∧ Below W.heap.size W W' := by
  have HD := Lib.hid (show HistAt W.drew b lv c from ⟨h.o.drew, h.l, h.n⟩)
  clear h
  go_enter Tryz.func100, Tryz.ntmps100
  go_wp2_with fail
  go_region_held3 (fun w' => w'.cell? ⟨c1, 0, none⟩ = some (.pointer (some ⟨b, 0, none⟩)) ∧ w'.cell? ⟨c2, 0, none⟩ = some (.int .i64 m)) (first | go_keep | assumption)
    (first | (go_at_call 95; with_reducible refine (below_anyH b lv c x _ HD.out).mono ?_; rintro e w2 ⟨rfl, hb⟩; have hk := two_keepc hb (by assumption)))
  go_wp2
  go_ret
  exact ⟨rfl, below_drew_left hb⟩
theorem upc_nil (x m : Int) (c1 c2 : Nat) (W : World) (h1 : W.cell? ⟨c1, 0, none⟩ = some (.pointer none)) (h2 : W.cell? ⟨c2, 0, none⟩ = some (.int .i64 m)) :
    Calls Tryz.prog 100 #[.int .i64 x, .pointer (some ⟨c1, 0, none⟩), .pointer (some ⟨c2, 0, none⟩)] W fun e W' => e = .returned (.bool (decide (m ≤ 0))) ∧ Below W.heap.size W W' := by
  go_enter Tryz.func100, Tryz.ntmps100
  go_wp2_with fail
  go_region_held3 (fun w' => w'.cell? ⟨c1, 0, none⟩ = some (.pointer none) ∧ w'.cell? ⟨c2, 0, none⟩ = some (.int .i64 m)) (first | go_keep | assumption)
    (first | (go_at_call 95; with_reducible refine (below_nilH x _).mono ?_; rintro e w2 ⟨rfl, hb⟩; have hk := two_keepc hb (by assumption)))
  go_wp2
  go_ret
  exact ⟨rfl, below_drew_left hb⟩
/-- Where a threshold goes, down and up. -/
def downW (lv : Nat) (c : List Int) (th fl cut : Int) : Int :=
  if keep th lv ≤ keep fl lv then keep th lv
  else firstOf (dnV (keep th lv - 1) (keep th lv - keep fl lv).toNat) (fun x => decide (belowH lv c x ≤ belowH lv c (keep th lv) - bPart (belowH lv c (keep th lv)) cut)) (keep fl lv)
def moreW (lv : Nat) (c : List Int) (th lift : Int) : Int := bAdd (belowH lv c (keep th lv)) (bPart (belowH lv c 128) lift)
def upW (lv : Nat) (c : List Int) (th lift : Int) : Int :=
  firstOf (upV (keep th lv + 1) ((lv : Int) - keep th lv).toNat) (fun x => decide (moreW lv c th lift ≤ belowH lv c x)) lv
theorem firstOf_in (l : List Int) (q : Int → Bool) (other : Int) : firstOf l q other ∈ l ∨ firstOf l q other = other := by
  unfold firstOf
  cases h : l.find? q with
  | none => exact .inr rfl
  | some x => exact .inl (List.mem_of_find?_eq_some h)
theorem down_rng (lv : Nat) (c : List Int) (t f cut : Int) (t0 : 0 ≤ t) (t1 : t ≤ lv) (f0 : 0 ≤ f) (f1 : f ≤ lv) : (t ≤ f → downW lv c t f cut = t) ∧ (f < t → f ≤ downW lv c t f cut ∧ downW lv c t f cut < t) := by
  unfold downW
  rw [keep_id t lv t0 t1, keep_id f lv f0 f1]
  refine ⟨fun h => if_pos h, fun h => ?_⟩
  rw [if_neg (by omega)]
  rcases firstOf_in (dnV (t - 1) (t - f).toNat) (fun x => decide (belowH lv c x ≤ belowH lv c t - bPart (belowH lv c t) cut)) f with h1 | h1
  · unfold dnV upto at h1
    obtain ⟨i, hi, e⟩ := List.mem_map.1 h1
    rw [List.mem_range] at hi
    unfold dnV upto
    omega
  · omega
theorem up_rng (lv : Nat) (c : List Int) (t lift : Int) (t0 : 0 ≤ t) (t1 : t ≤ lv) : upW lv c t lift ≤ lv ∧ (t < lv → t < upW lv c t lift) ∧ (t = lv → upW lv c t lift = lv) := by
  unfold upW
  rw [keep_id t lv t0 t1]
  rcases firstOf_in (upV (t + 1) ((lv : Int) - t).toNat) (fun x => decide (moreW lv c t lift ≤ belowH lv c x)) lv with h1 | h1
  · unfold upV upto at h1
    obtain ⟨i, hi, e⟩ := List.mem_map.1 h1
    rw [List.mem_range] at hi
    unfold upV upto
    omega
  · omega
/-- Three new variables, one behind the other. -/
theorem three_new (w : World) (x y z : Int) : ∃ W, W = (((w.alloc (.cells #[.int .i64 x] 3)).alloc (.cells #[.int .i64 y] 3)).alloc (.cells #[.int .i64 z] 3)) ∧ Below w.heap.size w W ∧ W.heap.size = w.heap.size + 3 ∧
    W.cell? ⟨w.heap.size, 0, none⟩ = some (.int .i64 x) ∧ W.cell? ⟨w.heap.size + 1, 0, none⟩ = some (.int .i64 y) ∧ W.cell? ⟨w.heap.size + 1 + 1, 0, none⟩ = some (.int .i64 z) := by
  refine ⟨_, rfl, ?_, by simp, ?_, ?_, ?_⟩
  · exact ((((Below.refl _ w).alloc (Nat.le_refl _) _).alloc (by simp) _).alloc (by simp; omega) _)
  · exact (((IsObj.new w 3 [.int .i64 x]).alloc _).alloc _).cell 0
  · have h := IsObj.new (w.alloc (.cells #[.int .i64 x] 3)) 3 [.int .i64 y]
    rw [World.size_alloc] at h
    exact (h.alloc _).cell 0
  · have h := IsObj.new ((w.alloc (.cells #[.int .i64 x] 3)).alloc (.cells #[.int .i64 y] 3)) 3 [.int .i64 z]
    rw [World.size_alloc, World.size_alloc] at h
    exact h.cell 0
/-- Two new variables, one behind the other. -/
theorem two_new (w : World) (y z : Int) : ∃ W, W = ((w.alloc (.cells #[.int .i64 y] 3)).alloc (.cells #[.int .i64 z] 3)) ∧ Below w.heap.size w W ∧ W.heap.size = w.heap.size + 2 ∧
    W.cell? ⟨w.heap.size, 0, none⟩ = some (.int .i64 y) ∧ W.cell? ⟨w.heap.size + 1, 0, none⟩ = some (.int .i64 z) := by
  refine ⟨_, rfl, ?_, by simp, ?_, ?_⟩
  · exact (((Below.refl _ w).alloc (Nat.le_refl _) _).alloc (by simp) _)
  · exact ((IsObj.new w 3 [.int .i64 y]).alloc _).cell 0
  · have h := IsObj.new (w.alloc (.cells #[.int .i64 y] 3)) 3 [.int .i64 z]
    rw [World.size_alloc] at h
    exact h.cell 0
theorem wdown_nil (th fl cut : Int) (w : World) : Calls Tryz.prog 72 #[.pointer none, .int .i64 th, .int .i64 fl, .int .i64 cut] w fun e w' => e = .returned (.int .i64 0) ∧ Below w.heap.size w w' := by
  have K1 := Lib.hid (fun w => keep_any th 0 w)
  have K2 := Lib.hid (fun w => keep_any fl 0 w)
  have e1 : keep th 0 = 0 := by have := keep_nn th 0; have := keep_le th 0 (Int.le_refl _); omega
  have e2 : keep fl 0 = 0 := by have := keep_nn fl 0; have := keep_le fl 0 (Int.le_refl _); omega
  rw [e1] at K1
  rw [e2] at K2
  clear e1 e2
  go_enter Tryz.func72, Tryz.ntmps72
  go_wp2_with (first | (go_at_call 94; (with_reducible refine (levels_nil _).mono ?_); rintro e w' ⟨rfl, rfl⟩) | (go_at_call 64; (with_reducible refine (K1.out _).mono ?_); rintro e w' ⟨rfl, rfl⟩) | (go_at_call 64; (with_reducible refine (K2.out _).mono ?_); rintro e w' ⟨rfl, rfl⟩))
  go_ret
  exact ⟨rfl, (Below.refl _ _).alloc (Nat.le_refl _) _⟩
set_option maxRecDepth 100000 in
set_option maxHeartbeats 2000000 in
theorem wdown_any (b lv : Nat) (c : List Int) (th fl cut : Int) (w : World) (h : HistAt w b lv c) (hl : 1 ≤ lv) : Calls Tryz.prog 72 #[.pointer (some ⟨b, 0, none⟩), .int .i64 th, .int .i64 fl, .int .i64 cut] w fun e w' => e = .returned (.int .i64 (downW lv c th fl cut)) ∧ Below w.heap.size w w' := by
  have hlv := h.n
  have hbw := h.o.lt
  have t0 := keep_nn th lv
  have t1 := keep_le th lv (by omega)
  have f0 := keep_nn fl lv
  have f1 := keep_le fl lv (by omega)
  have hp0 := (sumH_rng lv c (min lv (keep th lv).toNat))
  have hp : belowH lv c (keep th lv) = sumH lv c (min lv (keep th lv).toNat) := by unfold belowH; rw [if_neg (by omega)]
  rw [← hp] at hp0
  have hq0 : 0 ≤ bPart (belowH lv c (keep th lv)) cut ∧ bPart (belowH lv c (keep th lv)) cut ≤ 2147483647 := by
    obtain ⟨p0, p1⟩ := hp0
    have a0 := keep_nn cut 100
    have a1 := keep_le cut 100 (by omega)
    have m := mul_rng _ (keep cut 100) _ 100 p0 p1 a0 a1
    unfold bPart
    rw [cnt_id _ p0 p1]
    omega
  obtain ⟨hpa, hpb⟩ := hp0
  obtain ⟨hqa, hqb⟩ := hq0
  clear hp
  obtain ⟨H, hH⟩ : ∃ H, H = w.heap.size := ⟨_, rfl⟩
  have B0 := Lib.hid (show Below H w (w.alloc (.cells #[.pointer (some ⟨b, 0, none⟩)] 59)) by rw [hH]; exact (Below.refl _ w).alloc (Nat.le_refl _) _)
  have O0 := Lib.hid (show IsObj (w.alloc (.cells #[.pointer (some ⟨b, 0, none⟩)] 59)) H 59 [.pointer (some ⟨b, 0, none⟩)] by rw [hH]; exact IsObj.new w _ _)
  have H0 := Lib.hid (show HistAt (w.alloc (.cells #[.pointer (some ⟨b, 0, none⟩)] 59)) b lv c from h.alloc _)
  have hn1 : H ≤ w.heap.size := by omega
  have hn2 : w.heap.size ≤ H := by omega
  have HHs := Lib.hid hH
  clear hH h
  have d0 := O0.out.cell 0
  go_enter Tryz.func72, Tryz.ntmps72
  go_wp2_with fail
  rw [← HHs.out]
  refine (levels_any b lv c _ H0.out hl).mono ?_
  rintro e w1 ⟨rfl, b1⟩
  have O1 := Lib.hid (IsObj.below O0.out b1 O0.out.lt)
  have H1 := Lib.hid (H0.out.same b1)
  have B1 := Lib.hid (B0.out.trans (b1.mono (by have := O0.out.lt; omega)))
  clear b1 O0 H0 B0 d0
  have d0 := O1.out.cell 0
  by_cases htf : keep th lv ≤ keep fl lv
  · have E := Lib.hid (show downW lv c th fl cut = keep th lv by unfold downW; rw [if_pos htf])
    go_wp2_with (go_at_call 64; (with_reducible refine (keep_any _ _ _).mono ?_); rintro e w' ⟨rfl, rfl⟩)
    go_ret
    exact ⟨ret_int E.out.symm, B1.out.mono hn2⟩
  · have E := Lib.hid (show downW lv c th fl cut = firstOf (dnV (keep th lv - 1) (keep th lv - keep fl lv).toNat) (fun x => decide (belowH lv c x ≤ belowH lv c (keep th lv) - bPart (belowH lv c (keep th lv)) cut)) (keep fl lv) by unfold downW; rw [if_neg htf])
    have htf2 : keep fl lv < keep th lv := by omega
    go_wp2_with (first
      | (go_at_call 64; (with_reducible refine (keep_any _ _ _).mono ?_); rintro e w' ⟨rfl, rfl⟩)
      | (go_at_call 96; (with_reducible refine (part_any _ _ _).mono ?_); rintro e w' ⟨rfl, rfl⟩))
    refine (below_anyH b lv c (keep th lv) _ H1.out).mono ?_
    rintro e w2 ⟨rfl, b2⟩
    have O2 := Lib.hid (IsObj.below O1.out b2 O1.out.lt)
    have H2 := Lib.hid (H1.out.same b2)
    have B2 := Lib.hid (B1.out.trans (b2.mono (by have := O1.out.lt; omega)))
    have hs2 : H < w2.heap.size := O2.out.lt
    clear b2 O1 H1 B1 d0
    generalize keep th lv = t at *
    generalize keep fl lv = f at *
    generalize hpp : belowH lv c t = p at *
    generalize hqq : bPart p cut = q at *
    have hPart := Lib.hid (fun w => part_any p cut w)
    rw [hqq] at hPart
    clear hpp hqq
    go_wp2_with (first
      | (go_at_call 96; (with_reducible refine (hPart.out _).mono ?_); rintro e w' ⟨rfl, rfl⟩)
      | (go_at_call 101; (with_reducible refine (down_any' _ _ _).mono ?_); rintro e w' ⟨rfl, rfl⟩))
    obtain ⟨W5, hW5, b5, s5, k0, k1, k2⟩ := three_new w2 (p - q) (t - 1) f
    rw [← hW5]
    have kH : W5.cell? ⟨H, 0, none⟩ = some (.pointer (some ⟨b, 0, none⟩)) := cell_keep b5 (O2.out.cell 0)
    have K := wfirst_in 114 #[.pointer (some ⟨w2.heap.size + 1, 0, none⟩), .pointer (some ⟨w2.heap.size + 1 + 1, 0, none⟩)] (dnV (t - 1)) (t - 1 + 1 - f).toNat (fun k => by rw [dnV, upto_length]) (fun a b h => upto_pre _ a b h) 102 H w2.heap.size
      (fun x => decide (belowH lv c x ≤ p - q)) f (enters_of Tryz.func114 (by kernel_rfl) rfl) (enters_of Tryz.func102 (by kernel_rfl) rfl) W5
      (fun w0 h0 => down_stops 5 (by omega) _ _ _ (t - 1) f (by omega) (by omega) (by omega) (by omega) (by omega) (by omega) w0 h0.size (cell_keep h0 k1) (cell_keep h0 k2))
      (fun x W hb => downc_any b lv c x (p - q) H w2.heap.size W (cell_keep hb kH) (cell_keep hb k0) ((H2.out.same b5).same hb))
    have KK := Lib.hid (callsIn_wide.1 K)
    have B5 := Lib.hid (B2.out.trans (b5.mono (by omega)))
    clear K kH k0 k1 k2 hW5
    refine KK.out.mono ?_
    rintro e w6 ⟨rfl, b6⟩
    have B6 := Lib.hid (B5.out.trans (b6.mono (by omega)))
    clear b6 KK B5 b5
    go_wp2_with fail
    go_ret
    exact ⟨ret_int E.out.symm, B6.out.mono hn2⟩

set_option maxRecDepth 100000 in
set_option maxHeartbeats 2000000 in
theorem wup_any (b lv : Nat) (c : List Int) (th lift : Int) (w : World) (h : HistAt w b lv c) (hl : 1 ≤ lv) : Calls Tryz.prog 71 #[.pointer (some ⟨b, 0, none⟩), .int .i64 th, .int .i64 lift] w fun e w' => e = .returned (.int .i64 (upW lv c th lift)) ∧ Below w.heap.size w w' := by
  have hlv := h.n
  have hbw := h.o.lt
  have t0 := keep_nn th lv
  have t1 := keep_le th lv (by omega)
  have E := Lib.hid (show upW lv c th lift = firstOf (upV (keep th lv + 1) ((lv : Int) - keep th lv).toNat) (fun x => decide (moreW lv c th lift ≤ belowH lv c x)) lv from rfl)
  have E2 := Lib.hid (show moreW lv c th lift = bAdd (belowH lv c (keep th lv)) (bPart (belowH lv c 128) lift) from rfl)
  obtain ⟨H, hH⟩ : ∃ H, H = w.heap.size := ⟨_, rfl⟩
  have B0 := Lib.hid (show Below H w (w.alloc (.cells #[.pointer (some ⟨b, 0, none⟩)] 59)) by rw [hH]; exact (Below.refl _ w).alloc (Nat.le_refl _) _)
  have O0 := Lib.hid (show IsObj (w.alloc (.cells #[.pointer (some ⟨b, 0, none⟩)] 59)) H 59 [.pointer (some ⟨b, 0, none⟩)] by rw [hH]; exact IsObj.new w _ _)
  have H0 := Lib.hid (show HistAt (w.alloc (.cells #[.pointer (some ⟨b, 0, none⟩)] 59)) b lv c from h.alloc _)
  have hn1 : H ≤ w.heap.size := by omega
  have hn2 : w.heap.size ≤ H := by omega
  have HHs := Lib.hid hH
  clear hH h
  have d0 := O0.out.cell 0
  go_enter Tryz.func71, Tryz.ntmps71
  go_wp2_with fail
  rw [← HHs.out]
  refine (levels_any b lv c _ H0.out hl).mono ?_
  rintro e w1 ⟨rfl, b1⟩
  have O1 := Lib.hid (IsObj.below O0.out b1 O0.out.lt)
  have H1 := Lib.hid (H0.out.same b1)
  have B1 := Lib.hid (B0.out.trans (b1.mono (by have := O0.out.lt; omega)))
  clear b1 O0 H0 B0 d0
  have d0 := O1.out.cell 0
  go_wp2_with (go_at_call 64; (with_reducible refine (keep_any _ _ _).mono ?_); rintro e w' ⟨rfl, rfl⟩)
  generalize keep th lv = t at *
  generalize moreW lv c th lift = m at *
  have hs1 : H < w1.heap.size := O1.out.lt
  have HD := Lib.hid (show HistAt w1.drew b lv c from ⟨H1.out.o.drew, H1.out.l, H1.out.n⟩)
  have hb11 : Below w1.heap.size w1 w1 := Below.refl _ _
  have hb12 : Below w1.heap.size w1 w1.drew := (Below.refl _ _).drew
  have sB : ∀ W, (W.cell? ⟨H, 0, none⟩ = some (.pointer (some ⟨b, 0, none⟩)) ∧ Below w1.heap.size w1 W) → Below w1.heap.size w1 W := fun W h => h.2
  have sK : ∀ W W1, Below W.heap.size W W1 → (W.cell? ⟨H, 0, none⟩ = some (.pointer (some ⟨b, 0, none⟩)) ∧ Below w1.heap.size w1 W) → (W1.cell? ⟨H, 0, none⟩ = some (.pointer (some ⟨b, 0, none⟩)) ∧ Below w1.heap.size w1 W1) := fun W W1 hb h => ⟨cell_keep hb h.1, h.2.trans (hb.mono h.2.size)⟩
  have sA : ∀ W, (W.cell? ⟨H, 0, none⟩ = some (.pointer (some ⟨b, 0, none⟩)) ∧ Below w1.heap.size w1 W) → ((W.alloc (.cells #[.int .i64 0] 3)).cell? ⟨H, 0, none⟩ = some (.pointer (some ⟨b, 0, none⟩)) ∧ Below w1.heap.size w1 (W.alloc (.cells #[.int .i64 0] 3))) := fun W h => sK W _ ((Below.refl _ _).alloc (Nat.le_refl _) _) h
  have sA2 : ∀ W (x : Int), (W.cell? ⟨H, 0, none⟩ = some (.pointer (some ⟨b, 0, none⟩)) ∧ Below w1.heap.size w1 (W)) → ((W.alloc (.cells #[.int .i64 x] 3)).cell? ⟨H, 0, none⟩ = some (.pointer (some ⟨b, 0, none⟩)) ∧ Below w1.heap.size w1 ((W.alloc (.cells #[.int .i64 x] 3)))) := fun W x h => sK W _ ((Below.refl _ _).alloc (Nat.le_refl _) _) h
  have sP : ∀ W (G : Nat) (v : Value), w1.heap.size ≤ G → (W.cell? ⟨H, 0, none⟩ = some (.pointer (some ⟨b, 0, none⟩)) ∧ Below w1.heap.size w1 (W)) → ((W.setCell ⟨G, 0, none⟩ v).cell? ⟨H, 0, none⟩ = some (.pointer (some ⟨b, 0, none⟩)) ∧ Below w1.heap.size w1 ((W.setCell ⟨G, 0, none⟩ v))) := fun W G v hG h => ⟨(World.cell?_of_block (Below.heap_setCell W ⟨G, 0, none⟩ v H (by simp; omega))).trans h.1, h.2.setCell (p := ⟨G, 0, none⟩) hG v⟩
  go_cut [9] (fun s9 wx => ∃ G : Nat, s9 = .pointer (some ⟨G, 0, none⟩) ∧ wx.cell? ⟨G, 0, none⟩ = some (.int .i64 m) ∧ w1.heap.size ≤ G ∧ Below w1.heap.size w1 wx)
  case first =>
    refine wp_region_held_drew (S := fun W => W.cell? ⟨H, 0, none⟩ = some (.pointer (some ⟨b, 0, none⟩)) ∧ Below w1.heap.size w1 W) (by kernel_rfl) ?_ (fun hHeld => ?_)
    · (try dsimp only); (first | assumption | exact ⟨by assumption, by assumption⟩)
    refine wpAnyH_take (i := 0) (oi := ?oi1) (v := ?v1) ?hi1 (by kernel_rfl) (by kernel_rfl) (by kernel_rfl) ?hQ1 ?hy1 (by assumption) ?_
    case hi1 => (simp only [List.getElem?_toArray, List.getElem?_cons_succ, List.getElem?_cons_zero]; rfl)
    case hQ1 => exact fun _ _ _ h => h
    case hy1 => (refine Or.inl ⟨by rfl, ?_⟩; intro w hSw; (try dsimp only at hSw); go_simp; try with_reducible rfl)
    try simp only [Act.put, List.setIfInBounds_toArray, List.set_cons_zero, List.set_cons_succ]
    refine wpAnyH_take (i := 1) (oi := ?oi2) (v := ?v2) ?hi2 (by kernel_rfl) (by kernel_rfl) (by kernel_rfl) ?hQ2 ?hy2 (by assumption) ?_
    case hi2 => (simp only [List.getElem?_toArray, List.getElem?_cons_succ, List.getElem?_cons_zero]; rfl)
    case hQ2 => exact fun _ _ _ h => h
    case hy2 => (refine Or.inl ⟨by rfl, ?_⟩; intro w hSw; (try dsimp only at hSw); go_simp; try with_reducible rfl)
    try simp only [Act.put, List.setIfInBounds_toArray, List.set_cons_zero, List.set_cons_succ]
    refine wpAnyH_take (i := 3) (oi := ?oi3) (v := ?v3) ?hi3 (by kernel_rfl) (by kernel_rfl) (by kernel_rfl) ?hQ3 ?hy3 (by assumption) ?_
    case hi3 => (simp only [List.getElem?_toArray, List.getElem?_cons_succ, List.getElem?_cons_zero]; rfl)
    case hQ3 => exact fun _ _ _ h => h
    case hy3 => (refine Or.inl ⟨by rfl, ?_⟩; intro w hSw; (try dsimp only at hSw); go_simp; try with_reducible rfl)
    try simp only [Act.put, List.setIfInBounds_toArray, List.set_cons_zero, List.set_cons_succ]
    refine wpAnyH_take (i := 5) (oi := ?oi4) (v := ?v4) ?hi4 (by kernel_rfl) (by kernel_rfl) (by kernel_rfl) ?hQ4 ?hy4 (by assumption) ?_
    case hi4 => (simp only [List.getElem?_toArray, List.getElem?_cons_succ, List.getElem?_cons_zero]; rfl)
    case hQ4 => exact fun _ _ _ h => h
    case hy4 => (refine Or.inl ⟨by rfl, ?_⟩; intro w hSw; (try dsimp only at hSw); go_simp; try with_reducible rfl)
    try simp only [Act.put, List.setIfInBounds_toArray, List.set_cons_zero, List.set_cons_succ]
    refine wpAnyH_ready (rs := [2, 8]) (by kernel_rfl) (by simp) ?_
    refine AllReadyH.cons (o := ?oi2402) ?ho2402 (fun K hK => ?_) (AllReadyH.cons (o := ?oi2408) ?ho2408 (fun K hK => ?_) AllReadyH.nil)
    case ho2402 => (simp only [List.getElem?_toArray, List.getElem?_cons_succ, List.getElem?_cons_zero]; rfl)
    case ho2408 => (simp only [List.getElem?_toArray, List.getElem?_cons_succ, List.getElem?_cons_zero]; rfl)
    · go_simp
      go_at_call 95; (with_reducible refine (below_anyH b lv c t _ (H1.out.same (sB _ (by assumption)))).mono ?_); rintro e y0 ⟨rfl, hb0⟩; have hk0 := sK _ _ hb0 (by assumption)
      refine hK.out _ _ ?_ (fun hHeld => ?_)
      · (try dsimp only); (first | assumption | exact ⟨by assumption, by assumption⟩)
      clear hK K
      try simp only [Act.put, List.setIfInBounds_toArray, List.set_cons_zero, List.set_cons_succ]
      refine wpAnyH_ready (rs := [4, 8]) (by kernel_rfl) (by simp) ?_
      refine AllReadyH.cons (o := ?oi1804) ?ho1804 (fun K hK => ?_) (AllReadyH.cons (o := ?oi1808) ?ho1808 (fun K hK => ?_) AllReadyH.nil)
      case ho1804 => (simp only [List.getElem?_toArray, List.getElem?_cons_succ, List.getElem?_cons_zero]; rfl)
      case ho1808 => (simp only [List.getElem?_toArray, List.getElem?_cons_succ, List.getElem?_cons_zero]; rfl)
      · go_simp
        go_at_call 97; (with_reducible refine (total_any b lv c _ (H1.out.same (sB _ (by assumption)))).mono ?_); rintro e y1 ⟨rfl, hb1⟩; have hk1 := sK _ _ hb1 (by assumption)
        refine hK.out _ _ ?_ (fun hHeld => ?_)
        · (try dsimp only); (first | assumption | exact ⟨by assumption, by assumption⟩)
        clear hK K
        try simp only [Act.put, List.setIfInBounds_toArray, List.set_cons_zero, List.set_cons_succ]
        refine wpAnyH_ready (rs := [6, 8]) (by kernel_rfl) (by simp) ?_
        refine AllReadyH.cons (o := ?oi1306) ?ho1306 (fun K hK => ?_) (AllReadyH.cons (o := ?oi1308) ?ho1308 (fun K hK => ?_) AllReadyH.nil)
        case ho1306 => (simp only [List.getElem?_toArray, List.getElem?_cons_succ, List.getElem?_cons_zero]; rfl)
        case ho1308 => (simp only [List.getElem?_toArray, List.getElem?_cons_succ, List.getElem?_cons_zero]; rfl)
        · go_simp
          go_at_call 96; (with_reducible refine (part_any _ _ _).mono ?_); rintro e w' ⟨rfl, rfl⟩
          refine hK.out _ _ ?_ (fun hHeld => ?_)
          · (try dsimp only); (first | assumption | exact ⟨by assumption, by assumption⟩)
          clear hK K
          try simp only [Act.put, List.setIfInBounds_toArray, List.set_cons_zero, List.set_cons_succ]
          refine wpAnyH_ready (rs := [7, 8]) (by kernel_rfl) (by simp) ?_
          refine AllReadyH.cons (o := ?oi907) ?ho907 (fun K hK => ?_) (AllReadyH.cons (o := ?oi908) ?ho908 (fun K hK => ?_) AllReadyH.nil)
          case ho907 => (simp only [List.getElem?_toArray, List.getElem?_cons_succ, List.getElem?_cons_zero]; rfl)
          case ho908 => (simp only [List.getElem?_toArray, List.getElem?_cons_succ, List.getElem?_cons_zero]; rfl)
          · go_simp
            go_at_call 63; (with_reducible refine (add_any _ _ _).mono ?_); rintro e w' ⟨rfl, rfl⟩
            refine hK.out _ _ ?_ (fun hHeld => ?_)
            · (try dsimp only); (first | assumption | exact ⟨by assumption, by assumption⟩)
            clear hK K
            try simp only [Act.put, List.setIfInBounds_toArray, List.set_cons_zero, List.set_cons_succ]
            refine wpAnyH_ready (rs := [8]) (by kernel_rfl) (by simp) ?_
            refine AllReadyH.cons (o := ?oi608) ?ho608 (fun K hK => ?_) AllReadyH.nil
            case ho608 => (simp only [List.getElem?_toArray, List.getElem?_cons_succ, List.getElem?_cons_zero]; rfl)
            go_simp
            have hA := sA y1 (by assumption); have oG : IsObj (y1.alloc (.cells #[.int .i64 0] 3)) y1.heap.size 3 [.int .i64 0] := IsObj.new y1 3 [.int .i64 0]; have hG : w1.heap.size ≤ y1.heap.size := (sB y1 (by assumption)).size
            refine hK.out _ _ ?_ (fun hHeld => ?_)
            · (try dsimp only); (first | assumption | exact ⟨by assumption, by assumption⟩)
            clear hK K
            try simp only [Act.put, List.setIfInBounds_toArray, List.set_cons_zero, List.set_cons_succ]
            have g0 := oG.cell 0
            simp only [List.getElem?_cons_zero] at g0
            have gf := oG.free 0
            refine wpAnyH_ready (rs := [9]) (by kernel_rfl) (by simp) ?_
            refine AllReadyH.cons (o := ?oi509) ?ho509 (fun K hK => ?_) AllReadyH.nil
            case ho509 => (simp only [List.getElem?_toArray, List.getElem?_cons_succ, List.getElem?_cons_zero]; rfl)
            go_simp
            refine hK.out _ _ ?_ (fun hHeld => ?_)
            · (try dsimp only); (first | exact sA2 _ _ (by assumption) | exact sP _ _ _ hG (by assumption))
            clear hK K
            try simp only [Act.put, List.setIfInBounds_toArray, List.set_cons_zero, List.set_cons_succ]
            refine wpAnyH_done (by kernel_rfl) ?_ _
            go_wp2_with fail
            go_meet
            rw [E2.out]
            first
              | exact ⟨_, rfl, (IsObj.new _ _ [.int .i64 _]).cell 0, hG, (sA2 _ _ (by assumption)).2⟩
              | exact ⟨_, rfl, (oG.set 0 _).cell 0, hG, (sP _ _ _ hG (by assumption)).2⟩
          · go_simp
            have hA := sA y1 (by assumption); have oG : IsObj (y1.alloc (.cells #[.int .i64 0] 3)) y1.heap.size 3 [.int .i64 0] := IsObj.new y1 3 [.int .i64 0]; have hG : w1.heap.size ≤ y1.heap.size := (sB y1 (by assumption)).size
            refine hK.out _ _ ?_ (fun hHeld => ?_)
            · (try dsimp only); (first | assumption | exact ⟨by assumption, by assumption⟩)
            clear hK K
            try simp only [Act.put, List.setIfInBounds_toArray, List.set_cons_zero, List.set_cons_succ]
            refine wpAnyH_ready (rs := [7]) (by kernel_rfl) (by simp) ?_
            refine AllReadyH.cons (o := ?oi807) ?ho807 (fun K hK => ?_) AllReadyH.nil
            case ho807 => (simp only [List.getElem?_toArray, List.getElem?_cons_succ, List.getElem?_cons_zero]; rfl)
            go_simp
            go_at_call 63; (with_reducible refine (add_any _ _ _).mono ?_); rintro e w' ⟨rfl, rfl⟩
            refine hK.out _ _ ?_ (fun hHeld => ?_)
            · (try dsimp only); (first | assumption | exact ⟨by assumption, by assumption⟩)
            clear hK K
            try simp only [Act.put, List.setIfInBounds_toArray, List.set_cons_zero, List.set_cons_succ]
            have g0 := oG.cell 0
            simp only [List.getElem?_cons_zero] at g0
            have gf := oG.free 0
            refine wpAnyH_ready (rs := [9]) (by kernel_rfl) (by simp) ?_
            refine AllReadyH.cons (o := ?oi709) ?ho709 (fun K hK => ?_) AllReadyH.nil
            case ho709 => (simp only [List.getElem?_toArray, List.getElem?_cons_succ, List.getElem?_cons_zero]; rfl)
            go_simp
            refine hK.out _ _ ?_ (fun hHeld => ?_)
            · (try dsimp only); (first | exact sA2 _ _ (by assumption) | exact sP _ _ _ hG (by assumption))
            clear hK K
            try simp only [Act.put, List.setIfInBounds_toArray, List.set_cons_zero, List.set_cons_succ]
            refine wpAnyH_done (by kernel_rfl) ?_ _
            go_wp2_with fail
            go_meet
            rw [E2.out]
            first
              | exact ⟨_, rfl, (IsObj.new _ _ [.int .i64 _]).cell 0, hG, (sA2 _ _ (by assumption)).2⟩
              | exact ⟨_, rfl, (oG.set 0 _).cell 0, hG, (sP _ _ _ hG (by assumption)).2⟩
        · go_simp
          have hA := sA y1 (by assumption); have oG : IsObj (y1.alloc (.cells #[.int .i64 0] 3)) y1.heap.size 3 [.int .i64 0] := IsObj.new y1 3 [.int .i64 0]; have hG : w1.heap.size ≤ y1.heap.size := (sB y1 (by assumption)).size
          refine hK.out _ _ ?_ (fun hHeld => ?_)
          · (try dsimp only); (first | assumption | exact ⟨by assumption, by assumption⟩)
          clear hK K
          try simp only [Act.put, List.setIfInBounds_toArray, List.set_cons_zero, List.set_cons_succ]
          refine wpAnyH_ready (rs := [6]) (by kernel_rfl) (by simp) ?_
          refine AllReadyH.cons (o := ?oi1206) ?ho1206 (fun K hK => ?_) AllReadyH.nil
          case ho1206 => (simp only [List.getElem?_toArray, List.getElem?_cons_succ, List.getElem?_cons_zero]; rfl)
          go_simp
          go_at_call 96; (with_reducible refine (part_any _ _ _).mono ?_); rintro e w' ⟨rfl, rfl⟩
          refine hK.out _ _ ?_ (fun hHeld => ?_)
          · (try dsimp only); (first | assumption | exact ⟨by assumption, by assumption⟩)
          clear hK K
          try simp only [Act.put, List.setIfInBounds_toArray, List.set_cons_zero, List.set_cons_succ]
          refine wpAnyH_ready (rs := [7]) (by kernel_rfl) (by simp) ?_
          refine AllReadyH.cons (o := ?oi1107) ?ho1107 (fun K hK => ?_) AllReadyH.nil
          case ho1107 => (simp only [List.getElem?_toArray, List.getElem?_cons_succ, List.getElem?_cons_zero]; rfl)
          go_simp
          go_at_call 63; (with_reducible refine (add_any _ _ _).mono ?_); rintro e w' ⟨rfl, rfl⟩
          refine hK.out _ _ ?_ (fun hHeld => ?_)
          · (try dsimp only); (first | assumption | exact ⟨by assumption, by assumption⟩)
          clear hK K
          try simp only [Act.put, List.setIfInBounds_toArray, List.set_cons_zero, List.set_cons_succ]
          have g0 := oG.cell 0
          simp only [List.getElem?_cons_zero] at g0
          have gf := oG.free 0
          refine wpAnyH_ready (rs := [9]) (by kernel_rfl) (by simp) ?_
          refine AllReadyH.cons (o := ?oi1009) ?ho1009 (fun K hK => ?_) AllReadyH.nil
          case ho1009 => (simp only [List.getElem?_toArray, List.getElem?_cons_succ, List.getElem?_cons_zero]; rfl)
          go_simp
          refine hK.out _ _ ?_ (fun hHeld => ?_)
          · (try dsimp only); (first | exact sA2 _ _ (by assumption) | exact sP _ _ _ hG (by assumption))
          clear hK K
          try simp only [Act.put, List.setIfInBounds_toArray, List.set_cons_zero, List.set_cons_succ]
          refine wpAnyH_done (by kernel_rfl) ?_ _
          go_wp2_with fail
          go_meet
          rw [E2.out]
          first
            | exact ⟨_, rfl, (IsObj.new _ _ [.int .i64 _]).cell 0, hG, (sA2 _ _ (by assumption)).2⟩
            | exact ⟨_, rfl, (oG.set 0 _).cell 0, hG, (sP _ _ _ hG (by assumption)).2⟩
      · go_simp
        have hA := sA y0 (by assumption); have oG : IsObj (y0.alloc (.cells #[.int .i64 0] 3)) y0.heap.size 3 [.int .i64 0] := IsObj.new y0 3 [.int .i64 0]; have hG : w1.heap.size ≤ y0.heap.size := (sB y0 (by assumption)).size
        refine hK.out _ _ ?_ (fun hHeld => ?_)
        · (try dsimp only); (first | assumption | exact ⟨by assumption, by assumption⟩)
        clear hK K
        try simp only [Act.put, List.setIfInBounds_toArray, List.set_cons_zero, List.set_cons_succ]
        refine wpAnyH_ready (rs := [4]) (by kernel_rfl) (by simp) ?_
        refine AllReadyH.cons (o := ?oi1704) ?ho1704 (fun K hK => ?_) AllReadyH.nil
        case ho1704 => (simp only [List.getElem?_toArray, List.getElem?_cons_succ, List.getElem?_cons_zero]; rfl)
        go_simp
        go_at_call 97; (with_reducible refine (total_any b lv c _ (H1.out.same (sB _ (by assumption)))).mono ?_); rintro e y1 ⟨rfl, hb1⟩; have hk1 := sK _ _ hb1 (by assumption); have oG := IsObj.below oG hb1 oG.lt
        refine hK.out _ _ ?_ (fun hHeld => ?_)
        · (try dsimp only); (first | assumption | exact ⟨by assumption, by assumption⟩)
        clear hK K
        try simp only [Act.put, List.setIfInBounds_toArray, List.set_cons_zero, List.set_cons_succ]
        refine wpAnyH_ready (rs := [6]) (by kernel_rfl) (by simp) ?_
        refine AllReadyH.cons (o := ?oi1606) ?ho1606 (fun K hK => ?_) AllReadyH.nil
        case ho1606 => (simp only [List.getElem?_toArray, List.getElem?_cons_succ, List.getElem?_cons_zero]; rfl)
        go_simp
        go_at_call 96; (with_reducible refine (part_any _ _ _).mono ?_); rintro e w' ⟨rfl, rfl⟩
        refine hK.out _ _ ?_ (fun hHeld => ?_)
        · (try dsimp only); (first | assumption | exact ⟨by assumption, by assumption⟩)
        clear hK K
        try simp only [Act.put, List.setIfInBounds_toArray, List.set_cons_zero, List.set_cons_succ]
        refine wpAnyH_ready (rs := [7]) (by kernel_rfl) (by simp) ?_
        refine AllReadyH.cons (o := ?oi1507) ?ho1507 (fun K hK => ?_) AllReadyH.nil
        case ho1507 => (simp only [List.getElem?_toArray, List.getElem?_cons_succ, List.getElem?_cons_zero]; rfl)
        go_simp
        go_at_call 63; (with_reducible refine (add_any _ _ _).mono ?_); rintro e w' ⟨rfl, rfl⟩
        refine hK.out _ _ ?_ (fun hHeld => ?_)
        · (try dsimp only); (first | assumption | exact ⟨by assumption, by assumption⟩)
        clear hK K
        try simp only [Act.put, List.setIfInBounds_toArray, List.set_cons_zero, List.set_cons_succ]
        have g0 := oG.cell 0
        simp only [List.getElem?_cons_zero] at g0
        have gf := oG.free 0
        refine wpAnyH_ready (rs := [9]) (by kernel_rfl) (by simp) ?_
        refine AllReadyH.cons (o := ?oi1409) ?ho1409 (fun K hK => ?_) AllReadyH.nil
        case ho1409 => (simp only [List.getElem?_toArray, List.getElem?_cons_succ, List.getElem?_cons_zero]; rfl)
        go_simp
        refine hK.out _ _ ?_ (fun hHeld => ?_)
        · (try dsimp only); (first | exact sA2 _ _ (by assumption) | exact sP _ _ _ hG (by assumption))
        clear hK K
        try simp only [Act.put, List.setIfInBounds_toArray, List.set_cons_zero, List.set_cons_succ]
        refine wpAnyH_done (by kernel_rfl) ?_ _
        go_wp2_with fail
        go_meet
        rw [E2.out]
        first
          | exact ⟨_, rfl, (IsObj.new _ _ [.int .i64 _]).cell 0, hG, (sA2 _ _ (by assumption)).2⟩
          | exact ⟨_, rfl, (oG.set 0 _).cell 0, hG, (sP _ _ _ hG (by assumption)).2⟩
    · go_simp
      have hA := sA w1.drew (by assumption); have oG : IsObj (w1.drew.alloc (.cells #[.int .i64 0] 3)) w1.heap.size 3 [.int .i64 0] := IsObj.new w1.drew 3 [.int .i64 0]; have hG : w1.heap.size ≤ w1.heap.size := (sB w1.drew (by assumption)).size
      refine hK.out _ _ ?_ (fun hHeld => ?_)
      · (try dsimp only); (first | assumption | exact ⟨by assumption, by assumption⟩)
      clear hK K
      try simp only [Act.put, List.setIfInBounds_toArray, List.set_cons_zero, List.set_cons_succ]
      refine wpAnyH_ready (rs := [2]) (by kernel_rfl) (by simp) ?_
      refine AllReadyH.cons (o := ?oi2302) ?ho2302 (fun K hK => ?_) AllReadyH.nil
      case ho2302 => (simp only [List.getElem?_toArray, List.getElem?_cons_succ, List.getElem?_cons_zero]; rfl)
      go_simp
      go_at_call 95; (with_reducible refine (below_anyH b lv c t _ (H1.out.same (sB _ (by assumption)))).mono ?_); rintro e y0 ⟨rfl, hb0⟩; have hk0 := sK _ _ hb0 (by assumption); have oG := IsObj.below oG hb0 oG.lt
      refine hK.out _ _ ?_ (fun hHeld => ?_)
      · (try dsimp only); (first | assumption | exact ⟨by assumption, by assumption⟩)
      clear hK K
      try simp only [Act.put, List.setIfInBounds_toArray, List.set_cons_zero, List.set_cons_succ]
      refine wpAnyH_ready (rs := [4]) (by kernel_rfl) (by simp) ?_
      refine AllReadyH.cons (o := ?oi2204) ?ho2204 (fun K hK => ?_) AllReadyH.nil
      case ho2204 => (simp only [List.getElem?_toArray, List.getElem?_cons_succ, List.getElem?_cons_zero]; rfl)
      go_simp
      go_at_call 97; (with_reducible refine (total_any b lv c _ (H1.out.same (sB _ (by assumption)))).mono ?_); rintro e y1 ⟨rfl, hb1⟩; have hk1 := sK _ _ hb1 (by assumption); have oG := IsObj.below oG hb1 oG.lt
      refine hK.out _ _ ?_ (fun hHeld => ?_)
      · (try dsimp only); (first | assumption | exact ⟨by assumption, by assumption⟩)
      clear hK K
      try simp only [Act.put, List.setIfInBounds_toArray, List.set_cons_zero, List.set_cons_succ]
      refine wpAnyH_ready (rs := [6]) (by kernel_rfl) (by simp) ?_
      refine AllReadyH.cons (o := ?oi2106) ?ho2106 (fun K hK => ?_) AllReadyH.nil
      case ho2106 => (simp only [List.getElem?_toArray, List.getElem?_cons_succ, List.getElem?_cons_zero]; rfl)
      go_simp
      go_at_call 96; (with_reducible refine (part_any _ _ _).mono ?_); rintro e w' ⟨rfl, rfl⟩
      refine hK.out _ _ ?_ (fun hHeld => ?_)
      · (try dsimp only); (first | assumption | exact ⟨by assumption, by assumption⟩)
      clear hK K
      try simp only [Act.put, List.setIfInBounds_toArray, List.set_cons_zero, List.set_cons_succ]
      refine wpAnyH_ready (rs := [7]) (by kernel_rfl) (by simp) ?_
      refine AllReadyH.cons (o := ?oi2007) ?ho2007 (fun K hK => ?_) AllReadyH.nil
      case ho2007 => (simp only [List.getElem?_toArray, List.getElem?_cons_succ, List.getElem?_cons_zero]; rfl)
      go_simp
      go_at_call 63; (with_reducible refine (add_any _ _ _).mono ?_); rintro e w' ⟨rfl, rfl⟩
      refine hK.out _ _ ?_ (fun hHeld => ?_)
      · (try dsimp only); (first | assumption | exact ⟨by assumption, by assumption⟩)
      clear hK K
      try simp only [Act.put, List.setIfInBounds_toArray, List.set_cons_zero, List.set_cons_succ]
      have g0 := oG.cell 0
      simp only [List.getElem?_cons_zero] at g0
      have gf := oG.free 0
      refine wpAnyH_ready (rs := [9]) (by kernel_rfl) (by simp) ?_
      refine AllReadyH.cons (o := ?oi1909) ?ho1909 (fun K hK => ?_) AllReadyH.nil
      case ho1909 => (simp only [List.getElem?_toArray, List.getElem?_cons_succ, List.getElem?_cons_zero]; rfl)
      go_simp
      refine hK.out _ _ ?_ (fun hHeld => ?_)
      · (try dsimp only); (first | exact sA2 _ _ (by assumption) | exact sP _ _ _ hG (by assumption))
      clear hK K
      try simp only [Act.put, List.setIfInBounds_toArray, List.set_cons_zero, List.set_cons_succ]
      refine wpAnyH_done (by kernel_rfl) ?_ _
      go_wp2_with fail
      go_meet
      rw [E2.out]
      first
        | exact ⟨_, rfl, (IsObj.new _ _ [.int .i64 _]).cell 0, hG, (sA2 _ _ (by assumption)).2⟩
        | exact ⟨_, rfl, (oG.set 0 _).cell 0, hG, (sP _ _ _ hG (by assumption)).2⟩
  case rest =>
    obtain ⟨G, rfl, kG, hG, bc⟩ := hcut
    have O2 := Lib.hid (IsObj.below O1.out bc O1.out.lt)
    have H2 := Lib.hid (H1.out.same bc)
    have B2 := Lib.hid (B1.out.trans (bc.mono (by omega)))
    have hs2 : H < wc.heap.size := O2.out.lt
    have hGw := cell_lt kG
    have KG := Lib.hid kG
    clear bc kG O1 H1 B1 HD hb11 hb12 sB sK sA sA2 sP d0 hG
    go_wp2_with (go_at_call 99; (with_reducible refine (up_any _ _ _).mono ?_); rintro e w' ⟨rfl, rfl⟩)
    obtain ⟨W5, hW5, b5, s5, k1, k2⟩ := two_new wc (t + 1) lv
    rw [← hW5]
    have kH : W5.cell? ⟨H, 0, none⟩ = some (.pointer (some ⟨b, 0, none⟩)) := cell_keep b5 (O2.out.cell 0)
    have k0 := cell_keep b5 KG.out
    have K := wfirst_in 113 #[.pointer (some ⟨wc.heap.size, 0, none⟩), .pointer (some ⟨wc.heap.size + 1, 0, none⟩)] (upV (t + 1)) ((lv : Int) + 1 - (t + 1)).toNat (fun k => by rw [upV, upto_length]) (fun a b h => upto_pre _ a b h) 100 H G
      (fun x => decide (m ≤ belowH lv c x)) lv (enters_of Tryz.func113 (by kernel_rfl) rfl) (enters_of Tryz.func100 (by kernel_rfl) rfl) W5
      (fun w0 h0 => up_stops 5 (by omega) _ _ _ (t + 1) lv (by omega) (by omega) (by omega) (by omega) (by omega) (by omega) w0 h0.size (cell_keep h0 k1) (cell_keep h0 k2))
      (fun x W hb => upc_any b lv c x m H G W (cell_keep hb kH) (cell_keep hb k0) ((H2.out.same b5).same hb))
    rw [show (lv : Int) + 1 - (t + 1) = lv - t by omega] at K
    have KK := Lib.hid (callsIn_wide.1 K)
    have B5 := Lib.hid (B2.out.trans (b5.mono (by omega)))
    clear K kH k0 k1 k2 hW5
    refine KK.out.mono ?_
    rintro e w6 ⟨rfl, b6⟩
    have B6 := Lib.hid (B5.out.trans (b6.mono (by omega)))
    clear b6 KK B5 b5
    go_wp2_with fail
    go_ret
    exact ⟨ret_int E.out.symm, B6.out.mono hn2⟩
set_option maxRecDepth 100000 in
set_option maxHeartbeats 2000000 in
theorem wup_nil (th lift : Int) (w : World) : Calls Tryz.prog 71 #[.pointer none, .int .i64 th, .int .i64 lift] w fun e w' => e = .returned (.int .i64 0) ∧ Below w.heap.size w w' := by
  have K1 := Lib.hid (fun w => keep_any th 0 w)
  have e1 : keep th 0 = 0 := by have := keep_nn th 0; have := keep_le th 0 (Int.le_refl _); omega
  rw [e1] at K1
  clear e1
  obtain ⟨H, hH⟩ : ∃ H, H = w.heap.size := ⟨_, rfl⟩
  have B1 := Lib.hid (show Below H w (w.alloc (.cells #[.pointer none] 59)) by rw [hH]; exact (Below.refl _ w).alloc (Nat.le_refl _) _)
  have O1 := Lib.hid (show IsObj (w.alloc (.cells #[.pointer none] 59)) H 59 [.pointer none] by rw [hH]; exact IsObj.new w _ _)
  have hn1 : H ≤ w.heap.size := by omega
  have hn2 : w.heap.size ≤ H := by omega
  have HHs := Lib.hid hH
  clear hH
  go_enter Tryz.func71, Tryz.ntmps71
  go_wp2_with (first | (go_at_call 94; (with_reducible refine (levels_nil _).mono ?_); rintro e w' ⟨rfl, rfl⟩) | (go_at_call 64; (with_reducible refine (K1.out _).mono ?_); rintro e w' ⟨rfl, rfl⟩))
  rw [← HHs.out]
  generalize w.alloc (.cells #[.pointer none] 59) = w1 at *
  have hs1 : H < w1.heap.size := O1.out.lt
  have d0 := O1.out.cell 0
  obtain ⟨m, hm⟩ : ∃ m, m = bAdd 0 (bPart 0 lift) := ⟨_, rfl⟩
  have E2 := Lib.hid hm
  clear hm
  have hb11 : Below w1.heap.size w1 w1 := Below.refl _ _
  have hb12 : Below w1.heap.size w1 w1.drew := (Below.refl _ _).drew
  have sB : ∀ W, (W.cell? ⟨H, 0, none⟩ = some (.pointer none) ∧ Below w1.heap.size w1 W) → Below w1.heap.size w1 W := fun W h => h.2
  have sK : ∀ W W1, Below W.heap.size W W1 → (W.cell? ⟨H, 0, none⟩ = some (.pointer none) ∧ Below w1.heap.size w1 W) → (W1.cell? ⟨H, 0, none⟩ = some (.pointer none) ∧ Below w1.heap.size w1 W1) := fun W W1 hb h => ⟨cell_keep hb h.1, h.2.trans (hb.mono h.2.size)⟩
  have sA : ∀ W, (W.cell? ⟨H, 0, none⟩ = some (.pointer none) ∧ Below w1.heap.size w1 W) → ((W.alloc (.cells #[.int .i64 0] 3)).cell? ⟨H, 0, none⟩ = some (.pointer none) ∧ Below w1.heap.size w1 (W.alloc (.cells #[.int .i64 0] 3))) := fun W h => sK W _ ((Below.refl _ _).alloc (Nat.le_refl _) _) h
  have sA2 : ∀ W (x : Int), (W.cell? ⟨H, 0, none⟩ = some (.pointer none) ∧ Below w1.heap.size w1 (W)) → ((W.alloc (.cells #[.int .i64 x] 3)).cell? ⟨H, 0, none⟩ = some (.pointer none) ∧ Below w1.heap.size w1 ((W.alloc (.cells #[.int .i64 x] 3)))) := fun W x h => sK W _ ((Below.refl _ _).alloc (Nat.le_refl _) _) h
  have sP : ∀ W (G : Nat) (v : Value), w1.heap.size ≤ G → (W.cell? ⟨H, 0, none⟩ = some (.pointer none) ∧ Below w1.heap.size w1 (W)) → ((W.setCell ⟨G, 0, none⟩ v).cell? ⟨H, 0, none⟩ = some (.pointer none) ∧ Below w1.heap.size w1 ((W.setCell ⟨G, 0, none⟩ v))) := fun W G v hG h => ⟨(World.cell?_of_block (Below.heap_setCell W ⟨G, 0, none⟩ v H (by simp; omega))).trans h.1, h.2.setCell (p := ⟨G, 0, none⟩) hG v⟩
  go_cut [9] (fun s9 wx => ∃ G : Nat, s9 = .pointer (some ⟨G, 0, none⟩) ∧ wx.cell? ⟨G, 0, none⟩ = some (.int .i64 m) ∧ w1.heap.size ≤ G ∧ Below w1.heap.size w1 wx)
  case first =>
    refine wp_region_held_drew (S := fun W => W.cell? ⟨H, 0, none⟩ = some (.pointer none) ∧ Below w1.heap.size w1 W) (by kernel_rfl) ?_ (fun hHeld => ?_)
    · (try dsimp only); (first | assumption | exact ⟨by assumption, by assumption⟩)
    refine wpAnyH_take (i := 0) (oi := ?oi25) (v := ?v25) ?hi25 (by kernel_rfl) (by kernel_rfl) (by kernel_rfl) ?hQ25 ?hy25 (by assumption) ?_
    case hi25 => (simp only [List.getElem?_toArray, List.getElem?_cons_succ, List.getElem?_cons_zero]; rfl)
    case hQ25 => exact fun _ _ _ h => h
    case hy25 => (refine Or.inl ⟨by rfl, ?_⟩; intro w hSw; (try dsimp only at hSw); go_simp; try with_reducible rfl)
    try simp only [Act.put, List.setIfInBounds_toArray, List.set_cons_zero, List.set_cons_succ]
    refine wpAnyH_take (i := 1) (oi := ?oi26) (v := ?v26) ?hi26 (by kernel_rfl) (by kernel_rfl) (by kernel_rfl) ?hQ26 ?hy26 (by assumption) ?_
    case hi26 => (simp only [List.getElem?_toArray, List.getElem?_cons_succ, List.getElem?_cons_zero]; rfl)
    case hQ26 => exact fun _ _ _ h => h
    case hy26 => (refine Or.inl ⟨by rfl, ?_⟩; intro w hSw; (try dsimp only at hSw); go_simp; try with_reducible rfl)
    try simp only [Act.put, List.setIfInBounds_toArray, List.set_cons_zero, List.set_cons_succ]
    refine wpAnyH_take (i := 3) (oi := ?oi27) (v := ?v27) ?hi27 (by kernel_rfl) (by kernel_rfl) (by kernel_rfl) ?hQ27 ?hy27 (by assumption) ?_
    case hi27 => (simp only [List.getElem?_toArray, List.getElem?_cons_succ, List.getElem?_cons_zero]; rfl)
    case hQ27 => exact fun _ _ _ h => h
    case hy27 => (refine Or.inl ⟨by rfl, ?_⟩; intro w hSw; (try dsimp only at hSw); go_simp; try with_reducible rfl)
    try simp only [Act.put, List.setIfInBounds_toArray, List.set_cons_zero, List.set_cons_succ]
    refine wpAnyH_take (i := 5) (oi := ?oi28) (v := ?v28) ?hi28 (by kernel_rfl) (by kernel_rfl) (by kernel_rfl) ?hQ28 ?hy28 (by assumption) ?_
    case hi28 => (simp only [List.getElem?_toArray, List.getElem?_cons_succ, List.getElem?_cons_zero]; rfl)
    case hQ28 => exact fun _ _ _ h => h
    case hy28 => (refine Or.inl ⟨by rfl, ?_⟩; intro w hSw; (try dsimp only at hSw); go_simp; try with_reducible rfl)
    try simp only [Act.put, List.setIfInBounds_toArray, List.set_cons_zero, List.set_cons_succ]
    refine wpAnyH_ready (rs := [2, 8]) (by kernel_rfl) (by simp) ?_
    refine AllReadyH.cons (o := ?oi4802) ?ho4802 (fun K hK => ?_) (AllReadyH.cons (o := ?oi4808) ?ho4808 (fun K hK => ?_) AllReadyH.nil)
    case ho4802 => (simp only [List.getElem?_toArray, List.getElem?_cons_succ, List.getElem?_cons_zero]; rfl)
    case ho4808 => (simp only [List.getElem?_toArray, List.getElem?_cons_succ, List.getElem?_cons_zero]; rfl)
    · go_simp
      go_at_call 95; (with_reducible refine (below_nilH 0 _).mono ?_); rintro e y0 ⟨rfl, hb0⟩; have hk0 := sK _ _ hb0 (by assumption)
      refine hK.out _ _ ?_ (fun hHeld => ?_)
      · (try dsimp only); (first | assumption | exact ⟨by assumption, by assumption⟩)
      clear hK K
      try simp only [Act.put, List.setIfInBounds_toArray, List.set_cons_zero, List.set_cons_succ]
      refine wpAnyH_ready (rs := [4, 8]) (by kernel_rfl) (by simp) ?_
      refine AllReadyH.cons (o := ?oi4204) ?ho4204 (fun K hK => ?_) (AllReadyH.cons (o := ?oi4208) ?ho4208 (fun K hK => ?_) AllReadyH.nil)
      case ho4204 => (simp only [List.getElem?_toArray, List.getElem?_cons_succ, List.getElem?_cons_zero]; rfl)
      case ho4208 => (simp only [List.getElem?_toArray, List.getElem?_cons_succ, List.getElem?_cons_zero]; rfl)
      · go_simp
        go_at_call 97; (with_reducible refine (total_nil _).mono ?_); rintro e y1 ⟨rfl, hb1⟩; have hk1 := sK _ _ hb1 (by assumption)
        refine hK.out _ _ ?_ (fun hHeld => ?_)
        · (try dsimp only); (first | assumption | exact ⟨by assumption, by assumption⟩)
        clear hK K
        try simp only [Act.put, List.setIfInBounds_toArray, List.set_cons_zero, List.set_cons_succ]
        refine wpAnyH_ready (rs := [6, 8]) (by kernel_rfl) (by simp) ?_
        refine AllReadyH.cons (o := ?oi3706) ?ho3706 (fun K hK => ?_) (AllReadyH.cons (o := ?oi3708) ?ho3708 (fun K hK => ?_) AllReadyH.nil)
        case ho3706 => (simp only [List.getElem?_toArray, List.getElem?_cons_succ, List.getElem?_cons_zero]; rfl)
        case ho3708 => (simp only [List.getElem?_toArray, List.getElem?_cons_succ, List.getElem?_cons_zero]; rfl)
        · go_simp
          go_at_call 96; (with_reducible refine (part_any _ _ _).mono ?_); rintro e w' ⟨rfl, rfl⟩
          refine hK.out _ _ ?_ (fun hHeld => ?_)
          · (try dsimp only); (first | assumption | exact ⟨by assumption, by assumption⟩)
          clear hK K
          try simp only [Act.put, List.setIfInBounds_toArray, List.set_cons_zero, List.set_cons_succ]
          refine wpAnyH_ready (rs := [7, 8]) (by kernel_rfl) (by simp) ?_
          refine AllReadyH.cons (o := ?oi3307) ?ho3307 (fun K hK => ?_) (AllReadyH.cons (o := ?oi3308) ?ho3308 (fun K hK => ?_) AllReadyH.nil)
          case ho3307 => (simp only [List.getElem?_toArray, List.getElem?_cons_succ, List.getElem?_cons_zero]; rfl)
          case ho3308 => (simp only [List.getElem?_toArray, List.getElem?_cons_succ, List.getElem?_cons_zero]; rfl)
          · go_simp
            go_at_call 63; (with_reducible refine (add_any _ _ _).mono ?_); rintro e w' ⟨rfl, rfl⟩
            refine hK.out _ _ ?_ (fun hHeld => ?_)
            · (try dsimp only); (first | assumption | exact ⟨by assumption, by assumption⟩)
            clear hK K
            try simp only [Act.put, List.setIfInBounds_toArray, List.set_cons_zero, List.set_cons_succ]
            refine wpAnyH_ready (rs := [8]) (by kernel_rfl) (by simp) ?_
            refine AllReadyH.cons (o := ?oi3008) ?ho3008 (fun K hK => ?_) AllReadyH.nil
            case ho3008 => (simp only [List.getElem?_toArray, List.getElem?_cons_succ, List.getElem?_cons_zero]; rfl)
            go_simp
            have hA := sA y1 (by assumption); have oG : IsObj (y1.alloc (.cells #[.int .i64 0] 3)) y1.heap.size 3 [.int .i64 0] := IsObj.new y1 3 [.int .i64 0]; have hG : w1.heap.size ≤ y1.heap.size := (sB y1 (by assumption)).size
            refine hK.out _ _ ?_ (fun hHeld => ?_)
            · (try dsimp only); (first | assumption | exact ⟨by assumption, by assumption⟩)
            clear hK K
            try simp only [Act.put, List.setIfInBounds_toArray, List.set_cons_zero, List.set_cons_succ]
            have g0 := oG.cell 0
            simp only [List.getElem?_cons_zero] at g0
            have gf := oG.free 0
            refine wpAnyH_ready (rs := [9]) (by kernel_rfl) (by simp) ?_
            refine AllReadyH.cons (o := ?oi2909) ?ho2909 (fun K hK => ?_) AllReadyH.nil
            case ho2909 => (simp only [List.getElem?_toArray, List.getElem?_cons_succ, List.getElem?_cons_zero]; rfl)
            go_simp
            refine hK.out _ _ ?_ (fun hHeld => ?_)
            · (try dsimp only); (first | exact sA2 _ _ (by assumption) | exact sP _ _ _ hG (by assumption))
            clear hK K
            try simp only [Act.put, List.setIfInBounds_toArray, List.set_cons_zero, List.set_cons_succ]
            refine wpAnyH_done (by kernel_rfl) ?_ _
            go_wp2_with fail
            go_meet
            rw [E2.out]
            first
              | exact ⟨_, rfl, (IsObj.new _ _ [.int .i64 _]).cell 0, hG, (sA2 _ _ (by assumption)).2⟩
              | exact ⟨_, rfl, (oG.set 0 _).cell 0, hG, (sP _ _ _ hG (by assumption)).2⟩
          · go_simp
            have hA := sA y1 (by assumption); have oG : IsObj (y1.alloc (.cells #[.int .i64 0] 3)) y1.heap.size 3 [.int .i64 0] := IsObj.new y1 3 [.int .i64 0]; have hG : w1.heap.size ≤ y1.heap.size := (sB y1 (by assumption)).size
            refine hK.out _ _ ?_ (fun hHeld => ?_)
            · (try dsimp only); (first | assumption | exact ⟨by assumption, by assumption⟩)
            clear hK K
            try simp only [Act.put, List.setIfInBounds_toArray, List.set_cons_zero, List.set_cons_succ]
            refine wpAnyH_ready (rs := [7]) (by kernel_rfl) (by simp) ?_
            refine AllReadyH.cons (o := ?oi3207) ?ho3207 (fun K hK => ?_) AllReadyH.nil
            case ho3207 => (simp only [List.getElem?_toArray, List.getElem?_cons_succ, List.getElem?_cons_zero]; rfl)
            go_simp
            go_at_call 63; (with_reducible refine (add_any _ _ _).mono ?_); rintro e w' ⟨rfl, rfl⟩
            refine hK.out _ _ ?_ (fun hHeld => ?_)
            · (try dsimp only); (first | assumption | exact ⟨by assumption, by assumption⟩)
            clear hK K
            try simp only [Act.put, List.setIfInBounds_toArray, List.set_cons_zero, List.set_cons_succ]
            have g0 := oG.cell 0
            simp only [List.getElem?_cons_zero] at g0
            have gf := oG.free 0
            refine wpAnyH_ready (rs := [9]) (by kernel_rfl) (by simp) ?_
            refine AllReadyH.cons (o := ?oi3109) ?ho3109 (fun K hK => ?_) AllReadyH.nil
            case ho3109 => (simp only [List.getElem?_toArray, List.getElem?_cons_succ, List.getElem?_cons_zero]; rfl)
            go_simp
            refine hK.out _ _ ?_ (fun hHeld => ?_)
            · (try dsimp only); (first | exact sA2 _ _ (by assumption) | exact sP _ _ _ hG (by assumption))
            clear hK K
            try simp only [Act.put, List.setIfInBounds_toArray, List.set_cons_zero, List.set_cons_succ]
            refine wpAnyH_done (by kernel_rfl) ?_ _
            go_wp2_with fail
            go_meet
            rw [E2.out]
            first
              | exact ⟨_, rfl, (IsObj.new _ _ [.int .i64 _]).cell 0, hG, (sA2 _ _ (by assumption)).2⟩
              | exact ⟨_, rfl, (oG.set 0 _).cell 0, hG, (sP _ _ _ hG (by assumption)).2⟩
        · go_simp
          have hA := sA y1 (by assumption); have oG : IsObj (y1.alloc (.cells #[.int .i64 0] 3)) y1.heap.size 3 [.int .i64 0] := IsObj.new y1 3 [.int .i64 0]; have hG : w1.heap.size ≤ y1.heap.size := (sB y1 (by assumption)).size
          refine hK.out _ _ ?_ (fun hHeld => ?_)
          · (try dsimp only); (first | assumption | exact ⟨by assumption, by assumption⟩)
          clear hK K
          try simp only [Act.put, List.setIfInBounds_toArray, List.set_cons_zero, List.set_cons_succ]
          refine wpAnyH_ready (rs := [6]) (by kernel_rfl) (by simp) ?_
          refine AllReadyH.cons (o := ?oi3606) ?ho3606 (fun K hK => ?_) AllReadyH.nil
          case ho3606 => (simp only [List.getElem?_toArray, List.getElem?_cons_succ, List.getElem?_cons_zero]; rfl)
          go_simp
          go_at_call 96; (with_reducible refine (part_any _ _ _).mono ?_); rintro e w' ⟨rfl, rfl⟩
          refine hK.out _ _ ?_ (fun hHeld => ?_)
          · (try dsimp only); (first | assumption | exact ⟨by assumption, by assumption⟩)
          clear hK K
          try simp only [Act.put, List.setIfInBounds_toArray, List.set_cons_zero, List.set_cons_succ]
          refine wpAnyH_ready (rs := [7]) (by kernel_rfl) (by simp) ?_
          refine AllReadyH.cons (o := ?oi3507) ?ho3507 (fun K hK => ?_) AllReadyH.nil
          case ho3507 => (simp only [List.getElem?_toArray, List.getElem?_cons_succ, List.getElem?_cons_zero]; rfl)
          go_simp
          go_at_call 63; (with_reducible refine (add_any _ _ _).mono ?_); rintro e w' ⟨rfl, rfl⟩
          refine hK.out _ _ ?_ (fun hHeld => ?_)
          · (try dsimp only); (first | assumption | exact ⟨by assumption, by assumption⟩)
          clear hK K
          try simp only [Act.put, List.setIfInBounds_toArray, List.set_cons_zero, List.set_cons_succ]
          have g0 := oG.cell 0
          simp only [List.getElem?_cons_zero] at g0
          have gf := oG.free 0
          refine wpAnyH_ready (rs := [9]) (by kernel_rfl) (by simp) ?_
          refine AllReadyH.cons (o := ?oi3409) ?ho3409 (fun K hK => ?_) AllReadyH.nil
          case ho3409 => (simp only [List.getElem?_toArray, List.getElem?_cons_succ, List.getElem?_cons_zero]; rfl)
          go_simp
          refine hK.out _ _ ?_ (fun hHeld => ?_)
          · (try dsimp only); (first | exact sA2 _ _ (by assumption) | exact sP _ _ _ hG (by assumption))
          clear hK K
          try simp only [Act.put, List.setIfInBounds_toArray, List.set_cons_zero, List.set_cons_succ]
          refine wpAnyH_done (by kernel_rfl) ?_ _
          go_wp2_with fail
          go_meet
          rw [E2.out]
          first
            | exact ⟨_, rfl, (IsObj.new _ _ [.int .i64 _]).cell 0, hG, (sA2 _ _ (by assumption)).2⟩
            | exact ⟨_, rfl, (oG.set 0 _).cell 0, hG, (sP _ _ _ hG (by assumption)).2⟩
      · go_simp
        have hA := sA y0 (by assumption); have oG : IsObj (y0.alloc (.cells #[.int .i64 0] 3)) y0.heap.size 3 [.int .i64 0] := IsObj.new y0 3 [.int .i64 0]; have hG : w1.heap.size ≤ y0.heap.size := (sB y0 (by assumption)).size
        refine hK.out _ _ ?_ (fun hHeld => ?_)
        · (try dsimp only); (first | assumption | exact ⟨by assumption, by assumption⟩)
        clear hK K
        try simp only [Act.put, List.setIfInBounds_toArray, List.set_cons_zero, List.set_cons_succ]
        refine wpAnyH_ready (rs := [4]) (by kernel_rfl) (by simp) ?_
        refine AllReadyH.cons (o := ?oi4104) ?ho4104 (fun K hK => ?_) AllReadyH.nil
        case ho4104 => (simp only [List.getElem?_toArray, List.getElem?_cons_succ, List.getElem?_cons_zero]; rfl)
        go_simp
        go_at_call 97; (with_reducible refine (total_nil _).mono ?_); rintro e y1 ⟨rfl, hb1⟩; have hk1 := sK _ _ hb1 (by assumption); have oG := IsObj.below oG hb1 oG.lt
        refine hK.out _ _ ?_ (fun hHeld => ?_)
        · (try dsimp only); (first | assumption | exact ⟨by assumption, by assumption⟩)
        clear hK K
        try simp only [Act.put, List.setIfInBounds_toArray, List.set_cons_zero, List.set_cons_succ]
        refine wpAnyH_ready (rs := [6]) (by kernel_rfl) (by simp) ?_
        refine AllReadyH.cons (o := ?oi4006) ?ho4006 (fun K hK => ?_) AllReadyH.nil
        case ho4006 => (simp only [List.getElem?_toArray, List.getElem?_cons_succ, List.getElem?_cons_zero]; rfl)
        go_simp
        go_at_call 96; (with_reducible refine (part_any _ _ _).mono ?_); rintro e w' ⟨rfl, rfl⟩
        refine hK.out _ _ ?_ (fun hHeld => ?_)
        · (try dsimp only); (first | assumption | exact ⟨by assumption, by assumption⟩)
        clear hK K
        try simp only [Act.put, List.setIfInBounds_toArray, List.set_cons_zero, List.set_cons_succ]
        refine wpAnyH_ready (rs := [7]) (by kernel_rfl) (by simp) ?_
        refine AllReadyH.cons (o := ?oi3907) ?ho3907 (fun K hK => ?_) AllReadyH.nil
        case ho3907 => (simp only [List.getElem?_toArray, List.getElem?_cons_succ, List.getElem?_cons_zero]; rfl)
        go_simp
        go_at_call 63; (with_reducible refine (add_any _ _ _).mono ?_); rintro e w' ⟨rfl, rfl⟩
        refine hK.out _ _ ?_ (fun hHeld => ?_)
        · (try dsimp only); (first | assumption | exact ⟨by assumption, by assumption⟩)
        clear hK K
        try simp only [Act.put, List.setIfInBounds_toArray, List.set_cons_zero, List.set_cons_succ]
        have g0 := oG.cell 0
        simp only [List.getElem?_cons_zero] at g0
        have gf := oG.free 0
        refine wpAnyH_ready (rs := [9]) (by kernel_rfl) (by simp) ?_
        refine AllReadyH.cons (o := ?oi3809) ?ho3809 (fun K hK => ?_) AllReadyH.nil
        case ho3809 => (simp only [List.getElem?_toArray, List.getElem?_cons_succ, List.getElem?_cons_zero]; rfl)
        go_simp
        refine hK.out _ _ ?_ (fun hHeld => ?_)
        · (try dsimp only); (first | exact sA2 _ _ (by assumption) | exact sP _ _ _ hG (by assumption))
        clear hK K
        try simp only [Act.put, List.setIfInBounds_toArray, List.set_cons_zero, List.set_cons_succ]
        refine wpAnyH_done (by kernel_rfl) ?_ _
        go_wp2_with fail
        go_meet
        rw [E2.out]
        first
          | exact ⟨_, rfl, (IsObj.new _ _ [.int .i64 _]).cell 0, hG, (sA2 _ _ (by assumption)).2⟩
          | exact ⟨_, rfl, (oG.set 0 _).cell 0, hG, (sP _ _ _ hG (by assumption)).2⟩
    · go_simp
      have hA := sA w1.drew (by assumption); have oG : IsObj (w1.drew.alloc (.cells #[.int .i64 0] 3)) w1.heap.size 3 [.int .i64 0] := IsObj.new w1.drew 3 [.int .i64 0]; have hG : w1.heap.size ≤ w1.heap.size := (sB w1.drew (by assumption)).size
      refine hK.out _ _ ?_ (fun hHeld => ?_)
      · (try dsimp only); (first | assumption | exact ⟨by assumption, by assumption⟩)
      clear hK K
      try simp only [Act.put, List.setIfInBounds_toArray, List.set_cons_zero, List.set_cons_succ]
      refine wpAnyH_ready (rs := [2]) (by kernel_rfl) (by simp) ?_
      refine AllReadyH.cons (o := ?oi4702) ?ho4702 (fun K hK => ?_) AllReadyH.nil
      case ho4702 => (simp only [List.getElem?_toArray, List.getElem?_cons_succ, List.getElem?_cons_zero]; rfl)
      go_simp
      go_at_call 95; (with_reducible refine (below_nilH 0 _).mono ?_); rintro e y0 ⟨rfl, hb0⟩; have hk0 := sK _ _ hb0 (by assumption); have oG := IsObj.below oG hb0 oG.lt
      refine hK.out _ _ ?_ (fun hHeld => ?_)
      · (try dsimp only); (first | assumption | exact ⟨by assumption, by assumption⟩)
      clear hK K
      try simp only [Act.put, List.setIfInBounds_toArray, List.set_cons_zero, List.set_cons_succ]
      refine wpAnyH_ready (rs := [4]) (by kernel_rfl) (by simp) ?_
      refine AllReadyH.cons (o := ?oi4604) ?ho4604 (fun K hK => ?_) AllReadyH.nil
      case ho4604 => (simp only [List.getElem?_toArray, List.getElem?_cons_succ, List.getElem?_cons_zero]; rfl)
      go_simp
      go_at_call 97; (with_reducible refine (total_nil _).mono ?_); rintro e y1 ⟨rfl, hb1⟩; have hk1 := sK _ _ hb1 (by assumption); have oG := IsObj.below oG hb1 oG.lt
      refine hK.out _ _ ?_ (fun hHeld => ?_)
      · (try dsimp only); (first | assumption | exact ⟨by assumption, by assumption⟩)
      clear hK K
      try simp only [Act.put, List.setIfInBounds_toArray, List.set_cons_zero, List.set_cons_succ]
      refine wpAnyH_ready (rs := [6]) (by kernel_rfl) (by simp) ?_
      refine AllReadyH.cons (o := ?oi4506) ?ho4506 (fun K hK => ?_) AllReadyH.nil
      case ho4506 => (simp only [List.getElem?_toArray, List.getElem?_cons_succ, List.getElem?_cons_zero]; rfl)
      go_simp
      go_at_call 96; (with_reducible refine (part_any _ _ _).mono ?_); rintro e w' ⟨rfl, rfl⟩
      refine hK.out _ _ ?_ (fun hHeld => ?_)
      · (try dsimp only); (first | assumption | exact ⟨by assumption, by assumption⟩)
      clear hK K
      try simp only [Act.put, List.setIfInBounds_toArray, List.set_cons_zero, List.set_cons_succ]
      refine wpAnyH_ready (rs := [7]) (by kernel_rfl) (by simp) ?_
      refine AllReadyH.cons (o := ?oi4407) ?ho4407 (fun K hK => ?_) AllReadyH.nil
      case ho4407 => (simp only [List.getElem?_toArray, List.getElem?_cons_succ, List.getElem?_cons_zero]; rfl)
      go_simp
      go_at_call 63; (with_reducible refine (add_any _ _ _).mono ?_); rintro e w' ⟨rfl, rfl⟩
      refine hK.out _ _ ?_ (fun hHeld => ?_)
      · (try dsimp only); (first | assumption | exact ⟨by assumption, by assumption⟩)
      clear hK K
      try simp only [Act.put, List.setIfInBounds_toArray, List.set_cons_zero, List.set_cons_succ]
      have g0 := oG.cell 0
      simp only [List.getElem?_cons_zero] at g0
      have gf := oG.free 0
      refine wpAnyH_ready (rs := [9]) (by kernel_rfl) (by simp) ?_
      refine AllReadyH.cons (o := ?oi4309) ?ho4309 (fun K hK => ?_) AllReadyH.nil
      case ho4309 => (simp only [List.getElem?_toArray, List.getElem?_cons_succ, List.getElem?_cons_zero]; rfl)
      go_simp
      refine hK.out _ _ ?_ (fun hHeld => ?_)
      · (try dsimp only); (first | exact sA2 _ _ (by assumption) | exact sP _ _ _ hG (by assumption))
      clear hK K
      try simp only [Act.put, List.setIfInBounds_toArray, List.set_cons_zero, List.set_cons_succ]
      refine wpAnyH_done (by kernel_rfl) ?_ _
      go_wp2_with fail
      go_meet
      rw [E2.out]
      first
        | exact ⟨_, rfl, (IsObj.new _ _ [.int .i64 _]).cell 0, hG, (sA2 _ _ (by assumption)).2⟩
        | exact ⟨_, rfl, (oG.set 0 _).cell 0, hG, (sP _ _ _ hG (by assumption)).2⟩
  case rest =>
    obtain ⟨G, rfl, kG, hG, bc⟩ := hcut
    have O2 := Lib.hid (IsObj.below O1.out bc O1.out.lt)
    have B2 := Lib.hid (B1.out.trans (bc.mono (by omega)))
    have hs2 : H < wc.heap.size := O2.out.lt
    have hGw := cell_lt kG
    have KG := Lib.hid kG
    clear bc kG O1 B1 hb11 hb12 sB sK sA sA2 sP d0 hG
    go_wp2_with (go_at_call 99; (with_reducible refine (up_any _ _ _).mono ?_); rintro e w' ⟨rfl, rfl⟩)
    obtain ⟨W5, hW5, b5, s5, k1, k2⟩ := two_new wc 1 0
    rw [← hW5]
    have kH : W5.cell? ⟨H, 0, none⟩ = some (.pointer none) := cell_keep b5 (O2.out.cell 0)
    have k0 := cell_keep b5 KG.out
    have K := wfirst_in 113 #[.pointer (some ⟨wc.heap.size, 0, none⟩), .pointer (some ⟨wc.heap.size + 1, 0, none⟩)] (upV 1) ((0 : Int) + 1 - 1).toNat (fun k => by rw [upV, upto_length]) (fun a b h => upto_pre _ a b h) 100 H G
      (fun x => decide (m ≤ 0)) 0 (enters_of Tryz.func113 (by kernel_rfl) rfl) (enters_of Tryz.func100 (by kernel_rfl) rfl) W5
      (fun w0 h0 => up_stops 5 (by omega) _ _ _ 1 0 (by omega) (by omega) (by omega) (by omega) (by omega) (by omega) w0 h0.size (cell_keep h0 k1) (cell_keep h0 k2))
      (fun x W hb => upc_nil x m H G W (cell_keep hb kH) (cell_keep hb k0))
    have KK := Lib.hid (callsIn_wide.1 K)
    have B5 := Lib.hid (B2.out.trans (b5.mono (by omega)))
    clear K kH k0 k1 k2 hW5
    refine KK.out.mono ?_
    rintro e w6 ⟨rfl, b6⟩
    have B6 := Lib.hid (B5.out.trans (b6.mono (by omega)))
    clear b6 KK B5 b5
    go_wp2_with fail
    go_ret
    exact ⟨rfl, B6.out.mono hn2⟩
end Go.Proofs.YtagfbnfbiadpfaaGreat
