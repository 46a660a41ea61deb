/-
  walk: Passed, Stops, Steps; the law's histogram of counts.
-/
import Derived.Test.YtaokofldpkjloaaWalk2
import Derived.Test.YtaokofldpkjloaaHist9
import Derived.Deep.DeepCutAuto
namespace Go.Proofs.Ytaokofldpkjloaa
open Go.RowKit Go.Shelf
set_option linter.unusedVariables false
set_option linter.unusedSimpArgs false

theorem firstOf_in (l : List Int) (q : Int → Bool) (other : Int) : firstOf l q other ∈ l ∨ firstOf l q other = other := by
  unfold firstOf
  cases h : l.find? q with
  | none => exact .inr rfl
  | some x => exact .inl (List.mem_of_find?_eq_some h)
theorem down_rng (lv : Nat) (c : List Int) (t f cut : Int) (t0 : 0 ≤ t) (t1 : t ≤ lv) (f0 : 0 ≤ f) (f1 : f ≤ lv) : (t ≤ f → downW lv c t f cut = t) ∧ (f < t → f ≤ downW lv c t f cut ∧ downW lv c t f cut < t) := by
  unfold downW
  rw [keep_id t lv t0 t1, keep_id f lv f0 f1]
  refine ⟨fun h => if_pos h, fun h => ?_⟩
  rw [if_neg (by omega)]
  rcases firstOf_in (dnV (t - 1) (t - f).toNat) (fun x => decide (belowH lv c x ≤ belowH lv c t - bPart (belowH lv c t) cut)) f with h1 | h1
  · unfold dnV upto at h1
    obtain ⟨i, hi, e⟩ := List.mem_map.1 h1
    rw [List.mem_range] at hi
    unfold dnV upto
    omega
  · omega
theorem up_rng (lv : Nat) (c : List Int) (t lift : Int) (t0 : 0 ≤ t) (t1 : t ≤ lv) : upW lv c t lift ≤ lv ∧ (t < lv → t < upW lv c t lift) ∧ (t = lv → upW lv c t lift = lv) := by
  unfold upW
  rw [keep_id t lv t0 t1]
  rcases firstOf_in (upV (t + 1) ((lv : Int) - t).toNat) (fun x => decide (moreW lv c t lift ≤ belowH lv c x)) lv with h1 | h1
  · unfold upV upto at h1
    obtain ⟨i, hi, e⟩ := List.mem_map.1 h1
    rw [List.mem_range] at hi
    unfold upV upto
    omega
  · omega
theorem passed_any (b lv : Nat) (c : List Int) (th : Int) (w : World) (h : HistAt w b lv c) (hl : 1 ≤ lv) : Calls Try.prog 46 #[.pointer (some ⟨b, 0, none⟩), .int .i64 th] w fun e w' => e = .returned (.int .i64 (belowH lv c (keep th lv))) ∧ Below w.heap.size w w' := by
  have K := Lib.hid (levels_any b lv c w h hl)
  have HH := Lib.hid h
  clear h
  go_enter Try.func46, Try.ntmps46
  go_wp2_with fail
  refine K.out.mono ?_
  rintro e w1 ⟨rfl, b1⟩
  have K2 := Lib.hid (below_anyH b lv c (keep th lv) w1 (HH.out.same b1))
  have B1 := Lib.hid b1
  clear b1
  go_wp2_with (go_at_call 33; (with_reducible refine (keep_any _ _ _).mono ?_); rintro e w' ⟨rfl, rfl⟩)
  refine K2.out.mono ?_
  rintro e w2 ⟨rfl, b2⟩
  have B2 := Lib.hid (B1.out.trans (b2.mono B1.out.size))
  clear b2
  go_wp2_with fail
  go_ret
  exact ⟨rfl, B2.out⟩
theorem wstops_any (b lv : Nat) (c : List Int) (th : Int) (w : World) (h : HistAt w b lv c) (hl : 1 ≤ lv) : Calls Try.prog 47 #[.pointer (some ⟨b, 0, none⟩), .int .i64 th] w fun e w' => e = .returned (.int .i64 (bSub (belowH lv c 128) (belowH lv c (keep th lv)))) ∧ Below w.heap.size w w' := by
  have K := Lib.hid (total_any b lv c w h)
  have HH := Lib.hid h
  clear h
  go_enter Try.func47, Try.ntmps47
  go_wp2_with fail
  refine K.out.mono ?_
  rintro e w1 ⟨rfl, b1⟩
  have K2 := Lib.hid (passed_any b lv c th w1 (HH.out.same b1) hl)
  have B1 := Lib.hid b1
  clear b1
  go_wp2_with fail
  refine K2.out.mono ?_
  rintro e w2 ⟨rfl, b2⟩
  have B2 := Lib.hid (B1.out.trans (b2.mono B1.out.size))
  clear b2
  go_wp2_with (go_at_call 54; (with_reducible refine (sub_any _ _ _).mono ?_); rintro e w' ⟨rfl, rfl⟩)
  go_ret
  exact ⟨rfl, B2.out⟩
theorem wsteps_any (f t : Int) (w : World) (f0 : 0 ≤ f) (f1 : f ≤ 1000) (t0 : 0 ≤ t) (t1 : t ≤ 1000) : Calls Try.prog 29 #[.int .i64 f, .int .i64 t] w fun e w' => e = .returned (.int .i64 (max (t - f) 0)) ∧ w = w' := by
  by_cases h : t ≤ f
  · go_enter Try.func29, Try.ntmps29
    go_wp2
    go_ret
    exact ⟨ret_int (by omega), rfl⟩
  · have h2 : f < t := by omega
    have h3 : 0 < t - f := by omega
    have e := Lib.hid (show cnt (t - f) = max (t - f) 0 by rw [cnt_id _ (by omega) (by omega)]; omega)
    go_enter Try.func29, Try.ntmps29
    go_wp2_with (go_at_call 33; (with_reducible refine (cnt_any _ _).mono ?_); rintro e w' ⟨rfl, rfl⟩)
    go_ret
    exact ⟨ret_int e.out, rfl⟩
theorem wsteps_same (x : Int) (w : World) : Calls Try.prog 29 #[.int .i64 x, .int .i64 x] w fun e w' => e = .returned (.int .i64 0) ∧ w = w' := by
  go_enter Try.func29, Try.ntmps29
  go_wp2
  go_ret
  exact ⟨rfl, rfl⟩

/-! ### The law's histogram -/
/-- What is counted behind k of a row's numbers. -/
def ofC (l : List Int) : Nat → List Int
  | 0 => zeros
  | k + 1 => (ofC l k).set k (bAdd (nth (ofC l k) k) (nth l k))
theorem of_zero (a : Option Addr) (c : Nat) (w : World) : Calls Try.prog 25 #[.slice a 0 c] w fun e w' => e = .returned (.tuple #[.slice none 0 0, .pointer none]) ∧ w = w' := by
  have K := Lib.hid (hnew_bad 0 w (by omega))
  go_enter Try.func25, Try.ntmps25
  go_wp2_with fail
  refine K.out.mono ?_
  rintro e w' ⟨rfl, rfl⟩
  go_wp2_with fail
  go_loop [4, 7] (fun v i => v = .slice none 0 0 ∧ i = .int .i64 0) (fun _ _ => 0)
  case atStart => exact ⟨rfl, rfl⟩
  case round =>
    obtain ⟨rfl, rfl⟩ := hrel
    go_wp2
    go_returns
    exact ⟨rfl, rfl⟩
/-- What the loop holds. -/
structure OfAt (w : World) (H n : Nat) (l : List Int) (k : Nat) (xv : Value) (wr : World) : Prop where
  h : HistAt wr H n (ofC l k)
  o : ∃ xs, wr.ownsRow (H + 1) 3 1 xv k xs
  b : Below H w wr
set_option maxRecDepth 100000 in
set_option maxHeartbeats 4000000 in
theorem of_any (b off c : Nat) (l : List Int) (n : Nat) (w : World) (hn : n = min l.length 128) (h1 : 1 ≤ n) (g1 : l.length ≤ c) (g2 : c ≤ 9223372036854775807) (hA : ∀ i, i < l.length → w.cell? ⟨b, off + i, none⟩ = some (.int .i64 (nth l i))) :
    Calls Try.prog 25 #[.slice (some ⟨b, off, none⟩) l.length c] w fun e w' => ∃ a c', e = .returned (.tuple #[.slice a n c', .pointer (some ⟨w.heap.size, 0, none⟩)]) ∧ HistAt w' w.heap.size n (ofC l n) ∧ Below w.heap.size w w' := by
  obtain ⟨i0, hi, hz0, hz1, hz2⟩ := info_parts info_int
  have HA := Lib.hid hA
  have n1 : n ≤ 128 := by omega
  have n2 : n ≤ l.length := by omega
  clear hA
  obtain ⟨H, hH⟩ : ∃ H, H = w.heap.size := ⟨_, rfl⟩
  have K0 := hnew_ok n w h1 n1
  rw [← hH] at K0 ⊢
  have K := Lib.hid K0
  have hbw : b < H := by rw [hH]; exact cell_lt (HA.out 0 (by omega))
  have hn1 : H ≤ w.heap.size := by omega
  have hn2 : w.heap.size ≤ H := by omega
  have HN := Lib.hid hn
  clear hH K0 hn
  go_enter Try.func25, Try.ntmps25
  go_upto_if 10 with (fail)
  go_cut [0] (fun s0 wx => wx = w ∧ s0 = .slice (some ⟨b, off, none⟩) n c)
  case first =>
    by_cases hl : 128 < l.length
    · have i1 : (128 : Int) < (l.length : Int) := by omega
      have i2 : (128 : Int) ≤ (c : Int) := by omega
      have e := Lib.hid (show n = 128 by have := HN.out; omega)
      go_wp2
      go_meet
      exact ⟨rfl, by rw [e.out]⟩
    · have i1 : (l.length : Int) ≤ 128 := by omega
      have e := Lib.hid (show n = l.length by have := HN.out; omega)
      go_wp2
      go_meet
      exact ⟨rfl, by rw [e.out]⟩
  case rest =>
    obtain ⟨hwx, rfl⟩ := hcut
    subst hwx
    go_wp2_with fail
    refine K.out.mono ?_
    rintro e w1 ⟨rfl, h1w, b1⟩
    have hs1 : H < w1.heap.size := h1w.o.lt
    have HP := Lib.hid (show OfAt wc H n l 0 (.slice none 0 0) w1 from ⟨h1w, ⟨[], World.ownsRow_nil _ _ _ _⟩, b1⟩)
    clear h1w b1 K
    go_wp2_with fail
    go_loopw [4, 7] (fun xv i wr => ∃ k : Nat, k ≤ n ∧ i = .int .i64 k ∧ OfAt wc H n l k xv wr) (fun _ i _ => n - (intOf i).toNat)
    case atStart => exact ⟨0, Nat.zero_le _, rfl, HP.out⟩
    case round =>
      obtain ⟨k, hk, rfl, hP⟩ := hrel
      have HP := Lib.hid hP
      clear hP
      by_cases hlt : k < n
      · have hk2 : k < l.length := by omega
        have c0 : wr.cell? ⟨b, off + k, none⟩ = some (.int .i64 (nth l k)) := (HP.out.b.cell (p := ⟨b, off + k, none⟩) hbw).trans (HA.out k hk2)
        have i3 : (k : Int) < (n : Int) := by omega
        have i4 : (0 : Int) ≤ (k : Int) := by omega
        have KA := Lib.hid (hadd_in H n (ofC l k) k (nth l k) wr HP.out.h hlt)
        go_wp2_with fail
        refine KA.out.mono ?_
        rintro e w2 ⟨rfl, h2, o2⟩
        have hlr := HP.out.h.o.lt
        have c1 : w2.cell? ⟨b, off + k, none⟩ = some (.int .i64 (nth l k)) := o2.keep c0 (show b ≠ H by omega)
        have B2 := Lib.hid (HP.out.b.trans (o2.below (Nat.le_refl _) (by omega)))
        obtain ⟨xs, hxs⟩ := HP.out.o
        have O2 := Lib.hid (own_only hxs o2 (by omega))
        have H2 := Lib.hid (show HistAt w2 H n (ofC l (k + 1)) from h2)
        have hs2 : H + 1 ≤ w2.heap.size := h2.o.lt
        clear h2 o2 hxs c0 KA
        go_wp2_with (first
          | (go_at_call 10; (with_reducible refine (rcount_any _ _).mono ?_); rintro e w' ⟨rfl, rfl⟩)
          | (at_builtin; refine wpList_append_one (by rfl) _ _ 22 (by rfl) (H + 1) 3 i0 (.int .i64 0) 1 8 Try.underlying22 hi hz0 hz1 hz2 rfl (by decide) _ _ _ _ (by rfl) O2.out (by rfl) (by rfl) (by rfl) (by omega) (by omega) hs2 ?_; intro v' w3 hown3 hb3))
        go_roundw
        case rel => exact ⟨k + 1, by omega, by go_num, H2.out.below hb3 (by omega), ⟨_, hown3⟩, B2.out.trans (hb3.mono (by omega))⟩
        case measure => simp [intOf]; omega
      · obtain rfl : k = n := by omega
        obtain ⟨xs, hxs⟩ := HP.out.o
        rcases hxs.2 with ⟨_, h0⟩ | ⟨g, cap, cur, rfl, _⟩
        · omega
        · clear hxs
          go_wp2_with fail
          go_returns
          exact ⟨_, _, rfl, HP.out.h, HP.out.b⟩
end Go.Proofs.Ytaokofldpkjloaa
