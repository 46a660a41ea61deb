/-
  The statement RequestGets of layer 24 (request). No condition.
-/
import Derived.Test.YtobcjbpgeohbgaaGreatDoorLaw24b
namespace Go.Proofs.YtobcjbpgeohbgaaGreatDoor
open Go.RowKit
set_option linter.unusedVariables false

def wdL : List Int := [6, 1, 1, 1, 6, 2]
theorem wdL_at (k : Nat) (h : k < 6) : nth wdL k = wd k := by
  rcases lt6 h with rfl | rfl | rfl | rfl | rfl | rfl <;> rfl
theorem widths_any (w : World) : Calls Tryz.prog 44 #[] w fun e w' => e = .returned (.slice (some ⟨w.heap.size, 0, none⟩) 6 6) ∧ (∀ k, k < 6 → w'.cell? ⟨w.heap.size, k, none⟩ = some (.int .i64 (wd k))) ∧ Below w.heap.size w w' ∧ w.heap.size < w'.heap.size := by
  have hc : ∀ k, k < 6 → (w.alloc (.cells #[.int .i64 6, .int .i64 1, .int .i64 1, .int .i64 1, .int .i64 6, .int .i64 2] 3)).cell? ⟨w.heap.size, k, none⟩ = some (.int .i64 (wd k)) := by
    intro k hk
    rw [cell_new]
    rcases lt6 hk with rfl | rfl | rfl | rfl | rfl | rfl <;> rfl
  have HC := Lib.hid hc
  clear hc
  go_enter Tryz.func44, Tryz.ntmps44
  go_wp2
  go_ret
  exact ⟨rfl, HC.out, (Below.refl _ _).alloc (Nat.le_refl _) _, by simp⟩
theorem info_i64 : (Tryz.prog.info? 3).map (fun i => (i.zero, i.size, i.bytes)) = some (some (.int .i64 0), 1, 8) := by kernel_rfl
/-- The numbers of a body. -/
def numE (s : ByteArray) (k : Nat) : Int := numOf (bl (s.extract (pos k) (pos (k + 1))))
def numL (s : ByteArray) : Nat → List Int
  | 0 => []
  | k + 1 => numL s k ++ [numE s k]
theorem numL_len (s : ByteArray) : ∀ k, (numL s k).length = k
  | 0 => rfl
  | k + 1 => by unfold numL; rw [List.length_append, numL_len s k]; rfl
set_option maxRecDepth 100000 in
set_option maxHeartbeats 1000000 in
theorem numbers_any (s : ByteArray) (b : Nat) (w : World) (hs : s.size ≤ 2147483648) (h17 : 17 ≤ s.size) (hW : ∀ k, k < 6 → w.cell? ⟨b, k, none⟩ = some (.int .i64 (wd k))) :
    Calls Tryz.prog 43 #[.string s, .slice (some ⟨b, 0, none⟩) 6 6] w fun e w' => ∃ v, e = .returned v ∧ Ints w' v (numL s 6) ∧ Below w.heap.size w w' := by
  obtain ⟨i0, hi, hz0, hz1, hz2⟩ := info_parts info_i64
  have HW := Lib.hid hW
  clear hW
  go_enter Tryz.func43, Tryz.ntmps43
  go_wp2
  go_loopw [0, 5, 6] (fun sv v i wr => ∃ k : Nat, k ≤ 6 ∧ i = .int .i64 k ∧ sv = .string (s.extract (pos k) s.size) ∧ wr.ownsRow w.heap.size 3 1 v (numL s k).length ((numL s k).map (Value.int .i64)) ∧ Below w.heap.size w wr) (fun _ _ i _ => 6 - (intOf i).toNat)
  case atStart => exact ⟨0, by omega, rfl, by rw [show pos 0 = 0 from rfl, extract_whole s], World.ownsRow_nil _ _ _ _, Below.refl _ _⟩
  case round =>
    obtain ⟨k, hk, rfl, rfl, hown, hb⟩ := hrel
    have HO := Lib.hid hown
    have HB := Lib.hid hb
    have hsz := hb.size
    have hlen := numL_len s k
    clear hown hb
    by_cases hlt : k < 6
    · have c0 := cell_keep HB.out (HW.out k hlt)
      have hbw := cell_lt (HW.out k hlt)
      simp only at hbw
      have hp1 := pos_le k hlt
      have hp := pos_succ k hlt
      obtain ⟨g1', g2'⟩ := wd_rng k hlt
      have i1 : (0 : Int) ≤ (k : Int) := by omega
      have hsz2 : (s.extract (pos k) s.size).size = s.size - pos k := by rw [ByteArray.size_extract]; omega
      have e1 : (s.extract (pos k) s.size).extract 0 (wd k).toNat = s.extract (pos k) (pos (k + 1)) := by rw [extract_extract s _ _ (by omega), ← hp]
      have e2 : (s.extract (pos k) s.size).extract (wd k).toNat (s.extract (pos k) s.size).size = s.extract (pos (k + 1)) s.size := by rw [extract_tail s _ _ (by omega), ← hp]
      have hle : wd k ≤ ((s.extract (pos k) s.size).size : Int) := by rw [hsz2]; omega
      have hof := fun w => rof_any (s.extract (pos k) (pos (k + 1))) w (by rw [ByteArray.size_extract]; omega)
      have HOf := Lib.hid hof
      have HL := Lib.hid (show numL s (k + 1) = numL s k ++ [numOf (bl (s.extract (pos k) (pos (k + 1))))] from rfl)
      generalize s.extract (pos k) (pos (k + 1)) = seg at *
      generalize hr2 : s.extract (pos (k + 1)) s.size = r2 at *
      have HR2 := Lib.hid hr2
      generalize s.extract (pos k) s.size = r at *
      generalize wd k = p at *
      generalize numOf (bl seg) = n at *
      clear hof hsz2 hr2 hp hp1
      go_wp2_with (first
        | (go_at_call 73; (with_reducible refine (HOf.out _).mono ?_); rintro e w' ⟨rfl, rfl⟩)
        | (at_builtin; refine wpList_append_one (by rfl) _ _ 84 (by rfl) w.heap.size 3 i0 (.int .i64 0) 1 8 Tryz.underlying84 hi hz0 hz1 hz2 rfl (by decide) _ _ _ _ (by rfl) HO.out (by rfl) (by rfl) (by rfl) (by omega) (by omega) hsz ?_; intro v' w1 hown1 hb1; have c1 := (hb1.cell (p := ⟨b, k, none⟩) hbw).trans c0))
      exact ⟨⟨k + 1, by omega, by go_num, by rw [HR2.out], by rw [HL.out]; simpa using hown1, HB.out.trans hb1⟩, by simp only [intOf]; omega⟩
    · obtain rfl : k = 6 := by omega
      go_wp2
      go_ret
      exact ⟨_, rfl, ints_of_own HO.out, HB.out⟩

theorem getB_len (s : ByteArray) (h : s.size < 17) : getB s = ⟨default, 3⟩ := by rw [getB, if_pos h]
theorem numE_dec (s : ByteArray) (k : Nat) (h : k < 6) : numE s k - sft k = fld (dec s) k := by rw [dec_fld s k h]; rfl
theorem numL_at (s : ByteArray) (k : Nat) (h : k < 6) : nth (numL s 6) k = numE s k := by
  rcases lt6 h with rfl | rfl | rfl | rfl | rfl | rfl <;> rfl
set_option maxRecDepth 100000 in
set_option maxHeartbeats 600000 in
theorem rget_any (s : ByteArray) (w : World) (hs : s.size ≤ 2147483648) : Calls Tryz.prog 24 #[.string s] w fun e w' => e = .returned (.tuple #[rqV (getB s).r, .int .i64 (getB s).err]) ∧ Below w.heap.size w w' := by
  have hT0 : RqAt (w.alloc (.cells (rqCells default).toArray 24)) w.heap.size default := IsObj.new w _ (rqCells default)
  have hb0 : Below w.heap.size w (w.alloc (.cells (rqCells default).toArray 24)) := (Below.refl _ _).alloc (Nat.le_refl _) _
  by_cases h17 : s.size < 17
  · rw [getB_len s h17]
    clear hT0 hb0
    go_enter Tryz.func24, Tryz.ntmps24
    go_wp2
    go_returns
    exact ⟨rfl, (Below.refl _ _).alloc (Nat.le_refl _) _⟩
  · have HT0 := Lib.hid hT0
    have HB0 := Lib.hid hb0
    clear hT0 hb0
    obtain ⟨r0, hr0⟩ : ∃ r0, r0 = getB s := ⟨_, rfl⟩
    rw [← hr0]
    have HG0 := Lib.hid hr0
    clear hr0
    go_enter Tryz.func24, Tryz.ntmps24
    go_wp2_with fail
    refine (widths_any _).mono ?_
    rintro e w1 ⟨rfl, hWd, hb1, hs1⟩
    have HT1 := Lib.hid (HT0.out.same hb1)
    have HB1 := Lib.hid (HB0.out.trans (hb1.mono HB0.out.size))
    clear hb1 HT0 HB0
    go_wp2_with fail
    have hWd2 : ∀ k, k < 6 → w1.cell? ⟨w.heap.size + 1, k, none⟩ = some (.int .i64 (wd k)) := by
      intro k hk
      have := hWd k hk
      rwa [alloc_size] at this
    clear hWd hs1
    refine (numbers_any s (w.heap.size + 1) _ hs (by omega) hWd2).mono ?_
    rintro e w2 ⟨v, rfl, hI, hb2⟩
    have HT2 := Lib.hid (HT1.out.same hb2)
    have HB2 := Lib.hid (HB1.out.trans (hb2.mono HB1.out.size))
    clear hWd2 hb2 HT1 HB1
    obtain ⟨a, c, rfl, n1, n2, n3⟩ := hI
    have hlen6 : (numL s 6).length = 6 := numL_len s 6
    rw [hlen6] at n1 ⊢
    obtain ⟨b, off, rfl, hc⟩ : ∃ b off, a = some ⟨b, off, none⟩ ∧ ∀ i, i < 6 → w2.cell? ⟨b, off + i, none⟩ = some (.int .i64 (numE s i)) := by
      rcases n3 with h | ⟨b, off, rfl, hc⟩
      · rw [h] at hlen6; cases hlen6
      · exact ⟨b, off, rfl, fun i hi => by rw [hc i (by omega), numL_at s i hi]⟩
    have d0 := hc 0 (by omega)
    have d1 := hc 1 (by omega)
    have d2 := hc 2 (by omega)
    have d3 := hc 3 (by omega)
    have d4 := hc 4 (by omega)
    have d5 := hc 5 (by omega)
    simp only [Nat.add_zero] at d0
    clear n3 hc hlen6
    have hfr : -1 ≤ (dec s).frm ∧ (dec s).frm ≤ 254 := by
      have h0 := numOf_nn (bl (s.extract (pos 1) (pos 2)))
      have h1 := numOf_lt (bl (s.extract (pos 1) (pos 2)))
      have h2 : (bl (s.extract (pos 1) (pos 2))).length = 1 := by rw [bl_len, ByteArray.size_extract, show pos 1 = 6 from rfl, show pos 2 = 7 from rfl]; omega
      rw [h2] at h1
      simp at h1
      show -1 ≤ numOf (bl (s.extract (pos 1) (pos 2))) - 1 ∧ numOf (bl (s.extract (pos 1) (pos 2))) - 1 ≤ 254
      omega
    have v0 : numE s 0 = (dec s).id := by show numE s 0 = numE s 0 - 0; omega
    have v1 : numE s 1 = (dec s).frm + 1 := by show numE s 1 = (numE s 1 - 1) + 1; omega
    have v2 : numE s 2 = (dec s).tto := by show numE s 2 = numE s 2 - 0; omega
    have v3 : numE s 3 = (dec s).lev := by show numE s 3 = numE s 3 - 0; omega
    have v4 : numE s 4 = (dec s).dl := by show numE s 4 = numE s 4 - 0; omega
    have v5 : numE s 5 = (dec s).bud := by show numE s 5 = numE s 5 - 0; omega
    rw [v0] at d0
    rw [v1] at d1
    rw [v2] at d2
    rw [v3] at d3
    rw [v4] at d4
    rw [v5] at d5
    have hGe : r0 = if 17 < s.size ∨ rqOk (dec s) = false then ⟨default, 2⟩ else ⟨dec s, 0⟩ := by rw [HG0.out, getB, if_neg h17]
    have HCk := Lib.hid (fun w => rcheck_any (dec s) w)
    unfold errOf at HCk
    clear HG0 v0 v1 v2 v3 v4 v5
    generalize dec s = y at *
    obtain ⟨f1, f2⟩ := hfr
    have HG := Lib.hid hGe
    clear hGe
    go_wp2_with fail
    have hwr : IntKind.i64.wrap y.frm = y.frm := IntWalk.i64_in _ (by omega)
    have n0 := World.new_ne w2 _ d0
    have n1 := World.new_ne w2 _ d1
    have n2 := World.new_ne w2 _ d2
    have n3 := World.new_ne w2 _ d3
    have n4 := World.new_ne w2 _ d4
    have n5 := World.new_ne w2 _ d5
    go_region_held3 (fun w' => w'.cell? ⟨b, off, none⟩ = some (.int .i64 y.id) ∧ w'.cell? ⟨b, off + 1, none⟩ = some (.int .i64 (y.frm + 1)) ∧ w'.cell? ⟨b, off + 2, none⟩ = some (.int .i64 y.tto) ∧ w'.cell? ⟨b, off + 3, none⟩ = some (.int .i64 y.lev) ∧ w'.cell? ⟨b, off + 4, none⟩ = some (.int .i64 y.dl) ∧ w'.cell? ⟨b, off + 5, none⟩ = some (.int .i64 y.bud)) (first | go_keep | assumption) (fail)
    rename_i hHeld
    clear hHeld hwr n0 n1 n2 n3 n4 n5
    clear d0 d1 d2 d3 d4 d5
    obtain ⟨T, hT⟩ : ∃ T, T = w.heap.size := ⟨_, rfl⟩
    have hwT : w.heap.size ≤ T := by omega
    rw [← hT] at HT2 ⊢
    clear hT
    have hTl := IsObj.lt HT2.out
    have hT5 : RqAt ((w2.alloc (.cells #[.int .i64 y.id, .int .i64 y.frm, .int .i64 y.tto, .int .i64 y.lev, .int .i64 y.dl, .int .i64 y.bud] 24)).drew) T default := IsObj.drew (IsObj.alloc HT2.out _)
    have hB5 : Below w.heap.size w ((w2.alloc (.cells #[.int .i64 y.id, .int .i64 y.frm, .int .i64 y.tto, .int .i64 y.lev, .int .i64 y.dl, .int .i64 y.bud] 24)).drew) := (HB2.out.alloc HB2.out.size _).drew
    have hneq : T ≠ w2.heap.size := by omega
    have hv5 : RqAt ((w2.alloc (.cells #[.int .i64 y.id, .int .i64 y.frm, .int .i64 y.tto, .int .i64 y.lev, .int .i64 y.dl, .int .i64 y.bud] 24)).drew) w2.heap.size y := IsObj.drew (IsObj.new w2 _ (rqCells y))
    have hlt5 : T < ((w2.alloc (.cells #[.int .i64 y.id, .int .i64 y.frm, .int .i64 y.tto, .int .i64 y.lev, .int .i64 y.dl, .int .i64 y.bud] 24)).drew).heap.size ∧ w2.heap.size < ((w2.alloc (.cells #[.int .i64 y.id, .int .i64 y.frm, .int .i64 y.tto, .int .i64 y.lev, .int .i64 y.dl, .int .i64 y.bud] 24)).drew).heap.size := by simp; omega
    obtain ⟨W5, hW5⟩ : ∃ W5, W5 = (w2.alloc (.cells #[.int .i64 y.id, .int .i64 y.frm, .int .i64 y.tto, .int .i64 y.lev, .int .i64 y.dl, .int .i64 y.bud] 24)).drew := ⟨_, rfl⟩
    obtain ⟨V, hV⟩ : ∃ V, V = w2.heap.size := ⟨_, rfl⟩
    rw [← hW5] at hT5 hB5 hv5 hlt5 ⊢
    rw [← hV] at hv5 hlt5 ⊢
    obtain ⟨hl5, hl6⟩ := hlt5
    obtain ⟨t0, t1, t2, t3, t4, t5⟩ := hT5.six
    obtain ⟨v0, v1, v2, v3, v4, v5⟩ := hv5.six
    have fr : ∀ j, W5.frozen? ⟨T, j, none⟩ = false := fun j => IsObj.free hT5 j
    have HT5 := Lib.hid hT5
    have HB5 := Lib.hid hB5
    have hsz5 := hB5.size
    clear hT5 hB5 hv5 hW5 hV HT2 HB2 hTl hneq
    by_cases hl : 17 < s.size
    · have he : r0 = ⟨default, 2⟩ := by rw [HG.out, if_pos (.inl hl)]
      subst he
      go_wp2
      obtain ⟨W', hW'⟩ : ∃ W', W' = set6 (W5) T 0 0 0 0 0 0 := ⟨_, rfl⟩
      have hF : RqAt W' T default := by rw [hW']; exact set6_at HT5.out default
      have hFB : Below w.heap.size w W' := by rw [hW']; exact set6_below HB5.out hwT
      obtain ⟨k0, k1, k2, k3, k4, k5⟩ := hF.six
      have HFB := Lib.hid hFB
      unfold set6 at hW'
      rw [← hW']
      clear hW' hF hFB
      refine bodyPost_ret (v := .tuple #[rqV default, .int .i64 2]) (by simp [results, Tryz.results24, go_sem, k0, k1, k2, k3, k4, k5]) rfl ?_
      exact ⟨rfl, HFB.out⟩
    · cases hk2 : rqOk y with
      | false =>
        rw [hk2, if_neg (by decide)] at HCk
        have he : r0 = ⟨default, 2⟩ := by rw [HG.out, if_pos (.inr hk2)]
        subst he
        go_wp2_with (go_at_call 45; (with_reducible refine (HCk.out _).mono ?_); rintro e w' ⟨rfl, hx⟩; obtain ⟨ux, rfl⟩ := ext_of hx; clear hx)
        obtain ⟨W', hW'⟩ : ∃ W', W' = set6 (ext W5 ux) T 0 0 0 0 0 0 := ⟨_, rfl⟩
        have hF : RqAt W' T default := by rw [hW']; exact set6_at (RqAt.same HT5.out ux.below) default
        have hFB : Below w.heap.size w W' := by rw [hW']; exact set6_below (below_ext ux HB5.out HB5.out.size) hwT
        obtain ⟨k0, k1, k2, k3, k4, k5⟩ := hF.six
        have HFB := Lib.hid hFB
        unfold set6 at hW'
        rw [← hW']
        clear hW' hF hFB
        refine bodyPost_ret (v := .tuple #[rqV default, .int .i64 2]) (by simp [results, Tryz.results24, go_sem, k0, k1, k2, k3, k4, k5]) rfl ?_
        exact ⟨rfl, HFB.out⟩
      | true =>
        rw [hk2, if_pos rfl] at HCk
        have he : r0 = ⟨y, 0⟩ := by rw [HG.out, if_neg (by rintro (h2 | h2); exact hl h2; rw [hk2] at h2; cases h2)]
        subst he
        go_wp2_with (go_at_call 45; (with_reducible refine (HCk.out _).mono ?_); rintro e w' ⟨rfl, hx⟩; obtain ⟨ux, rfl⟩ := ext_of hx; clear hx)
        obtain ⟨W', hW'⟩ : ∃ W', W' = set6 (ext W5 ux) T y.id y.frm y.tto y.lev y.dl y.bud := ⟨_, rfl⟩
        have hF : RqAt W' T y := by rw [hW']; exact set6_at (RqAt.same HT5.out ux.below) y
        have hFB : Below w.heap.size w W' := by rw [hW']; exact set6_below (below_ext ux HB5.out HB5.out.size) hwT
        obtain ⟨k0, k1, k2, k3, k4, k5⟩ := hF.six
        have HFB := Lib.hid hFB
        unfold set6 at hW'
        rw [← hW']
        clear hW' hF hFB
        refine bodyPost_ret (v := .tuple #[rqV y, .int .i64 0]) (by simp [results, Tryz.results24, go_sem, k0, k1, k2, k3, k4, k5]) rfl ?_
        exact ⟨rfl, HFB.out⟩
end Go.Proofs.YtobcjbpgeohbgaaGreatDoor
