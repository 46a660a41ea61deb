/-
  Layer 26 (push): Get.
-/
import Derived.Test.YtobcjbpgeohbgaaGreatDoorPush2
namespace Go.Proofs.YtobcjbpgeohbgaaGreatDoor
open Go.RowKit
set_option linter.unusedVariables false

/-- What the first k numbers make. -/
def decP (s : ByteArray) (k : Nat) : Ps := ⟨if 0 < k then decN pw s 0 else 0, if 1 < k then decN pw s 1 else 0, if 2 < k then decN pw s 2 else 0, if 3 < k then decN pw s 3 else 0, if 4 < k then decN pw s 4 else 0, if 5 < k then decN pw s 5 else 0, if 6 < k then decN pw s 6 else 0, if 7 < k then decN pw s 7 else 0, if 8 < k then decN pw s 8 else 0⟩
theorem decP_set (s : ByteArray) (k : Nat) (h : k < 9) : (psCells (decP s k)).set k (.int .i64 (decN pw s k)) = psCells (decP s (k + 1)) := by
  rcases lt9 h with rfl | rfl | rfl | rfl | rfl | rfl | rfl | rfl | rfl <;> rfl
theorem decP_fld (s : ByteArray) (k : Nat) (h : k < 9) : pf (decP s 9) k = decN pw s k := by
  rcases lt9 h with rfl | rfl | rfl | rfl | rfl | rfl | rfl | rfl | rfl <;> rfl
/-- What Get comes to. -/
structure Gp where
  r : Ps
  err : Int
def getP (s : ByteArray) : Gp := if s.size < 14 then ⟨default, 3⟩ else if 14 < s.size ∨ psOk (decP s 9) = false then ⟨default, 2⟩ else ⟨decP s 9, 0⟩
theorem pos9 : posN pw 9 = 14 := by decide
theorem idxw (k : Nat) (h : k < 9) (w : World) : (Instr.index 113 (.agg #[.int .i64 1, .int .i64 4, .int .i64 2, .int .i64 2, .int .i64 1, .int .i64 1, .int .i64 1, .int .i64 1, .int .i64 1]) (.int .i64 k)).run Tryz.prog w = .ok (.int .i64 (pw k : Int)) w := by
  rcases lt9 h with rfl | rfl | rfl | rfl | rfl | rfl | rfl | rfl | rfl <;> kernel_rfl
theorem WdAt.nine {w : World} (h : WdAt w) : w.cell? ⟨0, 0, none⟩ = some (.int .i64 1) ∧ w.cell? ⟨0, 1, none⟩ = some (.int .i64 4) ∧ w.cell? ⟨0, 2, none⟩ = some (.int .i64 2) ∧ w.cell? ⟨0, 3, none⟩ = some (.int .i64 2) ∧ w.cell? ⟨0, 4, none⟩ = some (.int .i64 1) ∧ w.cell? ⟨0, 5, none⟩ = some (.int .i64 1) ∧ w.cell? ⟨0, 6, none⟩ = some (.int .i64 1) ∧ w.cell? ⟨0, 7, none⟩ = some (.int .i64 1) ∧ w.cell? ⟨0, 8, none⟩ = some (.int .i64 1) :=
  ⟨h 0 (by omega), h 1 (by omega), h 2 (by omega), h 3 (by omega), h 4 (by omega), h 5 (by omega), h 6 (by omega), h 7 (by omega), h 8 (by omega)⟩
theorem WdAt.setOther {w : World} (h : WdAt w) (p : Addr) (v : Value) (hne : 0 < p.block) : WdAt (w.setCell p v) := fun k hk => by
  rw [World.cell?_setCell_other _ _ _ _ (by intro e; rw [e] at hne; simp at hne)]
  exact h k hk

set_option maxRecDepth 100000 in
set_option maxHeartbeats 2000000 in
theorem pget_any (s : ByteArray) (w : World) (hs : s.size ≤ 2147483648) (hW : WdAt w) : Calls Tryz.prog 41 #[.string s] w fun e w' => e = .returned (.tuple #[psV (getP s).r, .int .i64 (getP s).err]) ∧ Below w.heap.size w w' := by
  obtain ⟨r0, hr0⟩ : ∃ r0, r0 = getP s := ⟨_, rfl⟩
  rw [← hr0]
  have HG := Lib.hid hr0
  clear hr0
  obtain ⟨W1, hW1⟩ : ∃ W1, W1 = (w.alloc (.cells z9.toArray 30)).alloc (.cells z9.toArray 113) := ⟨_, rfl⟩
  have hT : IsObj W1 w.heap.size 30 (psCells default) := by rw [hW1]; exact (IsObj.new w 30 (psCells default)).alloc _
  have hL : IsObj W1 (w.heap.size + 1) 113 (psCells default) := by
    have := IsObj.new (w.alloc (.cells (psCells default).toArray 30)) 113 (psCells default)
    rw [alloc_sizeP] at this
    rw [hW1]
    exact this
  have hb : Below w.heap.size w W1 := by rw [hW1]; exact ((Below.refl _ _).alloc (Nat.le_refl _) _).alloc (by simp) _
  have hsz : W1.heap.size = w.heap.size + 1 + 1 := by rw [hW1]; simp
  have HW1 := Lib.hid (hW.same hb)
  have HT1 := Lib.hid hT
  have HL1 := Lib.hid hL
  have HB1 := Lib.hid hb
  have hw0 := hW.lt
  clear hT hL hb hW
  go_enter Tryz.func41, Tryz.ntmps41
  go_wp2_with fail
  rw [← hW1]
  clear hW1
  refine (read_any s W1).mono ?_
  rintro e w1 ⟨rfl, hC, hb1, hs1⟩
  have HT2 := Lib.hid (IsObj.below HT1.out hb1 HT1.out.lt)
  have HL2 := Lib.hid (IsObj.below HL1.out hb1 HL1.out.lt)
  have HW2 := Lib.hid (WdAt.same HW1.out hb1)
  have HB2 := Lib.hid (HB1.out.trans (hb1.mono HB1.out.size))
  obtain ⟨g0, g1, g2, g3, g4, g5, g6, g7, g8⟩ := HW2.out.nine
  obtain ⟨T, hT⟩ : ∃ T, T = w.heap.size := ⟨_, rfl⟩
  obtain ⟨L, hL⟩ : ∃ L, L = T + 1 := ⟨_, rfl⟩
  obtain ⟨C, hCC⟩ : ∃ C, C = L + 1 := ⟨_, rfl⟩
  rw [← hT] at HT2 HL2 hsz hw0
  rw [← hL] at HL2 hsz
  rw [← hCC] at hsz
  rw [hsz] at hC hs1
  have hwT : w.heap.size ≤ T := by omega
  have HC2 := Lib.hid hC
  clear HT1 HL1 HW1 HB1 hb1 hC
  go_wp2_with fail
  rw [← hT, ← hL, ← hCC]
  clear g0 g1 g2 g3 g4 g5 g6 g7 g8
  have hTL : T < L := by omega
  have hLC : L < C := by omega
  clear hT hL hCC hsz
  have HSz := Lib.hid hs
  have hpk : CurAt w1 C (s.extract (posN pw 0) s.size) := by
    rw [show posN pw 0 = 0 from rfl, extract_wholeN s]
    exact HC2.out
  have HPK := Lib.hid hpk
  clear hpk hs hs1
  go_loopw [14] (fun i wr => ∃ k : Nat, k ≤ 9 ∧ i = .int .i64 k ∧ posN pw k ≤ s.size ∧ CurAt wr C (s.extract (posN pw k) s.size) ∧ IsObj wr L 113 (psCells (decP s k)) ∧ IsObj wr T 30 (psCells default) ∧ WdAt wr ∧ Below w.heap.size w wr) (fun i _ => 9 - (intOf i).toNat)
  case atStart => exact ⟨0, by omega, rfl, Nat.zero_le _, HPK.out, HL2.out, HT2.out, HW2.out, HB2.out⟩
  case round =>
    obtain ⟨k, hk, rfl, hpos, hC, hL, hT, hWr, hb⟩ := hrel
    have hCl := IsObj.lt hC
    have hTl := IsObj.lt hT
    have hLl := IsObj.lt hL
    have HC := Lib.hid hC
    have HL := Lib.hid hL
    have HT := Lib.hid hT
    have HB := Lib.hid hb
    have HWr := Lib.hid hWr
    have hsz := hb.size
    clear hC hL hT hb hWr HB2 HT2 HL2 HPK HC2 HW2
    by_cases hlt : k < 9
    · have i1 : (0 : Int) ≤ (k : Int) := by omega
      have i2 : (k : Int) < 9 := by omega
      have hidx := fun w => idxw k hlt w
      have hwd := pw_rng k hlt
      have hsle : (s.extract (posN pw k) s.size).size ≤ 2147483648 := Nat.le_trans (extract_leN _ _ _) HSz.out
      have T1 := fun w h => take_any C (s.extract (posN pw k) s.size) (pw k : Int) w h hsle
      by_cases hp : posN pw (k + 1) ≤ s.size
      · rw [take_atN pw s k hwd hp] at T1
        have HTk := Lib.hid T1
        have hset := fun w (h : IsObj w L 113 (psCells (decP s k))) => IsObj.set h k (.int .i64 (decN pw s k))
        rw [decP_set s k hlt] at hset
        have HSet := Lib.hid hset
        generalize decN pw s k = n at *
        generalize (pw k : Int) = p1 at *
        clear T1 hset hsle
        go_wp2_with fail
        refine (HTk.out _ HC.out).mono ?_
        rintro e w3 ⟨rfl, hC3, hO3⟩
        have hL3 := IsObj.only HL.out hO3 (by omega)
        have hT3 := IsObj.only HT.out hO3 (by omega)
        have hW3 := HWr.out.only hO3 (by omega)
        have hB3 := HB.out.trans (hO3.below (by omega) HB.out.size)
        have d0 := (IsObj.cell hL3 k).trans (ps_at (decP s k) k hlt)
        have fr := IsObj.free hL3 k
        have HL4 := Lib.hid (HSet.out _ hL3)
        have HT4 := Lib.hid (IsObj.setOther hT3 ⟨L, k, none⟩ (.int .i64 n) (by simp; omega))
        have HC4 := Lib.hid (IsObj.setOther hC3 ⟨L, k, none⟩ (.int .i64 n) (by simp; omega))
        have HW4 := Lib.hid (hW3.setOther ⟨L, k, none⟩ (.int .i64 n) (by simp; omega))
        have HB4 := Lib.hid (hB3.setCell (p := ⟨L, k, none⟩) (by simp; omega) (.int .i64 n))
        clear hC3 hO3 hL3 hT3 hB3 hW3 HC HL HT HB HWr HTk HSet
        go_wp2
        exact ⟨⟨k + 1, by omega, by go_num, hp, HC4.out, HL4.out, HT4.out, HW4.out, HB4.out⟩, by simp only [intOf]; omega⟩
      · rw [take_shortN pw s k hwd (by omega) hpos] at T1
        have HTk := Lib.hid T1
        have he : r0 = ⟨default, 3⟩ := by
          have h1 := posN_le pw (show k + 1 ≤ 9 by omega)
          rw [pos9] at h1
          rw [HG.out, getP, if_pos (by omega)]
        subst he
        generalize (pw k : Int) = p1 at *
        clear T1 hsle
        go_wp2_with fail
        refine (HTk.out _ HC.out).mono ?_
        rintro e w3 ⟨rfl, hC3, hO3⟩
        have hT3 := IsObj.only HT.out hO3 (by omega)
        have hB3 := HB.out.trans (hO3.below (by omega) HB.out.size)
        obtain ⟨t0, t1, t2, t3, t4, t5, t6, t7, t8⟩ := nine hT3
        have fr : ∀ j, w3.frozen? ⟨T, j, none⟩ = false := fun j => IsObj.free hT3 j
        have HB3 := Lib.hid hB3
        have HT3 := Lib.hid hT3
        clear hC3 hO3 hT3 hB3 HC HT HB HTk
        go_wp2
        obtain ⟨W', hW'⟩ : ∃ W', W' = set9 w3 T 0 0 0 0 0 0 0 0 0 := ⟨_, rfl⟩
        have hF : IsObj W' T 30 (psCells default) := by rw [hW']; exact set9_at HT3.out default
        have hFB : Below w.heap.size w W' := by rw [hW']; exact set9_below HB3.out hwT
        obtain ⟨k0, k1, k2, k3, k4, k5, k6, k7, k8⟩ := nine hF
        have HFB := Lib.hid hFB
        unfold set9 at hW'
        rw [← hW']
        clear hW' hF hFB
        refine bodyPost_ret (v := .tuple #[psV default, .int .i64 3]) (by simp [results, Tryz.results41, go_sem, k0, k1, k2, k3, k4, k5, k6, k7, k8]) rfl ?_
        exact ⟨rfl, HFB.out⟩
    · obtain rfl : k = 9 := by omega
      have hsz6 : (s.extract (posN pw 9) s.size).size = s.size - 14 := by rw [ByteArray.size_extract, pos9]; omega
      rw [pos9] at hpos
      have HCk := Lib.hid (fun w h => pcheck_any (decP s 9) w h)
      have hGe : r0 = if 14 < s.size ∨ psOk (decP s 9) = false then ⟨default, 2⟩ else ⟨decP s 9, 0⟩ := by rw [HG.out, getP, if_neg (by omega)]
      have HGe := Lib.hid hGe
      generalize s.extract (posN pw 9) s.size = rest at *
      generalize decP s 9 = y at *
      obtain ⟨v0, v1, v2, v3, v4, v5, v6, v7, v8⟩ := nine HL.out
      clear hGe HG
      obtain ⟨W5, hW5⟩ : ∃ W5, W5 = wr.alloc (.cells (psCells y).toArray 30) := ⟨_, rfl⟩
      have hbW : Below wr.heap.size wr W5 := by rw [hW5]; exact (Below.refl _ _).alloc (Nat.le_refl _) _
      have hP5 : IsObj W5 wr.heap.size 30 (psCells y) := by rw [hW5]; exact IsObj.new wr _ _
      have HC5 := Lib.hid (HC.out.same hbW)
      have HT5 := Lib.hid (IsObj.below HT.out hbW hTl)
      have HW5 := Lib.hid (WdAt.same HWr.out hbW)
      have HB5 := Lib.hid (HB.out.trans (hbW.mono hsz))
      have HP5 := Lib.hid hP5
      simp only [psCells] at hW5
      clear hbW hP5 hsz HC HT HB HWr
      go_wp2_with fail
      rw [← hW5]
      refine (cleft_any _ _ _ HC5.out).mono ?_
      rintro e w' ⟨rfl, rfl⟩
      clear hW5 HL v0 v1 v2 v3 v4 v5 v6 v7 v8 hCl hLl
      obtain ⟨t0, t1, t2, t3, t4, t5, t6, t7, t8⟩ := nine HT5.out
      obtain ⟨q0, q1, q2, q3, q4, q5, q6, q7, q8⟩ := nine HP5.out
      have fr : ∀ j, W5.frozen? ⟨T, j, none⟩ = false := fun j => IsObj.free HT5.out j
      have hT5l : T < W5.heap.size := IsObj.lt HT5.out
      have hP5l : wr.heap.size < W5.heap.size := IsObj.lt HP5.out
      clear hTl
      by_cases hl : 14 < s.size
      · have he : r0 = ⟨default, 2⟩ := by rw [HGe.out, if_pos (.inl hl)]
        subst he
        have hr1 : (0 : Int) < (rest.size : Int) := by omega
        go_wp2
        obtain ⟨W', hW'⟩ : ∃ W', W' = set9 W5 T 0 0 0 0 0 0 0 0 0 := ⟨_, rfl⟩
        have hF : IsObj W' T 30 (psCells default) := by rw [hW']; exact set9_at HT5.out default
        have hFB : Below w.heap.size w W' := by rw [hW']; exact set9_below HB5.out hwT
        obtain ⟨k0, k1, k2, k3, k4, k5, k6, k7, k8⟩ := nine hF
        have HFB := Lib.hid hFB
        unfold set9 at hW'
        rw [← hW']
        clear hW' hF hFB
        refine bodyPost_ret (v := .tuple #[psV default, .int .i64 2]) (by simp [results, Tryz.results41, go_sem, k0, k1, k2, k3, k4, k5, k6, k7, k8]) rfl ?_
        exact ⟨rfl, HFB.out⟩
      · have hr1 : (rest.size : Int) = 0 := by omega
        cases hk2 : psOk y with
        | false =>
          have he : r0 = ⟨default, 2⟩ := by rw [HGe.out, if_pos (.inr hk2)]
          subst he
          rw [errP_no hk2] at HCk
          go_wp2_with (first | (go_at_call 71; (with_reducible refine (HCk.out _ HW5.out).mono ?_); rintro e w' ⟨rfl, hx⟩; obtain ⟨ux, rfl⟩ := ext_of hx; clear hx))
          obtain ⟨W', hW'⟩ : ∃ W', W' = set9 (ext W5 ux) T 0 0 0 0 0 0 0 0 0 := ⟨_, rfl⟩
          have hF : IsObj W' T 30 (psCells default) := by rw [hW']; exact set9_at (IsObj.below HT5.out ux.below HT5.out.lt) default
          have hFB : Below w.heap.size w W' := by rw [hW']; exact set9_below (below_ext ux HB5.out HB5.out.size) hwT
          obtain ⟨k0, k1, k2, k3, k4, k5, k6, k7, k8⟩ := nine hF
          have HFB := Lib.hid hFB
          unfold set9 at hW'
          rw [← hW']
          clear hW' hF hFB
          refine bodyPost_ret (v := .tuple #[psV default, .int .i64 2]) (by simp [results, Tryz.results41, go_sem, k0, k1, k2, k3, k4, k5, k6, k7, k8]) rfl ?_
          exact ⟨rfl, HFB.out⟩
        | true =>
          have he : r0 = ⟨y, 0⟩ := by rw [HGe.out, if_neg (by rintro (h2 | h2); exact hl h2; rw [hk2] at h2; cases h2)]
          subst he
          rw [errP_yes hk2] at HCk
          go_wp2_with (first | (go_at_call 71; (with_reducible refine (HCk.out _ HW5.out).mono ?_); rintro e w' ⟨rfl, hx⟩; obtain ⟨ux, rfl⟩ := ext_of hx; clear hx))
          obtain ⟨W', hW'⟩ : ∃ W', W' = set9 (ext W5 ux) T y.p0 y.p1 y.p2 y.p3 y.p4 y.p5 y.p6 y.p7 y.p8 := ⟨_, rfl⟩
          have hF : IsObj W' T 30 (psCells y) := by rw [hW']; exact set9_at (IsObj.below HT5.out ux.below HT5.out.lt) y
          have hFB : Below w.heap.size w W' := by rw [hW']; exact set9_below (below_ext ux HB5.out HB5.out.size) hwT
          obtain ⟨k0, k1, k2, k3, k4, k5, k6, k7, k8⟩ := nine hF
          have HFB := Lib.hid hFB
          unfold set9 at hW'
          rw [← hW']
          clear hW' hF hFB
          refine bodyPost_ret (v := .tuple #[psV y, .int .i64 0]) (by simp [results, Tryz.results41, go_sem, k0, k1, k2, k3, k4, k5, k6, k7, k8]) rfl ?_
          exact ⟨rfl, HFB.out⟩
end Go.Proofs.YtobcjbpgeohbgaaGreatDoor
