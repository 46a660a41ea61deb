/-
  Layer 24 (request): Get.
-/
import Derived.Test.YtobcjbpgeohbgaaGreatDoorRequest3
namespace Go.Proofs.YtobcjbpgeohbgaaGreatDoor
open Go.RowKit
set_option linter.unusedVariables false

def pos (k : Nat) : Nat := [0, 6, 7, 8, 9, 15, 17].getD k 17
theorem pos_succ (k : Nat) (h : k < 6) : pos (k + 1) = pos k + (wd k).toNat := by
  rcases lt6 h with rfl | rfl | rfl | rfl | rfl | rfl <;> rfl
theorem pos_le (k : Nat) (h : k < 6) : pos (k + 1) ≤ 17 := by
  rcases lt6 h with rfl | rfl | rfl | rfl | rfl | rfl <;> decide
theorem wd_rng (k : Nat) (h : k < 6) : 1 ≤ wd k ∧ wd k ≤ 6 := by
  rcases lt6 h with rfl | rfl | rfl | rfl | rfl | rfl <;> decide
theorem extract_whole (t : ByteArray) : t.extract 0 t.size = t := by
  rw [← ofL_bl (t.extract 0 t.size), bl_extract, List.drop_zero, Nat.sub_zero, List.take_of_length_le (by rw [bl_len]; exact Nat.le_refl _), ofL_bl]
theorem RqAt.only {w w' : World} {b c : Nat} {x : Rq} (h : RqAt w b x) (ho : Only c w w') (hne : b ≠ c) : RqAt w' b x := IsObj.only h ho hne
theorem PartsAt.only {w w' : World} {S B c : Nat} (h : PartsAt w S B) (ho : Only c w w') (hne : S ≠ c) : PartsAt w' S B := IsObj.only h ho hne
/-- Number k of a body. -/
def decF (s : ByteArray) (k : Nat) : Int := numOf (bl (s.extract (pos k) (pos (k + 1)))) - sft k
/-- What the first k numbers make. -/
def decK (s : ByteArray) (k : Nat) : Rq := ⟨if 0 < k then decF s 0 else 0, if 1 < k then decF s 1 else 0, if 2 < k then decF s 2 else 0, if 3 < k then decF s 3 else 0, if 4 < k then decF s 4 else 0, if 5 < k then decF s 5 else 0⟩
theorem decK_set (s : ByteArray) (k : Nat) (h : k < 6) : (rqCells (decK s k)).set k (.int .i64 (decF s k)) = rqCells (decK s (k + 1)) := by
  rcases lt6 h with rfl | rfl | rfl | rfl | rfl | rfl <;> rfl
abbrev dec (s : ByteArray) : Rq := decK s 6
theorem extract_extract (s : ByteArray) (a b : Nat) (h : a ≤ s.size) : (s.extract a s.size).extract 0 b = s.extract a (a + b) := by
  rw [← ofL_bl ((s.extract a s.size).extract 0 b), ← ofL_bl (s.extract a (a + b))]
  congr 1
  rw [bl_extract, bl_extract, bl_extract, List.drop_zero, Nat.sub_zero, Nat.add_sub_cancel_left, List.take_take, List.take_eq_take_iff]
  simp
theorem extract_tail (s : ByteArray) (a b : Nat) (h : a + b ≤ s.size) : (s.extract a s.size).extract b (s.extract a s.size).size = s.extract (a + b) s.size := by
  rw [← ofL_bl ((s.extract a s.size).extract b (s.extract a s.size).size), ← ofL_bl (s.extract (a + b) s.size)]
  congr 1
  have e : (s.extract a s.size).size = s.size - a := by rw [ByteArray.size_extract]; omega
  rw [bl_extract, bl_extract, bl_extract, e, List.drop_take, List.drop_drop, List.take_take]
  congr 1
  omega
theorem take_at (s : ByteArray) (k : Nat) (h : k < 6) (hp : pos (k + 1) ≤ s.size) : takeB (s.extract (pos k) s.size) (wd k) = ⟨decF s k + sft k, 0, s.extract (pos (k + 1)) s.size⟩ := by
  have hs := pos_succ k h
  have hw := wd_rng k h
  have hsz : (s.extract (pos k) s.size).size = s.size - pos k := by rw [ByteArray.size_extract]; omega
  unfold takeB
  rw [if_pos hw, if_neg (by rw [hsz]; omega), extract_extract s _ _ (by omega), extract_tail s _ _ (by omega), ← hs]
  unfold decF
  rw [Int.sub_add_cancel]
theorem take_short (s : ByteArray) (k : Nat) (h : k < 6) (hp : s.size < pos (k + 1)) (hp2 : pos k ≤ s.size) : takeB (s.extract (pos k) s.size) (wd k) = ⟨0, 3, s.extract (pos k) s.size⟩ := by
  have hs := pos_succ k h
  have hw := wd_rng k h
  have hsz : (s.extract (pos k) s.size).size = s.size - pos k := by rw [ByteArray.size_extract]; omega
  unfold takeB
  rw [if_pos hw, if_pos (by rw [hsz]; omega)]
/-- What Get comes to. -/
structure Gt where
  r : Rq
  err : Int
def getB (s : ByteArray) : Gt := if s.size < 17 then ⟨default, 3⟩ else if 17 < s.size ∨ rqOk (dec s) = false then ⟨default, 2⟩ else ⟨dec s, 0⟩

/-- A request, cell by cell, into its variable. -/
def set6 (w : World) (T : Nat) (a b c d e f : Int) : World := (((((w.setCell ⟨T, 0, none⟩ (.int .i64 a)).setCell ⟨T, 1, none⟩ (.int .i64 b)).setCell ⟨T, 2, none⟩ (.int .i64 c)).setCell ⟨T, 3, none⟩ (.int .i64 d)).setCell ⟨T, 4, none⟩ (.int .i64 e)).setCell ⟨T, 5, none⟩ (.int .i64 f)
theorem set6_at {w : World} {T : Nat} {y : Rq} (h : RqAt w T y) (x : Rq) : RqAt (set6 w T x.id x.frm x.tto x.lev x.dl x.bud) T x :=
  (((((IsObj.set h 0 (.int .i64 x.id)).set 1 (.int .i64 x.frm)).set 2 (.int .i64 x.tto)).set 3 (.int .i64 x.lev)).set 4 (.int .i64 x.dl)).set 5 (.int .i64 x.bud)
theorem set6_below {w w0 : World} {T B : Nat} {a b c d e f : Int} (h : Below B w0 w) (hB : B ≤ T) : Below B w0 (set6 w T a b c d e f) :=
  (((((h.setCell (p := ⟨T, 0, none⟩) hB _).setCell (p := ⟨T, 1, none⟩) hB _).setCell (p := ⟨T, 2, none⟩) hB _).setCell (p := ⟨T, 3, none⟩) hB _).setCell (p := ⟨T, 4, none⟩) hB _).setCell (p := ⟨T, 5, none⟩) hB _
theorem RqAt.six {w : World} {T : Nat} {x : Rq} (h : RqAt w T x) : w.cell? ⟨T, 0, none⟩ = some (.int .i64 x.id) ∧ w.cell? ⟨T, 1, none⟩ = some (.int .i64 x.frm) ∧ w.cell? ⟨T, 2, none⟩ = some (.int .i64 x.tto) ∧ w.cell? ⟨T, 3, none⟩ = some (.int .i64 x.lev) ∧ w.cell? ⟨T, 4, none⟩ = some (.int .i64 x.dl) ∧ w.cell? ⟨T, 5, none⟩ = some (.int .i64 x.bud) :=
  ⟨IsObj.cell h 0, IsObj.cell h 1, IsObj.cell h 2, IsObj.cell h 3, IsObj.cell h 4, IsObj.cell h 5⟩

set_option maxRecDepth 100000 in
set_option maxHeartbeats 2000000 in
theorem qget_any (s : ByteArray) (w : World) (hs : s.size ≤ 2147483648) : Calls Tryz.prog 38 #[.string s] w fun e w' => e = .returned (.tuple #[rqV (getB s).r, .int .i64 (getB s).err]) ∧ Below w.heap.size w w' := by
  obtain ⟨r0, hr0⟩ : ∃ r0, r0 = getB s := ⟨_, rfl⟩
  rw [← hr0]
  have HG := Lib.hid hr0
  clear hr0
  go_enter Tryz.func38, Tryz.ntmps38
  go_wp2_with fail
  go_step3
  go_wp2_with fail
  refine (read_any _ _).mono ?_
  rintro e w1 ⟨rfl, hC, hb1, hs1⟩
  have hR0 : RqAt (w.alloc (.cells (rqCells default).toArray 24)) w.heap.size default := IsObj.new w _ (rqCells default)
  have hR1 := IsObj.alloc hR0 (.cells (rqCells default).toArray 24)
  have hR2 : RqAt ((w.alloc (.cells (rqCells default).toArray 24)).alloc (.cells (rqCells default).toArray 24)) (w.heap.size + 1) default := by
    have := IsObj.new (w.alloc (.cells (rqCells default).toArray 24)) 24 (rqCells default)
    rw [alloc_size] at this
    exact this
  have hBb : Below w.heap.size w ((w.alloc (.cells (rqCells default).toArray 24)).alloc (.cells (rqCells default).toArray 24)) := ((Below.refl _ _).alloc (Nat.le_refl _) _).alloc (by rw [alloc_size]; omega) _
  have hCc : CurAt w1 (w.heap.size + 1 + 1) s := by
    have := hC
    rw [alloc_size, alloc_size] at this
    exact this
  have hsz2 : (w.alloc (.cells (rqCells default).toArray 24)).heap.size = w.heap.size + 1 := alloc_size _ _
  have hT1 : RqAt w1 w.heap.size default := IsObj.below hR1 hb1 (IsObj.lt hR1)
  have hV1 : RqAt w1 (w.heap.size + 1) default := IsObj.below hR2 hb1 (IsObj.lt hR2)
  have hB1 : Below w.heap.size w w1 := hBb.trans (hb1.mono hBb.size)
  have hs1' : w.heap.size + 1 + 1 < w1.heap.size := by
    have := hs1
    rw [alloc_size, alloc_size] at this
    exact this
  have HT1 := Lib.hid hT1
  have HV1 := Lib.hid hV1
  have HC1 := Lib.hid hCc
  have HB1 := Lib.hid hB1
  clear hR0 hR1 hR2 hBb hCc hT1 hV1 hB1 hC hb1 hs1 hsz2
  go_wp2_with fail
  go_step3
  go_wp2_with fail
  refine (parts_any (w.heap.size + 1) _).mono ?_
  rintro e w2 ⟨rfl, hP, hb2, hs2⟩
  have HT2 := Lib.hid (HT1.out.same hb2)
  have HV2 := Lib.hid (HV1.out.same hb2)
  have HC2 := Lib.hid (HC1.out.same hb2)
  have HB2 := Lib.hid (HB1.out.trans (hb2.mono HB1.out.size))
  have HP2 := Lib.hid hP
  clear hP hb2 HT1 HV1 HC1 HB1
  obtain ⟨T, hT⟩ : ∃ T, T = w.heap.size := ⟨_, rfl⟩
  obtain ⟨R, hR⟩ : ∃ R, R = T + 1 := ⟨_, rfl⟩
  obtain ⟨C, hC⟩ : ∃ C, C = R + 1 := ⟨_, rfl⟩
  obtain ⟨S, hS⟩ : ∃ S, S = w1.heap.size := ⟨_, rfl⟩
  rw [← hT] at HT2 HV2 HC2 HP2 hs1'
  rw [← hR] at HV2 HC2 HP2 hs1'
  rw [← hC] at HC2 hs1'
  rw [← hS] at HP2 hs1'
  have hwT : w.heap.size ≤ T := by omega
  have hTR : T < R := by omega
  have hRC : R < C := by omega
  have hCS : C < S := hs1'
  go_wp2_with fail
  rw [← hT, ← hR, ← hC, ← hS]
  clear hT hR hC hS hs2 hs1'
  have HSz := Lib.hid hs
  have hdk : RqAt w2 R (decK s 0) := HV2.out
  have hpk : CurAt w2 C (s.extract (pos 0) s.size) := by
    rw [show pos 0 = 0 from rfl, extract_whole s]
    exact HC2.out
  have HDK := Lib.hid hdk
  have HPK := Lib.hid hpk
  clear hdk hpk HV2 HC2 hs
  go_loopw [7, 17] (fun ev i wr => ∃ k : Nat, k ≤ 6 ∧ i = .int .i64 k ∧ ev = .int .i64 0 ∧ pos k ≤ s.size ∧ CurAt wr C (s.extract (pos k) s.size) ∧ RqAt wr R (decK s k) ∧ PartsAt wr S R ∧ RqAt wr T default ∧ Below w.heap.size w wr) (fun _ i _ => 6 - (intOf i).toNat)
  case atStart => exact ⟨0, by omega, rfl, rfl, Nat.zero_le _, HPK.out, HDK.out, HP2.out, HT2.out, HB2.out⟩
  case round =>
    obtain ⟨k, hk, rfl, rfl, hpos, hC, hV, hP, hT, hb⟩ := hrel
    have hCl := IsObj.lt hC
    have hTl := IsObj.lt hT
    have hVl := IsObj.lt hV
    have hPl := IsObj.lt hP
    have HC := Lib.hid hC
    have HV := Lib.hid hV
    have HT := Lib.hid hT
    have HB := Lib.hid hb
    have HP := Lib.hid hP
    have hsz := hb.size
    clear hC hV hT hb HB2 HT2 HP2 HDK HPK
    by_cases hlt : k < 6
    · obtain ⟨c0, c1, c2, c3, c4⟩ := hP.cells k hlt
      clear hP
      have i1 : (0 : Int) ≤ (k : Int) := by omega
      have hwd := wd_rng k hlt
      have hsle : (s.extract (pos k) s.size).size ≤ 2147483648 := Nat.le_trans (extract_le _ _ _) HSz.out
      have T := fun w h => take_any C (s.extract (pos k) s.size) (wd k) w h hsle
      by_cases hp : pos (k + 1) ≤ s.size
      · rw [take_at s k hlt hp] at T
        have HTk := Lib.hid T
        obtain ⟨f3, f4⟩ := sft_rng k hlt
        have hnn := numOf_nn (bl (s.extract (pos k) (pos (k + 1))))
        have hnl : numOf (bl (s.extract (pos k) (pos (k + 1)))) < 281474976710656 := by
          have h1 := numOf_lt (bl (s.extract (pos k) (pos (k + 1))))
          have h2 : (bl (s.extract (pos k) (pos (k + 1)))).length ≤ 6 := by
            rw [bl_len, ByteArray.size_extract]
            have := pos_succ k hlt
            omega
          obtain ⟨m, hm⟩ : ∃ m, m = (bl (s.extract (pos k) (pos (k + 1)))).length := ⟨_, rfl⟩
          rw [← hm] at h1 h2
          have : m = 0 ∨ m = 1 ∨ m = 2 ∨ m = 3 ∨ m = 4 ∨ m = 5 ∨ m = 6 := by omega
          rcases this with rfl | rfl | rfl | rfl | rfl | rfl | rfl <;> simp at h1 <;> omega
        have hdf : decF s k + sft k = numOf (bl (s.extract (pos k) (pos (k + 1)))) := by unfold decF; omega
        rw [hdf] at HTk
        have hdv : numOf (bl (s.extract (pos k) (pos (k + 1)))) - sft k = decF s k := rfl
        have hset := fun w (h : RqAt w R (decK s k)) => IsObj.set h k (.int .i64 (decF s k))
        rw [decK_set s k hlt] at hset
        have HSet := Lib.hid hset
        have HDV := Lib.hid hdv
        have hd0 := HV.out.cell k hlt
        have hwr : IntKind.i64.wrap (numOf (bl (s.extract (pos k) (pos (k + 1)))) - sft k) = numOf (bl (s.extract (pos k) (pos (k + 1)))) - sft k := IntWalk.i64_in _ (by omega)
        generalize numOf (bl (s.extract (pos k) (pos (k + 1)))) = n at *
        generalize sft k = p2 at *
        generalize wd k = p1 at *
        generalize lst k = a at *
        generalize grt k = z at *
        clear T hdf hdv hset hd0 hsle
        go_wp2_with fail
        obtain ⟨W1, hW1⟩ : ∃ W1, W1 = wr.alloc (.cells #[.pointer (some ⟨R, k, none⟩), .int .i64 p1, .int .i64 p2, .int .i64 a, .int .i64 z] 109) := ⟨_, rfl⟩
        have hbW : Below wr.heap.size wr W1 := by rw [hW1]; exact (Below.refl _ _).alloc (Nat.le_refl _) _
        have q := fun j => cell_new wr #[.pointer (some ⟨R, k, none⟩), .int .i64 p1, .int .i64 p2, .int .i64 a, .int .i64 z] 109 j
        rw [← hW1] at q ⊢
        have q0 := q 0
        have q1 := q 1
        have q2 := q 2
        simp only [List.getElem?_toArray, List.getElem?_cons_zero, List.getElem?_cons_succ] at q0 q1 q2
        have HC1 := Lib.hid (HC.out.same hbW)
        have HV1 := Lib.hid (HV.out.same hbW)
        have HT1 := Lib.hid (RqAt.same HT.out hbW)
        have HP1 := Lib.hid (HP.out.same hbW)
        have HB1 := Lib.hid (HB.out.trans (hbW.mono hsz))
        clear hW1 q hbW c0 c1 c2 c3 c4 HC HV HT HP HB
        go_wp2_with fail
        refine (HTk.out _ HC1.out).mono ?_
        rintro e w3 ⟨rfl, hC3, hO3⟩
        have r0' := hO3.keep q0 (by simp; omega)
        have r2' := hO3.keep q2 (by simp; omega)
        have hV3 := HV1.out.only hO3 (by omega)
        have hT3 := HT1.out.only hO3 (by omega)
        have hP3 := HP1.out.only hO3 (by omega)
        have hB3 := HB1.out.trans (hO3.below (by omega) HB1.out.size)
        have d0 := hV3.cell k hlt
        have fr := IsObj.free hV3 k
        have hV4 := HSet.out _ hV3
        rw [← HDV.out] at hV4
        have HV4 := Lib.hid hV4
        have HT4 := Lib.hid (IsObj.setOther hT3 ⟨R, k, none⟩ (.int .i64 (n - p2)) (by simp; omega))
        have HP4 := Lib.hid (IsObj.setOther hP3 ⟨R, k, none⟩ (.int .i64 (n - p2)) (by simp; omega))
        have HC4 := Lib.hid (IsObj.setOther hC3 ⟨R, k, none⟩ (.int .i64 (n - p2)) (by simp; omega))
        have HB4 := Lib.hid (hB3.setCell (p := ⟨R, k, none⟩) (by simp; omega) (.int .i64 (n - p2)))
        clear hC3 hO3 hV3 hT3 hP3 hB3 hV4 HC1 HV1 HT1 HP1 HB1 q0 q1 q2
        go_wp2
        exact ⟨⟨k + 1, by omega, by go_num, rfl, hp, HC4.out, HV4.out, HP4.out, HT4.out, HB4.out⟩, by simp only [intOf]; omega⟩
      · rw [take_short s k hlt (by omega) hpos] at T
        have HTk := Lib.hid T
        have he : r0 = ⟨default, 3⟩ := by
          have := pos_le k hlt
          rw [HG.out, getB, if_pos (by omega)]
        subst he
        generalize sft k = p2 at *
        generalize wd k = p1 at *
        generalize lst k = a at *
        generalize grt k = z at *
        clear T hsle
        go_wp2_with fail
        obtain ⟨W1, hW1⟩ : ∃ W1, W1 = wr.alloc (.cells #[.pointer (some ⟨R, k, none⟩), .int .i64 p1, .int .i64 p2, .int .i64 a, .int .i64 z] 109) := ⟨_, rfl⟩
        have hbW : Below wr.heap.size wr W1 := by rw [hW1]; exact (Below.refl _ _).alloc (Nat.le_refl _) _
        have HC1 := Lib.hid (HC.out.same hbW)
        have HT1 := Lib.hid (RqAt.same HT.out hbW)
        have HB1 := Lib.hid (HB.out.trans (hbW.mono hsz))
        rw [← hW1]
        clear hW1 hbW c0 c1 c2 c3 c4 HC HV HT HP HB
        refine (HTk.out _ HC1.out).mono ?_
        rintro e w3 ⟨rfl, hC3, hO3⟩
        have hT3 := HT1.out.only hO3 (by omega)
        have hB3 := HB1.out.trans (hO3.below (by omega) HB1.out.size)
        have t0 : w3.cell? ⟨T, 0, none⟩ = some (.int .i64 0) := IsObj.cell hT3 0
        have t1 : w3.cell? ⟨T, 1, none⟩ = some (.int .i64 0) := IsObj.cell hT3 1
        have t2 : w3.cell? ⟨T, 2, none⟩ = some (.int .i64 0) := IsObj.cell hT3 2
        have t3 : w3.cell? ⟨T, 3, none⟩ = some (.int .i64 0) := IsObj.cell hT3 3
        have t4 : w3.cell? ⟨T, 4, none⟩ = some (.int .i64 0) := IsObj.cell hT3 4
        have t5 : w3.cell? ⟨T, 5, none⟩ = some (.int .i64 0) := IsObj.cell hT3 5
        have fr : ∀ j, w3.frozen? ⟨T, j, none⟩ = false := fun j => IsObj.free hT3 j
        have HB3 := Lib.hid hB3
        have HT3 := Lib.hid hT3
        clear hC3 hO3 hT3 hB3 HC1 HT1 HB1
        go_wp2
        rw [Exit.noGoto_ret]
        show bodyPost _ _ _ _ _ _
        obtain ⟨W', hW'⟩ : ∃ W', W' = set6 (w3) T 0 0 0 0 0 0 := ⟨_, rfl⟩
        have hF : RqAt W' T default := by rw [hW']; exact set6_at HT3.out default
        have hFB : Below w.heap.size w W' := by rw [hW']; exact set6_below HB3.out hwT
        obtain ⟨k0, k1, k2, k3, k4, k5⟩ := hF.six
        have HFB := Lib.hid hFB
        unfold set6 at hW'
        rw [← hW']
        clear hW' hF hFB
        refine bodyPost_ret (v := .tuple #[rqV default, .int .i64 3]) (by simp [results, Tryz.results38, go_sem, k0, k1, k2, k3, k4, k5]) rfl ?_
        exact ⟨rfl, HFB.out⟩
    · obtain rfl : k = 6 := by omega
      have hp6 : pos 6 = 17 := rfl
      have hsz6 : (s.extract (pos 6) s.size).size = s.size - 17 := by rw [ByteArray.size_extract, hp6]; omega
      rw [hp6] at hpos
      have hT := HT.out
      have t0 : wr.cell? ⟨T, 0, none⟩ = some (.int .i64 0) := IsObj.cell hT 0
      have t1 : wr.cell? ⟨T, 1, none⟩ = some (.int .i64 0) := IsObj.cell hT 1
      have t2 : wr.cell? ⟨T, 2, none⟩ = some (.int .i64 0) := IsObj.cell hT 2
      have t3 : wr.cell? ⟨T, 3, none⟩ = some (.int .i64 0) := IsObj.cell hT 3
      have t4 : wr.cell? ⟨T, 4, none⟩ = some (.int .i64 0) := IsObj.cell hT 4
      have t5 : wr.cell? ⟨T, 5, none⟩ = some (.int .i64 0) := IsObj.cell hT 5
      have fr : ∀ j, wr.frozen? ⟨T, j, none⟩ = false := fun j => IsObj.free hT j
      generalize s.extract (pos 6) s.size = rest at *
      clear hP hT HP
      by_cases hl : 17 < s.size
      · have he : r0 = ⟨default, 2⟩ := by rw [HG.out, getB, if_neg (by omega), if_pos (.inl hl)]
        subst he
        have hr1 : (0 : Int) < (rest.size : Int) := by omega
        go_wp2_with (go_at_call 66; (with_reducible refine (cleft_any _ _ _ HC.out).mono ?_); rintro e w' ⟨rfl, rfl⟩)
        rw [Exit.noGoto_ret]
        show bodyPost _ _ _ _ _ _
        obtain ⟨W', hW'⟩ : ∃ W', W' = set6 (wr) T 0 0 0 0 0 0 := ⟨_, rfl⟩
        have hF : RqAt W' T default := by rw [hW']; exact set6_at HT.out default
        have hFB : Below w.heap.size w W' := by rw [hW']; exact set6_below HB.out hwT
        obtain ⟨k0, k1, k2, k3, k4, k5⟩ := hF.six
        have HFB := Lib.hid hFB
        unfold set6 at hW'
        rw [← hW']
        clear hW' hF hFB
        refine bodyPost_ret (v := .tuple #[rqV default, .int .i64 2]) (by simp [results, Tryz.results38, go_sem, k0, k1, k2, k3, k4, k5]) rfl ?_
        exact ⟨rfl, HFB.out⟩
      · have hr1 : (rest.size : Int) = 0 := by omega
        have hV := HV.out
        have v0 : wr.cell? ⟨R, 0, none⟩ = some (.int .i64 (dec s).id) := IsObj.cell hV 0
        have v1 : wr.cell? ⟨R, 1, none⟩ = some (.int .i64 (dec s).frm) := IsObj.cell hV 1
        have v2 : wr.cell? ⟨R, 2, none⟩ = some (.int .i64 (dec s).tto) := IsObj.cell hV 2
        have v3 : wr.cell? ⟨R, 3, none⟩ = some (.int .i64 (dec s).lev) := IsObj.cell hV 3
        have v4 : wr.cell? ⟨R, 4, none⟩ = some (.int .i64 (dec s).dl) := IsObj.cell hV 4
        have v5 : wr.cell? ⟨R, 5, none⟩ = some (.int .i64 (dec s).bud) := IsObj.cell hV 5
        have HCk := Lib.hid (fun w => check_any (dec s) w)
        unfold errOf at HCk
        have hGe : getB s = if rqOk (dec s) = false then ⟨default, 2⟩ else ⟨dec s, 0⟩ := by
          rw [getB, if_neg (by omega)]
          by_cases h : rqOk (dec s) = false
          · rw [if_pos (.inr h), if_pos h]
          · rw [if_neg (by rintro (h2 | h2); exact hl h2; exact h h2), if_neg h]
        rw [hGe] at HG
        generalize dec s = y at *
        clear hGe hV HV
        cases hk2 : rqOk y with
        | false =>
          rw [hk2, if_neg (by decide)] at HCk
          rw [hk2, if_pos rfl] at HG
          have he : r0 = ⟨default, 2⟩ := HG.out
          subst he
          go_wp2_with (first | (go_at_call 66; (with_reducible refine (cleft_any _ _ _ HC.out).mono ?_); rintro e w' ⟨rfl, rfl⟩) | (go_at_call 67; (with_reducible refine (HCk.out _).mono ?_); rintro e w' ⟨rfl, hx⟩; obtain ⟨ux, rfl⟩ := ext_of hx; clear hx))
          rw [Exit.noGoto_ret]
          show bodyPost _ _ _ _ _ _
          obtain ⟨W', hW'⟩ : ∃ W', W' = set6 (ext wr ux) T 0 0 0 0 0 0 := ⟨_, rfl⟩
          have hF : RqAt W' T default := by rw [hW']; exact set6_at (RqAt.same HT.out ux.below) default
          have hFB : Below w.heap.size w W' := by rw [hW']; exact set6_below (below_ext ux HB.out hsz) hwT
          obtain ⟨k0, k1, k2, k3, k4, k5⟩ := hF.six
          have HFB := Lib.hid hFB
          unfold set6 at hW'
          rw [← hW']
          clear hW' hF hFB
          refine bodyPost_ret (v := .tuple #[rqV default, .int .i64 2]) (by simp [results, Tryz.results38, go_sem, k0, k1, k2, k3, k4, k5]) rfl ?_
          exact ⟨rfl, HFB.out⟩
        | true =>
          rw [hk2, if_pos rfl] at HCk
          rw [hk2, if_neg (by decide)] at HG
          have he : r0 = ⟨y, 0⟩ := HG.out
          subst he
          go_wp2_with (first | (go_at_call 66; (with_reducible refine (cleft_any _ _ _ HC.out).mono ?_); rintro e w' ⟨rfl, rfl⟩) | (go_at_call 67; (with_reducible refine (HCk.out _).mono ?_); rintro e w' ⟨rfl, hx⟩; obtain ⟨ux, rfl⟩ := ext_of hx; clear hx))
          rw [Exit.noGoto_ret]
          show bodyPost _ _ _ _ _ _
          obtain ⟨W', hW'⟩ : ∃ W', W' = set6 (ext wr ux) T y.id y.frm y.tto y.lev y.dl y.bud := ⟨_, rfl⟩
          have hF : RqAt W' T y := by rw [hW']; exact set6_at (RqAt.same HT.out ux.below) y
          have hFB : Below w.heap.size w W' := by rw [hW']; exact set6_below (below_ext ux HB.out hsz) hwT
          obtain ⟨k0, k1, k2, k3, k4, k5⟩ := hF.six
          have HFB := Lib.hid hFB
          unfold set6 at hW'
          rw [← hW']
          clear hW' hF hFB
          refine bodyPost_ret (v := .tuple #[rqV y, .int .i64 0]) (by simp [results, Tryz.results38, go_sem, k0, k1, k2, k3, k4, k5]) rfl ?_
          exact ⟨rfl, HFB.out⟩
end Go.Proofs.YtobcjbpgeohbgaaGreatDoor
