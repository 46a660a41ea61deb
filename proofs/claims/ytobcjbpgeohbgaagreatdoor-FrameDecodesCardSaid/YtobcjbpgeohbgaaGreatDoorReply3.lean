/-
  Layer 25 (reply): number; the deferred closure; Get.
-/
import Derived.Test.YtobcjbpgeohbgaaGreatDoorReply2
import Derived.Defers
import Derived.Recover
import Derived.Laws.Pointers
import Derived.WalkSmall
namespace Go.Proofs.YtobcjbpgeohbgaaGreatDoor
open Go.RowKit
set_option linter.unusedVariables false

theorem num_yes (C : Nat) (s : ByteArray) (wd n : Int) (rest : ByteArray) (hT : takeB s wd = ⟨n, 0, rest⟩) (w : World) (h : CurAt w C s) (hs : s.size ≤ 2147483648) : Calls Tryz.prog 69 #[.pointer (some ⟨C, 0, none⟩), .int .i64 wd] w fun e w' => e = .returned (.int .i64 n) ∧ CurAt w' C rest ∧ Only C w w' := by
  have T := take_any C s wd w h hs
  rw [hT] at T
  have HT := Lib.hid T
  clear T h hT
  go_enter Tryz.func69, Tryz.ntmps69
  go_wp2_with (go_at_call 64; refine HT.out.mono ?_; rintro e w1 ⟨rfl, hC, hO⟩)
  go_ret
  exact ⟨rfl, hC, hO⟩
theorem num_no (C : Nat) (s : ByteArray) (wd : Int) (rest : ByteArray) (hT : takeB s wd = ⟨0, 3, rest⟩) (w : World) (h : CurAt w C s) (hs : s.size ≤ 2147483648) : Calls Tryz.prog 69 #[.pointer (some ⟨C, 0, none⟩), .int .i64 wd] w fun e w' => e = .panicked [{ v := .iface 33 (.int .i64 3), recovered := false }] ∧ Only C w w' := by
  have T := take_any C s wd w h hs
  rw [hT] at T
  have HT := Lib.hid T
  clear T h hT
  go_enter Tryz.func69, Tryz.ntmps69
  go_wp2_with (go_at_call 64; refine HT.out.mono ?_; rintro e w1 ⟨rfl, hC, hO⟩)
  exact ⟨rfl, rfl, hO⟩
theorem catch_p (T E : Nat) (x : Rp) (er : Int) (u : TypeId) (pv : Value) (older : List PanicEntry) (w : World) (hT : IsObj w T 26 (rpCells x)) (hE : IsObj w E 33 [.int .i64 er]) (hTE : T ≠ E) :
    CallsD Tryz.prog 68 #[.pointer (some ⟨T, 0, none⟩), .pointer (some ⟨E, 0, none⟩)] (.panicking ({ v := .iface u pv, recovered := false } :: older)) w fun e u' w' =>
      e = .returned (.tuple #[]) ∧ u' = .panicking ({ v := .iface u pv, recovered := true } :: older) ∧ w' = (set7 w T 0 0 0 0 0 0 0).setCell ⟨E, 0, none⟩ (.int .i64 3) := by
  refine callsD_of_wpS Tryz.func68 rfl fun c₀ cs hu => ?_
  obtain ⟨t0, t1, t2, t3, t4, t5, t6⟩ := sevenR hT
  have fT : ∀ j, w.frozen? ⟨T, j, none⟩ = false := fun j => IsObj.free hT j
  have e0 : w.cell? ⟨E, 0, none⟩ = some (.int .i64 er) := IsObj.cell hE 0
  have fE : w.frozen? ⟨E, 0, none⟩ = false := IsObj.free hE 0
  apply wpS_seq
  apply wpS_region
  simp [wpOpsS, go_sem, recoverD, hu, Tryz.ntmps68, Exit.thenS]
  apply wpS_seq
  apply wpS_region
  simp [wpOpsS, go_sem, Exit.thenS]
  refine wpS_cond (t := true) (by simp [Act.eval, Array.replicate]) ?_
  simp only [if_true]
  apply wpS_region
  simp [wpOpsS, go_sem, t0, t1, t2, t3, t4, t5, t6, fT, e0, fE, bodyPostS, results, Tryz.results68]
  rfl
theorem catch_i (T E : Nat) (w : World) :
    CallsD Tryz.prog 68 #[.pointer (some ⟨T, 0, none⟩), .pointer (some ⟨E, 0, none⟩)] .returning w fun e u' w' => e = .returned (.tuple #[]) ∧ u' = .returning ∧ w' = w := by
  refine callsD_of_wpS Tryz.func68 rfl fun c₀ cs hu => ?_
  apply wpS_seq
  apply wpS_region
  simp [wpOpsS, go_sem, recoverD, hu, Tryz.ntmps68, Exit.thenS]
  apply wpS_seq
  apply wpS_region
  simp [wpOpsS, go_sem, Exit.thenS]
  refine wpS_cond (t := false) (by simp [Act.eval, Array.replicate]) ?_
  simp only [Bool.false_eq_true, if_false]
  refine wpS_of_wp (wp_skip ?_)
  cases c₀
  simp_all [bodyPostS, results, Tryz.results68]
/-- What the numbers of a body make. -/
def decR (s : ByteArray) : Rp := ⟨decN rw7 s 0, decN rw7 s 1, decN rw7 s 2 - 1, decN rw7 s 3, decN rw7 s 4, decN rw7 s 5, decN rw7 s 6⟩
structure Gr where
  r : Rp
  err : Int
def getR (s : ByteArray) : Gr := if s.size < 15 then ⟨default, 3⟩ else if 15 < s.size ∨ rpOk (decR s) = false then ⟨default, 2⟩ else ⟨decR s, 0⟩
set_option maxRecDepth 100000 in
set_option maxHeartbeats 2000000 in
theorem ypget_any (s : ByteArray) (w : World) (hs : s.size ≤ 2147483648) (hN : NmAt w) : Calls Tryz.prog 40 #[.string s] w fun e w' => e = .returned (.tuple #[rpV (getR s).r, .int .i64 (getR s).err]) ∧ Below w.heap.size w w' := by
  obtain ⟨r0, hr0⟩ : ∃ r0, r0 = getR s := ⟨_, rfl⟩
  rw [← hr0]
  have HG := Lib.hid hr0
  clear hr0
  have hmf : ∀ (fn : Fn) (first cap : Array Value) (w : World), (Instr.makeFunc fn first cap).run Tryz.prog w = .ok (.func fn first cap) w := fun _ _ _ _ => rfl
  obtain ⟨W1, hW1⟩ : ∃ W1, W1 = (w.alloc (.cells [.int .i64 0, .int .i64 0, .int .i64 0, .int .i64 0, .int .i64 0, .int .i64 0, .int .i64 0].toArray 26)).alloc (.cells #[.int .i64 0] 33) := ⟨_, rfl⟩
  have hT : IsObj W1 w.heap.size 26 (rpCells default) := by rw [hW1]; exact (IsObj.new w 26 (rpCells default)).alloc _
  have hE : IsObj W1 (w.heap.size + 1) 33 [.int .i64 0] := by
    have := IsObj.new (w.alloc (.cells [.int .i64 0, .int .i64 0, .int .i64 0, .int .i64 0, .int .i64 0, .int .i64 0, .int .i64 0].toArray 26)) 33 [.int .i64 0]
    rw [alloc_sizeR] at this
    rw [hW1]
    exact this
  have hb : Below w.heap.size w W1 := by rw [hW1]; exact ((Below.refl _ _).alloc (Nat.le_refl _) _).alloc (by simp) _
  have hsz : W1.heap.size = w.heap.size + 1 + 1 := by rw [hW1]; simp
  have HN1 := Lib.hid (hN.same hb)
  have HT1 := Lib.hid hT
  have HE1 := Lib.hid hE
  have HB1 := Lib.hid hb
  have hw0 := hN.lt
  clear hT hE hb hN
  go_enter_defers Tryz.func40, Tryz.ntmps40
  go_wp2_with fail
  rw [← hW1]
  clear hW1
  refine (read_any s W1).mono ?_
  rintro e w1 ⟨rfl, hC, hb1, hs1⟩
  have HT := Lib.hid (IsObj.below HT1.out hb1 HT1.out.lt)
  have HE := Lib.hid (IsObj.below HE1.out hb1 HE1.out.lt)
  have HN := Lib.hid (NmAt.same HN1.out hb1)
  have HB := Lib.hid (HB1.out.trans (hb1.mono HB1.out.size))
  obtain ⟨T, hT⟩ : ∃ T, T = w.heap.size := ⟨_, rfl⟩
  obtain ⟨E, hE⟩ : ∃ E, E = T + 1 := ⟨_, rfl⟩
  obtain ⟨C, hCC⟩ : ∃ C, C = E + 1 := ⟨_, rfl⟩
  rw [← hT] at HT HE hsz hw0
  rw [← hE] at HE hsz
  rw [← hCC] at hsz
  rw [hsz] at hC hs1 ⊢
  rw [← hT, ← hE]
  have hwT : w.heap.size ≤ T := by omega
  have hTE : T < E := by omega
  have hEC : E < C := by omega
  have hC0 : CurAt w1 C (s.extract (posN rw7 0) s.size) := by
    rw [show posN rw7 0 = 0 from rfl, extract_wholeN s]
    exact hC
  have HC := Lib.hid hC0
  have p_ : posN rw7 0 ≤ s.size := Nat.zero_le _
  have hxs := fun k => Nat.le_trans (extract_leN s (posN rw7 k) s.size) hs
  have HX := Lib.hid hxs
  clear hC hC0 hb1 HT1 HE1 HN1 HB1 hT hE hCC hsz hs1 hxs
  go_wp2_with fail
  by_cases p0 : posN rw7 (0 + 1) ≤ s.size
  rotate_left
  · have N := num_no C (s.extract (posN rw7 0) s.size) 6 _ (take_shortN rw7 s 0 (rw7_rng 0 (by omega)) (by omega) p_) _ HC.out (HX.out 0)
    refine N.mono ?_
    rintro e wp ⟨rfl, hO⟩
    have hT3 := IsObj.only HT.out hO (by omega)
    have hE3 := IsObj.only HE.out hO (by omega)
    have hB3 := HB.out.trans (hO.below (by omega) HB.out.size)
    have he : r0 = ⟨default, 3⟩ := by
      have h1 : posN rw7 (0 + 1) ≤ 15 := by have := posN_le rw7 (show 0 + 1 ≤ 7 by omega); rw [show posN rw7 7 = 15 from pos7] at this; exact this
      rw [HG.out, getR, if_pos (by omega)]
    subst he
    refine leaves_cons (f := 68) (args := #[.pointer (some ⟨T, 0, none⟩), .pointer (some ⟨E, 0, none⟩)]) (by simp) (by simp [go_sem]) ?_
    refine (catch_p T E default 0 33 _ [] _ hT3 hE3 (by omega)).mono ?_
    rintro e u' w'' ⟨rfl, rfl, hw⟩
    have hF : IsObj w'' T 26 (rpCells default) := by rw [hw]; exact IsObj.setOther (set7_at hT3 default) ⟨E, 0, none⟩ _ (by simp; omega)
    have hF2 : IsObj w'' E 33 [.int .i64 3] := by rw [hw]; exact IsObj.set (IsObj.only hE3 set7_only (by omega)) 0 (.int .i64 3)
    have hFB : Below w.heap.size w w'' := by rw [hw]; exact (set7_below hB3 hwT).setCell (p := ⟨E, 0, none⟩) (by simp; omega) _
    clear hw
    obtain ⟨k0, k1, k2, k3, k4, k5, k6⟩ := sevenR hF
    have k7 : w''.cell? ⟨E, 0, none⟩ = some (.int .i64 3) := IsObj.cell hF2 0
    clear hF hF2 hT3 hE3 hB3 hO
    simp [Leaves, settle, results, Tryz.results40, go_sem, k0, k1, k2, k3, k4, k5, k6, k7]
    exact hFB
  have N0 := num_yes C (s.extract (posN rw7 0) s.size) 6 _ _ (take_atN rw7 s 0 (rw7_rng 0 (by omega)) p0) _ HC.out (HX.out 0)
  have q0 := decN_nn rw7 s 0
  have z0 := decN_lt rw7 s 0 p0
  rw [show (256 : Int) ^ rw7 0 = 281474976710656 from rfl] at z0
  generalize hd0 : decN rw7 s 0 = d0 at *
  refine N0.mono ?_
  clear N0 p_
  rintro e v0 ⟨rfl, hC, hO⟩
  have hT3 := IsObj.only HT.out hO (by omega)
  have hE3 := IsObj.only HE.out hO (by omega)
  have hN3 := HN.out.only hO (by omega)
  have hB3 := HB.out.trans (hO.below (by omega) HB.out.size)
  clear HC HT HE HN HB hO
  have HC := Lib.hid hC
  have HT := Lib.hid hT3
  have HE := Lib.hid hE3
  have HN := Lib.hid hN3
  have HB := Lib.hid hB3
  have p_ := p0
  clear hC hT3 hE3 hN3 hB3 p0
  go_wp2_with fail
  by_cases p1 : posN rw7 (1 + 1) ≤ s.size
  rotate_left
  · have N := num_no C (s.extract (posN rw7 1) s.size) 1 _ (take_shortN rw7 s 1 (rw7_rng 1 (by omega)) (by omega) p_) _ HC.out (HX.out 1)
    refine N.mono ?_
    rintro e wp ⟨rfl, hO⟩
    have hT3 := IsObj.only HT.out hO (by omega)
    have hE3 := IsObj.only HE.out hO (by omega)
    have hB3 := HB.out.trans (hO.below (by omega) HB.out.size)
    have he : r0 = ⟨default, 3⟩ := by
      have h1 : posN rw7 (1 + 1) ≤ 15 := by have := posN_le rw7 (show 1 + 1 ≤ 7 by omega); rw [show posN rw7 7 = 15 from pos7] at this; exact this
      rw [HG.out, getR, if_pos (by omega)]
    subst he
    refine leaves_cons (f := 68) (args := #[.pointer (some ⟨T, 0, none⟩), .pointer (some ⟨E, 0, none⟩)]) (by simp) (by simp [go_sem]) ?_
    refine (catch_p T E default 0 33 _ [] _ hT3 hE3 (by omega)).mono ?_
    rintro e u' w'' ⟨rfl, rfl, hw⟩
    have hF : IsObj w'' T 26 (rpCells default) := by rw [hw]; exact IsObj.setOther (set7_at hT3 default) ⟨E, 0, none⟩ _ (by simp; omega)
    have hF2 : IsObj w'' E 33 [.int .i64 3] := by rw [hw]; exact IsObj.set (IsObj.only hE3 set7_only (by omega)) 0 (.int .i64 3)
    have hFB : Below w.heap.size w w'' := by rw [hw]; exact (set7_below hB3 hwT).setCell (p := ⟨E, 0, none⟩) (by simp; omega) _
    clear hw
    obtain ⟨k0, k1, k2, k3, k4, k5, k6⟩ := sevenR hF
    have k7 : w''.cell? ⟨E, 0, none⟩ = some (.int .i64 3) := IsObj.cell hF2 0
    clear hF hF2 hT3 hE3 hB3 hO
    simp [Leaves, settle, results, Tryz.results40, go_sem, k0, k1, k2, k3, k4, k5, k6, k7]
    exact hFB
  have N1 := num_yes C (s.extract (posN rw7 1) s.size) 1 _ _ (take_atN rw7 s 1 (rw7_rng 1 (by omega)) p1) _ HC.out (HX.out 1)
  have q1 := decN_nn rw7 s 1
  have z1 := decN_lt rw7 s 1 p1
  rw [show (256 : Int) ^ rw7 1 = 256 from rfl] at z1
  generalize hd1 : decN rw7 s 1 = d1 at *
  refine N1.mono ?_
  clear N1 p_
  rintro e v1 ⟨rfl, hC, hO⟩
  have hT3 := IsObj.only HT.out hO (by omega)
  have hE3 := IsObj.only HE.out hO (by omega)
  have hN3 := HN.out.only hO (by omega)
  have hB3 := HB.out.trans (hO.below (by omega) HB.out.size)
  clear HC HT HE HN HB hO
  have HC := Lib.hid hC
  have HT := Lib.hid hT3
  have HE := Lib.hid hE3
  have HN := Lib.hid hN3
  have HB := Lib.hid hB3
  have p_ := p1
  clear hC hT3 hE3 hN3 hB3 p1
  go_wp2_with fail
  by_cases p2 : posN rw7 (2 + 1) ≤ s.size
  rotate_left
  · have N := num_no C (s.extract (posN rw7 2) s.size) 1 _ (take_shortN rw7 s 2 (rw7_rng 2 (by omega)) (by omega) p_) _ HC.out (HX.out 2)
    refine N.mono ?_
    rintro e wp ⟨rfl, hO⟩
    have hT3 := IsObj.only HT.out hO (by omega)
    have hE3 := IsObj.only HE.out hO (by omega)
    have hB3 := HB.out.trans (hO.below (by omega) HB.out.size)
    have he : r0 = ⟨default, 3⟩ := by
      have h1 : posN rw7 (2 + 1) ≤ 15 := by have := posN_le rw7 (show 2 + 1 ≤ 7 by omega); rw [show posN rw7 7 = 15 from pos7] at this; exact this
      rw [HG.out, getR, if_pos (by omega)]
    subst he
    refine leaves_cons (f := 68) (args := #[.pointer (some ⟨T, 0, none⟩), .pointer (some ⟨E, 0, none⟩)]) (by simp) (by simp [go_sem]) ?_
    refine (catch_p T E default 0 33 _ [] _ hT3 hE3 (by omega)).mono ?_
    rintro e u' w'' ⟨rfl, rfl, hw⟩
    have hF : IsObj w'' T 26 (rpCells default) := by rw [hw]; exact IsObj.setOther (set7_at hT3 default) ⟨E, 0, none⟩ _ (by simp; omega)
    have hF2 : IsObj w'' E 33 [.int .i64 3] := by rw [hw]; exact IsObj.set (IsObj.only hE3 set7_only (by omega)) 0 (.int .i64 3)
    have hFB : Below w.heap.size w w'' := by rw [hw]; exact (set7_below hB3 hwT).setCell (p := ⟨E, 0, none⟩) (by simp; omega) _
    clear hw
    obtain ⟨k0, k1, k2, k3, k4, k5, k6⟩ := sevenR hF
    have k7 : w''.cell? ⟨E, 0, none⟩ = some (.int .i64 3) := IsObj.cell hF2 0
    clear hF hF2 hT3 hE3 hB3 hO
    simp [Leaves, settle, results, Tryz.results40, go_sem, k0, k1, k2, k3, k4, k5, k6, k7]
    exact hFB
  have N2 := num_yes C (s.extract (posN rw7 2) s.size) 1 _ _ (take_atN rw7 s 2 (rw7_rng 2 (by omega)) p2) _ HC.out (HX.out 2)
  have q2 := decN_nn rw7 s 2
  have z2 := decN_lt rw7 s 2 p2
  rw [show (256 : Int) ^ rw7 2 = 256 from rfl] at z2
  generalize hd2 : decN rw7 s 2 = d2 at *
  refine N2.mono ?_
  clear N2 p_
  rintro e v2 ⟨rfl, hC, hO⟩
  have hT3 := IsObj.only HT.out hO (by omega)
  have hE3 := IsObj.only HE.out hO (by omega)
  have hN3 := HN.out.only hO (by omega)
  have hB3 := HB.out.trans (hO.below (by omega) HB.out.size)
  clear HC HT HE HN HB hO
  have HC := Lib.hid hC
  have HT := Lib.hid hT3
  have HE := Lib.hid hE3
  have HN := Lib.hid hN3
  have HB := Lib.hid hB3
  have p_ := p2
  clear hC hT3 hE3 hN3 hB3 p2
  go_wp2_with fail
  by_cases p3 : posN rw7 (3 + 1) ≤ s.size
  rotate_left
  · have N := num_no C (s.extract (posN rw7 3) s.size) 1 _ (take_shortN rw7 s 3 (rw7_rng 3 (by omega)) (by omega) p_) _ HC.out (HX.out 3)
    refine N.mono ?_
    rintro e wp ⟨rfl, hO⟩
    have hT3 := IsObj.only HT.out hO (by omega)
    have hE3 := IsObj.only HE.out hO (by omega)
    have hB3 := HB.out.trans (hO.below (by omega) HB.out.size)
    have he : r0 = ⟨default, 3⟩ := by
      have h1 : posN rw7 (3 + 1) ≤ 15 := by have := posN_le rw7 (show 3 + 1 ≤ 7 by omega); rw [show posN rw7 7 = 15 from pos7] at this; exact this
      rw [HG.out, getR, if_pos (by omega)]
    subst he
    refine leaves_cons (f := 68) (args := #[.pointer (some ⟨T, 0, none⟩), .pointer (some ⟨E, 0, none⟩)]) (by simp) (by simp [go_sem]) ?_
    refine (catch_p T E default 0 33 _ [] _ hT3 hE3 (by omega)).mono ?_
    rintro e u' w'' ⟨rfl, rfl, hw⟩
    have hF : IsObj w'' T 26 (rpCells default) := by rw [hw]; exact IsObj.setOther (set7_at hT3 default) ⟨E, 0, none⟩ _ (by simp; omega)
    have hF2 : IsObj w'' E 33 [.int .i64 3] := by rw [hw]; exact IsObj.set (IsObj.only hE3 set7_only (by omega)) 0 (.int .i64 3)
    have hFB : Below w.heap.size w w'' := by rw [hw]; exact (set7_below hB3 hwT).setCell (p := ⟨E, 0, none⟩) (by simp; omega) _
    clear hw
    obtain ⟨k0, k1, k2, k3, k4, k5, k6⟩ := sevenR hF
    have k7 : w''.cell? ⟨E, 0, none⟩ = some (.int .i64 3) := IsObj.cell hF2 0
    clear hF hF2 hT3 hE3 hB3 hO
    simp [Leaves, settle, results, Tryz.results40, go_sem, k0, k1, k2, k3, k4, k5, k6, k7]
    exact hFB
  have N3 := num_yes C (s.extract (posN rw7 3) s.size) 1 _ _ (take_atN rw7 s 3 (rw7_rng 3 (by omega)) p3) _ HC.out (HX.out 3)
  have q3 := decN_nn rw7 s 3
  have z3 := decN_lt rw7 s 3 p3
  rw [show (256 : Int) ^ rw7 3 = 256 from rfl] at z3
  generalize hd3 : decN rw7 s 3 = d3 at *
  refine N3.mono ?_
  clear N3 p_
  rintro e v3 ⟨rfl, hC, hO⟩
  have hT3 := IsObj.only HT.out hO (by omega)
  have hE3 := IsObj.only HE.out hO (by omega)
  have hN3 := HN.out.only hO (by omega)
  have hB3 := HB.out.trans (hO.below (by omega) HB.out.size)
  clear HC HT HE HN HB hO
  have HC := Lib.hid hC
  have HT := Lib.hid hT3
  have HE := Lib.hid hE3
  have HN := Lib.hid hN3
  have HB := Lib.hid hB3
  have p_ := p3
  clear hC hT3 hE3 hN3 hB3 p3
  go_wp2_with fail
  by_cases p4 : posN rw7 (4 + 1) ≤ s.size
  rotate_left
  · have N := num_no C (s.extract (posN rw7 4) s.size) 1 _ (take_shortN rw7 s 4 (rw7_rng 4 (by omega)) (by omega) p_) _ HC.out (HX.out 4)
    refine N.mono ?_
    rintro e wp ⟨rfl, hO⟩
    have hT3 := IsObj.only HT.out hO (by omega)
    have hE3 := IsObj.only HE.out hO (by omega)
    have hB3 := HB.out.trans (hO.below (by omega) HB.out.size)
    have he : r0 = ⟨default, 3⟩ := by
      have h1 : posN rw7 (4 + 1) ≤ 15 := by have := posN_le rw7 (show 4 + 1 ≤ 7 by omega); rw [show posN rw7 7 = 15 from pos7] at this; exact this
      rw [HG.out, getR, if_pos (by omega)]
    subst he
    refine leaves_cons (f := 68) (args := #[.pointer (some ⟨T, 0, none⟩), .pointer (some ⟨E, 0, none⟩)]) (by simp) (by simp [go_sem]) ?_
    refine (catch_p T E default 0 33 _ [] _ hT3 hE3 (by omega)).mono ?_
    rintro e u' w'' ⟨rfl, rfl, hw⟩
    have hF : IsObj w'' T 26 (rpCells default) := by rw [hw]; exact IsObj.setOther (set7_at hT3 default) ⟨E, 0, none⟩ _ (by simp; omega)
    have hF2 : IsObj w'' E 33 [.int .i64 3] := by rw [hw]; exact IsObj.set (IsObj.only hE3 set7_only (by omega)) 0 (.int .i64 3)
    have hFB : Below w.heap.size w w'' := by rw [hw]; exact (set7_below hB3 hwT).setCell (p := ⟨E, 0, none⟩) (by simp; omega) _
    clear hw
    obtain ⟨k0, k1, k2, k3, k4, k5, k6⟩ := sevenR hF
    have k7 : w''.cell? ⟨E, 0, none⟩ = some (.int .i64 3) := IsObj.cell hF2 0
    clear hF hF2 hT3 hE3 hB3 hO
    simp [Leaves, settle, results, Tryz.results40, go_sem, k0, k1, k2, k3, k4, k5, k6, k7]
    exact hFB
  have N4 := num_yes C (s.extract (posN rw7 4) s.size) 1 _ _ (take_atN rw7 s 4 (rw7_rng 4 (by omega)) p4) _ HC.out (HX.out 4)
  have q4 := decN_nn rw7 s 4
  have z4 := decN_lt rw7 s 4 p4
  rw [show (256 : Int) ^ rw7 4 = 256 from rfl] at z4
  generalize hd4 : decN rw7 s 4 = d4 at *
  refine N4.mono ?_
  clear N4 p_
  rintro e v4 ⟨rfl, hC, hO⟩
  have hT3 := IsObj.only HT.out hO (by omega)
  have hE3 := IsObj.only HE.out hO (by omega)
  have hN3 := HN.out.only hO (by omega)
  have hB3 := HB.out.trans (hO.below (by omega) HB.out.size)
  clear HC HT HE HN HB hO
  have HC := Lib.hid hC
  have HT := Lib.hid hT3
  have HE := Lib.hid hE3
  have HN := Lib.hid hN3
  have HB := Lib.hid hB3
  have p_ := p4
  clear hC hT3 hE3 hN3 hB3 p4
  go_wp2_with fail
  by_cases p5 : posN rw7 (5 + 1) ≤ s.size
  rotate_left
  · have N := num_no C (s.extract (posN rw7 5) s.size) 4 _ (take_shortN rw7 s 5 (rw7_rng 5 (by omega)) (by omega) p_) _ HC.out (HX.out 5)
    refine N.mono ?_
    rintro e wp ⟨rfl, hO⟩
    have hT3 := IsObj.only HT.out hO (by omega)
    have hE3 := IsObj.only HE.out hO (by omega)
    have hB3 := HB.out.trans (hO.below (by omega) HB.out.size)
    have he : r0 = ⟨default, 3⟩ := by
      have h1 : posN rw7 (5 + 1) ≤ 15 := by have := posN_le rw7 (show 5 + 1 ≤ 7 by omega); rw [show posN rw7 7 = 15 from pos7] at this; exact this
      rw [HG.out, getR, if_pos (by omega)]
    subst he
    refine leaves_cons (f := 68) (args := #[.pointer (some ⟨T, 0, none⟩), .pointer (some ⟨E, 0, none⟩)]) (by simp) (by simp [go_sem]) ?_
    refine (catch_p T E default 0 33 _ [] _ hT3 hE3 (by omega)).mono ?_
    rintro e u' w'' ⟨rfl, rfl, hw⟩
    have hF : IsObj w'' T 26 (rpCells default) := by rw [hw]; exact IsObj.setOther (set7_at hT3 default) ⟨E, 0, none⟩ _ (by simp; omega)
    have hF2 : IsObj w'' E 33 [.int .i64 3] := by rw [hw]; exact IsObj.set (IsObj.only hE3 set7_only (by omega)) 0 (.int .i64 3)
    have hFB : Below w.heap.size w w'' := by rw [hw]; exact (set7_below hB3 hwT).setCell (p := ⟨E, 0, none⟩) (by simp; omega) _
    clear hw
    obtain ⟨k0, k1, k2, k3, k4, k5, k6⟩ := sevenR hF
    have k7 : w''.cell? ⟨E, 0, none⟩ = some (.int .i64 3) := IsObj.cell hF2 0
    clear hF hF2 hT3 hE3 hB3 hO
    simp [Leaves, settle, results, Tryz.results40, go_sem, k0, k1, k2, k3, k4, k5, k6, k7]
    exact hFB
  have N5 := num_yes C (s.extract (posN rw7 5) s.size) 4 _ _ (take_atN rw7 s 5 (rw7_rng 5 (by omega)) p5) _ HC.out (HX.out 5)
  have q5 := decN_nn rw7 s 5
  have z5 := decN_lt rw7 s 5 p5
  rw [show (256 : Int) ^ rw7 5 = 4294967296 from rfl] at z5
  generalize hd5 : decN rw7 s 5 = d5 at *
  refine N5.mono ?_
  clear N5 p_
  rintro e v5 ⟨rfl, hC, hO⟩
  have hT3 := IsObj.only HT.out hO (by omega)
  have hE3 := IsObj.only HE.out hO (by omega)
  have hN3 := HN.out.only hO (by omega)
  have hB3 := HB.out.trans (hO.below (by omega) HB.out.size)
  clear HC HT HE HN HB hO
  have HC := Lib.hid hC
  have HT := Lib.hid hT3
  have HE := Lib.hid hE3
  have HN := Lib.hid hN3
  have HB := Lib.hid hB3
  have p_ := p5
  clear hC hT3 hE3 hN3 hB3 p5
  go_wp2_with fail
  by_cases p6 : posN rw7 (6 + 1) ≤ s.size
  rotate_left
  · have N := num_no C (s.extract (posN rw7 6) s.size) 1 _ (take_shortN rw7 s 6 (rw7_rng 6 (by omega)) (by omega) p_) _ HC.out (HX.out 6)
    refine N.mono ?_
    rintro e wp ⟨rfl, hO⟩
    have hT3 := IsObj.only HT.out hO (by omega)
    have hE3 := IsObj.only HE.out hO (by omega)
    have hB3 := HB.out.trans (hO.below (by omega) HB.out.size)
    have he : r0 = ⟨default, 3⟩ := by
      have h1 : posN rw7 (6 + 1) ≤ 15 := by have := posN_le rw7 (show 6 + 1 ≤ 7 by omega); rw [show posN rw7 7 = 15 from pos7] at this; exact this
      rw [HG.out, getR, if_pos (by omega)]
    subst he
    refine leaves_cons (f := 68) (args := #[.pointer (some ⟨T, 0, none⟩), .pointer (some ⟨E, 0, none⟩)]) (by simp) (by simp [go_sem]) ?_
    refine (catch_p T E default 0 33 _ [] _ hT3 hE3 (by omega)).mono ?_
    rintro e u' w'' ⟨rfl, rfl, hw⟩
    have hF : IsObj w'' T 26 (rpCells default) := by rw [hw]; exact IsObj.setOther (set7_at hT3 default) ⟨E, 0, none⟩ _ (by simp; omega)
    have hF2 : IsObj w'' E 33 [.int .i64 3] := by rw [hw]; exact IsObj.set (IsObj.only hE3 set7_only (by omega)) 0 (.int .i64 3)
    have hFB : Below w.heap.size w w'' := by rw [hw]; exact (set7_below hB3 hwT).setCell (p := ⟨E, 0, none⟩) (by simp; omega) _
    clear hw
    obtain ⟨k0, k1, k2, k3, k4, k5, k6⟩ := sevenR hF
    have k7 : w''.cell? ⟨E, 0, none⟩ = some (.int .i64 3) := IsObj.cell hF2 0
    clear hF hF2 hT3 hE3 hB3 hO
    simp [Leaves, settle, results, Tryz.results40, go_sem, k0, k1, k2, k3, k4, k5, k6, k7]
    exact hFB
  have N6 := num_yes C (s.extract (posN rw7 6) s.size) 1 _ _ (take_atN rw7 s 6 (rw7_rng 6 (by omega)) p6) _ HC.out (HX.out 6)
  have q6 := decN_nn rw7 s 6
  have z6 := decN_lt rw7 s 6 p6
  rw [show (256 : Int) ^ rw7 6 = 256 from rfl] at z6
  generalize hd6 : decN rw7 s 6 = d6 at *
  refine N6.mono ?_
  clear N6 p_
  rintro e v6 ⟨rfl, hC, hO⟩
  have hT3 := IsObj.only HT.out hO (by omega)
  have hE3 := IsObj.only HE.out hO (by omega)
  have hN3 := HN.out.only hO (by omega)
  have hB3 := HB.out.trans (hO.below (by omega) HB.out.size)
  clear HC HT HE HN HB hO
  have HC := Lib.hid hC
  have HT := Lib.hid hT3
  have HE := Lib.hid hE3
  have HN := Lib.hid hN3
  have HB := Lib.hid hB3
  have p_ := p6
  clear hC hT3 hE3 hN3 hB3 p6
  go_wp2_with fail
  have hGe : r0 = if 15 < s.size ∨ rpOk ⟨d0, d1, d2 - 1, d3, d4, d5, d6⟩ = false then ⟨default, 2⟩ else ⟨⟨d0, d1, d2 - 1, d3, d4, d5, d6⟩, 0⟩ := by
    rw [HG.out, getR, if_neg (by have := p_; rw [show posN rw7 (6 + 1) = 15 from pos7] at this; omega)]
    unfold decR
    rw [hd0, hd1, hd2, hd3, hd4, hd5, hd6]
  have HGe := Lib.hid hGe
  have hwr : IntKind.i64.wrap (d2 - 1) = d2 - 1 := IntWalk.i64_in _ (by omega)
  rw [show posN rw7 (6 + 1) = 15 from pos7] at p_ HC
  have hrs : (s.extract 15 s.size).size = s.size - 15 := by rw [ByteArray.size_extract]; omega
  obtain ⟨y, hy⟩ : ∃ y : Rp, y = ⟨d0, d1, d2 - 1, d3, d4, d5, d6⟩ := ⟨_, rfl⟩
  have y0 : d0 = y.id := by rw [hy]
  have y1 : d1 = y.frm := by rw [hy]
  have y2 : d2 - 1 = y.tto := by rw [hy]
  have y3 : d3 = y.cod := by rw [hy]
  have y4 : d4 = y.thr := by rw [hy]
  have y5 : d5 = y.epo := by rw [hy]
  have y6 : d6 = y.tie := by rw [hy]
  rw [← hy] at HGe
  clear hGe HG hd0 hd1 hd2 hd3 hd4 hd5 hd6 hy
  generalize s.extract 15 s.size = rest at *
  obtain ⟨W5, hW5⟩ : ∃ W5, W5 = v6.alloc (.cells (rpCells y).toArray 26) := ⟨_, rfl⟩
  have hbW : Below v6.heap.size v6 W5 := by rw [hW5]; exact (Below.refl _ _).alloc (Nat.le_refl _) _
  have HP5 := Lib.hid (show IsObj W5 v6.heap.size 26 (rpCells y) by rw [hW5]; exact IsObj.new v6 _ _)
  have HC5 := Lib.hid (HC.out.same hbW)
  have HT5 := Lib.hid (IsObj.below HT.out hbW HT.out.lt)
  have HE5 := Lib.hid (IsObj.below HE.out hbW HE.out.lt)
  have HN5 := Lib.hid (NmAt.same HN.out hbW)
  have HB5 := Lib.hid (HB.out.trans (hbW.mono HB.out.size))
  have HCk := Lib.hid (fun w h => ypcheck_any y w h)
  clear hbW HC HT HE HN HB
  simp only [rpCells] at hW5
  go_wp2_with fail
  rw [y2, y0, y1, y3, y4, y5, y6, ← hW5]
  clear hW5 y2 y0 y1 y3 y4 y5 y6 q0 q1 q2 q3 q4 q5 q6 z0 z1 z2 z3 z4 z5 z6
  refine (cleft_any _ _ _ HC5.out).mono ?_
  rintro e w' ⟨rfl, rfl⟩
  obtain ⟨t0, t1, t2, t3, t4, t5, t6⟩ := sevenR HT5.out
  obtain ⟨m0, m1, m2, m3, m4, m5, m6⟩ := sevenR HP5.out
  have e0 : W5.cell? ⟨E, 0, none⟩ = some (.int .i64 0) := IsObj.cell HE5.out 0
  have fr : ∀ j, W5.frozen? ⟨T, j, none⟩ = false := fun j => IsObj.free HT5.out j
  have fe : W5.frozen? ⟨E, 0, none⟩ = false := IsObj.free HE5.out 0
  have l1 : T < W5.heap.size := IsObj.lt HT5.out
  have l2 : v6.heap.size < W5.heap.size := IsObj.lt HP5.out
  have l3 : E < W5.heap.size := IsObj.lt HE5.out
  by_cases hl : 15 < s.size
  · have he : r0 = ⟨default, 2⟩ := by rw [HGe.out, if_pos (.inl hl)]
    subst he
    have hr1 : (0 : Int) < (rest.size : Int) := by omega
    go_wp2
    refine leaves_cons (f := 68) (args := #[.pointer (some ⟨T, 0, none⟩), .pointer (some ⟨E, 0, none⟩)]) (by simp) (by simp [go_sem]) ?_
    refine (catch_i T E _).mono ?_
    rintro e u' w'' ⟨rfl, rfl, hw⟩
    have hw2 : w'' = (set7 W5 T 0 0 0 0 0 0 0).setCell ⟨E, 0, none⟩ (.int .i64 2) := hw
    clear hw
    have hF : IsObj w'' T 26 (rpCells default) := by rw [hw2]; exact IsObj.setOther (set7_at HT5.out default) ⟨E, 0, none⟩ _ (by simp; omega)
    have hF2 : IsObj w'' E 33 [.int .i64 2] := by rw [hw2]; exact IsObj.set (IsObj.only HE5.out set7_only (by omega)) 0 (.int .i64 2)
    have hFB : Below w.heap.size w w'' := by rw [hw2]; exact (set7_below HB5.out hwT).setCell (p := ⟨E, 0, none⟩) (by simp; omega) _
    clear hw2
    obtain ⟨k0, k1, k2, k3, k4, k5, k6⟩ := sevenR hF
    have k7 : w''.cell? ⟨E, 0, none⟩ = some (.int .i64 2) := IsObj.cell hF2 0
    clear hF hF2
    simp [Leaves, settle, results, Tryz.results40, go_sem, k0, k1, k2, k3, k4, k5, k6, k7]
    exact hFB
  · have hr1 : (rest.size : Int) = 0 := by omega
    cases hk2 : rpOk y with
    | false =>
      have he : r0 = ⟨default, 2⟩ := by rw [HGe.out, if_pos (.inr hk2)]
      subst he
      rw [errR_no hk2] at HCk
      go_wp2_with (first | (go_at_call 70; (with_reducible refine (HCk.out _ HN5.out).mono ?_); rintro e w' ⟨rfl, hx⟩; obtain ⟨ux, rfl⟩ := ext_of hx; clear hx))
      refine leaves_cons (f := 68) (args := #[.pointer (some ⟨T, 0, none⟩), .pointer (some ⟨E, 0, none⟩)]) (by simp) (by simp [go_sem]) ?_
      refine (catch_i T E _).mono ?_
      rintro e u' w'' ⟨rfl, rfl, hw⟩
      have hw2 : w'' = (set7 (ext W5 ux) T 0 0 0 0 0 0 0).setCell ⟨E, 0, none⟩ (.int .i64 2) := hw
      clear hw
      have hF : IsObj w'' T 26 (rpCells default) := by rw [hw2]; exact IsObj.setOther (set7_at (IsObj.below HT5.out ux.below HT5.out.lt) default) ⟨E, 0, none⟩ _ (by simp; omega)
      have hF2 : IsObj w'' E 33 [.int .i64 2] := by rw [hw2]; exact IsObj.set (IsObj.only (IsObj.below HE5.out ux.below HE5.out.lt) set7_only (by omega)) 0 (.int .i64 2)
      have hFB : Below w.heap.size w w'' := by rw [hw2]; exact (set7_below (below_ext ux HB5.out HB5.out.size) hwT).setCell (p := ⟨E, 0, none⟩) (by simp; omega) _
      clear hw2
      obtain ⟨k0, k1, k2, k3, k4, k5, k6⟩ := sevenR hF
      have k7 : w''.cell? ⟨E, 0, none⟩ = some (.int .i64 2) := IsObj.cell hF2 0
      clear hF hF2
      simp [Leaves, settle, results, Tryz.results40, go_sem, k0, k1, k2, k3, k4, k5, k6, k7]
      exact hFB
    | true =>
      have he : r0 = ⟨y, 0⟩ := by rw [HGe.out, if_neg (by rintro (h2 | h2); exact hl h2; rw [hk2] at h2; cases h2)]
      subst he
      rw [errR_yes hk2] at HCk
      go_wp2_with (first | (go_at_call 70; (with_reducible refine (HCk.out _ HN5.out).mono ?_); rintro e w' ⟨rfl, hx⟩; obtain ⟨ux, rfl⟩ := ext_of hx; clear hx))
      refine leaves_cons (f := 68) (args := #[.pointer (some ⟨T, 0, none⟩), .pointer (some ⟨E, 0, none⟩)]) (by simp) (by simp [go_sem]) ?_
      refine (catch_i T E _).mono ?_
      rintro e u' w'' ⟨rfl, rfl, hw⟩
      have hw2 : w'' = (set7 (ext W5 ux) T y.id y.frm y.tto y.cod y.thr y.epo y.tie).setCell ⟨E, 0, none⟩ (.int .i64 0) := hw
      clear hw
      have hF : IsObj w'' T 26 (rpCells y) := by rw [hw2]; exact IsObj.setOther (set7_at (IsObj.below HT5.out ux.below HT5.out.lt) y) ⟨E, 0, none⟩ _ (by simp; omega)
      have hF2 : IsObj w'' E 33 [.int .i64 0] := by rw [hw2]; exact IsObj.set (IsObj.only (IsObj.below HE5.out ux.below HE5.out.lt) set7_only (by omega)) 0 (.int .i64 0)
      have hFB : Below w.heap.size w w'' := by rw [hw2]; exact (set7_below (below_ext ux HB5.out HB5.out.size) hwT).setCell (p := ⟨E, 0, none⟩) (by simp; omega) _
      clear hw2
      obtain ⟨k0, k1, k2, k3, k4, k5, k6⟩ := sevenR hF
      have k7 : w''.cell? ⟨E, 0, none⟩ = some (.int .i64 0) := IsObj.cell hF2 0
      clear hF hF2
      simp [Leaves, settle, results, Tryz.results40, go_sem, k0, k1, k2, k3, k4, k5, k6, k7]
      exact hFB
end Go.Proofs.YtobcjbpgeohbgaaGreatDoor
