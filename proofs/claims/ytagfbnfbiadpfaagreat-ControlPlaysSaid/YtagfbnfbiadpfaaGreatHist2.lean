/-
  hist.Hist: the iterator of the sums below each threshold.
-/
import Derived.Test.YtagfbnfbiadpfaaGreatHist
import Derived.RangeFuncNested
import Derived.RangeFuncBound
import Derived.RangeFuncCalls
import Derived.RangeFuncLeaves
import Derived.Shelf.Abstract
import Derived.Shelf.RegionOpen
import Derived.OwnWalkIn
import Derived.TacticsInMore
import Derived.LoopNIn
import Derived.LoopIn
namespace Go.Proofs.YtagfbnfbiadpfaaGreat
open Go.RowKit Go.Shelf
set_option linter.unusedVariables false
set_option linter.unusedSimpArgs false
attribute [local go_sem] Oper.semAt_some

/-- How many lie below a threshold. -/
def sumH (lv : Nat) (c : List Int) : Nat → Int
  | 0 => 0
  | k + 1 => bAdd (sumH lv c k) (manyL lv c k)
def upto {α : Type} (f : Nat → α) (k : Nat) : List α := (List.range k).map f
theorem upto_succ {α : Type} (f : Nat → α) (k : Nat) : upto f (k + 1) = upto f k ++ [f k] := by simp [upto, List.range_succ]
theorem upto_length {α : Type} (f : Nat → α) (k : Nat) : (upto f k).length = k := by simp [upto]
def sumAt (lv : Nat) (c : List Int) (t : Nat) : Int × Int := (t, sumH lv c t)
/-- What a round that goes on keeps: what lies below n₀, and the box of the iterator. -/
def KpH (n₀ Bs : Nat) (A B : World) : Prop := Below n₀ A B ∧ ∀ v, A.cell? ⟨Bs, 0, none⟩ = some v → B.cell? ⟨Bs, 0, none⟩ = some v
theorem KpH.refl (n₀ Bs : Nat) (A : World) : KpH n₀ Bs A A := ⟨Below.refl _ _, fun v h => h⟩
theorem KpH.trans {n₀ Bs : Nat} {A B C : World} (h : KpH n₀ Bs A B) (k : KpH n₀ Bs B C) : KpH n₀ Bs A C := ⟨h.1.trans k.1, fun v hv => k.2 v (h.2 v hv)⟩
theorem kpH_b {n₀ Bs : Nat} {w : World} (hn : n₀ ≤ w.heap.size) (W : World) (l : Nat) (o o' : Obj) (hl : w.heap.size ≤ l) (h : W.heap[l]? = some o) (hc : o.isCells = false) (hw : o.isWalk = false) : KpH n₀ Bs W (W.putObj l o') :=
  ⟨belowK_b hn W l o o' hl h hc hw, fun v hv => cell_kept hv (grownBy_putObj' W l o') (fun r e => by cases e; exact ⟨o, h, hc⟩)⟩

theorem sums_any (h : Option Addr) (w : World) : Calls Tryz.prog 111 #[.pointer h] w fun e w' => e = .returned (.func (.func 117) #[] #[.pointer (some ⟨w.heap.size, 0, none⟩)]) ∧ w' = w.alloc (.cells #[.pointer h] 59) := by
  go_enter Tryz.func111, Tryz.ntmps111
  go_wp2
  go_ret
  exact ⟨rfl, rfl⟩

set_option maxRecDepth 100000 in
set_option maxHeartbeats 2000000 in
theorem sums1_in (n : Nat) (hn : 1 ≤ n) (l Bs n₀ b lv : Nat) (c : List Int) (hb : b < n₀) (J Jx : List (Int × Int) → World → Prop)
    (hY : ∀ pre x W, J pre W → pre.length < lv + 1 → YieldAt Fence.wide (n - 1) Tryz.prog l #[.int .i64 x.1, .int .i64 x.2] W fun e W' =>
      (e = .returned (.bool true) ∧ J (pre ++ [x]) W' ∧ KpH n₀ Bs W W') ∨ (e = .returned (.bool false) ∧ Jx (pre ++ [x]) W'))
    (W : World) (hBs : W.cell? ⟨Bs, 0, none⟩ = some (.pointer (some ⟨b, 0, none⟩))) (hH : HistAt W b lv c) (h0 : J [] W) :
    CallsIn Fence.wide n Tryz.prog 117 #[.func (.yield l) #[] #[], .pointer (some ⟨Bs, 0, none⟩)] W fun e W' => (∃ v, e = .returned v) ∧
      ((∃ ys, ys = upto (sumAt lv c) (lv + 1) ∧ J ys W') ∨ (∃ pre, (∃ k, k ≤ lv + 1 ∧ pre = upto (sumAt lv c) k) ∧ Jx pre W')) := by
  have hlv := hH.n
  have HH := Lib.hid hH
  clear hH
  refine callsIn_of_wp Tryz.func117 rfl trivial ?_ rfl
  simp only [Tryz.ntmps117, List.size_toArray, List.length_cons, List.length_nil, Nat.reduceAdd, Nat.reduceSub, Array.replicate_succ, Array.replicate_zero, List.push_toArray, List.append_toArray, List.nil_append, List.cons_append]
  gi_wp2
  gi_loopw [3, 4] (fun s t wr => ∃ k : Nat, k ≤ lv + 1 ∧ t = .int .i64 k ∧ s = .int .i64 (sumH lv c k) ∧ J (upto (sumAt lv c) k) wr ∧ KpH n₀ Bs W wr) (fun _ t _ => lv + 1 - (intOf t).toNat)
  case atStart => exact ⟨0, Nat.zero_le _, rfl, rfl, h0, KpH.refl _ _ _⟩
  case round =>
    obtain ⟨k, hk, rfl, rfl, hJs, hK⟩ := hrel
    have hbx := hK.2 _ hBs
    have hHr := HH.out.below hK.1 hb
    have hlev := hHr.lev
    clear hHr
    by_cases hlt : k ≤ lv
    · obtain ⟨fn, tmps, assign, body, hy, hR⟩ := hY _ (sumAt lv c k) wr hJs (by rw [upto_length]; omega)
      dsimp only [sumAt] at hy
      have i1 : (k : Int) ≤ (lv : Int) := by omega
      have HK := Lib.hid hK
      clear hK
      gi_wp2
      refine hR.mono ?_
      rintro e W3 (⟨rfl, hJ3, hk3⟩ | ⟨rfl, hJx3⟩)
      · have hK3 := HK.out.trans hk3
        have hbx3 := hK3.2 _ hBs
        have HM := Lib.hid (many_any b lv c k W3 (HH.out.below hK3.1 hb))
        have HK3 := Lib.hid hK3
        have HJ3 := Lib.hid hJ3
        clear hK3 hk3 hJ3 hbx hlev hy
        gi_wp2_with (first
          | (refine ⟨trivial, ?_⟩; gi_at_call 118; refine (callsIn_wide.2 HM.out).mono ?_; rintro e w' ⟨rfl, rfl⟩)
          | (refine ⟨trivial, ?_⟩; gi_at_call 63; refine (callsIn_wide.2 (add_any _ _ _)).mono ?_; rintro e w' ⟨rfl, rfl⟩))
        go_roundw
        case rel => exact ⟨k + 1, by omega, by go_num, rfl, by rw [upto_succ]; exact HJ3.out, HK3.out⟩
        case measure => simp [intOf]; omega
      · gi_wp2
        refine bodyPost_ret (results_none rfl _ _ _) rfl ?_
        exact ⟨⟨_, rfl⟩, .inr ⟨_, ⟨k + 1, by omega, (upto_succ _ _).symm⟩, hJx3⟩⟩
    · obtain rfl : k = lv + 1 := by omega
      have i1 : (lv : Int) < ((lv + 1 : Nat) : Int) := by omega
      clear hK
      gi_wp2
      go_end0
      exact ⟨⟨_, rfl⟩, .inl ⟨_, rfl, hJs⟩⟩
theorem sums1_nil (n l Bs : Nat) (J : List (Int × Int) → World → Prop) (W : World) (hBs : W.cell? ⟨Bs, 0, none⟩ = some (.pointer none)) (h0 : J [] W) :
    CallsIn Fence.wide n Tryz.prog 117 #[.func (.yield l) #[] #[], .pointer (some ⟨Bs, 0, none⟩)] W fun e W' => (∃ v, e = .returned v) ∧ J [] W' := by
  refine callsIn_of_wp Tryz.func117 rfl trivial ?_ rfl
  simp only [Tryz.ntmps117, List.size_toArray, List.length_cons, List.length_nil, Nat.reduceAdd, Nat.reduceSub, Array.replicate_succ, Array.replicate_zero, List.push_toArray, List.append_toArray, List.nil_append, List.cons_append]
  gi_wp2
  first
    | go_end0
    | (refine bodyPost_ret (results_none rfl _ _ _) rfl ?_)
  exact ⟨⟨_, rfl⟩, h0⟩
/-- The sums, as a sequence. -/
theorem sums_stops (n : Nat) (hn : 1 ≤ n) (Bs n₀ b lv : Nat) (c : List Int) (hb : b < n₀) (w : World) (hBs0 : Bs < w.heap.size) (hn₀ : n₀ ≤ w.heap.size) (hBs : w.cell? ⟨Bs, 0, none⟩ = some (.pointer (some ⟨b, 0, none⟩))) (hH : HistAt w b lv c) :
    SeqStopsK Fence.wide n Tryz.prog 117 #[.pointer (some ⟨Bs, 0, none⟩)] (fun x : Int × Int => #[.int .i64 x.1, .int .i64 x.2]) (KpH n₀ Bs) (fun ys => ys = upto (sumAt lv c) (lv + 1)) (fun pre => ∃ k, k ≤ lv + 1 ∧ pre = upto (sumAt lv c) k) (lv + 1) w := fun l J Jx W hW _ _ hY h0 =>
  sums1_in n hn l Bs n₀ b lv c hb J Jx hY W ((hW.cell (p := ⟨Bs, 0, none⟩) hBs0).trans hBs) (hH.below hW (by omega)) h0
theorem sums_stops_nil (n : Nat) (Bs n₀ : Nat) (w : World) (hBs0 : Bs < w.heap.size) (hBs : w.cell? ⟨Bs, 0, none⟩ = some (.pointer none)) :
    SeqStopsK Fence.wide n Tryz.prog 117 #[.pointer (some ⟨Bs, 0, none⟩)] (fun x : Int × Int => #[.int .i64 x.1, .int .i64 x.2]) (KpH n₀ Bs) (fun ys => ys = []) (fun pre => False) 0 w := fun l J Jx W hW _ _ hY h0 =>
  (sums1_nil n l Bs J W ((hW.cell (p := ⟨Bs, 0, none⟩) hBs0).trans hBs) h0).mono fun e W' ⟨he, hj⟩ => ⟨he, .inl ⟨[], rfl, hj⟩⟩
end Go.Proofs.YtagfbnfbiadpfaaGreat
