/-
  split.Chain and lockkeeperref22.Chain: the deadlines of calls, each by the one ahead.
-/
import Derived.Test.YtcanjkcndodgeaaSplit
import Derived.Test.YtcanjkcndodgeaaSame
namespace Go.Proofs.Ytcanjkcndodgeaa
open Go.RowKit

/-- The deadlines, by the weights one behind the other. -/
def spChain (now : Int) : Int → List Int → List Int
  | _, [] => []
  | dl, x :: l => if spOk now dl x 65535 = true then spD now dl x 65535 :: spChain now (spD now dl x 65535) l else []

/-- Behind k rounds: the deadline, what has come out, and whether all k went through. -/
def Went (now dl : Int) (l : List Int) (k : Nat) (d : Int) (out : List Int) : Prop := k ≤ l.length ∧ out.length ≤ k ∧ spChain now dl l = out ++ spChain now d (l.drop k)
theorem went_zero (now dl : Int) (l : List Int) : Went now dl l 0 dl [] := ⟨Nat.zero_le _, by simp, by simp⟩
theorem drop_nth {α : Type} [Inhabited α] (l : List α) (k : Nat) (h : k < l.length) : l.drop k = nth l k :: l.drop (k + 1) := by
  rw [nth_lt l k h, List.drop_eq_getElem_cons h]
theorem went_step {now dl : Int} {l : List Int} {k : Nat} {d : Int} {out : List Int} (h : Went now dl l k d out) (hk : k < l.length) (ho : spOk now d (nth l k) 65535 = true) :
    Went now dl l (k + 1) (spD now d (nth l k) 65535) (out ++ [spD now d (nth l k) 65535]) := by
  refine ⟨by omega, by simp; exact h.2.1, ?_⟩
  rw [h.2.2, drop_nth l k hk, spChain, if_pos ho]
  simp
theorem went_stop {now dl : Int} {l : List Int} {k : Nat} {d : Int} {out : List Int} (h : Went now dl l k d out) (hk : k < l.length) (ho : spOk now d (nth l k) 65535 = false) : spChain now dl l = out := by
  rw [h.2.2, drop_nth l k hk, spChain, if_neg (by simp [ho])]
  simp
theorem went_end {now dl : Int} {l : List Int} {k : Nat} {d : Int} {out : List Int} (h : Went now dl l k d out) (hk : ¬ k < l.length) : spChain now dl l = out := by
  rw [h.2.2, List.drop_of_length_le (by omega), spChain]
  simp

theorem info_int : (Try.prog.info? 3).map (fun i => (i.zero, i.size, i.bytes)) = some (some (.int .i64 0), 1, 8) := by kernel_rfl

/-- A call that makes a list of ints in new memory. -/
def GivesInts (w : World) (l : List Int) (e : Ending) (w' : World) : Prop := ∃ v, e = .returned v ∧ Ints w' v l ∧ Below w.heap.size w w'

theorem chain_some (now dl : Int) (a : Option Addr) (c : Nat) (l : List Int) (w : World) (hm : l.length ≤ 100) (ha : IntsAt w a l) :
    Calls Try.prog 45 #[.int .i64 now, .int .i64 dl, .slice a l.length c] w (GivesInts w (spChain now dl l)) := by
  obtain ⟨i0, hi, hz0, hz1, hz2⟩ := info_parts info_int
  have HA := Lib.hid ha
  clear ha
  go_enter Try.func45, Try.ntmps45
  go_wp2
  go_step3
  go_wp2
  go_step3
  go_wp2
  go_loopw [1, 7, 15] (fun d v i wr => ∃ (k : Nat) (dk : Int) (out : List Int), i = .int .i64 k ∧ d = .int .i64 dk ∧ Went now dl l k dk out ∧ wr.ownsRow w.heap.size 3 1 v out.length (out.map (Value.int .i64)) ∧ Below w.heap.size w wr) (fun _ _ i _ => l.length - (intOf i).toNat)
  case atStart => exact ⟨0, dl, [], rfl, rfl, went_zero _ _ _, World.ownsRow_nil _ _ _ _, Below.refl _ _⟩
  case round =>
    obtain ⟨k, dk, out, rfl, rfl, hW, hown, hb⟩ := hrel
    have hk := hW.1
    have ho := hW.2.1
    have hsz := hb.size
    by_cases hlt : k < l.length
    · obtain ⟨b, off, rfl, hc⟩ : ∃ b off, a = some ⟨b, off, none⟩ ∧ wr.cell? ⟨b, off + k, none⟩ = some (.int .i64 (nth l k)) := by
        rcases HA.out.same hb with rfl | ⟨b, off, rfl, hc⟩
        · simp at hlt
        · exact ⟨b, off, rfl, hc k hlt⟩
      have HW := Lib.hid hW
      have HO := Lib.hid hown
      have HB := Lib.hid hb
      clear hW hown hb
      cases hok : spOk now dk (nth l k) 65535 with
      | true =>
        have HK := Lib.hid (went_step HW.out hlt hok)
        go_wp2_with (first
          | (go_at_call 37; (with_reducible refine (scall_any _ _ _ _ _).mono ?_); rintro e w' ⟨rfl, rfl⟩)
          | (at_builtin; refine wpList_append_one (by rfl) _ _ 27 (by rfl) w.heap.size 3 i0 (.int .i64 0) 1 8 Try.underlying27 hi hz0 hz1 hz2 rfl (by decide) _ _ _ _ (by rfl) HO.out (by rfl) (by rfl) (by rfl) (by omega) (by omega) hsz ?_; intro v' w1 hown1 hb1))
        go_roundw
        case rel => exact ⟨k + 1, _, _, by go_num, rfl, HK.out, by simpa using hown1, HB.out.trans hb1⟩
        case measure => simp [intOf]; omega
      | false =>
        have HK := Lib.hid (went_stop HW.out hlt hok)
        go_wp2_with (go_at_call 37; (with_reducible refine (scall_any _ _ _ _ _).mono ?_); rintro e w' ⟨rfl, rfl⟩)
        go_ret
        exact ⟨_, rfl, by rw [HK.out]; exact ints_of_own HO.out, HB.out⟩
    · have HK := Lib.hid (went_end hW hlt)
      have HO := Lib.hid hown
      have HB := Lib.hid hb
      clear hW hown hb
      go_wp2
      go_ret
      exact ⟨_, rfl, by rw [HK.out]; exact ints_of_own HO.out, HB.out⟩
theorem rchain_some (now dl : Int) (a : Option Addr) (c : Nat) (l : List Int) (w : World) (hm : l.length ≤ 100) (ha : IntsAt w a l) :
    Calls Try.prog 47 #[.int .i64 now, .int .i64 dl, .slice a l.length c] w (GivesInts w (spChain now dl l)) := by
  obtain ⟨i0, hi, hz0, hz1, hz2⟩ := info_parts info_int
  have HA := Lib.hid ha
  clear ha
  go_enter Try.func47, Try.ntmps47
  go_wp2
  go_loopw [1, 7, 8] (fun d v i wr => ∃ (k : Nat) (dk : Int) (out : List Int), i = .int .i64 k ∧ d = .int .i64 dk ∧ Went now dl l k dk out ∧ wr.ownsRow w.heap.size 3 1 v out.length (out.map (Value.int .i64)) ∧ Below w.heap.size w wr) (fun _ _ i _ => l.length - (intOf i).toNat)
  case atStart => exact ⟨0, dl, [], rfl, rfl, went_zero _ _ _, World.ownsRow_nil _ _ _ _, Below.refl _ _⟩
  case round =>
    obtain ⟨k, dk, out, rfl, rfl, hW, hown, hb⟩ := hrel
    have hk := hW.1
    have ho := hW.2.1
    have hsz := hb.size
    by_cases hlt : k < l.length
    · obtain ⟨b, off, rfl, hc⟩ : ∃ b off, a = some ⟨b, off, none⟩ ∧ wr.cell? ⟨b, off + k, none⟩ = some (.int .i64 (nth l k)) := by
        rcases HA.out.same hb with rfl | ⟨b, off, rfl, hc⟩
        · simp at hlt
        · exact ⟨b, off, rfl, hc k hlt⟩
      have HW := Lib.hid hW
      have HO := Lib.hid hown
      have HB := Lib.hid hb
      clear hW hown hb
      cases hok : spOk now dk (nth l k) 65535 with
      | true =>
        have HK := Lib.hid (went_step HW.out hlt hok)
        go_wp2_with (first
          | (go_at_call 38; (with_reducible refine (rscall_any _ _ _ _ _).mono ?_); rintro e w' ⟨rfl, rfl⟩)
          | (at_builtin; refine wpList_append_one (by rfl) _ _ 27 (by rfl) w.heap.size 3 i0 (.int .i64 0) 1 8 Try.underlying27 hi hz0 hz1 hz2 rfl (by decide) _ _ _ _ (by rfl) HO.out (by rfl) (by rfl) (by rfl) (by omega) (by omega) hsz ?_; intro v' w1 hown1 hb1))
        go_roundw
        case rel => exact ⟨k + 1, _, _, by go_num, rfl, HK.out, by simpa using hown1, HB.out.trans hb1⟩
        case measure => simp [intOf]; omega
      | false =>
        have HK := Lib.hid (went_stop HW.out hlt hok)
        go_wp2_with (go_at_call 38; (with_reducible refine (rscall_any _ _ _ _ _).mono ?_); rintro e w' ⟨rfl, rfl⟩)
        go_ret
        exact ⟨_, rfl, by rw [HK.out]; exact ints_of_own HO.out, HB.out⟩
    · have HK := Lib.hid (went_end hW hlt)
      have HO := Lib.hid hown
      have HB := Lib.hid hb
      clear hW hown hb
      go_wp2
      go_ret
      exact ⟨_, rfl, by rw [HK.out]; exact ints_of_own HO.out, HB.out⟩

theorem chain_any {n : Nat} (now dl : Int) (a : Option Addr) (c : Nat) (l : List Int) (w : World) (hn : l.length = n) (hm : n ≤ 100) (ha : IntsAt w a l) :
    Calls Try.prog 45 #[.int .i64 now, .int .i64 dl, .slice a n c] w (GivesInts w (spChain now dl l)) := by
  subst hn
  exact chain_some now dl a c l w hm ha
theorem rchain_any {n : Nat} (now dl : Int) (a : Option Addr) (c : Nat) (l : List Int) (w : World) (hn : l.length = n) (hm : n ≤ 100) (ha : IntsAt w a l) :
    Calls Try.prog 47 #[.int .i64 now, .int .i64 dl, .slice a n c] w (GivesInts w (spChain now dl l)) := by
  subst hn
  exact rchain_some now dl a c l w hm ha
theorem same_call {n m : Nat} (a1 a2 : Option Addr) (c1 c2 : Nat) (l1 l2 : List Int) (w : World) (e1 : l1.length = n) (e2 : l2.length = m) (m1 : n ≤ 9223372036854775807) (m2 : m ≤ 9223372036854775807) (h1 : IntsAt w a1 l1) (h2 : IntsAt w a2 l2) :
    Calls Try.prog 46 #[.slice a1 n c1, .slice a2 m c2] w fun e w' => e = .returned (.bool (decide (l1 = l2))) ∧ Drawn w w' := by
  subst e1 e2
  exact same_any a1 a2 c1 c2 l1 l2 w m1 m2 h1 h2

theorem cell_new (w : World) (cs : Array Value) (e : TypeId) (j : Nat) : (w.alloc (.cells cs e)).cell? ⟨w.heap.size, j, none⟩ = cs[j]? := by
  have hg : (w.alloc (.cells cs e)).heap[w.heap.size]? = some (.cells cs e (0, 0)) := heap_alloc_new w _
  simp only [World.cell?, hg]
  rfl
theorem intsAt_new (w : World) (e : TypeId) (l : List Int) : IntsAt (w.alloc (.cells (l.map (Value.int .i64)).toArray e)) (some ⟨w.heap.size, 0, none⟩) l := by
  refine .inr ⟨_, 0, rfl, fun i hi => ?_⟩
  rw [Nat.zero_add, cell_new]
  simp [nth_lt l i hi]

set_option maxHeartbeats 400000 in
theorem awake22 (w : World) : Calls Try.prog 43 #[] w fun e w' => e = .returned (.bool true) ∧ Below w.heap.size w w' := by
  have e1 : spD 10 30 4 100 = 20 := by decide
  have e2 : spW 10 30 4 100 = 5 := by decide
  have e3 : spOk 10 30 4 100 = true := by decide
  have e4 : spOk 10 12 4 100 = false := by decide
  have e5 := Lib.hid (show spChain 10 30 [4, 4] = [20, 15] by decide)
  go_enter Try.func43, Try.ntmps43
  go_wp2_with (go_at_call 37; (with_reducible refine (scall_any _ _ _ _ _).mono ?_); rintro e w' ⟨rfl, rfl⟩)
  refine (chain_any 10 30 _ _ [4, 4] _ rfl (by decide) (intsAt_new w _ [4, 4])).mono ?_
  rintro e w1 ⟨v, rfl, hI, hb⟩
  obtain ⟨a, c, rfl, h1, h2, h3⟩ := hI
  have hsz := hb.size
  rw [e5.out] at h3 ⊢
  simp at hsz
  go_wp2_with fail
  refine (same_call _ _ _ _ [20, 15] [20, 15] _ rfl rfl (by decide) (by decide) (h3.same ((Below.refl _ _).alloc (Nat.le_refl _) _)) (intsAt_new w1 _ [20, 15])).mono ?_
  rintro e w2 ⟨rfl, hd⟩
  go_wp2_with fail
  go_ret
  refine ⟨by simp, ?_⟩
  have hb0 : Below w.heap.size w w1 := ((Below.refl _ _).alloc (Nat.le_refl _) _).trans (hb.mono (by simp))
  exact (hb0.alloc (by omega) _).trans (hd.below)
end Go.Proofs.Ytcanjkcndodgeaa
