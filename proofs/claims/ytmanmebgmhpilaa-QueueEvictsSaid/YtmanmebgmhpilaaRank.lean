/-
  Layer 11 (rank): which one goes first, and which one must go. Before, Worse, best, Victim, Ends.
-/
import Derived.Test.YtmanmebgmhpilaaFrame
import Derived.Test.YtmanmebgmhpilaaBound
import Derived.Handy
namespace Go.Proofs.Ytmanmebgmhpilaa
open Go.RowKit
set_option linter.unusedVariables false

/-- An item. -/
structure It where
  id : Int
  lev : Int
  frm : Int
  dl : Int
  bud : Int
  since : Int
  seq : Int
instance : Inhabited It := ⟨⟨0, 0, 0, 0, 0, 0, 0⟩⟩
def itCells (x : It) : List Value := [.int .i64 x.id, .int .i64 x.lev, .int .i64 x.frm, .int .i64 x.dl, .int .i64 x.bud, .int .i64 x.since, .int .i64 x.seq]
theorem itCells_len (x : It) : (itCells x).length = 7 := rfl
abbrev itV (x : It) : Value := .agg #[.int .i64 x.id, .int .i64 x.lev, .int .i64 x.frm, .int .i64 x.dl, .int .i64 x.bud, .int .i64 x.since, .int .i64 x.seq]

def cmpI (x y : Int) : Int := if x < y then -1 else if y < x then 1 else 0
theorem cmp_any (x y : Int) (w : World) : Calls Try.prog 64 #[.int .i64 x, .int .i64 y] w fun e w' => e = .returned (.int .i64 (cmpI x y)) ∧ w = w' := by
  have hn : ∀ (x : Int) (w : World), Calls Try.prog 68 #[.int .i64 x] w fun e w' => e = .returned (.bool false) ∧ w = w' := by
    intro x w
    go_enter Try.func68, Try.ntmps68
    go_wp2
    go_ret
    exact ⟨rfl, rfl⟩
  unfold cmpI
  by_cases h : x < y
  · rw [if_pos h]
    go_enter Try.func64, Try.ntmps64
    go_wp2_with ((go_at_call 68; (with_reducible refine (hn _ _).mono ?_); rintro e w' ⟨rfl, rfl⟩))
    go_ret
    exact ⟨rfl, rfl⟩
  · rw [if_neg h]
    by_cases h2 : y < x
    · rw [if_pos h2]
      go_enter Try.func64, Try.ntmps64
      go_wp2_with ((go_at_call 68; (with_reducible refine (hn _ _).mono ?_); rintro e w' ⟨rfl, rfl⟩))
      go_ret
      exact ⟨rfl, rfl⟩
    · rw [if_neg h2]
      go_enter Try.func64, Try.ntmps64
      go_wp2_with ((go_at_call 68; (with_reducible refine (hn _ _).mono ?_); rintro e w' ⟨rfl, rfl⟩))
      go_ret
      exact ⟨rfl, rfl⟩

/-- The first that is not 0. -/
def firstNz : List Int → Int
  | [] => 0
  | x :: l => if x = 0 then firstNz l else x
theorem firstNz_drop (l : List Int) (k : Nat) (h : k < l.length) : firstNz (l.drop k) = if nth l k = 0 then firstNz (l.drop (k + 1)) else nth l k := by
  have : l.drop k = nth l k :: l.drop (k + 1) := by
    unfold nth
    rw [List.drop_eq_getElem_cons h]
    simp [List.getD_eq_getElem?_getD, h]
  rw [this]
  rfl
theorem first_any (b off cap : Nat) (l : List Int) (w : World) (hm : l.length ≤ 9223372036854775807) (hc : ∀ i, i < l.length → w.cell? ⟨b, off + i, none⟩ = some (.int .i64 (nth l i))) :
    Calls Try.prog 63 #[.slice (some ⟨b, off, none⟩) l.length cap] w fun e w' => e = .returned (.int .i64 (firstNz l)) ∧ w = w' := by
  have HC := Lib.hid hc
  clear hc
  obtain ⟨r, hr⟩ : ∃ r, r = firstNz l := ⟨_, rfl⟩
  rw [← hr]
  have HR := Lib.hid hr
  clear hr
  go_enter Try.func63, Try.ntmps63
  go_wp2
  go_loop [7] (fun i => ∃ k : Nat, k ≤ l.length ∧ i = .int .i64 k ∧ firstNz (l.drop k) = r) (fun i => l.length - (intOf i).toNat)
  case atStart => exact ⟨0, Nat.zero_le _, rfl, HR.out.symm⟩
  case round =>
    obtain ⟨k, hk, rfl, hf⟩ := hrel
    by_cases hlt : k < l.length
    · have hcell := HC.out k hlt
      rw [firstNz_drop l k hlt] at hf
      by_cases hz : nth l k = 0
      · rw [if_pos hz] at hf
        rw [hz] at hcell
        have HF := Lib.hid hf
        clear hf hz
        go_wp2
        go_round
        case rel => exact ⟨k + 1, by omega, by go_num, HF.out⟩
        case measure => simp [intOf]; omega
      · rw [if_neg hz] at hf
        rw [hf] at hcell hz
        clear hf
        go_wp2
        go_ret
        exact ⟨rfl, rfl⟩
    · have : l.drop k = [] := List.drop_eq_nil_of_le (by omega)
      rw [this] at hf
      have HF := Lib.hid hf
      clear hf this
      go_wp2
      go_ret
      exact ⟨ret_int HF.out, rfl⟩

theorem newInts (W : World) (n : Nat) (hn : W.heap.size = n) (l : List Int) (t : TypeId) : ∀ i, i < l.length → ((W.alloc (.cells (l.map (Value.int .i64)).toArray t)).drew).cell? ⟨n, 0 + i, none⟩ = some (.int .i64 (nth l i)) := by
  intro i hi
  subst hn
  have h := cell_new W (l.map (Value.int .i64)).toArray t i
  rw [Nat.zero_add]
  refine Eq.trans h ?_
  simp [nth, List.getD_eq_getElem?_getD, hi]
theorem newIntsN (W : World) (n : Nat) (hn : W.heap.size = n) (l : List Int) (t : TypeId) : ∀ i, i < l.length → (W.alloc (.cells (l.map (Value.int .i64)).toArray t)).cell? ⟨n, 0 + i, none⟩ = some (.int .i64 (nth l i)) := newInts W n hn l t
def gI (a b : It) : Int := firstNz [cmpI a.dl b.dl, cmpI a.seq b.seq, cmpI a.id b.id]
set_option maxRecDepth 100000 in
theorem going_any (a b : It) (w : World) : Calls Try.prog 55 #[itV a, itV b] w fun e w' => e = .returned (.int .i64 (gI a b)) ∧ Below w.heap.size w w' := by
  go_enter Try.func55, Try.ntmps55
  go_wp2_with fail
  (refine region_tail 15 (by kernel_rfl) (by kernel_rfl) ?_; simp only [List.take_succ_cons, List.take_zero, List.drop_succ_cons, List.drop_zero]; (repeat (refine wpStill_step (fun K hK => ?_); go_simp; (first | (refine hK _ ?_) | (with_reducible refine ⟨_, still_left (cmp_any _ _ _), hK _ ?_⟩)); clear hK K)); refine wpStill_nil ?_)
  go_wp2_with fail
  refine (first_any _ 0 3 [cmpI a.dl b.dl, cmpI a.seq b.seq, cmpI a.id b.id] _ (by simp) (newInts _ _ (by simp) [cmpI a.dl b.dl, cmpI a.seq b.seq, cmpI a.id b.id] 3)).mono ?_
  rintro e w2 ⟨rfl, rfl⟩
  go_wp2_with fail
  go_ret
  exact ⟨rfl, ((((Below.refl _ _).alloc (Nat.le_refl _) _).alloc (by simp) _).alloc (by simp; omega) _).drew⟩

def befo (a b : It) : Bool := decide (gI a b < 0)
theorem before_any (a b : It) (w : World) : Calls Try.prog 49 #[itV a, itV b] w fun e w' => e = .returned (.bool (befo a b)) ∧ Below w.heap.size w w' := by
  go_enter Try.func49, Try.ntmps49
  go_wp2_with (go_at_call 55; (with_reducible refine (going_any _ _ _).mono ?_); rintro e w1 ⟨rfl, hb⟩)
  all_goals
    go_ret
    exact ⟨ret_bool (by unfold befo; first | (simp; done) | (simp; omega)), (((Below.refl _ _).alloc (Nat.le_refl _) _).alloc (by simp) _).trans (hb.mono (by simp; omega))⟩
def wI (a b : It) : Int := firstNz [cmpI a.lev b.lev, gI a b]
def wrs (a b : It) : Bool := decide (0 < wI a b)
set_option maxRecDepth 100000 in
theorem worse_any (a b : It) (w : World) : Calls Try.prog 50 #[itV a, itV b] w fun e w' => e = .returned (.bool (wrs a b)) ∧ Below w.heap.size w w' := by
  go_enter Try.func50, Try.ntmps50
  go_wp2_with fail
  (refine region_tail 7 (by kernel_rfl) (by kernel_rfl) ?_; simp only [List.take_succ_cons, List.take_zero, List.drop_succ_cons, List.drop_zero]; (repeat (refine wpStill_step (fun K hK => ?_); go_simp; (first | (refine hK _ ?_) | (with_reducible refine ⟨_, still_left (cmp_any _ _ _), hK _ ?_⟩)); clear hK K)); refine wpStill_nil ?_)
  go_wp2_with fail
  refine (going_any _ _ _).mono ?_
  rintro e w1 ⟨rfl, hb⟩
  have HB := Lib.hid hb
  clear hb
  go_wp2_with fail
  refine (first_any _ 0 2 [cmpI a.lev b.lev, gI a b] _ (by simp) (newIntsN w1 _ rfl [cmpI a.lev b.lev, gI a b] 3)).mono ?_
  rintro e w2 ⟨rfl, rfl⟩
  go_wp2_with fail
  all_goals
    go_ret
    exact ⟨ret_bool (by unfold wrs wI; first | (simp; done) | (simp; omega)), ((((Below.refl _ _).alloc (Nat.le_refl _) _).alloc (by simp) _).drew.trans (HB.out.mono (by simp; omega))).alloc (by have := HB.out.size; simp at this; omega) _⟩

theorem cmpI_cases (x y : Int) : (cmpI x y = -1 ∧ x < y) ∨ (cmpI x y = 0 ∧ x = y) ∨ (cmpI x y = 1 ∧ y < x) := by
  unfold cmpI
  by_cases h : x < y
  · rw [if_pos h]; exact .inl ⟨rfl, h⟩
  · rw [if_neg h]
    by_cases h2 : y < x
    · rw [if_pos h2]; exact .inr (.inr ⟨rfl, h2⟩)
    · rw [if_neg h2]; exact .inr (.inl ⟨rfl, by omega⟩)
/-- a is ahead of b. -/
def Ahead (a b : It) : Prop := a.dl < b.dl ∨ (a.dl = b.dl ∧ (a.seq < b.seq ∨ (a.seq = b.seq ∧ a.id < b.id)))
/-- They are alike. -/
def Alike (a b : It) : Prop := a.dl = b.dl ∧ a.seq = b.seq ∧ a.id = b.id
theorem gI_cases (a b : It) : (gI a b = -1 ∧ Ahead a b) ∨ (gI a b = 0 ∧ Alike a b) ∨ (gI a b = 1 ∧ Ahead b a) := by
  unfold gI Ahead Alike
  rcases cmpI_cases a.dl b.dl with ⟨e1, h1⟩ | ⟨e1, h1⟩ | ⟨e1, h1⟩ <;> rcases cmpI_cases a.seq b.seq with ⟨e2, h2⟩ | ⟨e2, h2⟩ | ⟨e2, h2⟩ <;> rcases cmpI_cases a.id b.id with ⟨e3, h3⟩ | ⟨e3, h3⟩ | ⟨e3, h3⟩ <;>
    rw [e1, e2, e3] <;> simp only [firstNz] <;> simp <;> omega
theorem befo_iff (a b : It) : befo a b = true ↔ Ahead a b := by
  unfold befo
  have := gI_cases a b
  unfold Ahead Alike at *
  simp
  omega
/-- a must go rather than b. -/
def Wors (a b : It) : Prop := b.lev < a.lev ∨ (a.lev = b.lev ∧ Ahead b a)
theorem wrs_iff (a b : It) : wrs a b = true ↔ Wors a b := by
  unfold wrs wI
  have h2 := gI_cases a b
  unfold Wors Ahead Alike at *
  rcases cmpI_cases a.lev b.lev with ⟨e1, h1⟩ | ⟨e1, h1⟩ | ⟨e1, h1⟩ <;> rw [e1] <;> simp only [firstNz] <;> simp <;> (try (split <;> omega)) <;> omega

theorem box2 (w : World) (o p : Obj) : Below w.heap.size w ((w.alloc o).alloc p) := ((Below.refl _ _).alloc (Nat.le_refl _) _).alloc (by simp) _
set_option maxRecDepth 100000 in
theorem rbefore_any (a b : It) (w : World) : Calls Try.prog 14 #[itV a, itV b] w fun e w' => e = .returned (.bool (befo a b)) ∧ Below w.heap.size w w' := by
  have hi := befo_iff a b
  unfold Ahead at hi
  have HI := Lib.hid hi
  clear hi
  go_enter Try.func14, Try.ntmps14
  go_wp2
  all_goals
    go_ret
    refine ⟨ret_bool ?_, box2 _ _ _⟩
    rw [Bool.eq_iff_iff, HI.out]
    first | (simp; done) | (simp; omega) | (simp only [bne_iff_ne, ne_eq, bne_eq_false_iff_eq, decide_eq_true_eq] at *; omega)
set_option maxRecDepth 100000 in
theorem rworse_any (a b : It) (w : World) : Calls Try.prog 35 #[itV a, itV b] w fun e w' => e = .returned (.bool (wrs a b)) ∧ Below w.heap.size w w' := by
  have hi := wrs_iff a b
  unfold Wors Ahead at hi
  have HI := Lib.hid hi
  clear hi
  go_enter Try.func35, Try.ntmps35
  go_wp2
  all_goals
    go_ret
    refine ⟨ret_bool ?_, box2 _ _ _⟩
    rw [Bool.eq_iff_iff, HI.out]
    first | (simp; done) | (simp; omega) | (simp only [bne_iff_ne, ne_eq, bne_eq_false_iff_eq, decide_eq_true_eq] at *; omega)

theorem ends_late (x : It) (now : Int) (w : World) (h : x.dl ≤ now) : Calls Try.prog 51 #[itV x, .int .i64 now] w fun e w' => e = .returned (.int .i64 3) ∧ Below w.heap.size w w' := by
  go_enter Try.func51, Try.ntmps51
  go_wp2
  go_ret
  exact ⟨rfl, (Below.refl _ _).alloc (Nat.le_refl _) _⟩
theorem ends_wait (x : It) (now : Int) (w : World) (h : now < x.dl) : Calls Try.prog 51 #[itV x, .int .i64 now] w fun e w' => e = .returned (.int .i64 (if x.bud < bLeft now x.since then 4 else 0)) ∧ Below w.heap.size w w' := by
  go_enter Try.func51, Try.ntmps51
  go_wp2_with fail
  go_quiet ((first | (go_at_call 65; first | (with_reducible exact quiet_left (left_any _ _ _)) | (with_reducible exact quiet_add_left (left_any _ _ _)))))
  go_wp2_with fail
  all_goals
    go_ret
    exact ⟨ret_int (by first | rfl | (simp; done) | (simp; omega)), below_drewN ((Below.refl _ _).alloc (Nat.le_refl _) _) _⟩

theorem victf_any (a b : It) (w : World) : Calls Try.prog 53 #[itV a, itV b] w fun e w' => e = .returned (.bool (wrs a b)) ∧ Below w.heap.size w w' := by
  go_enter Try.func53, Try.ntmps53
  go_wp2_with (go_at_call 50; (with_reducible refine (worse_any _ _ _).mono ?_); rintro e w1 ⟨rfl, hb⟩)
  go_ret
  exact ⟨rfl, (box2 _ _ _).trans (hb.mono (by simp; omega))⟩

/-- The place of the first one that no other one is preferred to, as the program looks for it. -/
def vict (l : List It) (k : Nat) : Nat := (List.range k).foldl (fun b i => if wrs (nth l i) (nth l b) = true then i else b) 0
theorem vict_succ (l : List It) (k : Nat) : vict l (k + 1) = if wrs (nth l k) (nth l (vict l k)) = true then k else vict l k := by
  unfold vict
  rw [List.range_succ, List.foldl_append]
  rfl
theorem vict_lt (l : List It) (k : Nat) : vict l k = 0 ∨ vict l k < k := by
  induction k with
  | zero => exact .inl rfl
  | succ k ih =>
    rw [vict_succ]
    split
    · exact .inr (by omega)
    · omega
theorem item_cells {w : World} {b off : Nat} {l : List It} (h : ∀ i, i < l.length → ∀ j, j < 7 → w.cell? ⟨b, off + i * 7 + j, none⟩ = (itCells (nth l i))[j]?) (i : Nat) (hi : i < l.length) :
    w.cell? ⟨b, off + i * 7, none⟩ = some (.int .i64 (nth l i).id) ∧ w.cell? ⟨b, off + i * 7 + 1, none⟩ = some (.int .i64 (nth l i).lev) ∧ w.cell? ⟨b, off + i * 7 + 2, none⟩ = some (.int .i64 (nth l i).frm) ∧ w.cell? ⟨b, off + i * 7 + 3, none⟩ = some (.int .i64 (nth l i).dl) ∧
    w.cell? ⟨b, off + i * 7 + 4, none⟩ = some (.int .i64 (nth l i).bud) ∧ w.cell? ⟨b, off + i * 7 + 5, none⟩ = some (.int .i64 (nth l i).since) ∧ w.cell? ⟨b, off + i * 7 + 6, none⟩ = some (.int .i64 (nth l i).seq) :=
  ⟨h i hi 0 (by omega), h i hi 1 (by omega), h i hi 2 (by omega), h i hi 3 (by omega), h i hi 4 (by omega), h i hi 5 (by omega), h i hi 6 (by omega)⟩

set_option maxRecDepth 100000 in
set_option maxHeartbeats 2000000 in
theorem best_any (a : Option Addr) (c : Nat) (l : List It) (w : World) (hm : l.length ≤ 9223372036854775807) (hA : RowOf itCells 7 w a l) :
    Calls Try.prog 52 #[.slice a l.length c, .func (.func 53) #[] #[]] w fun e w' => e = .returned (.tuple #[.int .i64 (vict l l.length), .bool (decide (0 < l.length))]) ∧ Below w.heap.size w w' := by
  have HA := Lib.hid hA
  clear hA
  go_enter Try.func52, Try.ntmps52
  go_wp2_with fail
  go_loopw [6, 11] (fun be i wr => ∃ k : Nat, k ≤ l.length ∧ i = .int .i64 k ∧ be = .int .i64 (vict l k) ∧ Below w.heap.size w wr) (fun _ i _ => l.length - (intOf i).toNat)
  case atStart => exact ⟨0, Nat.zero_le _, rfl, rfl, Below.refl _ _⟩
  case round =>
    obtain ⟨k, hk, rfl, rfl, hb⟩ := hrel
    have HB := Lib.hid hb
    clear hb
    by_cases hlt : k < l.length
    · obtain ⟨b, off, rfl, hc⟩ : ∃ b off, a = some ⟨b, off, none⟩ ∧ ∀ i, i < l.length → ∀ j, j < 7 → wr.cell? ⟨b, off + i * 7 + j, none⟩ = (itCells (nth l i))[j]? := by
        rcases HA.out.same itCells_len HB.out with rfl | ⟨b, off, rfl, hc⟩
        · simp at hlt
        · exact ⟨b, off, rfl, hc⟩
      have hv : vict l k < l.length := by
        have := vict_lt l k
        omega
      obtain ⟨x0, x1, x2, x3, x4, x5, x6⟩ := item_cells hc k hlt
      obtain ⟨y0, y1, y2, y3, y4, y5, y6⟩ := item_cells hc (vict l k) hv
      have HV := Lib.hid (vict_succ l k)
      clear hc
      obtain ⟨x, hx⟩ : ∃ x, x = nth l k := ⟨_, rfl⟩
      obtain ⟨v, hv2⟩ : ∃ v, v = vict l k := ⟨_, rfl⟩
      rw [← hv2] at y0 y1 y2 y3 y4 y5 y6 hv
      rw [← hv2] at HV ⊢
      rw [← hx] at x0 x1 x2 x3 x4 x5 x6
      rw [← hx] at HV
      obtain ⟨y, hy⟩ : ∃ y, y = nth l v := ⟨_, rfl⟩
      rw [← hy] at y0 y1 y2 y3 y4 y5 y6
      rw [← hy] at HV
      clear hx hv2 hy
      have i1 : (0 : Int) ≤ (v : Int) := by omega
      have i2 : (v : Int) < (l.length : Int) := by omega
      go_wp2_with fail
      obtain ⟨W1, hW1⟩ : ∃ W1, W1 = wr.alloc (.cells #[.int .i64 x.id, .int .i64 x.lev, .int .i64 x.frm, .int .i64 x.dl, .int .i64 x.bud, .int .i64 x.since, .int .i64 x.seq] 31) := ⟨_, rfl⟩
      have hbW : Below wr.heap.size wr W1 := by rw [hW1]; exact (Below.refl _ _).alloc (Nat.le_refl _) _
      have hbw : Below w.heap.size w W1 := HB.out.trans (hbW.mono HB.out.size)
      have q := fun j => cell_new wr #[.int .i64 x.id, .int .i64 x.lev, .int .i64 x.frm, .int .i64 x.dl, .int .i64 x.bud, .int .i64 x.since, .int .i64 x.seq] 31 j
      rw [← hW1] at q ⊢
      have q0 := q 0
      have q1 := q 1
      have q2 := q 2
      have q3 := q 3
      have q4 := q 4
      have q5 := q 5
      have q6 := q 6
      simp only [List.getElem?_toArray, List.getElem?_cons_zero, List.getElem?_cons_succ] at q0 q1 q2 q3 q4 q5 q6
      have z0 := cell_keep hbW y0
      have z1 := cell_keep hbW y1
      have z2 := cell_keep hbW y2
      have z3 := cell_keep hbW y3
      have z4 := cell_keep hbW y4
      have z5 := cell_keep hbW y5
      have z6 := cell_keep hbW y6
      have HBW := Lib.hid hbw
      clear hW1 q hbW hbw x0 x1 x2 x3 x4 x5 x6 y0 y1 y2 y3 y4 y5 y6 HB
      have s1 := cell_lt q0
      have s2 := cell_lt z0
      simp only at s1 s2
      ((first | (with_reducible refine region_ext2 (by kernel_rfl) (by kernel_rfl) ?_) | (refine region_ext (by kernel_rfl) (by kernel_rfl) ?_)); (repeat ((with_reducible refine wpQuiet_step (fun K hK => ?_)); go_simp; (first | ((refine hK _ ?_); clear hK K) | ((apply Exists.intro); (refine ⟨fun _ => ?_, hK _ ?_⟩); (first | (go_at_call 53; with_reducible exact ext_below (victf_any _ _ _))); clear hK K)))); refine wpQuiet_nil ?_; rintro _ ⟨uq, rfl⟩)
      cases hw : wrs x y with
      | true =>
        have hs : vict l (k + 1) = k := by rw [HV.out, hw]; rfl
        have HS := Lib.hid hs
        clear hs hw
        go_wp2
        go_roundw
        case rel => exact ⟨k + 1, by omega, by go_num, by rw [HS.out], below_ext _ HBW.out HBW.out.size⟩
        case measure => simp [intOf]; omega
      | false =>
        have hs : vict l (k + 1) = v := by rw [HV.out, hw]; rfl
        have HS := Lib.hid hs
        clear hs hw
        go_wp2
        go_roundw
        case rel => exact ⟨k + 1, by omega, by go_num, by rw [HS.out], below_ext _ HBW.out HBW.out.size⟩
        case measure => simp [intOf]; omega
    · obtain rfl : k = l.length := by omega
      go_wp2
      go_returns
      exact ⟨rfl, HB.out⟩

theorem victim_any (a : Option Addr) (c : Nat) (l : List It) (w : World) (hm : l.length ≤ 9223372036854775807) (hA : RowOf itCells 7 w a l) :
    Calls Try.prog 18 #[.slice a l.length c] w fun e w' => e = .returned (.tuple #[.int .i64 (vict l l.length), .bool (decide (0 < l.length))]) ∧ Below w.heap.size w w' := by
  have HA := Lib.hid hA
  clear hA
  go_enter Try.func18, Try.ntmps18
  go_wp2_with (go_at_call 52; (with_reducible refine (best_any _ _ _ _ hm HA.out).mono ?_); rintro e w1 ⟨rfl, hb⟩)
  go_returns
  exact ⟨rfl, hb⟩

theorem flat_at {α : Type} [Inhabited α] (cells : α → List Value) (k : Nat) (hk : ∀ x, (cells x).length = k) (l : List α) : ∀ i, i < l.length → ∀ j, j < k → (l.flatMap cells)[i * k + j]? = (cells (nth l i))[j]? := by
  induction l with
  | nil => intro i hi; simp at hi
  | cons x l ih =>
    intro i hi j hj
    rw [List.flatMap_cons]
    cases i with
    | zero =>
      rw [Nat.zero_mul, Nat.zero_add, List.getElem?_append_left (by rw [hk]; exact hj)]
      rfl
    | succ i =>
      have e : (i + 1) * k + j = (i * k + j) + k := by rw [Nat.add_mul, Nat.one_mul]; omega
      rw [e, List.getElem?_append_right (by rw [hk]; omega), hk, Nat.add_sub_cancel, ih i (by simpa using hi) j hj]
      rfl
theorem row_new {α : Type} [Inhabited α] (cells : α → List Value) (k : Nat) (hk : ∀ x, (cells x).length = k) (l : List α) (w : World) (n : Nat) (hn : w.heap.size = n) (t : TypeId) : RowOf cells k (w.alloc (.cells (l.flatMap cells).toArray t)) (some ⟨n, 0, none⟩) l := by
  subst hn
  refine .inr ⟨_, 0, rfl, fun i hi j hj => ?_⟩
  rw [cell_new, Nat.zero_add]
  simpa using flat_at cells k hk l i hi j hj

abbrev itShape : List (Value → Prop) := [IsI .i64, IsI .i64, IsI .i64, IsI .i64, IsI .i64, IsI .i64, IsI .i64]
theorem it_of (cs : List Value) (h : Fits itShape cs) : ∃ x : It, cs = itCells x ∧ True := by
  obtain ⟨_, _, rfl, ⟨a, rfl, _⟩, h0⟩ := fits_cons h
  obtain ⟨_, _, rfl, ⟨b, rfl, _⟩, h1⟩ := fits_cons h0
  obtain ⟨_, _, rfl, ⟨c, rfl, _⟩, h2⟩ := fits_cons h1
  obtain ⟨_, _, rfl, ⟨d, rfl, _⟩, h3⟩ := fits_cons h2
  obtain ⟨_, _, rfl, ⟨e, rfl, _⟩, h4⟩ := fits_cons h3
  obtain ⟨_, _, rfl, ⟨f, rfl, _⟩, h5⟩ := fits_cons h4
  obtain ⟨_, _, rfl, ⟨g, rfl, _⟩, h6⟩ := fits_cons h5
  obtain rfl := fits_nil h6
  exact ⟨⟨a, b, c, d, e, f, g⟩, rfl, trivial⟩
theorem opens_item {W : World} : Opens Try.prog W 31 itShape :=
  opens_struct (ss := [[IsI .i64], [IsI .i64], [IsI .i64], [IsI .i64], [IsI .i64], [IsI .i64], [IsI .i64]]) Try.underlying31 (by kernel_rfl)
    ⟨rfl, by kernel_rfl, opens_int Try.underlying3, rfl, by kernel_rfl, opens_int Try.underlying3, rfl, by kernel_rfl, opens_int Try.underlying3, rfl, by kernel_rfl, opens_int Try.underlying3, rfl, by kernel_rfl, opens_int Try.underlying3, rfl, by kernel_rfl, opens_int Try.underlying3, rfl, by kernel_rfl, opens_int Try.underlying3, trivial⟩
theorem came_item {W : World} {v : Value} (h : Came Try.prog W 31 v) : ∃ x : It, v = itV x := by
  obtain ⟨l0, rfl, f0⟩ := came_struct Try.underlying31 opens_item h
  obtain ⟨x, rfl, _⟩ := it_of l0 f0
  exact ⟨x, rfl⟩
end Go.Proofs.Ytmanmebgmhpilaa
