/-
  The statement TableNewest of layer 21 (table), and awake. No condition.
-/
import Derived.Test.YtjifgeplgohpeaaTable
namespace Go.Proofs.Ytjifgeplgohpeaa
open Go.RowKit
set_option linter.unusedVariables false

set_option maxHeartbeats 1000000 in
theorem awake21 (w : World) : Calls Try.prog 15 #[] w fun e w' => e = .returned (.bool true) ∧ Below w.heap.size w w' := by
  have e1 : lrnOk (fun _ => none) 3 2 = true := rfl
  have e2 : lrnOk (lrn (fun _ => none) 3 5 2 7) 3 1 = false := rfl
  have k1 : kn (lrn (fun _ => none) 3 5 2 7) 10 3 17 = some ⟨5, 2, 7⟩ := rfl
  have u1 : cuts (lrn (fun _ => none) 3 5 2 7) 10 3 5 17 = true := rfl
  have u2 : cuts (lrn (fun _ => none) 3 5 2 7) 10 3 5 18 = false := rfl
  have u3 : cuts (lrn (fun _ => none) 3 5 2 7) 10 3 4 17 = false := rfl
  go_enter Try.func15, Try.ntmps15
  go_wp2_with fail
  refine (tnew_any 10 _ (by omega) (by omega)).mono ?_
  rintro e w1 ⟨rfl, hT, hb, hs⟩
  go_wp2_with fail
  refine (learn_any _ _ _ 3 5 2 7 _ hT).mono ?_
  rintro e w2 ⟨rfl, hT2, hO2⟩
  rw [e1]
  go_wp2_with fail
  refine (learn_any _ _ _ 3 9 1 8 _ hT2).mono ?_
  rintro e w3 ⟨rfl, hT3, hO3⟩
  rw [e2]
  have hT4 : TableAt w3 w.heap.size 10 (lrn (fun _ => none) 3 5 2 7) := hT3
  have HT := Lib.hid hT4
  have hO := hO2.trans hO3
  have hsz := hO.size
  have HB := Lib.hid (hb.trans (hO.below (Nat.le_refl _) (by omega)))
  have hlt := IsObj.lt hT4
  clear hT hT2 hT3 hT4 hO2 hO3 hb hO
  go_wp2_with fail
  refine (get_any _ _ _ 3 17 _ HT.out).mono ?_
  rw [k1]
  rintro e w4 ⟨rfl, hb4⟩
  obtain ⟨u4, rfl⟩ := ext_of hb4
  unfold kv Option.isSome
  have HT4 := Lib.hid ((HT.out.ext u4).alloc (.cells #[.int .i64 3, .int .i64 5, .int .i64 2, .int .i64 7] 36))
  clear hb4
  go_wp2_with (first | (go_at_call 25; (with_reducible refine (cuts_any _ _ _ _ _ _ _ HT4.out).mono ?_); rintro e w' ⟨rfl, hx⟩; obtain ⟨ux, rfl⟩ := ext_of hx; clear hx) | (go_at_call 25; (with_reducible refine (cuts_any _ _ _ _ _ _ _ (HT4.out.ext _)).mono ?_); rintro e w' ⟨rfl, hx⟩; obtain ⟨ux, rfl⟩ := ext_of hx; clear hx))
  go_ret
  exact ⟨rfl, below_ext _ ((below_ext u4 HB.out (by omega)).alloc (by have := ext_size u4; omega) _) (by simp; have := ext_size u4; omega)⟩

/-! ### TableNewest -/
/-- An act of the law: something that is told. -/
structure TAct where
  kind : Int
  to : Int
  th : Int
  ep : Int
  now : Int
  lev : Int
instance : Inhabited TAct := ⟨⟨0, 0, 0, 0, 0, 0⟩⟩
def tactCells (x : TAct) : List Value := [.int .i64 x.kind, .int .i64 x.to, .int .i64 x.th, .int .i64 x.ep, .int .i64 x.now, .int .i64 x.lev]
theorem tactCells_len (x : TAct) : (tactCells x).length = 6 := rfl
theorem tact_of (cs : List Value) (h : Fits [IsI .i64, IsI .i64, IsI .i64, IsI .i64, IsI .i64, IsI .i64] cs) : ∃ x : TAct, cs = tactCells x ∧ True := by
  obtain ⟨_, _, rfl, ⟨a, rfl, _⟩, h0⟩ := fits_cons h
  obtain ⟨_, _, rfl, ⟨b, rfl, _⟩, h1⟩ := fits_cons h0
  obtain ⟨_, _, rfl, ⟨c, rfl, _⟩, h2⟩ := fits_cons h1
  obtain ⟨_, _, rfl, ⟨d, rfl, _⟩, h3⟩ := fits_cons h2
  obtain ⟨_, _, rfl, ⟨e, rfl, _⟩, h4⟩ := fits_cons h3
  obtain ⟨_, _, rfl, ⟨f, rfl, _⟩, h5⟩ := fits_cons h4
  obtain rfl := fits_nil h5
  exact ⟨⟨a, b, c, d, e, f⟩, rfl, trivial⟩

def told (l : List TAct) : Ents := l.foldl (fun f x => lrn f x.to x.th x.ep 5) fun _ => none
theorem told_take (l : List TAct) (k : Nat) (h : k < l.length) : told (l.take (k + 1)) = lrn (told (l.take k)) (nth l k).to (nth l k).th (nth l k).ep 5 := by
  rw [take_nth l k h]
  unfold told
  rw [List.foldl_append]
  rfl
/-- The newest of one: epoch, threshold, whether there is any. -/
structure Bst where
  ep : Int
  th : Int
  some : Bool
def bstep (to : Int) (s : Bst) (x : TAct) : Bst := if x.to = to ∧ 0 ≤ to ∧ to < 8 ∧ (s.some = false ∨ s.ep < x.ep) then ⟨x.ep, x.th, true⟩ else s
theorem bstep_no {to : Int} {s : Bst} {x : TAct} (hy : ¬ (x.to = to ∧ 0 ≤ to ∧ to < 8 ∧ (s.some = false ∨ s.ep < x.ep))) : (x.to == to) = false ∨ to < 0 ∨ 8 ≤ to ∨ (s.some = true ∧ x.ep ≤ s.ep) := by
  by_cases y1 : x.to = to
  · by_cases y2 : to < 0
    · exact .inr (.inl y2)
    · by_cases y3 : 8 ≤ to
      · exact .inr (.inr (.inl y3))
      · refine .inr (.inr (.inr ?_))
        by_cases y4 : s.some = true
        · refine ⟨y4, ?_⟩
          by_cases y5 : s.ep < x.ep
          · exact absurd ⟨y1, by omega, by omega, .inr y5⟩ hy
          · omega
        · exact absurd ⟨y1, by omega, by omega, .inl (by simpa using y4)⟩ hy
  · exact .inl (by simpa using y1)
def bst (to : Int) (l : List TAct) : Bst := l.foldl (bstep to) ⟨0, 0, false⟩
theorem bst_take (to : Int) (l : List TAct) (k : Nat) (h : k < l.length) : bst to (l.take (k + 1)) = bstep to (bst to (l.take k)) (nth l k) := by
  rw [take_nth l k h]
  unfold bst
  rw [List.foldl_append]
  rfl
theorem tck5 : tck 5 = 5 := rfl
/-- What a fold over tellings keeps of one. -/
theorem told_bst (to : Int) (h0 : 0 ≤ to) (h1 : to < 8) (l : List TAct) : ∀ (f : Ents) (s : Bst), f to.toNat = (if s.some = true then some ⟨s.th, s.ep, 5⟩ else none) →
    (l.foldl (fun f x => lrn f x.to x.th x.ep 5) f) to.toNat = (if (l.foldl (bstep to) s).some = true then some ⟨(l.foldl (bstep to) s).th, (l.foldl (bstep to) s).ep, 5⟩ else none) := by
  induction l with
  | nil => intro f s h; exact h
  | cons x l ih =>
    intro f s h
    rw [List.foldl_cons, List.foldl_cons]
    refine ih _ _ ?_
    by_cases hx : x.to = to
    · have hok : lrnOk f x.to x.ep = decide (s.some = false ∨ s.ep ≤ x.ep) := by
        unfold lrnOk
        rw [hx, h]
        cases s.some <;> simp <;> omega
      unfold lrn
      rw [hok]
      cases hs : s.some with
      | false =>
        have hb : bstep to s x = ⟨x.ep, x.th, true⟩ := by unfold bstep; rw [if_pos ⟨hx, h0, h1, .inl hs⟩]
        rw [hb, hx, h]
        simp [hs, upd_same, tck5]
      | true =>
        rw [hs, if_pos rfl] at h
        by_cases he : s.ep < x.ep
        · have hb : bstep to s x = ⟨x.ep, x.th, true⟩ := by unfold bstep; rw [if_pos ⟨hx, h0, h1, .inr he⟩]
          have hne : ¬ s.ep = x.ep := by omega
          have hle : s.ep ≤ x.ep := by omega
          rw [hb, hx, h]
          simp [hle, upd_same, tck5, hne]
        · have hb : bstep to s x = s := by unfold bstep; rw [if_neg (by rintro ⟨_, _, _, h4 | h4⟩; (rw [hs] at h4; cases h4); exact he h4)]
          rw [hb, hx, h]
          by_cases he2 : s.ep = x.ep
          · simp [hs, he2, upd_same, tck5]
          · have hle : ¬ s.ep ≤ x.ep := by omega
            simp [hs, hle, h]
    · have hb : bstep to s x = s := by unfold bstep; rw [if_neg (fun hh => hx hh.1)]
      rw [hb, ← h]
      unfold lrn
      split
      · rename_i hok
        have hr : 0 ≤ x.to ∧ x.to < 8 := by
          unfold lrnOk at hok
          simp at hok
          exact hok.1
        exact upd_other _ _ _ _ (by omega)
      · rfl
theorem kn_told (to : Int) (l : List TAct) : kn (told l) 0 to 5 = if (bst to l).some = true then some ⟨(bst to l).th, (bst to l).ep, 5⟩ else none := by
  by_cases hr : 0 ≤ to ∧ to < 8
  · have := told_bst to hr.1 hr.2 l (fun _ => none) ⟨0, 0, false⟩ rfl
    unfold kn
    rw [if_pos hr]
    unfold told
    rw [this]
    show _ = if (l.foldl (bstep to) ⟨0, 0, false⟩).some = true then _ else _
    have e5 : bLeft 5 5 = 0 := rfl
    by_cases hs : (l.foldl (bstep to) ⟨0, 0, false⟩).some = true
    · rw [if_pos hs]
      simp [hs, e5, bst]
    · rw [if_neg hs]
      simp [hs]
  · have hb : ∀ (l : List TAct) (s : Bst), l.foldl (bstep to) s = s := by
      intro l
      induction l with
      | nil => intro s; rfl
      | cons x l ih =>
        intro s
        rw [List.foldl_cons]
        have : bstep to s x = s := by unfold bstep; rw [if_neg (fun hh => hr ⟨hh.2.1, hh.2.2.1⟩)]
        rw [this, ih]
    unfold kn bst
    rw [if_neg hr, hb]
    rfl

theorem opens_tact {W : World} : Opens Try.prog W 30 [IsI .i64, IsI .i64, IsI .i64, IsI .i64, IsI .i64, IsI .i64] :=
  opens_struct (ss := [[IsI .i64], [IsI .i64], [IsI .i64], [IsI .i64], [IsI .i64], [IsI .i64]]) Try.underlying30 (by kernel_rfl)
    ⟨rfl, by kernel_rfl, opens_int Try.underlying3, rfl, by kernel_rfl, opens_int Try.underlying3, rfl, by kernel_rfl, opens_int Try.underlying3, rfl, by kernel_rfl, opens_int Try.underlying3, rfl, by kernel_rfl, opens_int Try.underlying3, rfl, by kernel_rfl, opens_int Try.underlying3, trivial⟩
end Go.Proofs.Ytjifgeplgohpeaa
