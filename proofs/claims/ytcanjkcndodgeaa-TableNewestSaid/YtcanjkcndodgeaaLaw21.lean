/-
  The statement TableNewest of layer 21 (table), and awake. No condition.
-/
import Derived.Test.YtcanjkcndodgeaaTable
namespace Go.Proofs.Ytcanjkcndodgeaa
open Go.RowKit

set_option maxHeartbeats 1000000 in
theorem awake21 (w : World) : Calls Try.prog 48 #[] w fun e w' => e = .returned (.bool true) ∧ Below w.heap.size w w' := by
  have e1 : lrnOk (fun _ => none) 3 2 = true := rfl
  have e2 : lrnOk (lrn (fun _ => none) 3 5 2 7) 3 1 = false := rfl
  have k1 : kn (lrn (fun _ => none) 3 5 2 7) 10 3 17 = some ⟨5, 2, 7⟩ := rfl
  have u1 : cuts (lrn (fun _ => none) 3 5 2 7) 10 3 5 17 = true := rfl
  have u2 : cuts (lrn (fun _ => none) 3 5 2 7) 10 3 5 18 = false := rfl
  have u3 : cuts (lrn (fun _ => none) 3 5 2 7) 10 3 4 17 = false := rfl
  go_enter Try.func48, Try.ntmps48
  go_wp2_with fail
  refine (tnew_any 10 _ (by omega) (by omega)).mono ?_
  rintro e w1 ⟨rfl, hT, hb, hs⟩
  go_wp2_with fail
  refine (learn_any _ _ _ 3 5 2 7 _ hT).mono ?_
  rintro e w2 ⟨rfl, hT2, hO2⟩
  rw [e1]
  go_wp2_with fail
  refine (learn_any _ _ _ 3 9 1 8 _ hT2).mono ?_
  rintro e w3 ⟨rfl, hT3, hO3⟩
  rw [e2]
  have hT4 : TableAt w3 w.heap.size 10 (lrn (fun _ => none) 3 5 2 7) := hT3
  have HT := Lib.hid hT4
  have hO := hO2.trans hO3
  have hsz := hO.size
  have HB := Lib.hid (hb.trans (hO.below (Nat.le_refl _) (by omega)))
  have hlt := IsObj.lt hT4
  clear hT hT2 hT3 hT4 hO2 hO3 hb hO
  go_wp2_with fail
  refine (get_any _ _ _ 3 17 _ HT.out).mono ?_
  rw [k1]
  rintro e w4 ⟨rfl, hb4⟩
  obtain ⟨u4, rfl⟩ := ext_of hb4
  unfold kv Option.isSome
  have HT4 := Lib.hid ((HT.out.ext u4).alloc (.cells #[.int .i64 3, .int .i64 5, .int .i64 2, .int .i64 7] 49))
  clear hb4
  go_wp2_with (first | (go_at_call 52; (with_reducible refine (cuts_any _ _ _ _ _ _ _ HT4.out).mono ?_); rintro e w' ⟨rfl, hx⟩; obtain ⟨ux, rfl⟩ := ext_of hx; clear hx) | (go_at_call 52; (with_reducible refine (cuts_any _ _ _ _ _ _ _ (HT4.out.ext _)).mono ?_); rintro e w' ⟨rfl, hx⟩; obtain ⟨ux, rfl⟩ := ext_of hx; clear hx))
  go_ret
  exact ⟨rfl, below_ext _ ((below_ext u4 HB.out (by omega)).alloc (by have := ext_size u4; omega) _) (by simp; have := ext_size u4; omega)⟩

/-! ### TableNewest -/
/-- An act of the law: something that is told. -/
structure TAct where
  kind : Int
  to : Int
  th : Int
  ep : Int
  now : Int
  lev : Int
instance : Inhabited TAct := ⟨⟨0, 0, 0, 0, 0, 0⟩⟩
def tactCells (x : TAct) : List Value := [.int .i64 x.kind, .int .i64 x.to, .int .i64 x.th, .int .i64 x.ep, .int .i64 x.now, .int .i64 x.lev]
theorem tactCells_len (x : TAct) : (tactCells x).length = 6 := rfl
theorem tact_of (cs : List Value) (h : Fits [IsI .i64, IsI .i64, IsI .i64, IsI .i64, IsI .i64, IsI .i64] cs) : ∃ x : TAct, cs = tactCells x ∧ True := by
  obtain ⟨_, _, rfl, ⟨a, rfl, _⟩, h0⟩ := fits_cons h
  obtain ⟨_, _, rfl, ⟨b, rfl, _⟩, h1⟩ := fits_cons h0
  obtain ⟨_, _, rfl, ⟨c, rfl, _⟩, h2⟩ := fits_cons h1
  obtain ⟨_, _, rfl, ⟨d, rfl, _⟩, h3⟩ := fits_cons h2
  obtain ⟨_, _, rfl, ⟨e, rfl, _⟩, h4⟩ := fits_cons h3
  obtain ⟨_, _, rfl, ⟨f, rfl, _⟩, h5⟩ := fits_cons h4
  obtain rfl := fits_nil h5
  exact ⟨⟨a, b, c, d, e, f⟩, rfl, trivial⟩

def told (l : List TAct) : Ents := l.foldl (fun f x => lrn f x.to x.th x.ep 5) fun _ => none
theorem told_take (l : List TAct) (k : Nat) (h : k < l.length) : told (l.take (k + 1)) = lrn (told (l.take k)) (nth l k).to (nth l k).th (nth l k).ep 5 := by
  rw [take_nth l k h]
  unfold told
  rw [List.foldl_append]
  rfl
/-- The newest of one: epoch, threshold, whether there is any. -/
structure Bst where
  ep : Int
  th : Int
  some : Bool
def bstep (to : Int) (s : Bst) (x : TAct) : Bst := if x.to = to ∧ 0 ≤ to ∧ to < 8 ∧ (s.some = false ∨ s.ep < x.ep) then ⟨x.ep, x.th, true⟩ else s
theorem bstep_no {to : Int} {s : Bst} {x : TAct} (hy : ¬ (x.to = to ∧ 0 ≤ to ∧ to < 8 ∧ (s.some = false ∨ s.ep < x.ep))) : (x.to == to) = false ∨ to < 0 ∨ 8 ≤ to ∨ (s.some = true ∧ x.ep ≤ s.ep) := by
  by_cases y1 : x.to = to
  · by_cases y2 : to < 0
    · exact .inr (.inl y2)
    · by_cases y3 : 8 ≤ to
      · exact .inr (.inr (.inl y3))
      · refine .inr (.inr (.inr ?_))
        by_cases y4 : s.some = true
        · refine ⟨y4, ?_⟩
          by_cases y5 : s.ep < x.ep
          · exact absurd ⟨y1, by omega, by omega, .inr y5⟩ hy
          · omega
        · exact absurd ⟨y1, by omega, by omega, .inl (by simpa using y4)⟩ hy
  · exact .inl (by simpa using y1)
def bst (to : Int) (l : List TAct) : Bst := l.foldl (bstep to) ⟨0, 0, false⟩
theorem bst_take (to : Int) (l : List TAct) (k : Nat) (h : k < l.length) : bst to (l.take (k + 1)) = bstep to (bst to (l.take k)) (nth l k) := by
  rw [take_nth l k h]
  unfold bst
  rw [List.foldl_append]
  rfl
theorem tck5 : tck 5 = 5 := rfl
/-- What a fold over tellings keeps of one. -/
theorem told_bst (to : Int) (h0 : 0 ≤ to) (h1 : to < 8) (l : List TAct) : ∀ (f : Ents) (s : Bst), f to.toNat = (if s.some = true then some ⟨s.th, s.ep, 5⟩ else none) →
    (l.foldl (fun f x => lrn f x.to x.th x.ep 5) f) to.toNat = (if (l.foldl (bstep to) s).some = true then some ⟨(l.foldl (bstep to) s).th, (l.foldl (bstep to) s).ep, 5⟩ else none) := by
  induction l with
  | nil => intro f s h; exact h
  | cons x l ih =>
    intro f s h
    rw [List.foldl_cons, List.foldl_cons]
    refine ih _ _ ?_
    by_cases hx : x.to = to
    · have hok : lrnOk f x.to x.ep = decide (s.some = false ∨ s.ep ≤ x.ep) := by
        unfold lrnOk
        rw [hx, h]
        cases s.some <;> simp <;> omega
      unfold lrn
      rw [hok]
      cases hs : s.some with
      | false =>
        have hb : bstep to s x = ⟨x.ep, x.th, true⟩ := by unfold bstep; rw [if_pos ⟨hx, h0, h1, .inl hs⟩]
        rw [hb, hx, h]
        simp [hs, upd_same, tck5]
      | true =>
        rw [hs, if_pos rfl] at h
        by_cases he : s.ep < x.ep
        · have hb : bstep to s x = ⟨x.ep, x.th, true⟩ := by unfold bstep; rw [if_pos ⟨hx, h0, h1, .inr he⟩]
          have hne : ¬ s.ep = x.ep := by omega
          have hle : s.ep ≤ x.ep := by omega
          rw [hb, hx, h]
          simp [hle, upd_same, tck5, hne]
        · have hb : bstep to s x = s := by unfold bstep; rw [if_neg (by rintro ⟨_, _, _, h4 | h4⟩; (rw [hs] at h4; cases h4); exact he h4)]
          rw [hb, hx, h]
          by_cases he2 : s.ep = x.ep
          · simp [hs, he2, upd_same, tck5]
          · have hle : ¬ s.ep ≤ x.ep := by omega
            simp [hs, hle, h]
    · have hb : bstep to s x = s := by unfold bstep; rw [if_neg (fun hh => hx hh.1)]
      rw [hb, ← h]
      unfold lrn
      split
      · rename_i hok
        have hr : 0 ≤ x.to ∧ x.to < 8 := by
          unfold lrnOk at hok
          simp at hok
          exact hok.1
        exact upd_other _ _ _ _ (by omega)
      · rfl
theorem kn_told (to : Int) (l : List TAct) : kn (told l) 0 to 5 = if (bst to l).some = true then some ⟨(bst to l).th, (bst to l).ep, 5⟩ else none := by
  by_cases hr : 0 ≤ to ∧ to < 8
  · have := told_bst to hr.1 hr.2 l (fun _ => none) ⟨0, 0, false⟩ rfl
    unfold kn
    rw [if_pos hr]
    unfold told
    rw [this]
    show _ = if (l.foldl (bstep to) ⟨0, 0, false⟩).some = true then _ else _
    have e5 : bLeft 5 5 = 0 := rfl
    by_cases hs : (l.foldl (bstep to) ⟨0, 0, false⟩).some = true
    · rw [if_pos hs]
      simp [hs, e5, bst]
    · rw [if_neg hs]
      simp [hs]
  · have hb : ∀ (l : List TAct) (s : Bst), l.foldl (bstep to) s = s := by
      intro l
      induction l with
      | nil => intro s; rfl
      | cons x l ih =>
        intro s
        rw [List.foldl_cons]
        have : bstep to s x = s := by unfold bstep; rw [if_neg (fun hh => hr ⟨hh.2.1, hh.2.2.1⟩)]
        rw [this, ih]
    unfold kn bst
    rw [if_neg hr, hb]
    rfl

set_option maxRecDepth 100000 in
set_option maxHeartbeats 4000000 in
theorem newest_walk (a : Option Addr) (c : Nat) (l : List TAct) (w : World) (g1 : l.length ≤ c) (g2 : c ≤ 9223372036854775807) (hA : RowOf tactCells 6 w a l) : Calls Try.prog 10 #[.slice a l.length c] w fun e w' => e = .returned (.bool true) ∧ Below w.heap.size w w' := by
  have HA := Lib.hid hA
  clear hA
  by_cases hl : 100 < l.length
  · go_enter Try.func10, Try.ntmps10
    go_wp2_with (go_at_call 48; refine (awake21 _).mono ?_; rintro e w1 ⟨rfl, hb⟩)
    go_ret
    exact ⟨rfl, hb⟩
  · have d1 : decide ((100 : Int) < (l.length : Int)) = false := by simp; omega
    have l1 : l.length ≤ 100 := by omega
    clear hl
    go_enter Try.func10, Try.ntmps10
    go_wp2_with fail
    refine (tnew_any 0 _ (by omega) (by omega)).mono ?_
    rintro e w1 ⟨rfl, hT, hb, hs⟩
    have HT := Lib.hid hT
    have HB := Lib.hid hb
    clear hT hb
    go_wp2_with fail
    go_loopw [5] (fun i wr => ∃ k : Nat, k ≤ l.length ∧ i = .int .i64 k ∧ TableAt wr w.heap.size 0 (told (l.take k)) ∧ Below w.heap.size w wr) (fun i _ => l.length - (intOf i).toNat)
    case atStart => exact ⟨0, Nat.zero_le _, rfl, HT.out, HB.out⟩
    case round =>
      obtain ⟨k, hk, rfl, hTr, hbr⟩ := hrel
      have hlt0 := IsObj.lt hTr
      have HTr := Lib.hid hTr
      have HBr := Lib.hid hbr
      clear hTr hbr HT HB
      by_cases hlt : k < l.length
      · obtain ⟨b, off, rfl, hc⟩ : ∃ b off, a = some ⟨b, off, none⟩ ∧ ∀ j, j < 6 → wr.cell? ⟨b, off + k * 6 + j, none⟩ = (tactCells (nth l k))[j]? := by
          rcases HA.out.same tactCells_len HBr.out with rfl | ⟨b, off, rfl, hc⟩
          · simp at hlt
          · exact ⟨b, off, rfl, hc k hlt⟩
        have c0 : wr.cell? ⟨b, off + k * 6, none⟩ = some (.int .i64 (nth l k).kind) := hc 0 (by omega)
        have c1 : wr.cell? ⟨b, off + k * 6 + 1, none⟩ = some (.int .i64 (nth l k).to) := hc 1 (by omega)
        have c2 : wr.cell? ⟨b, off + k * 6 + 2, none⟩ = some (.int .i64 (nth l k).th) := hc 2 (by omega)
        have c3 : wr.cell? ⟨b, off + k * 6 + 3, none⟩ = some (.int .i64 (nth l k).ep) := hc 3 (by omega)
        have c4 : wr.cell? ⟨b, off + k * 6 + 4, none⟩ = some (.int .i64 (nth l k).now) := hc 4 (by omega)
        have c5 : wr.cell? ⟨b, off + k * 6 + 5, none⟩ = some (.int .i64 (nth l k).lev) := hc 5 (by omega)
        have hb1 := cell_lt c0
        simp at hb1
        clear hc
        have HTK := Lib.hid (told_take l k hlt)
        go_wp2_with fail
        refine (learn_any _ _ _ _ _ _ _ _ (HTr.out.alloc _)).mono ?_
        rintro e w2 ⟨rfl, hT2, hO2⟩
        rw [← HTK.out] at hT2
        have HT2 := Lib.hid hT2
        have HO2 := Lib.hid hO2
        clear hT2 hO2
        go_wp2_with fail
        go_roundw
        case rel => exact ⟨k + 1, by omega, by go_num, HT2.out, (HBr.out.alloc HBr.out.size _).trans (HO2.out.below (Nat.le_refl _) (by simp; have := HBr.out.size; omega))⟩
        case measure => simp [intOf]; omega
      · obtain rfl : k = l.length := by omega
        have HTL : Hid (TableAt wr w.heap.size 0 (told l)) := by
          have := HTr.out
          rwa [List.take_of_length_le (Nat.le_refl _)] at this
        clear HTr
        go_wp2_with fail
        obtain ⟨wo, rfl⟩ : ∃ wo : World, wo = wr := ⟨_, rfl⟩
        go_loopw [7] (fun i wr => ∃ to : Int, -1 ≤ to ∧ to ≤ 9 ∧ i = .int .i64 to ∧ TableAt wr w.heap.size 0 (told l) ∧ Below w.heap.size w wr) (fun i _ => (9 - intOf i).toNat)
        case atStart => exact ⟨-1, by omega, by omega, rfl, HTL.out, HBr.out⟩
        case round =>
          obtain ⟨to, t0, t1, rfl, hTr, hbr⟩ := hrel
          have hlt1 := IsObj.lt hTr
          have HTr := Lib.hid hTr
          have HBr2 := Lib.hid hbr
          clear hTr hbr HTL HBr
          by_cases hlt2 : to < 9
          · go_wp2_with fail
            obtain ⟨wi, rfl⟩ : ∃ wi : World, wi = wr := ⟨_, rfl⟩
            go_loopw [8, 9, 10, 11] (fun be th so i wr => ∃ k n : Nat, k ≤ l.length ∧ i = .int .i64 k ∧ be = .int .i64 (bst to (l.take k)).ep ∧ th = .int .i64 (bst to (l.take k)).th ∧ so = .bool (bst to (l.take k)).some ∧ wr = wi.drewN n) (fun _ _ _ i _ => l.length - (intOf i).toNat)
            case atStart => exact ⟨0, 0, Nat.zero_le _, rfl, rfl, rfl, rfl, rfl⟩
            case round =>
              obtain ⟨k, n, hk2, rfl, rfl, rfl, rfl, rfl⟩ := hrel
              by_cases hlt3 : k < l.length
              · obtain ⟨b, off, rfl, hc⟩ : ∃ b off, a = some ⟨b, off, none⟩ ∧ ∀ j, j < 6 → wi.cell? ⟨b, off + k * 6 + j, none⟩ = (tactCells (nth l k))[j]? := by
                  rcases HA.out.same tactCells_len HBr2.out with rfl | ⟨b, off, rfl, hc⟩
                  · simp at hlt3
                  · exact ⟨b, off, rfl, hc k hlt3⟩
                have c1 : wi.cell? ⟨b, off + k * 6 + 1, none⟩ = some (.int .i64 (nth l k).to) := hc 1 (by omega)
                have c2 : wi.cell? ⟨b, off + k * 6 + 2, none⟩ = some (.int .i64 (nth l k).th) := hc 2 (by omega)
                have c3 : wi.cell? ⟨b, off + k * 6 + 3, none⟩ = some (.int .i64 (nth l k).ep) := hc 3 (by omega)
                have i1 : (0 : Int) ≤ (k : Int) := by omega
                have i2 : (k : Int) < (l.length : Int) := by omega
                have HS := Lib.hid (bst_take to l k hlt3)
                clear hc
                obtain ⟨s, hs2⟩ : ∃ s, s = bst to (l.take k) := ⟨_, rfl⟩
                obtain ⟨x, hx⟩ : ∃ x, x = nth l k := ⟨_, rfl⟩
                rw [← hs2, ← hx] at HS
                rw [← hs2]
                rw [← hx] at c1 c2 c3
                clear hs2 hx
                by_cases hy : x.to = to ∧ 0 ≤ to ∧ to < 8 ∧ (s.some = false ∨ s.ep < x.ep)
                · have HE : Hid (bst to (l.take (k + 1)) = ⟨x.ep, x.th, true⟩) := by
                    have := HS.out
                    unfold bstep at this
                    rwa [if_pos hy] at this
                  obtain ⟨y1, y2, y3, y4⟩ := hy
                  have yb : (x.to == to) = true := by simpa using y1
                  clear y1
                  cases hsome : s.some with
                  | false =>
                    clear y4
                    go_wp2_with fail
                    go_quiet (fail)
                    go_wp2
                    go_roundw
                    case rel => exact ⟨k + 1, _, by omega, by go_num, by rw [HE.out], by rw [HE.out], by rw [HE.out], rfl⟩
                    case measure => simp [intOf]; omega
                  | true =>
                    have y5 : s.ep < x.ep := by
                      rcases y4 with y4 | y4
                      · rw [hsome] at y4; cases y4
                      · exact y4
                    clear y4
                    go_wp2_with fail
                    go_quiet (fail)
                    go_wp2
                    go_roundw
                    case rel => exact ⟨k + 1, _, by omega, by go_num, by rw [HE.out], by rw [HE.out], by rw [HE.out], rfl⟩
                    case measure => simp [intOf]; omega
                · have HE : Hid (bst to (l.take (k + 1)) = s) := by
                    have := HS.out
                    unfold bstep at this
                    rwa [if_neg hy] at this
                  have hy2 := bstep_no hy
                  clear hy
                  rcases hy2 with yb | yb | yb | ⟨yb, yc⟩
                  all_goals
                    go_wp2
                  all_goals
                    go_roundw
                    case rel => exact ⟨k + 1, n, by omega, by go_num, by rw [HE.out], by rw [HE.out], by first | (rw [HE.out]; done) | (rw [HE.out, yb]), rfl⟩
                    case measure => simp [intOf]; omega
              · obtain rfl : k = l.length := by omega
                have hkn := kn_told to l
                rw [List.take_of_length_le (Nat.le_refl _)]
                obtain ⟨s, hs2⟩ : ∃ s, s = bst to l := ⟨_, rfl⟩
                rw [← hs2] at hkn ⊢
                clear hs2
                have HTn := Lib.hid (HTr.out.drewN n)
                cases hsome : s.some with
                | false =>
                  rw [hsome] at hkn
                  simp only [Bool.false_eq_true, if_false] at hkn
                  have hcut : cuts (told l) 0 to 200 5 = false := by unfold cuts; rw [hkn]
                  have HK := Lib.hid hkn
                  clear hkn
                  go_wp2_with fail
                  refine (get_any _ _ _ to 5 _ HTn.out).mono ?_
                  rw [HK.out]
                  rintro e w4 ⟨rfl, hb4⟩
                  obtain ⟨u4, rfl⟩ := ext_of hb4
                  unfold kv Option.isSome
                  have HT4 := Lib.hid ((HTn.out.ext u4).alloc (.cells #[.int .i64 0, .int .i64 0, .int .i64 0, .int .i64 0] 49))
                  clear hb4
                  go_wp2_with (go_at_call 52; (with_reducible refine (cuts_any _ _ _ _ _ _ _ HT4.out).mono ?_); rintro e w' ⟨rfl, hx⟩; obtain ⟨ux, rfl⟩ := ext_of hx; clear hx)
                  go_roundw
                  case rel =>
                    have q1 := ext_size u4
                    have q2 := HBr2.out.size
                    simp at q1
                    exact ⟨to + 1, by omega, by omega, rfl, HT4.out.ext _, below_ext _ ((below_ext u4 (below_drewN HBr2.out n) q2).alloc (by omega) _) (by simp; omega)⟩
                  case measure => simp [intOf]; omega
                | true =>
                  rw [hsome] at hkn
                  simp only [if_true] at hkn
                  have HK := Lib.hid hkn
                  clear hkn
                  go_wp2_with fail
                  refine (get_any _ _ _ to 5 _ HTn.out).mono ?_
                  rw [HK.out]
                  rintro e w4 ⟨rfl, hb4⟩
                  obtain ⟨u4, rfl⟩ := ext_of hb4
                  unfold kv Option.isSome
                  have HT4 := Lib.hid ((HTn.out.ext u4).alloc (.cells #[.int .i64 to, .int .i64 s.th, .int .i64 s.ep, .int .i64 5] 49))
                  clear hb4
                  go_wp2_with fail
                  go_roundw
                  case rel =>
                    have q1 := ext_size u4
                    have q2 := HBr2.out.size
                    simp at q1
                    exact ⟨to + 1, by omega, by omega, rfl, HT4.out, (below_ext u4 (below_drewN HBr2.out n) q2).alloc (by omega) _⟩
                  case measure => simp [intOf]; omega
          · go_wp2_with (go_at_call 48; refine (awake21 _).mono ?_; rintro e w5 ⟨rfl, hb5⟩)
            go_ret
            exact ⟨rfl, HBr2.out.trans (hb5.mono HBr2.out.size)⟩

theorem opens_tact {W : World} : Opens Try.prog W 46 [IsI .i64, IsI .i64, IsI .i64, IsI .i64, IsI .i64, IsI .i64] :=
  opens_struct (ss := [[IsI .i64], [IsI .i64], [IsI .i64], [IsI .i64], [IsI .i64], [IsI .i64]]) Try.underlying46 (by kernel_rfl)
    ⟨rfl, by kernel_rfl, opens_int Try.underlying3, rfl, by kernel_rfl, opens_int Try.underlying3, rfl, by kernel_rfl, opens_int Try.underlying3, rfl, by kernel_rfl, opens_int Try.underlying3, rfl, by kernel_rfl, opens_int Try.underlying3, rfl, by kernel_rfl, opens_int Try.underlying3, trivial⟩
theorem newest_done : Walk 10 Try.f10 := by
  intro W args hs hc
  rw [Try.params10] at hs hc
  obtain ⟨l⟩ := args
  match l, hs with
  | [v0], _ =>
    obtain ⟨a, c, l, rfl, h1, h2, _, h4⟩ := row_of_sl (k := 6) (cells := tactCells) (fun _ => True) (by omega) tact_of (came_slice Try.underlying40 (ps := [IsI .i64, IsI .i64, IsI .i64, IsI .i64, IsI .i64, IsI .i64]) (by kernel_rfl) opens_tact (hc 0 40 v0 rfl rfl))
    exact newest_walk a c l W h1 h2 h4
end Go.Proofs.Ytcanjkcndodgeaa
