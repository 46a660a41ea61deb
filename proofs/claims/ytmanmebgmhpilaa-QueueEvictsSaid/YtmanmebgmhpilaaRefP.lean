/-
  lockkeeperref12.Push.
-/
import Derived.Test.YtmanmebgmhpilaaMir
import Derived.Test.YtmanmebgmhpilaaAwake12
namespace Go.Proofs.Ytmanmebgmhpilaa
open Go.RowKit
set_option linter.unusedVariables false

set_option maxRecDepth 100000 in
set_option maxHeartbeats 1000000 in
theorem rpush_in (a : Option Addr) (c : Nat) (X : List It) (most : Int) (x : It) (w : World) (hm : X.length ≤ 64) (hA : RowOf itCells 7 w a X) (hin : x.id ∈ X.map It.id) :
    Calls Try.prog 23 #[.slice a X.length c, .int .i64 most, itV x] w fun e w' => e = .returned (.tuple #[.slice a X.length c, .int .i64 8]) ∧ Below w.heap.size w w' := by
  obtain ⟨k, hk⟩ : ∃ k : Nat, fnd X x.id = (k : Int) := by
    rcases fnd_law X x.id with ⟨_, h⟩ | ⟨j, _, h, _⟩
    · exact absurd hin h
    · exact ⟨j, h⟩
  have hB : Below w.heap.size w (w.alloc (.cells #[.int .i64 x.id, .int .i64 x.lev, .int .i64 x.frm, .int .i64 x.dl, .int .i64 x.bud, .int .i64 x.since, .int .i64 x.seq] 31)) := (Below.refl _ w).alloc (Nat.le_refl _) _
  have HB := Lib.hid hB
  have hcon := rfind_any a c X x.id _ (by omega) (hA.same itCells_len hB)
  rw [hk] at hcon
  have h0 : (0 : Int) ≤ (k : Int) := by omega
  clear hA hB hk
  go_enter Try.func23, Try.ntmps23
  go_wp2_with (go_at_call 43; refine hcon.mono ?_; rintro e w' ⟨rfl, rfl⟩)
  go_returns
  exact ⟨rfl, HB.out⟩
set_option maxRecDepth 100000 in
set_option maxHeartbeats 1000000 in
theorem rpush_full (a : Option Addr) (c : Nat) (X : List It) (most : Int) (x : It) (w : World) (hm : X.length ≤ 64) (hA : RowOf itCells 7 w a X) (hout : x.id ∉ X.map It.id) (hmost : most ≤ (X.length : Int)) :
    Calls Try.prog 23 #[.slice a X.length c, .int .i64 most, itV x] w fun e w' => e = .returned (.tuple #[.slice a X.length c, .int .i64 6]) ∧ Below w.heap.size w w' := by
  have hk : fnd X x.id = -1 := by
    rcases fnd_law X x.id with ⟨h, _⟩ | ⟨j, h1, _, h2, _⟩
    · exact h
    · exact absurd (by rw [← h2]; exact nth_mem h1) hout
  have hB : Below w.heap.size w (w.alloc (.cells #[.int .i64 x.id, .int .i64 x.lev, .int .i64 x.frm, .int .i64 x.dl, .int .i64 x.bud, .int .i64 x.since, .int .i64 x.seq] 31)) := (Below.refl _ w).alloc (Nat.le_refl _) _
  have HB := Lib.hid hB
  have hcon := rfind_any a c X x.id _ (by omega) (hA.same itCells_len hB)
  rw [hk] at hcon
  clear hA hB hk
  go_enter Try.func23, Try.ntmps23
  go_wp2_with (go_at_call 43; refine hcon.mono ?_; rintro e w' ⟨rfl, rfl⟩)
  go_returns
  exact ⟨rfl, HB.out⟩
set_option maxRecDepth 100000 in
set_option maxHeartbeats 2000000 in
theorem rpush_ok (a : Option Addr) (c : Nat) (X : List It) (most : Int) (x : It) (w : World) (hm : X.length ≤ 64) (hA : RowOf itCells 7 w a X) (hout : x.id ∉ X.map It.id) (hmost : (X.length : Int) < most) :
    Calls Try.prog 23 #[.slice a X.length c, .int .i64 most, itV x] w fun e w' => ∃ v, e = .returned (.tuple #[v, .int .i64 0]) ∧ w'.ownsRow w.heap.size 31 7 v (X.length + 1) ((ssort (X ++ [x])).flatMap itCells) ∧ Below w.heap.size w w' := by
  obtain ⟨i0, hi, hz0, hz1, hz2⟩ := info_parts item_parts
  have hk : fnd X x.id = -1 := by
    rcases fnd_law X x.id with ⟨h, _⟩ | ⟨j, h1, _, h2, _⟩
    · exact h
    · exact absurd (by rw [← h2]; exact nth_mem h1) hout
  obtain ⟨B, hBB⟩ : ∃ B, B = w.heap.size := ⟨_, rfl⟩
  have HBB := Lib.hid hBB
  have hB : Below w.heap.size w (w.alloc (.cells #[.int .i64 x.id, .int .i64 x.lev, .int .i64 x.frm, .int .i64 x.dl, .int .i64 x.bud, .int .i64 x.since, .int .i64 x.seq] 31)) := (Below.refl _ w).alloc (Nat.le_refl _) _
  have VX := Lib.hid (show IsObj (w.alloc (.cells #[.int .i64 x.id, .int .i64 x.lev, .int .i64 x.frm, .int .i64 x.dl, .int .i64 x.bud, .int .i64 x.since, .int .i64 x.seq] 31)) B 31 (itCells x) by rw [hBB]; exact IsObj.new w _ (itCells x))
  have HB := Lib.hid hB
  have hA1 := hA.same itCells_len hB
  clear hA hB hBB
  go_enter Try.func23, Try.ntmps23
  go_upto_region 1 with (fail)
  rw [← HBB.out]
  generalize w.alloc (.cells #[.int .i64 x.id, .int .i64 x.lev, .int .i64 x.frm, .int .i64 x.dl, .int .i64 x.bud, .int .i64 x.since, .int .i64 x.seq] 31) = w1 at *
  have hcon := rfind_any a c X x.id w1 (by omega) hA1
  rw [hk] at hcon
  have HA1 := Lib.hid hA1
  have x0 : w1.cell? ⟨B, 0, none⟩ = some (.int .i64 x.id) := VX.out.cell 0
  clear hA1 hk
  go_upto_region 6 with (go_at_call 43; refine hcon.mono ?_; rintro e w' ⟨rfl, rfl⟩)
  clear hcon x0
  go_cut [8] (fun s8 wx => Aside (wx.ownsRow w1.heap.size 31 7 s8 X.length (X.flatMap itCells) ∧ Below w1.heap.size w1 wx))
  case first =>
    by_cases h0 : X = []
    · subst h0
      cases a
      all_goals
       go_wp2
       go_meet
       case rel => exact ⟨World.ownsRow_nil _ _ _ _, Below.refl _ _⟩
    · obtain ⟨b, off, rfl, hc⟩ : ∃ b off, a = some ⟨b, off, none⟩ ∧ ∀ i, i < X.length → ∀ j, j < 7 → w1.cell? ⟨b, off + i * 7 + j, none⟩ = (itCells (nth X i))[j]? := by
        rcases HA1.out with h | h
        · exact absurd h h0
        · exact h
      have hn0 : 0 < X.length := List.length_pos_iff.2 h0
      have HN := Lib.hid (row_news hc)
      clear hc
      go_wp2_with (refine wpList_append_lies _ (by rfl) _ _ _ (by rfl) w1.heap.size 31 i0 (.agg #[.int .i64 0, .int .i64 0, .int .i64 0, .int .i64 0, .int .i64 0, .int .i64 0, .int .i64 0]) 7 56 Try.underlying22 hi hz0 hz1 hz2 rfl (by decide) (.slice none 0 0) 0 [] (by rfl) (World.ownsRow_nil _ _ _ _) ⟨b, off, none⟩ X.length c _ (by rfl) (itF_len X) HN.out (row_one X) hn0 (by unfold maxLen; omega) (by omega) (Nat.le_refl _) w1.heap.size rfl ?_; intro g cap w2 hown hgrow hat hglt)
      rw [Nat.zero_add, List.nil_append] at hown
      have hb2 : Below w1.heap.size w1 w2 := Below.grown (Below.refl _ _) hgrow (Nat.le_refl _) (fun k hk => by simp [Value.ownBlock] at hk)
      have H3 : Aside (_ ∧ _) := And.intro hown hb2
      clear hown hgrow hat hglt hb2
      try simp only [Nat.zero_add]
      go_wp2
      go_meet
      case rel => exact H3
  case rest =>
  have H3 := hcut
  clear hcut
  generalize wc = w2 at *
  have VX2 := Lib.hid (IsObj.below VX.out H3.out.2 VX.out.lt)
  have x0 : w2.cell? ⟨B, 0, none⟩ = some (.int .i64 x.id) := VX2.out.cell 0
  have x1 : w2.cell? ⟨B, 1, none⟩ = some (.int .i64 x.lev) := VX2.out.cell 1
  have x2 : w2.cell? ⟨B, 2, none⟩ = some (.int .i64 x.frm) := VX2.out.cell 2
  have x3 : w2.cell? ⟨B, 3, none⟩ = some (.int .i64 x.dl) := VX2.out.cell 3
  have x4 : w2.cell? ⟨B, 4, none⟩ = some (.int .i64 x.bud) := VX2.out.cell 4
  have x5 : w2.cell? ⟨B, 5, none⟩ = some (.int .i64 x.since) := VX2.out.cell 5
  have x6 : w2.cell? ⟨B, 6, none⟩ = some (.int .i64 x.seq) := VX2.out.cell 6
  have HS := Lib.hid H3.out.2.size
  have fin : ∀ (g cap : Nat) (w3 : World), w3.ownsRow w1.heap.size 31 7 (.slice (some ⟨g, 0, none⟩) (X.length + 1) cap) (X.length + 1) (X.flatMap itCells ++ itCells x) → Below w1.heap.size w2 w3 →
      Calls Try.prog 22 #[.slice (some ⟨g, 0, none⟩) (X.length + 1) cap] w3 fun e w' => ∃ v, e = .returned v ∧ w'.ownsRow w.heap.size 31 7 v (X.length + 1) ((ssort (X ++ [x])).flatMap itCells) ∧ Below w.heap.size w w' := fun g cap w3 h1 h2 => by
    have hl : (X ++ [x]).length = X.length + 1 := by simp
    have h1' : w3.ownsRow w1.heap.size 31 7 (.slice (some ⟨g, 0, none⟩) (X.length + 1) cap) (X.length + 1) ((X ++ [x]).flatMap itCells) := by
      rw [List.flatMap_append, List.flatMap_cons, List.flatMap_nil, List.append_nil]; exact h1
    obtain ⟨a3, c3, hv3, hr3⟩ := own_row h1'
    have hbw : Below w.heap.size w w3 := HB.out.trans ((H3.out.2.trans h2).mono HB.out.size)
    have hs := rsort_any a3 c3 (X ++ [x]) w3 (by omega) hr3
    rw [hv3]
    refine hs.mono ?_
    rintro e w' ⟨v, he, ho, _, hb⟩
    rw [rsort_eq, hl] at ho
    exact ⟨v, he, own_mono ho hbw.size, hbw.trans (hb.mono hbw.size)⟩
  have FIN := Lib.hid fin
  clear fin
  go_wp2_with (first | (at_builtin; refine wpList_append_one (by rfl) _ _ 22 (by rfl) w1.heap.size 31 i0 (.agg #[.int .i64 0, .int .i64 0, .int .i64 0, .int .i64 0, .int .i64 0, .int .i64 0, .int .i64 0]) 7 56 Try.underlying22 hi hz0 hz1 hz2 rfl (by decide) _ X.length _ #[.int .i64 x.id, .int .i64 x.lev, .int .i64 x.frm, .int .i64 x.dl, .int .i64 x.bud, .int .i64 x.since, .int .i64 x.seq] (by rfl) (by exact H3.out.1) (by rfl) (by rfl) (by rfl) (by omega) (by decide) (by exact HS.out) ?_; intro v4 w4 hown4 hb4; obtain ⟨g4, cap4, rfl, hg4a, hg4b⟩ := hown4.form (by omega)) | (go_at_call 22; refine (FIN.out _ _ _ hown4 hb4).mono ?_; rintro e w' ⟨v, rfl, hown5, hb5⟩))
  go_returns
  exact ⟨v, rfl, hown5, hb5⟩
end Go.Proofs.Ytmanmebgmhpilaa
