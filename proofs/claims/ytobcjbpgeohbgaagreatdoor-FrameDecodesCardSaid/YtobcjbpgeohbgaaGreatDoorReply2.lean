/-
  Layer 25 (reply): Put, and the document's Put.
-/
import Derived.Test.YtobcjbpgeohbgaaGreatDoorReply
namespace Go.Proofs.YtobcjbpgeohbgaaGreatDoor
open Go.RowKit
set_option linter.unusedVariables false

def prL (x : Rp) : List Value := [.int .i64 x.id, .int .i64 6, .int .i64 x.frm, .int .i64 1, .int .i64 (x.tto + 1), .int .i64 1, .int .i64 x.cod, .int .i64 1, .int .i64 x.thr, .int .i64 1, .int .i64 x.epo, .int .i64 4, .int .i64 x.tie, .int .i64 1]
theorem prL_at (x : Rp) (k : Nat) (h : k < 7) : (prL x)[k * 2]? = some (.int .i64 (rv x k)) ∧ (prL x)[k * 2 + 1]? = some (.int .i64 (rw7 k : Int)) := by
  rcases lt7R h with rfl | rfl | rfl | rfl | rfl | rfl | rfl <;> exact ⟨rfl, rfl⟩
def putR (x : Rp) : ByteArray := if rpOk x = true then ofL (encN rw7 (rv x) 7) else ⟨#[]⟩
theorem ypput_bad (x : Rp) (w : World) (hN : NmAt w) (h : rpOk x = false) : Calls Tryz.prog 141 #[rpV x] w fun e w' => e = .returned (.tuple #[.string ⟨#[]⟩, .int .i64 1]) ∧ Below w.heap.size w w' := by
  have hb0 : Below w.heap.size w (w.alloc (.cells (rpCells x).toArray 26)) := (Below.refl _ _).alloc (Nat.le_refl _) _
  have HC := Lib.hid (ypcheck_any x _ (hN.same hb0))
  rw [errR_no h] at HC
  have HB0 := Lib.hid hb0
  clear hb0 hN
  go_enter Tryz.func141, Tryz.ntmps141
  go_wp2_with fail
  refine HC.out.mono ?_
  rintro e w1 ⟨rfl, hb⟩
  go_wp2
  go_returns
  exact ⟨rfl, HB0.out.trans (hb.mono HB0.out.size)⟩
set_option maxRecDepth 100000 in
set_option maxHeartbeats 1000000 in
theorem ypput_ok (x : Rp) (w : World) (hN : NmAt w) (h : rpOk x = true) : Calls Tryz.prog 141 #[rpV x] w fun e w' => e = .returned (.tuple #[.string (ofL (encN rw7 (rv x) 7)), .int .i64 0]) ∧ Below w.heap.size w w' := by
  have hb0 : Below w.heap.size w (w.alloc (.cells (rpCells x).toArray 26)) := (Below.refl _ _).alloc (Nat.le_refl _) _
  have HC := Lib.hid (ypcheck_any x _ (hN.same hb0))
  rw [errR_yes h] at HC
  have HR0 := Lib.hid (show RpAt (w.alloc (.cells (rpCells x).toArray 26)) w.heap.size x from IsObj.new w _ (rpCells x))
  have HB0 := Lib.hid hb0
  have HN := Lib.hid (fun k hk => rp_ok h k hk)
  have htt : -1 ≤ x.tto ∧ x.tto ≤ 7 := by
    have h2 := h
    simp only [rpOk, decide_eq_true_eq] at h2
    exact h2.2.2.2.2.1
  obtain ⟨tt1, tt2⟩ := htt
  clear hb0 hN h
  go_enter Tryz.func141, Tryz.ntmps141
  go_wp2_with fail
  refine HC.out.mono ?_
  rintro e w1 ⟨rfl, hb1⟩
  obtain ⟨a0, a1, a2, a3, a4, a5, a6⟩ := sevenR (RpAt.same HR0.out hb1)
  have HB1 := Lib.hid (HB0.out.trans (hb1.mono HB0.out.size))
  clear hb1 HR0 HB0 HC
  obtain ⟨W2, hW2⟩ : ∃ W2, W2 = w1.alloc (.cells (prL x).toArray 179) := ⟨_, rfl⟩
  have hP : IsObj W2 w1.heap.size 179 (prL x) := by rw [hW2]; exact IsObj.new w1 _ _
  have HB2 := Lib.hid (show Below w.heap.size w W2 by rw [hW2]; exact HB1.out.alloc HB1.out.size _)
  have HP := Lib.hid hP
  clear hP
  simp only [prL] at hW2
  go_wp2_with fail
  rw [← hW2]
  clear hW2 a0 a1 a2 a3 a4 a5 a6
  obtain ⟨P, hPP⟩ : ∃ P, P = w1.heap.size := ⟨_, rfl⟩
  rw [← hPP] at HP ⊢
  clear hPP
  go_loopw [5, 37] (fun sv i wr => ∃ k : Nat, k ≤ 7 ∧ i = .int .i64 k ∧ sv = .string (ofL (encN rw7 (rv x) k)) ∧ Below W2.heap.size W2 wr) (fun _ i _ => 7 - (intOf i).toNat)
  case atStart => exact ⟨0, by omega, rfl, rfl, Below.refl _ _⟩
  case round =>
    obtain ⟨k, hk, rfl, rfl, hb⟩ := hrel
    have HB := Lib.hid hb
    have hsz := hb.size
    have hPr := IsObj.below HP.out hb HP.out.lt
    have hPl := IsObj.lt hPr
    clear hb
    by_cases hlt : k < 7
    · have c0 := (IsObj.cell hPr (k * 2)).trans (prL_at x k hlt).1
      have c1 := (IsObj.cell hPr (k * 2 + 1)).trans (prL_at x k hlt).2
      have i1 : (0 : Int) ≤ (k : Int) := by omega
      have i2 : (k : Int) < 7 := by omega
      have hs : (ofL (encN rw7 (rv x) k)).size ≤ 2147483648 := by
        rw [← bl_len, bl_ofL, encN_len]
        have h1 := posN_le rw7 (show k ≤ 7 by omega)
        rw [pos7] at h1
        omega
      have hp := fun w => put_yes (ofL (encN rw7 (rv x) k)) (rv x k) (rw7 k : Int) w hs (HN.out k hlt)
      rw [bl_ofL, Int.toNat_natCast, show encN rw7 (rv x) k ++ beB (rv x k) (rw7 k) = encN rw7 (rv x) (k + 1) from rfl] at hp
      generalize hq : ofL (encN rw7 (rv x) (k + 1)) = s2 at *
      have HQ := Lib.hid hq
      generalize ofL (encN rw7 (rv x) k) = s1 at *
      generalize rv x k = v at *
      generalize (rw7 k : Int) = p at *
      have HPt := Lib.hid hp
      clear hp hs hq hPr
      go_wp2_with (go_at_call 74; refine (HPt.out _).mono ?_; rintro e w3 ⟨rfl, hb3⟩)
      exact ⟨⟨k + 1, by omega, by go_num, by rw [HQ.out], (HB.out.alloc hsz _).trans (hb3.mono (by rw [alloc_sizeR]; omega))⟩, by simp only [intOf]; omega⟩
    · obtain rfl : k = 7 := by omega
      clear hPr
      go_wp2
      go_returns
      exact ⟨rfl, HB2.out.trans (HB.out.mono HB2.out.size)⟩
theorem ypput_any (x : Rp) (w : World) (hN : NmAt w) : Calls Tryz.prog 141 #[rpV x] w fun e w' => e = .returned (.tuple #[.string (putR x), .int .i64 (errR x)]) ∧ Below w.heap.size w w' := by
  unfold putR errR
  cases h : rpOk x with
  | true => rw [if_pos rfl, if_pos rfl]; exact ypput_ok x w hN h
  | false => rw [if_neg (by decide), if_neg (by decide)]; exact ypput_bad x w hN h

/-! ### The document's Put -/
theorem rwidthsR_any (w : World) : Calls Tryz.prog 46 #[] w fun e w' => e = .returned (.slice (some ⟨w.heap.size, 0, none⟩) 7 7) ∧ (∀ k, k < 7 → w'.cell? ⟨w.heap.size, k, none⟩ = some (.int .i64 (rw7 k : Int))) ∧ Below w.heap.size w w' ∧ w.heap.size < w'.heap.size := by
  have hc : ∀ k, k < 7 → (w.alloc (.cells #[.int .i64 6, .int .i64 1, .int .i64 1, .int .i64 1, .int .i64 1, .int .i64 4, .int .i64 1] 3)).cell? ⟨w.heap.size, k, none⟩ = some (.int .i64 (rw7 k : Int)) := by
    intro k hk
    rw [cell_new]
    rcases lt7R hk with rfl | rfl | rfl | rfl | rfl | rfl | rfl <;> rfl
  have HC := Lib.hid hc
  clear hc
  go_enter Tryz.func46, Tryz.ntmps46
  go_wp2
  go_ret
  exact ⟨rfl, HC.out, (Below.refl _ _).alloc (Nat.le_refl _) _, by simp⟩
theorem rrput_bad (x : Rp) (w : World) (h : rpOk x = false) : Calls Tryz.prog 54 #[rpV x] w fun e w' => e = .returned (.tuple #[.string ⟨#[]⟩, .int .i64 1]) ∧ Below w.heap.size w w' := by
  have HC := Lib.hid (fun w => rrcheck_any x w)
  rw [errR_no h] at HC
  go_enter Tryz.func54, Tryz.ntmps54
  go_wp2_with fail
  refine (HC.out _).mono ?_
  rintro e w1 ⟨rfl, hb⟩
  go_wp2
  go_returns
  exact ⟨rfl, ((Below.refl _ _).alloc (Nat.le_refl _) _).trans (hb.mono (by simp))⟩
abbrev rvL (x : Rp) : List Value := [.int .i64 x.id, .int .i64 x.frm, .int .i64 (x.tto + 1), .int .i64 x.cod, .int .i64 x.thr, .int .i64 x.epo, .int .i64 x.tie]
theorem rvL_at (x : Rp) (W : World) : ∀ k, k < 7 → (W.alloc (.cells (rvL x).toArray 3)).cell? ⟨W.heap.size, 0 + k, none⟩ = some (.int .i64 (rv x k)) := by
  intro k hk
  rw [Nat.zero_add, cell_new]
  rcases lt7R hk with rfl | rfl | rfl | rfl | rfl | rfl | rfl <;> rfl
theorem keep7 {W W1 : World} {A : Nat} {a b c d e f g : Value} (hb : Below W.heap.size W W1) (h : W.cell? ⟨A, 0, none⟩ = some a ∧ W.cell? ⟨A, 1, none⟩ = some b ∧ W.cell? ⟨A, 2, none⟩ = some c ∧ W.cell? ⟨A, 3, none⟩ = some d ∧ W.cell? ⟨A, 4, none⟩ = some e ∧ W.cell? ⟨A, 5, none⟩ = some f ∧ W.cell? ⟨A, 6, none⟩ = some g) :
    W1.cell? ⟨A, 0, none⟩ = some a ∧ W1.cell? ⟨A, 1, none⟩ = some b ∧ W1.cell? ⟨A, 2, none⟩ = some c ∧ W1.cell? ⟨A, 3, none⟩ = some d ∧ W1.cell? ⟨A, 4, none⟩ = some e ∧ W1.cell? ⟨A, 5, none⟩ = some f ∧ W1.cell? ⟨A, 6, none⟩ = some g :=
  ⟨cell_keep hb h.1, cell_keep hb h.2.1, cell_keep hb h.2.2.1, cell_keep hb h.2.2.2.1, cell_keep hb h.2.2.2.2.1, cell_keep hb h.2.2.2.2.2.1, cell_keep hb h.2.2.2.2.2.2⟩
set_option maxRecDepth 100000 in
set_option maxHeartbeats 1000000 in
theorem rrput_ok (x : Rp) (w : World) (h : rpOk x = true) : Calls Tryz.prog 54 #[rpV x] w fun e w' => e = .returned (.tuple #[.string (ofL (encN rw7 (rv x) 7)), .int .i64 0]) ∧ Below w.heap.size w w' := by
  have HC := Lib.hid (fun w => rrcheck_any x w)
  rw [errR_yes h] at HC
  have HN := Lib.hid (fun k hk => rp_ok h k hk)
  have hwr : IntKind.i64.wrap (x.tto + 1) = x.tto + 1 := by
    have h2 := h
    simp only [rpOk, decide_eq_true_eq] at h2
    exact IntWalk.i64_in _ (by omega)
  have hb0 : Below w.heap.size w (w.alloc (.cells (rpCells x).toArray 26)) := (Below.refl _ _).alloc (Nat.le_refl _) _
  have HR0 := Lib.hid (show RpAt (w.alloc (.cells (rpCells x).toArray 26)) w.heap.size x from IsObj.new w _ (rpCells x))
  have HB0 := Lib.hid hb0
  clear hb0 h
  go_enter Tryz.func54, Tryz.ntmps54
  go_wp2_with fail
  refine (HC.out _).mono ?_
  rintro e w1 ⟨rfl, hb1⟩
  obtain ⟨d0, d1, d2, d3, d4, d5, d6⟩ := sevenR (RpAt.same HR0.out hb1)
  have HB1 := Lib.hid (HB0.out.trans (hb1.mono HB0.out.size))
  have hsz1 := HB1.out.size
  obtain ⟨A, hA⟩ : ∃ A, A = w.heap.size := ⟨_, rfl⟩
  rw [← hA] at d0 d1 d2 d3 d4 d5 d6
  clear hb1 HR0 HB0 HC
  go_wp2_with fail
  rw [← hA]
  clear hA
  have n0 := World.new_ne w1 _ d0
  have n1 := World.new_ne w1 _ d1
  have n2 := World.new_ne w1 _ d2
  have n3 := World.new_ne w1 _ d3
  have n4 := World.new_ne w1 _ d4
  have n5 := World.new_ne w1 _ d5
  have n6 := World.new_ne w1 _ d6
  go_region_held3 (fun w' => w'.cell? ⟨A, 0, none⟩ = some (.int .i64 x.id) ∧ w'.cell? ⟨A, 1, none⟩ = some (.int .i64 x.frm) ∧ w'.cell? ⟨A, 2, none⟩ = some (.int .i64 x.tto) ∧ w'.cell? ⟨A, 3, none⟩ = some (.int .i64 x.cod) ∧ w'.cell? ⟨A, 4, none⟩ = some (.int .i64 x.thr) ∧ w'.cell? ⟨A, 5, none⟩ = some (.int .i64 x.epo) ∧ w'.cell? ⟨A, 6, none⟩ = some (.int .i64 x.tie)) (first | go_keep | assumption)
    (first | (go_at_call 46; with_reducible refine (rwidthsR_any _).mono ?_; rintro e w2 ⟨rfl, hWd, hb2, hs2⟩; have hk2 := keep7 hb2 (by assumption)) | (go_at_call 76; refine (rowN_any rw7 (rv x) 7 (by omega) HN.out _ 0 7 _ _ (fun k hk => by (first | exact cell_keep hb2 (rvL_at x _ k hk) | exact rvL_at x _ k hk)) (fun k hk => by (first | (simpa using hWd k hk) | exact cell_keep ((Below.refl _ _).alloc (Nat.le_refl _) _) (by simpa using hWd k hk))) (by omega)).mono ?_; rintro e w3 ⟨rfl, hb3⟩; have hk3 := keep7 hb3 (by assumption)))
  · have b2 := (HB1.out.alloc hsz1 (.cells (rvL x).toArray 3)).drew.trans (hb2.mono (by simp; omega))
    have HB3 := Lib.hid (b2.trans (hb3.mono b2.size))
    clear hk2 hk3 hWd hb2 hs2 hb3 b2
    go_wp2
    go_returns
    exact ⟨rfl, HB3.out⟩
  · have b2 := HB1.out.drew.trans (hb2.mono hsz1)
    have b3 := b2.alloc b2.size (.cells (rvL x).toArray 3)
    have HB3 := Lib.hid (b3.trans (hb3.mono b3.size))
    clear hk2 hk3 hWd hb2 hs2 hb3 b2 b3
    go_wp2
    go_returns
    exact ⟨rfl, HB3.out⟩
theorem rrput_any (x : Rp) (w : World) : Calls Tryz.prog 54 #[rpV x] w fun e w' => e = .returned (.tuple #[.string (putR x), .int .i64 (errR x)]) ∧ Below w.heap.size w w' := by
  unfold putR errR
  cases h : rpOk x with
  | true => rw [if_pos rfl, if_pos rfl]; exact rrput_ok x w h
  | false => rw [if_neg (by decide), if_neg (by decide)]; exact rrput_bad x w h
end Go.Proofs.YtobcjbpgeohbgaaGreatDoor
