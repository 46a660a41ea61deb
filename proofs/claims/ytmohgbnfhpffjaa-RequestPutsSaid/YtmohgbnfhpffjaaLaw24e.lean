/-
  Layer 24 (request): the document's Row and Put, and Item.
-/
import Derived.Test.YtmohgbnfhpffjaaLaw24c
namespace Go.Proofs.Ytmohgbnfhpffjaa
open Go.RowKit
set_option linter.unusedVariables false

set_option maxRecDepth 100000 in
set_option maxHeartbeats 1000000 in
theorem row_any (x : Rq) (hx : rqOk x = true) (b1 b2 : Nat) (w : World) (h1 : ∀ k, k < 6 → w.cell? ⟨b1, k, none⟩ = some (.int .i64 (fld x k + sft k))) (h2 : ∀ k, k < 6 → w.cell? ⟨b2, k, none⟩ = some (.int .i64 (wd k))) :
    Calls Try.prog 52 #[.slice (some ⟨b1, 0, none⟩) 6 6, .slice (some ⟨b2, 0, none⟩) 6 6] w fun e w' => e = .returned (.string (ofL (rqL x 6))) ∧ Below w.heap.size w w' := by
  have H1 := Lib.hid h1
  have H2 := Lib.hid h2
  have HPN := Lib.hid (part_num hx)
  have HFR := Lib.hid (fld_rng hx)
  have l1 := cell_lt (h1 0 (by omega))
  have l2 := cell_lt (h2 0 (by omega))
  simp only at l1 l2
  clear h1 h2 hx
  go_enter Try.func52, Try.ntmps52
  go_wp2
  go_loopw [5, 6] (fun v i wr => ∃ k : Nat, k ≤ 6 ∧ i = .int .i64 k ∧ v = .string (ofL (rqL x k)) ∧ Below w.heap.size w wr) (fun _ i _ => 6 - (intOf i).toNat)
  case atStart => exact ⟨0, by omega, rfl, rfl, Below.refl _ _⟩
  case round =>
    obtain ⟨k, hk, rfl, rfl, hb⟩ := hrel
    have HB := Lib.hid hb
    have hsz := hb.size
    clear hb
    by_cases hlt : k < 6
    · have c0 := cell_keep HB.out (H1.out k hlt)
      have c1 := cell_keep HB.out (H2.out k hlt)
      have m1 : b1 < wr.heap.size := by omega
      have m2 : b2 < wr.heap.size := by omega
      have i1 : (0 : Int) ≤ (k : Int) := by omega
      have i2 : (k : Int) < 6 := by omega
      have hn := HPN.out k hlt
      obtain ⟨f1, f2⟩ := HFR.out k hlt
      obtain ⟨f3, f4⟩ := sft_rng k hlt
      obtain ⟨g1, g2⟩ := wd_rng k hlt
      have P := fun w => rnum_is (fld x k + sft k) (wd k) w true (by omega) hn
      have hS : numS (fld x k + sft k) (wd k) = ofL (beB (fld x k + sft k) (wd k).toNat) := by
        obtain ⟨W, e, q1, q6, q0, qn⟩ := numOk_ok hn
        unfold numS
        rw [if_neg (by omega)]
      rw [hS] at P
      have happ := append_ofL (ofL (rqL x k)) (beB (fld x k + sft k) (wd k).toNat)
      rw [bl_ofL, show rqL x k ++ beB (fld x k + sft k) (wd k).toNat = rqL x (k + 1) from rfl] at happ
      have hl1 : (ofL (rqL x k)).size ≤ 36 := by
        rw [← bl_len, bl_ofL]
        have := rqL_len x k (by omega)
        omega
      have hl2 : (ofL (beB (fld x k + sft k) (wd k).toNat)).size ≤ 6 := by
        rw [← bl_len, bl_ofL, beB_len]
        exact wd_le k hlt
      have HP := Lib.hid P
      have HApp := Lib.hid happ
      clear P hS happ hn
      generalize hq2 : ofL (rqL x (k + 1)) = s2 at *
      have HQ2 := Lib.hid hq2
      clear hq2
      generalize ofL (rqL x k) = s1 at *
      generalize ofL (beB (fld x k + sft k) (wd k).toNat) = t at *
      generalize fld x k + sft k = v at *
      generalize wd k = p at *
      go_wp2_with fail
      ((first | (with_reducible refine region_ext2 (by kernel_rfl) (by kernel_rfl) ?_) | (refine region_ext (by kernel_rfl) (by kernel_rfl) ?_)); (repeat ((with_reducible refine wpQuiet_step (fun K hK => ?_)); go_simp; (first | ((refine hK _ ?_); clear hK K) | ((apply Exists.intro); (refine ⟨fun _ => ?_, hK _ ?_⟩); (first | (go_at_call 22; with_reducible exact ext_below (HP.out _))); clear hK K)))); refine wpQuiet_nil ?_; rintro _ ⟨uq, rfl⟩)
      go_wp2
      exact ⟨⟨k + 1, by omega, by go_num, by rw [HApp.out, HQ2.out], below_ext _ HB.out hsz⟩, by simp only [intOf]; omega⟩
    · obtain rfl : k = 6 := by omega
      go_wp2
      go_ret
      exact ⟨rfl, HB.out⟩

theorem lrow_at (x : Rq) (W : World) : ∀ k, k < 6 → (W.alloc (.cells #[.int .i64 x.id, .int .i64 (x.frm + 1), .int .i64 x.tto, .int .i64 x.lev, .int .i64 x.dl, .int .i64 x.bud] 3)).cell? ⟨W.heap.size, k, none⟩ = some (.int .i64 (fld x k + sft k)) := by
  intro k hk
  rw [cell_new]
  rcases lt6 hk with rfl | rfl | rfl | rfl | rfl | rfl
  · show some (Value.int .i64 x.id) = some (Value.int .i64 (x.id + 0)); rw [Int.add_zero]
  · rfl
  · show some (Value.int .i64 x.tto) = some (Value.int .i64 (x.tto + 0)); rw [Int.add_zero]
  · show some (Value.int .i64 x.lev) = some (Value.int .i64 (x.lev + 0)); rw [Int.add_zero]
  · show some (Value.int .i64 x.dl) = some (Value.int .i64 (x.dl + 0)); rw [Int.add_zero]
  · show some (Value.int .i64 x.bud) = some (Value.int .i64 (x.bud + 0)); rw [Int.add_zero]
theorem keep6 {W W1 : World} {A : Nat} {a b c d e f : Value} (hb : Below W.heap.size W W1) (h : W.cell? ⟨A, 0, none⟩ = some a ∧ W.cell? ⟨A, 1, none⟩ = some b ∧ W.cell? ⟨A, 2, none⟩ = some c ∧ W.cell? ⟨A, 3, none⟩ = some d ∧ W.cell? ⟨A, 4, none⟩ = some e ∧ W.cell? ⟨A, 5, none⟩ = some f) :
    W1.cell? ⟨A, 0, none⟩ = some a ∧ W1.cell? ⟨A, 1, none⟩ = some b ∧ W1.cell? ⟨A, 2, none⟩ = some c ∧ W1.cell? ⟨A, 3, none⟩ = some d ∧ W1.cell? ⟨A, 4, none⟩ = some e ∧ W1.cell? ⟨A, 5, none⟩ = some f :=
  ⟨cell_keep hb h.1, cell_keep hb h.2.1, cell_keep hb h.2.2.1, cell_keep hb h.2.2.2.1, cell_keep hb h.2.2.2.2.1, cell_keep hb h.2.2.2.2.2⟩
set_option maxRecDepth 100000 in
set_option maxHeartbeats 1000000 in
theorem rqput_ok (x : Rq) (w : World) (h : rqOk x = true) : Calls Try.prog 32 #[rqV x] w fun e w' => e = .returned (.tuple #[.string (ofL (rqL x 6)), .int .i64 0]) ∧ Below w.heap.size w w' := by
  have HC := Lib.hid (fun w => rcheck_any x w)
  unfold errOf at HC
  rw [h, if_pos rfl] at HC
  have hwr : IntKind.i64.wrap (x.frm + 1) = x.frm + 1 := by
    have := fld_rng h 1 (by omega)
    have h1 : -1 ≤ x.frm ∧ x.frm ≤ 281474976710655 := this
    exact IntWalk.i64_in _ (by omega)
  have HRow := Lib.hid (row_any x h)
  have hR := IsObj.new w 48 (rqCells x)
  have hB0 : Below w.heap.size w (w.alloc (.cells (rqCells x).toArray 48)) := (Below.refl _ _).alloc (Nat.le_refl _) _
  have HR := Lib.hid hR
  have HB0 := Lib.hid hB0
  clear hR hB0 h
  go_enter Try.func32, Try.ntmps32
  go_wp2_with fail
  refine (HC.out _).mono ?_
  rintro e w1 ⟨rfl, hb1⟩
  have hR1 : RqAt w1 w.heap.size x := RqAt.same HR.out hb1
  have hB1 := HB0.out.trans (hb1.mono HB0.out.size)
  obtain ⟨d0, d1, d2, d3, d4, d5⟩ := hR1.six
  have HB1 := Lib.hid hB1
  have hsz1 := hB1.size
  obtain ⟨A, hA⟩ : ∃ A, A = w.heap.size := ⟨_, rfl⟩
  rw [← hA] at d0 d1 d2 d3 d4 d5
  clear hR1 hB1 hb1 HR HB0
  go_wp2_with fail
  rw [← hA]
  clear hA
  have n0 := World.new_ne w1 _ d0
  have n1 := World.new_ne w1 _ d1
  have n2 := World.new_ne w1 _ d2
  have n3 := World.new_ne w1 _ d3
  have n4 := World.new_ne w1 _ d4
  have n5 := World.new_ne w1 _ d5
  go_region_held3 (fun w' => w'.cell? ⟨A, 0, none⟩ = some (.int .i64 x.id) ∧ w'.cell? ⟨A, 1, none⟩ = some (.int .i64 x.frm) ∧ w'.cell? ⟨A, 2, none⟩ = some (.int .i64 x.tto) ∧ w'.cell? ⟨A, 3, none⟩ = some (.int .i64 x.lev) ∧ w'.cell? ⟨A, 4, none⟩ = some (.int .i64 x.dl) ∧ w'.cell? ⟨A, 5, none⟩ = some (.int .i64 x.bud)) (first | go_keep | assumption)
    (first | (go_at_call 51; with_reducible refine (widths_any _).mono ?_; rintro e w2 ⟨rfl, hWd, hb2, hs2⟩; have hk2 := keep6 hb2 (by assumption)) | (go_at_call 52; refine (HRow.out _ _ _ (fun k hk => by (first | exact cell_keep hb2 (lrow_at x _ k hk) | exact lrow_at x _ k hk)) (fun k hk => by (first | (simpa using hWd k hk) | exact cell_keep ((Below.refl _ _).alloc (Nat.le_refl _) _) (by simpa using hWd k hk)))).mono ?_; rintro e w3 ⟨rfl, hb3⟩; have hk3 := keep6 hb3 (by assumption)))
  · have b2 := (HB1.out.alloc hsz1 (.cells #[.int .i64 x.id, .int .i64 (x.frm + 1), .int .i64 x.tto, .int .i64 x.lev, .int .i64 x.dl, .int .i64 x.bud] 3)).drew.trans (hb2.mono (by simp; omega))
    have HB3 := Lib.hid (b2.trans (hb3.mono b2.size))
    clear hk2 hk3 hWd hb2 hs2 hb3 b2
    go_wp2
    go_returns
    exact ⟨rfl, HB3.out⟩
  · have b2 := HB1.out.drew.trans (hb2.mono hsz1)
    have b3 := b2.alloc b2.size (.cells #[.int .i64 x.id, .int .i64 (x.frm + 1), .int .i64 x.tto, .int .i64 x.lev, .int .i64 x.dl, .int .i64 x.bud] 3)
    have HB3 := Lib.hid (b3.trans (hb3.mono b3.size))
    clear hk2 hk3 hWd hb2 hs2 hb3 b2 b3
    go_wp2
    go_returns
    exact ⟨rfl, HB3.out⟩
theorem rqput_bad (x : Rq) (w : World) (h : rqOk x = false) : Calls Try.prog 32 #[rqV x] w fun e w' => e = .returned (.tuple #[.string ⟨#[]⟩, .int .i64 1]) ∧ Below w.heap.size w w' := by
  have HC := Lib.hid (fun w => rcheck_any x w)
  unfold errOf at HC
  rw [h, if_neg (by decide)] at HC
  go_enter Try.func32, Try.ntmps32
  go_wp2_with fail
  refine (HC.out _).mono ?_
  rintro e w1 ⟨rfl, hb⟩
  go_wp2
  go_returns
  exact ⟨rfl, ((Below.refl _ _).alloc (Nat.le_refl _) _).trans (hb.mono (by simp))⟩
theorem rqput_any (x : Rq) (w : World) : Calls Try.prog 32 #[rqV x] w fun e w' => e = .returned (.tuple #[.string (putS x), .int .i64 (errOf x)]) ∧ Below w.heap.size w w' := by
  unfold putS errOf
  cases h : rqOk x with
  | true => rw [if_pos rfl, if_pos rfl]; exact rqput_ok x w h
  | false => rw [if_neg (by decide), if_neg (by decide)]; exact rqput_bad x w h
/-- What waits of a request. -/
abbrev itemV (x : Rq) (now seq : Int) : Value := .agg #[.int .i64 x.id, .int .i64 x.lev, .int .i64 x.frm, .int .i64 x.dl, .int .i64 x.bud, .int .i64 now, .int .i64 seq]
theorem item_any (x : Rq) (now seq : Int) (w : World) : Calls Try.prog 35 #[rqV x, .int .i64 now, .int .i64 seq] w fun e w' => e = .returned (itemV x now seq) ∧ Below w.heap.size w w' := by
  go_enter Try.func35, Try.ntmps35
  go_wp2
  refine bodyPost_ret (v := itemV x now seq) (by simp [results, Try.results35, go_sem]) rfl ?_
  exact ⟨rfl, ((Below.refl _ _).alloc (Nat.le_refl _) _).alloc (by simp) _⟩
end Go.Proofs.Ytmohgbnfhpffjaa
