/-
  Layer 25 (reply): the document's Get; codes and names; what comes back.
-/
import Derived.Test.YtobcjbpgeohbgaaGreatDoorReply3
namespace Go.Proofs.YtobcjbpgeohbgaaGreatDoor
open Go.RowKit
set_option linter.unusedVariables false

set_option maxRecDepth 100000 in
set_option maxHeartbeats 1000000 in
theorem rrget_any (s : ByteArray) (w : World) (hs : s.size ≤ 2147483648) : Calls Tryz.prog 25 #[.string s] w fun e w' => e = .returned (.tuple #[rpV (getR s).r, .int .i64 (getR s).err]) ∧ Below w.heap.size w w' := by
  have hT0 : RpAt (w.alloc (.cells (rpCells default).toArray 26)) w.heap.size default := IsObj.new w _ (rpCells default)
  have hb0 : Below w.heap.size w (w.alloc (.cells (rpCells default).toArray 26)) := (Below.refl _ _).alloc (Nat.le_refl _) _
  by_cases h15 : s.size < 15
  · rw [show getR s = ⟨default, 3⟩ from by rw [getR, if_pos h15]]
    clear hT0 hb0
    go_enter Tryz.func25, Tryz.ntmps25
    go_wp2
    go_returns
    exact ⟨rfl, (Below.refl _ _).alloc (Nat.le_refl _) _⟩
  · have HT0 := Lib.hid hT0
    have HB0 := Lib.hid hb0
    clear hT0 hb0
    obtain ⟨r0, hr0⟩ : ∃ r0, r0 = getR s := ⟨_, rfl⟩
    rw [← hr0]
    have HG0 := Lib.hid hr0
    clear hr0
    go_enter Tryz.func25, Tryz.ntmps25
    go_wp2_with fail
    refine (rwidthsR_any _).mono ?_
    rintro e w1 ⟨rfl, hWd, hb1, hs1⟩
    have HT1 := Lib.hid (HT0.out.same hb1)
    have HB1 := Lib.hid (HB0.out.trans (hb1.mono HB0.out.size))
    clear hb1 HT0 HB0
    go_wp2_with fail
    have hWd2 : ∀ k, k < 7 → w1.cell? ⟨w.heap.size + 1, k, none⟩ = some (.int .i64 (rw7 k : Int)) := by
      intro k hk
      have := hWd k hk
      rwa [alloc_sizeR] at this
    have hle : posN rw7 7 ≤ s.size := by rw [pos7]; omega
    have HNm := Lib.hid (numbersN_any rw7 7 (by omega) rw7_rng s (w.heap.size + 1) w1 hs hle hWd2)
    have q2 := decN_nn rw7 s 2
    have z2 := decN_lt rw7 s 2 (Nat.le_trans (posN_le rw7 (show 2 + 1 ≤ 7 by omega)) hle)
    rw [show (256 : Int) ^ rw7 2 = 256 from rfl] at z2
    clear hWd hs1 hWd2 hle
    refine HNm.out.mono ?_
    rintro e w2 ⟨v, rfl, hI, hb2⟩
    clear HNm
    have HT2 := Lib.hid (HT1.out.same hb2)
    have HB2 := Lib.hid (HB1.out.trans (hb2.mono HB1.out.size))
    clear hb2 HT1 HB1
    obtain ⟨a, c, rfl, n1, n2, n3⟩ := hI
    rw [listN_len] at n1 ⊢
    obtain ⟨b, off, rfl, hc⟩ : ∃ b off, a = some ⟨b, off, none⟩ ∧ ∀ i, i < 7 → w2.cell? ⟨b, off + i, none⟩ = some (.int .i64 (decN rw7 s i)) := by
      rcases n3 with h | ⟨b, off, rfl, hc⟩
      · have := congrArg List.length h
        rw [listN_len] at this
        cases this
      · exact ⟨b, off, rfl, fun i hi => by rw [hc i (by rw [listN_len]; exact hi), listN_at _ _ _ hi]⟩
    have ytto : decN rw7 s 2 = (decR s).tto + 1 := by show decN rw7 s 2 = (decN rw7 s 2 - 1) + 1; omega
    have htt : -1 ≤ (decR s).tto ∧ (decR s).tto ≤ 254 := by show -1 ≤ decN rw7 s 2 - 1 ∧ decN rw7 s 2 - 1 ≤ 254; omega
    have d0 : w2.cell? ⟨b, off, none⟩ = some (.int .i64 (decR s).id) := hc 0 (by omega)
    have d1 : w2.cell? ⟨b, off + 1, none⟩ = some (.int .i64 (decR s).frm) := hc 1 (by omega)
    have d2 : w2.cell? ⟨b, off + 2, none⟩ = some (.int .i64 ((decR s).tto + 1)) := by rw [← ytto]; exact hc 2 (by omega)
    have d3 : w2.cell? ⟨b, off + 3, none⟩ = some (.int .i64 (decR s).cod) := hc 3 (by omega)
    have d4 : w2.cell? ⟨b, off + 4, none⟩ = some (.int .i64 (decR s).thr) := hc 4 (by omega)
    have d5 : w2.cell? ⟨b, off + 5, none⟩ = some (.int .i64 (decR s).epo) := hc 5 (by omega)
    have d6 : w2.cell? ⟨b, off + 6, none⟩ = some (.int .i64 (decR s).tie) := hc 6 (by omega)
    have hGe : r0 = if 15 < s.size ∨ rpOk (decR s) = false then ⟨default, 2⟩ else ⟨decR s, 0⟩ := by rw [HG0.out, getR, if_neg h15]
    have HCk := Lib.hid (fun w => rrcheck_any (decR s) w)
    clear HG0 n3 hc ytto q2 z2
    generalize decR s = y at *
    have HG := Lib.hid hGe
    obtain ⟨tt1, tt2⟩ := htt
    have hwr : IntKind.i64.wrap y.tto = y.tto := IntWalk.i64_in _ (by omega)
    clear hGe
    go_wp2_with fail
    have n0 := World.new_ne w2 _ d0
    go_region_held3 (fun w' => w'.cell? ⟨b, off, none⟩ = some (.int .i64 y.id) ∧ w'.cell? ⟨b, off + 1, none⟩ = some (.int .i64 y.frm) ∧ w'.cell? ⟨b, off + 2, none⟩ = some (.int .i64 (y.tto + 1)) ∧ w'.cell? ⟨b, off + 3, none⟩ = some (.int .i64 y.cod) ∧ w'.cell? ⟨b, off + 4, none⟩ = some (.int .i64 y.thr) ∧ w'.cell? ⟨b, off + 5, none⟩ = some (.int .i64 y.epo) ∧ w'.cell? ⟨b, off + 6, none⟩ = some (.int .i64 y.tie)) (first | go_keep | assumption) (fail)
    rename_i hHeld
    obtain ⟨T, hT⟩ : ∃ T, T = w.heap.size := ⟨_, rfl⟩
    have hwT : w.heap.size ≤ T := by omega
    rw [← hT] at HT2 ⊢
    obtain ⟨W5, hW5⟩ : ∃ W5, W5 = (w2.alloc (.cells (rpCells y).toArray 26)).drew := ⟨_, rfl⟩
    have HT5 := Lib.hid (show IsObj W5 T 26 (rpCells default) by rw [hW5]; exact (IsObj.alloc HT2.out _).drew)
    have HP5 := Lib.hid (show IsObj W5 w2.heap.size 26 (rpCells y) by rw [hW5]; exact (IsObj.new w2 _ _).drew)
    have HB5 := Lib.hid (show Below w.heap.size w W5 by rw [hW5]; exact (HB2.out.alloc HB2.out.size _).drew)
    simp only [rpCells] at hW5
    rw [← hW5]
    obtain ⟨Pb, hPb⟩ : ∃ Pb, Pb = w2.heap.size := ⟨_, rfl⟩
    rw [← hPb] at HP5 ⊢
    clear hW5 hHeld hT hPb hwr n0 d0 d1 d2 d3 d4 d5 d6 HT2 HB2
    obtain ⟨t0, t1, t2, t3, t4, t5, t6⟩ := sevenR HT5.out
    obtain ⟨q0, q1, q2, q3, q4, q5, q6⟩ := sevenR HP5.out
    have fr : ∀ j, W5.frozen? ⟨T, j, none⟩ = false := fun j => IsObj.free HT5.out j
    have hT5l : T < W5.heap.size := IsObj.lt HT5.out
    have hP5l : Pb < W5.heap.size := IsObj.lt HP5.out
    by_cases hl : 15 < s.size
    · have he : r0 = ⟨default, 2⟩ := by rw [HG.out, if_pos (.inl hl)]
      subst he
      go_wp2
      obtain ⟨W', hW'⟩ : ∃ W', W' = set7 W5 T 0 0 0 0 0 0 0 := ⟨_, rfl⟩
      have hF : IsObj W' T 26 (rpCells default) := by rw [hW']; exact set7_at HT5.out default
      have hFB : Below w.heap.size w W' := by rw [hW']; exact set7_below HB5.out hwT
      obtain ⟨k0, k1, k2, k3, k4, k5, k6⟩ := sevenR hF
      have HFB := Lib.hid hFB
      unfold set7 at hW'
      rw [← hW']
      clear hW' hF hFB
      refine bodyPost_ret (v := .tuple #[rpV default, .int .i64 2]) (by simp [results, Tryz.results25, go_sem, k0, k1, k2, k3, k4, k5, k6]) rfl ?_
      exact ⟨rfl, HFB.out⟩
    · cases hk2 : rpOk y with
      | false =>
        have he : r0 = ⟨default, 2⟩ := by rw [HG.out, if_pos (.inr hk2)]
        subst he
        rw [errR_no hk2] at HCk
        go_wp2_with (go_at_call 47; (with_reducible refine (HCk.out _).mono ?_); rintro e w' ⟨rfl, hx⟩; obtain ⟨ux, rfl⟩ := ext_of hx; clear hx)
        obtain ⟨W', hW'⟩ : ∃ W', W' = set7 (ext W5 ux) T 0 0 0 0 0 0 0 := ⟨_, rfl⟩
        have hF : IsObj W' T 26 (rpCells default) := by rw [hW']; exact set7_at (IsObj.below HT5.out ux.below HT5.out.lt) default
        have hFB : Below w.heap.size w W' := by rw [hW']; exact set7_below (below_ext ux HB5.out HB5.out.size) hwT
        obtain ⟨k0, k1, k2, k3, k4, k5, k6⟩ := sevenR hF
        have HFB := Lib.hid hFB
        unfold set7 at hW'
        rw [← hW']
        clear hW' hF hFB
        refine bodyPost_ret (v := .tuple #[rpV default, .int .i64 2]) (by simp [results, Tryz.results25, go_sem, k0, k1, k2, k3, k4, k5, k6]) rfl ?_
        exact ⟨rfl, HFB.out⟩
      | true =>
        have he : r0 = ⟨y, 0⟩ := by rw [HG.out, if_neg (by rintro (h2 | h2); exact hl h2; rw [hk2] at h2; cases h2)]
        subst he
        rw [errR_yes hk2] at HCk
        go_wp2_with (go_at_call 47; (with_reducible refine (HCk.out _).mono ?_); rintro e w' ⟨rfl, hx⟩; obtain ⟨ux, rfl⟩ := ext_of hx; clear hx)
        obtain ⟨W', hW'⟩ : ∃ W', W' = set7 (ext W5 ux) T y.id y.frm y.tto y.cod y.thr y.epo y.tie := ⟨_, rfl⟩
        have hF : IsObj W' T 26 (rpCells y) := by rw [hW']; exact set7_at (IsObj.below HT5.out ux.below HT5.out.lt) y
        have hFB : Below w.heap.size w W' := by rw [hW']; exact set7_below (below_ext ux HB5.out HB5.out.size) hwT
        obtain ⟨k0, k1, k2, k3, k4, k5, k6⟩ := sevenR hF
        have HFB := Lib.hid hFB
        unfold set7 at hW'
        rw [← hW']
        clear hW' hF hFB
        refine bodyPost_ret (v := .tuple #[rpV y, .int .i64 0]) (by simp [results, Tryz.results25, go_sem, k0, k1, k2, k3, k4, k5, k6]) rfl ?_
        exact ⟨rfl, HFB.out⟩

/-! ### What comes back -/
theorem rec7 {s : ByteArray} {x : Rp} (h : ∀ k, k < 7 → decN rw7 s k = rv x k) : decR s = x := by
  unfold decR
  rw [h 0 (by omega), h 1 (by omega), h 2 (by omega), h 3 (by omega), h 4 (by omega), h 5 (by omega), h 6 (by omega)]
  show (⟨x.id, x.frm, x.tto + 1 - 1, x.cod, x.thr, x.epo, x.tie⟩ : Rp) = x
  rw [Int.add_sub_cancel]
theorem get_putR {x : Rp} (h : rpOk x = true) : getR (ofL (encN rw7 (rv x) 7)) = ⟨x, 0⟩ ∧ (ofL (encN rw7 (rv x) 7)).size = 15 := by
  have hsz : (ofL (encN rw7 (rv x) 7)).size = 15 := by rw [← bl_len, bl_ofL, encN_len, pos7]
  have hd : decR (ofL (encN rw7 (rv x) 7)) = x := rec7 fun k hk => decN_encN rw7 (rv x) 7 k hk (rp_num h k hk).1 (rp_num h k hk).2
  refine ⟨?_, hsz⟩
  rw [getR, if_neg (by rw [hsz]; omega), hd, if_neg (by rw [hsz, h]; simp)]
theorem rv_dec (s : ByteArray) (k : Nat) (h : k < 7) : rv (decR s) k = decN rw7 s k := by
  rcases lt7R h with rfl | rfl | rfl | rfl | rfl | rfl | rfl
  · rfl
  · rfl
  · show decN rw7 s 2 - 1 + 1 = decN rw7 s 2; omega
  · rfl
  · rfl
  · rfl
  · rfl
theorem put_getR {s : ByteArray} {y : Rp} (h : getR s = ⟨y, 0⟩) : rpOk y = true ∧ ofL (encN rw7 (rv y) 7) = s := by
  unfold getR at h
  by_cases h1 : s.size < 15
  · rw [if_pos h1] at h
    exact absurd (show (3 : Int) = 0 from congrArg Gr.err h) (by decide)
  · rw [if_neg h1] at h
    by_cases h2 : 15 < s.size ∨ rpOk (decR s) = false
    · rw [if_pos h2] at h
      exact absurd (show (2 : Int) = 0 from congrArg Gr.err h) (by decide)
    · rw [if_neg h2] at h
      have hy : decR s = y := congrArg Gr.r h
      have hs : s.size = 15 := by omega
      have hk : rpOk (decR s) = true := by
        cases hb : rpOk (decR s) with
        | true => rfl
        | false => exact absurd (.inr hb) h2
      rw [← hy]
      refine ⟨hk, ?_⟩
      rw [encN_congr rw7 (rv (decR s)) (decN rw7 s) 7 (fun k hk => rv_dec s k hk), encN_decN rw7 s 7 (by rw [pos7]; omega), pos7, List.take_of_length_le (by rw [bl_len, hs]; decide), ofL_bl]
theorem getR_err (s : ByteArray) : (getR s).err = 0 ∨ (getR s).err = 2 ∨ (getR s).err = 3 := by
  unfold getR
  split
  · exact .inr (.inr rfl)
  · split
    · exact .inr (.inl rfl)
    · exact .inl rfl
theorem putR_le (x : Rp) : (putR x).size ≤ 2147483648 := by
  unfold putR
  split
  · rw [← bl_len, bl_ofL, encN_len, pos7]; decide
  · decide
theorem back_factsR (body : ByteArray) : (getR body).err = 0 ∧ errR (getR body).r = 0 ∧ putR (getR body).r = body ∨ ((getR body).err != 0) = true := by
  rcases getR_err body with h | h | h
  · refine .inl ⟨h, ?_⟩
    have e : getR body = ⟨(getR body).r, 0⟩ := by
      rw [← h]
    obtain ⟨h1, h2⟩ := put_getR e
    exact ⟨errR_yes h1, by unfold putR; rw [if_pos h1]; exact h2⟩
  · exact .inr (by rw [h]; rfl)
  · exact .inr (by rw [h]; rfl)
end Go.Proofs.YtobcjbpgeohbgaaGreatDoor
