/-
  The statement OctetBack of layer 2 (octet). No condition.
-/
import Derived.Test.YtmohgbnfhpffjaaLaw02b
namespace Go.Proofs.Ytmohgbnfhpffjaa
open Go.RowKit
set_option linter.unusedVariables false

/-- The bytes of one number, if it may be put. -/
def encO (x : OA) : List UInt8 := if numOk x.n x.kind = true then beB x.n x.kind.toNat else []
theorem encO_le (x : OA) : (encO x).length ≤ 6 := by
  unfold encO
  split
  · rename_i h
    obtain ⟨W, e, h1, h6, _, _⟩ := numOk_ok h
    rw [beB_len, e]
    simpa using h6
  · simp
theorem flat_le (l : List OA) : (l.flatMap encO).length ≤ 6 * l.length := by
  induction l with
  | nil => simp
  | cons x l ih =>
    rw [List.flatMap_cons, List.length_append, List.length_cons]
    have := encO_le x
    omega
theorem put_yes (s : ByteArray) (n width : Int) (w : World) (hs : s.size ≤ 2147483648) (h : numOk n width = true) : Calls Try.prog 13 #[.string s, .int .i64 n, .int .i64 width] w fun e w' => e = .returned (.tuple #[.string (ofL (bl s ++ beB n width.toNat)), .int .i64 0]) ∧ Below w.heap.size w w' := by
  have := put_any s n width w hs
  unfold putV at this
  rwa [h, if_pos rfl] at this
theorem put_no (s : ByteArray) (n width : Int) (w : World) (hs : s.size ≤ 2147483648) (h : numOk n width = false) : Calls Try.prog 13 #[.string s, .int .i64 n, .int .i64 width] w fun e w' => e = .returned (.tuple #[.string ⟨#[]⟩, .int .i64 1]) ∧ Below w.heap.size w w' := by
  have := put_any s n width w hs
  unfold putV at this
  rwa [h, if_neg (by decide)] at this
def numS (n width : Int) : ByteArray := if ¬ (1 ≤ width ∧ width ≤ 6) ∨ n < 0 then ⟨#[]⟩ else ofL (beB n width.toNat)
theorem rnum_all (n width : Int) (w : World) (hn : n ≤ 9223372036854775807) : Calls Try.prog 22 #[.int .i64 n, .int .i64 width] w fun e w' => e = .returned (.tuple #[.string (numS n width), .bool (numOk n width)]) ∧ Below w.heap.size w w' := by
  unfold numS
  by_cases hr : ¬ (1 ≤ width ∧ width ≤ 6) ∨ n < 0
  · rw [if_pos hr]
    have hk : numOk n width = false := by
      simp only [numOk, decide_eq_false_iff_not]
      omega
    rw [hk]
    refine (rnum_bad n width w hr).mono ?_
    rintro e w' ⟨rfl, rfl⟩
    exact ⟨rfl, Below.refl _ _⟩
  · rw [if_neg hr]
    obtain ⟨W, rfl⟩ := Int.eq_ofNat_of_zero_le (show 0 ≤ width by omega)
    have hk : numOk n (W : Int) = decide (n < 256 ^ W) := by
      rw [Bool.eq_iff_iff]
      simp only [numOk, decide_eq_true_eq, Int.toNat_natCast]
      omega
    rw [hk]
    simp only [Int.toNat_natCast]
    exact rnum_any n W w (by omega) (by omega) (by omega) hn
theorem rnum_is (n width : Int) (w : World) (r : Bool) (hn : n ≤ 9223372036854775807) (h : numOk n width = r) : Calls Try.prog 22 #[.int .i64 n, .int .i64 width] w fun e w' => e = .returned (.tuple #[.string (numS n width), .bool r]) ∧ Below w.heap.size w w' := by
  subst h
  exact rnum_all n width w hn
theorem take_enc {n width : Int} (L : List UInt8) (h : numOk n width = true) : takeB (ofL (beB n width.toNat ++ L)) width = ⟨n, 0, ofL L⟩ := by
  obtain ⟨W, rfl, h1, h6, h0, hn⟩ := numOk_ok h
  have hsz : (ofL (beB n W ++ L)).size = W + L.length := by rw [← bl_len, bl_ofL, List.length_append, beB_len]
  simp only [Int.toNat_natCast]
  unfold takeB
  rw [if_pos ⟨by omega, by omega⟩, if_neg (by rw [hsz]; omega)]
  simp only [Int.toNat_natCast]
  have e1 : (ofL (beB n W ++ L)).extract 0 W = ofL (beB n W) := by
    rw [ByteArray.extract_mk]
    simp [beB_len]
  have e2 : (ofL (beB n W ++ L)).extract W (ofL (beB n W ++ L)).size = ofL L := by
    rw [hsz, ByteArray.extract_mk]
    simp [beB_len]
  rw [e1, e2, bl_ofL, numOf_beB W n h0 hn]

set_option maxRecDepth 100000 in
set_option maxHeartbeats 4000000 in
theorem back_walk (a : Option Addr) (c : Nat) (l : List OA) (w : World) (g1 : l.length ≤ c) (g2 : c ≤ 9223372036854775807) (hn : ∀ i, i < l.length → (nth l i).n ≤ 9223372036854775807) (hA : RowOf oaCells 2 w a l) : Calls Try.prog 5 #[.slice a l.length c] w fun e w' => e = .returned (.bool true) ∧ Below w.heap.size w w' := by
  have HA := Lib.hid hA
  have HN := Lib.hid hn
  clear hA hn
  by_cases hl : 60 < l.length
  · go_enter Try.func5, Try.ntmps5
    go_wp2_with (go_at_call 12; refine (awake02 _).mono ?_; rintro e w1 ⟨rfl, hb⟩)
    go_ret
    exact ⟨rfl, hb⟩
  · have hd2 : decide ((60 : Int) < (l.length : Int)) = false := by simp; omega
    have l1 : l.length ≤ 60 := by omega
    clear hl
    go_enter Try.func5, Try.ntmps5
    go_wp2_with fail
    go_loopw [3, 4] (fun v i wr => ∃ (k : Nat), k ≤ l.length ∧ i = .int .i64 k ∧ v = .string (ofL ((l.take k).flatMap encO)) ∧ Below w.heap.size w wr) (fun _ i _ => l.length - (intOf i).toNat)
    case atStart => exact ⟨0, Nat.zero_le _, rfl, rfl, Below.refl _ _⟩
    case round =>
      obtain ⟨k, hk, rfl, rfl, hb⟩ := hrel
      have HB := Lib.hid hb
      have hsz := hb.size
      clear hb
      by_cases hlt : k < l.length
      · obtain ⟨b, off, rfl, hc⟩ : ∃ b off, a = some ⟨b, off, none⟩ ∧ ∀ j, j < 2 → w.cell? ⟨b, off + k * 2 + j, none⟩ = (oaCells (nth l k))[j]? := by
          rcases HA.out with rfl | ⟨b, off, rfl, hc⟩
          · simp at hlt
          · exact ⟨b, off, rfl, hc k hlt⟩
        have c0 := cell_keep HB.out (show w.cell? ⟨b, off + k * 2, none⟩ = some (.int .i64 (nth l k).kind) from hc 0 (by omega))
        have c1 := cell_keep HB.out (show w.cell? ⟨b, off + k * 2 + 1, none⟩ = some (.int .i64 (nth l k).n) from hc 1 (by omega))
        have hbl := cell_lt c0
        simp only at hbl
        have i1 : (0 : Int) ≤ (k : Int) := by omega
        have i2 : (k : Int) < (l.length : Int) := by omega
        have hE : (l.take (k + 1)).flatMap encO = (l.take k).flatMap encO ++ encO (nth l k) := by
          rw [take_nth l k hlt, List.flatMap_append]
          simp
        have hlen : (ofL ((l.take k).flatMap encO)).size ≤ 2147483648 := by
          rw [← bl_len, bl_ofL]
          have := flat_le (l.take k)
          have : (l.take k).length ≤ k := by simp; omega
          omega
        obtain ⟨x, hx⟩ : ∃ x, x = nth l k := ⟨_, rfl⟩
        rw [← hx] at c0 c1 hE
        generalize hL : (l.take k).flatMap encO = L at *
        have HE := Lib.hid hE
        clear hc hx hE hL
        cases hk2 : numOk x.n x.kind with
        | true =>
          have he : encO x = beB x.n x.kind.toNat := by unfold encO; rw [if_pos hk2]
          have hcat : ofL (bl (ofL L) ++ beB x.n x.kind.toNat) = ofL (L ++ encO x) := by rw [bl_ofL, he]
          have P := fun w => put_yes (ofL L) x.n x.kind w hlen hk2
          rw [hcat] at P
          have HP := Lib.hid P
          clear P he hcat hk2
          generalize ofL L = q at *
          generalize hq2 : ofL (L ++ encO x) = q2 at *
          rw [← HE.out] at hq2
          have HQ := Lib.hid hq2
          clear hq2
          go_wp2_with fail
          ((first | (with_reducible refine region_ext2 (by kernel_rfl) (by kernel_rfl) ?_) | (refine region_ext (by kernel_rfl) (by kernel_rfl) ?_)); (repeat ((with_reducible refine wpQuiet_step (fun K hK => ?_)); go_simp; (first | ((refine hK _ ?_); clear hK K) | ((apply Exists.intro); (refine ⟨fun _ => ?_, hK _ ?_⟩); (first | (go_at_call 13; with_reducible exact ext_below (HP.out _))); clear hK K)))); refine wpQuiet_nil ?_; rintro _ ⟨uq, rfl⟩)
          go_wp2
          exact ⟨⟨k + 1, by omega, by go_num, by rw [HQ.out], below_ext _ HB.out hsz⟩, by simp only [intOf]; omega⟩
        | false =>
          have he : encO x = [] := by unfold encO; rw [if_neg (by rw [hk2]; decide)]
          have P := fun w => put_no (ofL L) x.n x.kind w hlen hk2
          have HP := Lib.hid P
          have hq : ofL ((l.take (k + 1)).flatMap encO) = ofL L := by rw [HE.out, he, List.append_nil]
          have HQ := Lib.hid hq
          clear P he hk2 hq
          generalize ofL L = q at *
          go_wp2_with fail
          ((first | (with_reducible refine region_ext2 (by kernel_rfl) (by kernel_rfl) ?_) | (refine region_ext (by kernel_rfl) (by kernel_rfl) ?_)); (repeat ((with_reducible refine wpQuiet_step (fun K hK => ?_)); go_simp; (first | ((refine hK _ ?_); clear hK K) | ((apply Exists.intro); (refine ⟨fun _ => ?_, hK _ ?_⟩); (first | (go_at_call 13; with_reducible exact ext_below (HP.out _))); clear hK K)))); refine wpQuiet_nil ?_; rintro _ ⟨uq, rfl⟩)
          go_wp2
          exact ⟨⟨k + 1, by omega, by go_num, by rw [HQ.out], below_ext _ HB.out hsz⟩, by simp only [intOf]; omega⟩
      · obtain rfl : k = l.length := by omega
        rw [List.take_of_length_le (Nat.le_refl _)]
        have hsz5 : (ofL (l.flatMap encO)).size ≤ 2147483648 := by
          rw [← bl_len, bl_ofL]
          have := flat_le l
          omega
        go_wp2_with fail
        refine (read_any _ _).mono ?_
        rintro e w1 ⟨rfl, hC, hb, hs1⟩
        have HC := Lib.hid hC
        have HB1 := Lib.hid (HB.out.trans (hb.mono hsz))
        clear hC hb HB
        obtain ⟨C, hCe⟩ : ∃ C, C = wr.heap.size := ⟨_, rfl⟩
        rw [← hCe] at HC hs1 ⊢
        have hwC : w.heap.size ≤ C := by omega
        clear hCe
        go_wp2_with fail
        go_loopw [8] (fun i wz => ∃ (k : Nat), k ≤ l.length ∧ i = .int .i64 k ∧ CurAt wz C (ofL ((l.drop k).flatMap encO)) ∧ Below w.heap.size w wz) (fun i _ => l.length - (intOf i).toNat)
        case atStart => exact ⟨0, Nat.zero_le _, rfl, HC.out, HB1.out⟩
        case round =>
          obtain ⟨k, hk2, rfl, hC, hb⟩ := hrel
          have HB := Lib.hid hb
          have hsz2 := hb.size
          have HCz := Lib.hid hC
          have hCl := IsObj.lt hC
          clear hC hb HC HB1
          by_cases hlt2 : k < l.length
          · obtain ⟨b, off, rfl, hc⟩ : ∃ b off, a = some ⟨b, off, none⟩ ∧ ∀ j, j < 2 → w.cell? ⟨b, off + k * 2 + j, none⟩ = (oaCells (nth l k))[j]? := by
              rcases HA.out with rfl | ⟨b, off, rfl, hc⟩
              · simp at hlt2
              · exact ⟨b, off, rfl, hc k hlt2⟩
            have b0 : w.cell? ⟨b, off + k * 2, none⟩ = some (.int .i64 (nth l k).kind) := hc 0 (by omega)
            have hbw := cell_lt b0
            have c0 := cell_keep HB.out b0
            have c1 := cell_keep HB.out (show w.cell? ⟨b, off + k * 2 + 1, none⟩ = some (.int .i64 (nth l k).n) from hc 1 (by omega))
            have hbl := cell_lt c0
            simp only at hbl hbw
            have i1 : (0 : Int) ≤ (k : Int) := by omega
            have i2 : (k : Int) < (l.length : Int) := by omega
            have hE : (l.drop k).flatMap encO = encO (nth l k) ++ (l.drop (k + 1)).flatMap encO := by
              have hd : l.drop k = nth l k :: l.drop (k + 1) := by rw [nth_lt l k hlt2, List.drop_eq_getElem_cons hlt2]
              rw [hd, List.flatMap_cons]
            have hxn := HN.out k hlt2
            obtain ⟨x, hx⟩ : ∃ x, x = nth l k := ⟨_, rfl⟩
            rw [← hx] at c0 c1 hE hxn
            have hlen : (ofL (encO x ++ (l.drop (k + 1)).flatMap encO)).size ≤ 2147483648 := by
              rw [← bl_len, bl_ofL, List.length_append]
              have h1 := flat_le (l.drop (k + 1))
              have h2 : (l.drop (k + 1)).length ≤ 60 := by simp; omega
              have h3 := encO_le x
              omega
            rw [hE] at HCz
            generalize hL : (l.drop (k + 1)).flatMap encO = L at *
            have HL := Lib.hid hL
            clear hL
            clear hc hx hE b0
            cases hk3 : numOk x.n x.kind with
            | true =>
              have he : encO x = beB x.n x.kind.toNat := by unfold encO; rw [if_pos hk3]
              have T := take_any C (ofL (encO x ++ L)) x.kind
              rw [he] at HCz hlen T
              have HT := Lib.hid (fun w h => T w h hlen)
              have hte := take_enc (n := x.n) (width := x.kind) L hk3
              rw [hte] at HT
              have HP := Lib.hid (fun w => rnum_is x.n x.kind w true hxn hk3)
              clear he T hte hk3 hlen
              generalize numS x.n x.kind = ns at *
              go_wp2_with fail
              ((first | (with_reducible refine region_ext2 (by kernel_rfl) (by kernel_rfl) ?_) | (refine region_ext (by kernel_rfl) (by kernel_rfl) ?_)); (repeat ((with_reducible refine wpQuiet_step (fun K hK => ?_)); go_simp; (first | ((refine hK _ ?_); clear hK K) | ((apply Exists.intro); (refine ⟨fun _ => ?_, hK _ ?_⟩); (first | (go_at_call 22; with_reducible exact ext_below (HP.out _))); clear hK K)))); refine wpQuiet_nil ?_; rintro _ ⟨uq, rfl⟩)
              go_wp2_with fail
              refine (HT.out _ (HCz.out.ext uq)).mono ?_
              rintro e w4 ⟨rfl, hC4, hO4⟩
              have hb4 := (below_ext uq HB.out hsz2).trans (hO4.below hwC (by have := ext_size uq; omega))
              have d1 := hO4.keep (v := .int .i64 x.n) (p := ⟨b, off + k * 2 + 1, none⟩) (by rw [cell_ext hbl]; exact c1) (by simp; omega)
              have HC4 := Lib.hid hC4
              have HB4 := Lib.hid hb4
              clear hC4 hO4 hb4 c0 c1
              go_wp2
              exact ⟨⟨k + 1, by omega, by go_num, by rw [HL.out]; exact HC4.out, HB4.out⟩, by simp only [intOf]; omega⟩
            | false =>
              have he : encO x = [] := by unfold encO; rw [if_neg (by rw [hk3]; decide)]
              rw [he, List.nil_append] at HCz
              have HP := Lib.hid (fun w => rnum_is x.n x.kind w false hxn hk3)
              clear he hk3 hlen
              generalize numS x.n x.kind = ns at *
              go_wp2_with fail
              ((first | (with_reducible refine region_ext2 (by kernel_rfl) (by kernel_rfl) ?_) | (refine region_ext (by kernel_rfl) (by kernel_rfl) ?_)); (repeat ((with_reducible refine wpQuiet_step (fun K hK => ?_)); go_simp; (first | ((refine hK _ ?_); clear hK K) | ((apply Exists.intro); (refine ⟨fun _ => ?_, hK _ ?_⟩); (first | (go_at_call 22; with_reducible exact ext_below (HP.out _))); clear hK K)))); refine wpQuiet_nil ?_; rintro _ ⟨uq, rfl⟩)
              go_wp2
              exact ⟨⟨k + 1, by omega, by go_num, by rw [HL.out]; exact HCz.out.ext uq, below_ext _ HB.out hsz2⟩, by simp only [intOf]; omega⟩
          · have hd : (l.drop k).flatMap encO = [] := by rw [List.drop_eq_nil_of_le (by omega)]; rfl
            rw [hd] at HCz
            have t1 : takeB ⟨#[]⟩ 1 = ⟨0, 3, ⟨#[]⟩⟩ := by rfl
            have T := take_any C ⟨#[]⟩ 1
            rw [t1] at T
            have HT := Lib.hid (fun w h => T w h (by decide))
            clear hd t1 T
            go_wp2_with fail
            refine (HT.out _ HCz.out).mono ?_
            rintro e w4 ⟨rfl, hC4, hO4⟩
            have hb4 := HB.out.trans (hO4.below hwC hsz2)
            have HC4 := Lib.hid hC4
            have HB4 := Lib.hid hb4
            have hsz4 := hb4.size
            clear hC4 hO4 hb4
            go_wp2_with (first | (go_at_call 20; (with_reducible refine (cleft_any _ _ _ HC4.out).mono ?_); rintro e w' ⟨rfl, rfl⟩) | (go_at_call 12; refine (awake02 _).mono ?_; rintro e w5 ⟨rfl, hb5⟩))
            go_ret
            exact ⟨rfl, HB4.out.trans (hb5.mono hsz4)⟩

theorem back_done : Walk 5 Try.f5 := by
  intro W args hs hc
  rw [Try.params5] at hs hc
  obtain ⟨l⟩ := args
  match l, hs with
  | [v0], _ =>
    obtain ⟨a, c, l, rfl, g1, g2, hok, hl⟩ := row_of_sl (k := 2) (cells := oaCells) (fun x => x.n ≤ 9223372036854775807) (by omega) oa_of (came_slice Try.underlying27 (ps := [IsI .i64, IsI .i64]) (by kernel_rfl) opens_oa (hc 0 27 v0 rfl rfl))
    exact back_walk a c l W g1 g2 hok hl
end Go.Proofs.Ytmohgbnfhpffjaa
