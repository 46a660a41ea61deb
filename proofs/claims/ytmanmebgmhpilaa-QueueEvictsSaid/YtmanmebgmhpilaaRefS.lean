/-
  lockkeeperref11.Sort: one by one, each behind those that it does not go ahead of. (Up to 1000 items.)
-/
import Derived.Test.YtmanmebgmhpilaaSortT
import Derived.Deep.CutBlock
import Derived.Deep.CutRange
namespace Go.Proofs.Ytmanmebgmhpilaa
open Go.RowKit
set_option linter.unusedVariables false

/-- Where x goes among the first k of T. -/
def posR (x : It) (T : List It) : Nat → Nat
  | 0 => 0
  | k + 1 => if befo x (nth T k) = true then posR x T k else k + 1
theorem posR_le (x : It) (T : List It) (k : Nat) : posR x T k ≤ k := by
  induction k with
  | zero => exact Nat.le_refl _
  | succ k ih => rw [posR]; split <;> omega
def rins (x : It) (T : List It) : List It := T.take (posR x T T.length) ++ x :: T.drop (posR x T T.length)
theorem rins_len (x : It) (T : List It) : (rins x T).length = T.length + 1 := by
  have := posR_le x T T.length
  simp [rins]; omega
def rsortN (l : List It) : Nat → List It
  | 0 => []
  | n + 1 => rins (nth l n) (rsortN l n)
theorem rsortN_len (l : List It) (n : Nat) : (rsortN l n).length = n := by
  induction n with
  | zero => rfl
  | succ n ih => rw [rsortN, rins_len, ih]

theorem own_mono {w : World} {base base' : Nat} {e : TypeId} {size n : Nat} {v : Value} {xs : List Value} (h : w.ownsRow base e size v n xs) (hb : base' ≤ base) : w.ownsRow base' e size v n xs := by
  rcases h.2 with ⟨h1, h2⟩ | ⟨g, cap, cur, h1, h2, h3⟩
  · exact ⟨h.1, .inl ⟨h1, h2⟩⟩
  · exact ⟨h.1, .inr ⟨g, cap, cur, h1, Nat.le_trans hb h2, h3⟩⟩
theorem own_cap {w : World} {base : Nat} {e : TypeId} {size g n cap : Nat} {xs : List Value} (h : w.ownsRow base e size (.slice (some ⟨g, 0, none⟩) n cap) n xs) : n ≤ cap ∧ cap ≤ maxLen := by
  rcases h.2 with ⟨h1, _⟩ | ⟨_, _, _, h1, _, _, h2, h3, _⟩
  · cases h1
  · simp only [Value.slice.injEq, Option.some.injEq, Addr.mk.injEq, and_true, true_and] at h1
    obtain ⟨rfl, rfl⟩ := h1
    exact ⟨h2, h3⟩
theorem own_rowOf {w : World} {base n : Nat} {e : TypeId} {v : Value} {T : List It} (h : w.ownsRow base e 7 v n (T.flatMap itCells)) {g cap : Nat} (hv : v = .slice (some ⟨g, 0, none⟩) n cap) : ∀ i, i < T.length → ∀ j, j < 7 → w.cell? ⟨g, 0 + i * 7 + j, none⟩ = (itCells (nth T i))[j]? := by
  subst hv
  intro i hi j hj
  have hl := h.1
  rw [itF_len] at hl
  rw [Nat.zero_add, World.ownsRow.cellAt h (i * 7 + j) (by omega), flat_at itCells 7 itCells_len T i hi j hj]

set_option maxRecDepth 100000 in
set_option maxHeartbeats 4000000 in
theorem rsort_any (a : Option Addr) (c : Nat) (l : List It) (w : World) (hm : l.length ≤ 1000) (hA : RowOf itCells 7 w a l) :
    Calls Try.prog 22 #[.slice a l.length c] w fun e w' => ∃ v, e = .returned v ∧ w'.ownsRow w.heap.size 31 7 v l.length ((rsortN l l.length).flatMap itCells) ∧ (l.length = 0 → v = .slice none 0 0) ∧ Below w.heap.size w w' := by
  obtain ⟨i0, hi, hz0, hz1, hz2⟩ := info_parts item_parts
  have HA := Lib.hid hA
  clear hA
  go_enter Try.func22, Try.ntmps22
  go_wp2
  go_loopg [3, 4] l.length (fun kx s3 s4 wr => ∃ i : Nat, i ≤ l.length ∧ l.length - i ≤ kx ∧ s4 = .int .i64 i ∧ Aside (wr.ownsRow w.heap.size 31 7 s3 i ((rsortN l i).flatMap itCells) ∧ (i = 0 → s3 = .slice none 0 0) ∧ Below w.heap.size w wr))
  case atStart => exact ⟨0, Nat.zero_le _, Nat.le_refl _, rfl, (⟨World.ownsRow_nil _ _ _ _, fun _ => rfl, Below.refl _ _⟩ : _ ∧ _ ∧ _)⟩
  case round =>
    obtain ⟨i, hil, hkx, rfl, HR⟩ := hrel
    generalize wr = w1 at *
    by_cases hlt : i < l.length
    · have hltz : (i : Int) < (l.length : Int) := by omega
      have hiz : (0 : Int) ≤ (i : Int) := by omega
      obtain ⟨b, off, rfl, hc⟩ : ∃ b off, a = some ⟨b, off, none⟩ ∧ ∀ i, i < l.length → ∀ j, j < 7 → w1.cell? ⟨b, off + i * 7 + j, none⟩ = (itCells (nth l i))[j]? := by
        rcases HA.out.same itCells_len HR.out.2.2 with rfl | ⟨b, off, rfl, hc⟩
        · simp at hlt
        · exact ⟨b, off, rfl, hc⟩
      obtain ⟨x0, x1, x2, x3, x4, x5, x6⟩ := item_cells hc i hlt
      have HC := Lib.hid hc
      clear hc
      have hTl := rsortN_len l i
      have hN : rsortN l (i + 1) = rins (nth l i) (rsortN l i) := rfl
      have HN := Lib.hid hN
      clear hN
      generalize rsortN l i = T at *
      generalize hx : nth l i = x at *
      have HX := Lib.hid hx
      clear hx
      have s1 := cell_lt x0
      simp only at s1
      by_cases hi0 : i = 0
      · subst hi0
        have hs3 := HR.out.2.1 rfl
        subst hs3
        have hT : T = [] := List.eq_nil_of_length_eq_zero hTl
        subst hT
        have hr1 : rins x [] = [x] := rfl
        rw [Nat.zero_mul, Nat.add_zero] at x0 x1 x2 x3 x4 x5 x6
        rw [hr1] at HN
        have hbw := HR.out.2.2
        have HB := Lib.hid hbw
        clear hbw HR
        go_upto_block 2 with (fail)
        go_cut [5] from 15 to 30 (fun s5 wx => s5 = .int .i64 0 ∧ Aside (Below w1.heap.size w1 wx))
        case first =>
          go_wp2_with fail
          go_loopg [5] 0 (fun kx s5 wr2 => s5 = .int .i64 0 ∧ Aside (Below w1.heap.size w1 wr2))
          case atStart => exact ⟨rfl, Below.refl _ _⟩
          case round =>
            obtain ⟨rfl, HB2⟩ := hrel
            have hz : ¬ ((0 : Int) < 0) := by omega
            go_wp2_with fail
            go_quiet (fail)
            go_wp2
            go_meet
            case rel => exact ⟨rfl, below_drewN HB2.out _⟩
        case rest =>
        obtain ⟨rfl, HB2⟩ := hcut
        generalize wc = w2 at *
        have z0 := cell_keep HB2.out x0
        have z1 := cell_keep HB2.out x1
        have z2 := cell_keep HB2.out x2
        have z3 := cell_keep HB2.out x3
        have z4 := cell_keep HB2.out x4
        have z5 := cell_keep HB2.out x5
        have z6 := cell_keep HB2.out x6
        have hB02 : Below w.heap.size w w2 := HB.out.trans (HB2.out.mono HB.out.size)
        have HB02 := Lib.hid hB02
        clear hB02 x0 x1 x2 x3 x4 x5 x6 s1
        go_upto_region 11 with (at_builtin; refine wpList_append_one (by rfl) _ _ 22 (by rfl) w2.heap.size 31 i0 (.agg #[.int .i64 0, .int .i64 0, .int .i64 0, .int .i64 0, .int .i64 0, .int .i64 0, .int .i64 0]) 7 56 Try.underlying22 hi hz0 hz1 hz2 rfl (by decide) (.slice none 0 0) 0 [] #[.int .i64 x.id, .int .i64 x.lev, .int .i64 x.frm, .int .i64 x.dl, .int .i64 x.bud, .int .i64 x.since, .int .i64 x.seq] (by rfl) (by exact World.ownsRow_nil _ _ _ _) (by rfl) (by rfl) (by rfl) (by omega) (by decide) (by exact Nat.le_refl _) ?_; intro v4 w4 hown4 hb4; obtain ⟨g4, cap4, rfl, hg4a, hg4b⟩ := hown4.form (by omega))
        obtain ⟨hc4a, hc4b⟩ := own_cap hown4
        have HF : Aside (w4.ownsRow w.heap.size 31 7 (.slice (some ⟨g4, 0, none⟩) 1 cap4) 1 ((rsortN l 1).flatMap itCells) ∧ (1 = 0 → Value.slice (some ⟨g4, 0, none⟩) 1 cap4 = .slice none 0 0) ∧ Below w.heap.size w w4) := by
          refine ⟨?_, fun h => by omega, HB02.out.trans (hb4.mono HB02.out.size)⟩
          rw [HN.out]
          exact own_mono hown4 HB02.out.size
        clear hown4 hb4 z0 z1 z2 z3 z4 z5 z6
        go_wp2
        go_roundg (l.length - 1)
        case measure => omega
        case rel => exact ⟨1, by omega, Nat.le_refl _, by first | rfl | go_num | (congr 1; omega), HF⟩
      · obtain ⟨g, cap, hv, hg1, hg2⟩ := HR.out.1.form (by omega)
        obtain ⟨hown, _, hbw⟩ := HR.out
        subst hv
        have HO := Lib.hid hown
        have HB := Lib.hid hbw
        clear hown hbw HR
        go_upto_block 2 with (fail)
        go_cut [5] from 15 to 30 (fun s5 wx => s5 = .int .i64 (posR x T T.length) ∧ Aside (Below w1.heap.size w1 wx))
        case first =>
          go_wp2_with fail
          go_loopg [5] i (fun kx s5 wr2 => ∃ k : Nat, k ≤ i ∧ k ≤ kx ∧ s5 = .int .i64 k ∧ Aside (Below w1.heap.size w1 wr2) ∧ Hid (posR x T k = posR x T T.length))
          case atStart => exact ⟨i, Nat.le_refl _, Nat.le_refl _, rfl, Below.refl _ _, (show posR x T i = posR x T T.length by rw [hTl])⟩
          case round =>
            obtain ⟨k, hki, hkx2, rfl, HB2, HP⟩ := hrel
            cases k with
            | zero =>
              have hz : ¬ ((0 : Int) < 0) := by omega
              go_wp2_with fail
              go_quiet (fail)
              go_wp2
              go_meet
              case rel => exact ⟨by rw [← HP.out]; rfl, below_drewN HB2.out _⟩
            | succ k =>
              have hkT : k < T.length := by omega
              have hO2 := own_below HO.out (HB2.out.mono (Nat.le_refl _))
              obtain ⟨y0, y1, y2, y3, y4, y5, y6⟩ := item_cells (own_rowOf hO2 rfl) k hkT
              rw [Nat.zero_add] at y0 y1 y2 y3 y4 y5 y6
              have hc2 := RowOf.same (l := l) (a := some ⟨b, off, none⟩) (.inr ⟨b, off, rfl, HC.out⟩) itCells_len HB2.out
              have z0 := cell_keep HB2.out x0
              have z1 := cell_keep HB2.out x1
              have z2 := cell_keep HB2.out x2
              have z3 := cell_keep HB2.out x3
              have z4 := cell_keep HB2.out x4
              have z5 := cell_keep HB2.out x5
              have z6 := cell_keep HB2.out x6
              have t1 := cell_lt y0
              have t2 := cell_lt z0
              simp only at t1 t2
              have hk0 : (0 : Int) ≤ (k : Int) := by omega
              have hk1 : (k : Int) < (i : Int) := by omega
              have hk2 : (0 : Int) < (k : Int) + 1 := by omega
              have hrk : IntKind.i64.wrap (k : Int) = (k : Int) := by rw [IntKind.wrap_i64]; omega
              generalize hy : nth T k = y at *
              have HY := Lib.hid hy
              clear hy hO2 hc2 x0 x1 x2 x3 x4 x5 x6 s1
              go_wp2_with fail
              ((first | (with_reducible refine region_ext2 (by kernel_rfl) (by kernel_rfl) ?_) | (refine region_ext (by kernel_rfl) (by kernel_rfl) ?_)); (repeat ((with_reducible refine wpQuiet_step (fun K hK => ?_)); go_simp; (first | ((refine hK _ ?_); clear hK K) | ((apply Exists.intro); (refine ⟨fun _ => ?_, hK _ ?_⟩); (first | (go_at_call 14; with_reducible exact ext_below (rbefore_any _ _ _))); clear hK K)))); refine wpQuiet_nil ?_; rintro _ ⟨uq, rfl⟩)
              have HB3 : Aside (Below w1.heap.size w1 (ext wr uq)) := below_ext _ HB2.out HB2.out.size
              cases hb : befo x y with
              | true =>
                have HP2 : Hid (posR x T k = posR x T T.length) := by show _ = _; rw [← HP.out, posR, HY.out, if_pos hb]
                clear HP
                go_wp2
                go_roundg k
                case measure => omega
                case rel => exact ⟨k, by omega, Nat.le_refl _, by first | rfl | go_num | (congr 1; omega), HB3, HP2⟩
              | false =>
                have HP2 : Hid (k + 1 = posR x T T.length) := by show _ = _; rw [← HP.out, posR, HY.out, if_neg (by rw [hb]; decide)]
                clear HP
                go_wp2
                go_meet
                case rel => exact ⟨by rw [← HP2.out]; rfl, HB3⟩
        case rest =>
        obtain ⟨rfl, HB2⟩ := hcut
        have hpl := posR_le x T T.length
        rw [hTl] at hpl
        have hrins : rins x T = T.take (posR x T T.length) ++ x :: T.drop (posR x T T.length) := rfl
        have hrl : (rins x T).length = i + 1 := by rw [rins_len, hTl]
        rw [hTl] at hrins ⊢
        generalize posR x T i = k at *
        generalize rins x T = T2 at *
        have HT2 := Lib.hid hrins
        clear hrins
        generalize wc = w2 at *
        have hO2 := own_below HO.out HB2.out
        have hB02 : Below w.heap.size w w2 := HB.out.trans (HB2.out.mono HB.out.size)
        have hHH : w.heap.size ≤ w2.heap.size := hB02.size
        obtain ⟨hcap1, hcap2⟩ := own_cap hO2
        have hgl : g < w2.heap.size := (hO2.lt g rfl).2
        have hNW : ∀ q, q ≤ i → ∀ j u, ((T.drop q).flatMap itCells)[j]? = some u → w2.cell? ((⟨g, q * 7, none⟩ : Addr).add j) = some u := fun q hq j u hu => by
          have hlt : j < (T.drop q).length * 7 := by
            have := (List.getElem?_eq_some_iff.1 hu).1
            rwa [itF_len] at this
          rw [List.length_drop] at hlt
          rw [← itF_drop, List.getElem?_drop] at hu
          rw [addr_add, World.ownsRow.cellAt hO2 (q * 7 + j) (by omega)]
          exact hu
        have hNT : ∀ j u, ((T.take k).flatMap itCells)[j]? = some u → w2.cell? ((⟨g, 0, none⟩ : Addr).add j) = some u := fun j u hu => by
          have hlt : j < (T.take k).length * 7 := by
            have := (List.getElem?_eq_some_iff.1 hu).1
            rwa [itF_len] at this
          rw [List.length_take] at hlt
          rw [← itF_take, List.getElem?_take_of_lt (by omega)] at hu
          rw [addr_add, Nat.zero_add, World.ownsRow.cellAt hO2 j (by omega)]
          exact hu
        have htl : ((T.take k).flatMap itCells).length = k * 7 := by rw [itF_len, List.length_take]; omega
        have hdl : ((T.drop k).flatMap itCells).length = (i - k) * 7 := by rw [itF_len, List.length_drop]; omega
        have HO2 := Lib.hid hO2
        have HB02 := Lib.hid hB02
        have HNW := Lib.hid hNW
        have HNT := Lib.hid hNT
        clear hO2 hB02 hNW hNT
        have c0 : (0 : Int) ≤ (k : Int) := by omega
        have c1 : (k : Int) ≤ (cap : Int) := by omega
        have c2 : (k : Int) ≤ (i : Int) := by omega
        go_upto_region 9 with (fail)
        go_cut [6] (fun s6 wx => Aside (wx.ownsRow w2.heap.size 31 7 s6 k ((T.take k).flatMap itCells) ∧ Below w2.heap.size w2 wx ∧ (k = 0 → s6 = .slice none 0 0)))
        case first =>
          by_cases hk0 : k = 0
          · subst hk0
            go_wp2
            go_meet
            case rel => exact ⟨by simpa using World.ownsRow_nil w2 w2.heap.size 31 7, Below.refl _ _, fun _ => rfl⟩
          · go_wp2_with (refine wpList_append_lies _ (by rfl) _ _ _ (by rfl) w2.heap.size 31 i0 (.agg #[.int .i64 0, .int .i64 0, .int .i64 0, .int .i64 0, .int .i64 0, .int .i64 0, .int .i64 0]) 7 56 Try.underlying22 hi hz0 hz1 hz2 rfl (by decide) (.slice none 0 0) 0 [] (by rfl) (World.ownsRow_nil _ _ _ _) ⟨g, 0, none⟩ k cap ((T.take k).flatMap itCells) (by rfl) htl HNT.out (row_one _) (by omega) (by unfold maxLen; omega) (by omega) (Nat.le_refl _) w2.heap.size rfl ?_; intro g2 cap2 w3 hown3 hgrow3 hat3 hlt3)
            rw [Nat.zero_add, List.nil_append] at hown3
            have hb3 : Below w2.heap.size w2 w3 := Below.grown (Below.refl _ _) hgrow3 (Nat.le_refl _) (fun k hk => by simp [Value.ownBlock] at hk)
            have H3 : Aside (_ ∧ _) := And.intro hown3 hb3
            clear hown3 hgrow3 hat3 hlt3 hb3
            try simp only [Nat.zero_add]
            go_wp2
            go_meet
            case rel => exact ⟨by have := H3.out.1; exact this, H3.out.2, fun h => absurd h hk0⟩
        case rest =>
        have H3 := hcut
        clear hcut
        generalize wc = w3 at *
        have hb13 : Below w1.heap.size w1 w3 := HB2.out.trans (H3.out.2.1.mono HB2.out.size)
        have z0 := cell_keep hb13 x0
        have z1 := cell_keep hb13 x1
        have z2 := cell_keep hb13 x2
        have z3 := cell_keep hb13 x3
        have z4 := cell_keep hb13 x4
        have z5 := cell_keep hb13 x5
        have z6 := cell_keep hb13 x6
        have HH3 := Lib.hid H3.out.2.1.size
        clear hb13 x0 x1 x2 x3 x4 x5 x6 s1
        have fin : ∀ (v5 : Value) (w5 : World), w5.ownsRow w2.heap.size 31 7 v5 (i + 1) ((T.take k).flatMap itCells ++ itCells x ++ (T.drop k).flatMap itCells) → Below w2.heap.size w2 w5 → w5.ownsRow w.heap.size 31 7 v5 (i + 1) (T2.flatMap itCells) ∧ (i + 1 = 0 → v5 = .slice none 0 0) ∧ Below w.heap.size w w5 := fun v5 w5 h1 h2 => by
          refine ⟨?_, fun h => by omega, HB02.out.trans (h2.mono HB02.out.size)⟩
          rw [HT2.out, List.flatMap_append, List.flatMap_cons, ← List.append_assoc]
          exact own_mono h1 HB02.out.size
        have FIN := Lib.hid fin
        clear fin
        go_upto_region 11 with (at_builtin; refine wpList_append_one (by rfl) _ _ 22 (by rfl) w2.heap.size 31 i0 (.agg #[.int .i64 0, .int .i64 0, .int .i64 0, .int .i64 0, .int .i64 0, .int .i64 0, .int .i64 0]) 7 56 Try.underlying22 hi hz0 hz1 hz2 rfl (by decide) _ k _ #[.int .i64 x.id, .int .i64 x.lev, .int .i64 x.frm, .int .i64 x.dl, .int .i64 x.bud, .int .i64 x.since, .int .i64 x.seq] (by rfl) (by exact H3.out.1) (by rfl) (by rfl) (by rfl) (by omega) (by decide) (by exact HH3.out) ?_; intro v4 w4 hown4 hb4; obtain ⟨g4, cap4, rfl, hg4a, hg4b⟩ := hown4.form (by omega))
        have hb24 : Below w2.heap.size w2 w4 := H3.out.2.1.trans hb4
        have hH4 : w2.heap.size ≤ w4.heap.size := hb24.size
        have hNW4 : ∀ j u, ((T.drop k).flatMap itCells)[j]? = some u → w4.cell? ((⟨g, k * 7, none⟩ : Addr).add j) = some u := fun j u hu => by
          have h1 := HNW.out k hpl j u hu
          rw [addr_add] at h1 ⊢
          exact (hb24.cell hgl).trans h1
        obtain ⟨hc4a, hc4b⟩ := own_cap hown4
        have HO4 := Lib.hid hown4
        have HB24 := Lib.hid hb24
        have HNW4 := Lib.hid hNW4
        clear hown4 hb24 hb4 hNW4 z0 z1 z2 z3 z4 z5 z6
        by_cases hki : k = i
        · have hdrop : T.drop k = [] := List.drop_eq_nil_of_le (by omega)
          have hfin := FIN.out _ w4 (by rw [hdrop, List.flatMap_nil, List.append_nil, ← hki]; exact HO4.out) HB24.out
          have HF : Aside _ := hfin
          clear hfin
          subst hki
          by_cases hcc : k = cap
          · subst hcc
            go_wp2
            go_roundg (l.length - (k + 1))
            case measure => omega
            case rel => exact ⟨k + 1, by omega, Nat.le_refl _, by first | rfl | go_num | (congr 1; omega), by rw [HN.out]; exact HF⟩
          · have hccz : ¬ ((k : Int) = (cap : Int)) := by omega
            go_wp2
            go_roundg (l.length - (k + 1))
            case measure => omega
            case rel => exact ⟨k + 1, by omega, Nat.le_refl _, by first | rfl | go_num | (congr 1; omega), by rw [HN.out]; exact HF⟩
        · have hkc : ¬ k = cap := by omega
          go_wp2_with (refine wpList_append_lies _ (by rfl) _ _ _ (by rfl) w2.heap.size 31 i0 (.agg #[.int .i64 0, .int .i64 0, .int .i64 0, .int .i64 0, .int .i64 0, .int .i64 0, .int .i64 0]) 7 56 Try.underlying22 hi hz0 hz1 hz2 rfl (by decide) (.slice (some ⟨g4, 0, none⟩) (k + 1) cap4) (k + 1) _ (by rfl) (by exact HO4.out) ⟨g, k * 7, none⟩ (i - k) (cap - k) ((T.drop k).flatMap itCells) (by rfl) hdl HNW4.out (row_one _) (by omega) (by unfold maxLen; omega) (by omega) (by exact hH4) w4.heap.size rfl ?_; intro g5 cap5 w5 hown5 hgrow5 hat5 hlt5)
          have hb5 : Below w2.heap.size w2 w5 := Below.grown HB24.out hgrow5 hH4 (fun q hq => by simp [Value.ownBlock] at hq; omega)
          have he : k + 1 + (i - k) = i + 1 := by omega
          rw [he] at hown5
          have hfin := FIN.out _ w5 hown5 hb5
          have HF : Aside _ := hfin
          clear hfin hown5 hb5 hgrow5 hat5 hlt5
          have hez : ((k + 1 + (i - k) : Nat) : Int) = (i : Int) + 1 := by omega
          try simp only [he]
          go_wp2
          go_roundg (l.length - (i + 1))
          case measure => omega
          case rel => exact ⟨i + 1, by omega, Nat.le_refl _, by first | rfl | go_num | (congr 1; omega), by rw [HN.out]; exact HF⟩
    · obtain rfl : i = l.length := by omega
      go_wp2
      go_ret
      exact ⟨_, rfl, HR.out.1, HR.out.2.1, HR.out.2.2⟩
end Go.Proofs.Ytmanmebgmhpilaa
