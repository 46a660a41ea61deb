/-
  Rows of what is known: the document's Learn and Cuts.
-/
import Derived.Test.YtgkmmoiniidhlaaKn2
namespace Go.Proofs.Ytgkmmoiniidhlaa
open Go.RowKit
set_option linter.unusedVariables false

/-- A row of what is known that lies in a block from B on. -/
def KnB (B : Nat) (w : World) (v : Value) (l : List Kn) : Prop := ∃ a c, v = .slice a l.length c ∧ l.length ≤ c ∧ c ≤ 9223372036854775807 ∧ RowOf knCells 4 w a l ∧ ∀ b off, a = some ⟨b, off, none⟩ → B ≤ b
theorem KnB.at {B : Nat} {w : World} {v : Value} {l : List Kn} (h : KnB B w v l) : KnAt w v l := by
  obtain ⟨a, c, h1, h2, h3, h4, _⟩ := h
  exact ⟨a, c, h1, h2, h3, h4⟩
theorem KnB.same {B : Nat} {w w' : World} {v : Value} {l : List Kn} (h : KnB B w v l) (hb : Below w.heap.size w w') : KnB B w' v l := by
  obtain ⟨a, c, h1, h2, h3, h4, h5⟩ := h
  exact ⟨a, c, h1, h2, h3, h4.same knCells_len hb, h5⟩
theorem KnB.mono {B B' : Nat} {w : World} {v : Value} {l : List Kn} (h : KnB B w v l) (hB : B' ≤ B) : KnB B' w v l := by
  obtain ⟨a, c, h1, h2, h3, h4, h5⟩ := h
  exact ⟨a, c, h1, h2, h3, h4, fun b off e => Nat.le_trans hB (h5 b off e)⟩
theorem KnB.only {B T : Nat} {w w' : World} {v : Value} {l : List Kn} (h : KnB B w v l) (ho : Only T w w') (hT : T < B) : KnB B w' v l := by
  obtain ⟨a, c, h1, h2, h3, h4, h5⟩ := h
  refine ⟨a, c, h1, h2, h3, ?_, h5⟩
  rcases h4 with h | ⟨b, off, hab, hc⟩
  · exact .inl h
  · refine .inr ⟨b, off, hab, fun i hi j hj => ?_⟩
    have hb := h5 b off hab
    have h6 := hc i hi j hj
    rw [List.getElem?_eq_getElem (by rw [knCells_len]; exact hj)] at h6 ⊢
    exact ho.keep h6 (by simp; omega)
theorem KnB.nil (B : Nat) (w : World) : KnB B w (.slice none 0 0) [] := ⟨none, 0, rfl, Nat.le_refl _, by omega, .inl rfl, fun b off e => by cases e⟩
theorem knB_of_own {w : World} {base n B : Nat} {e : TypeId} {v : Value} {l : List Kn} (h : w.ownsRow base e 4 v n (l.flatMap knCells)) (hn : n = l.length) (hB : B ≤ base) : KnB B w v l := by
  obtain ⟨a, c, h1, h2, h3, h4⟩ := kn_of_own h hn
  refine ⟨a, c, h1, h2, h3, h4, fun b off e => ?_⟩
  rcases h.2 with ⟨h5, _⟩ | ⟨g, cap, cur, h5, hb, _⟩
  · rw [h1, e] at h5; cases h5
  · rw [h1, e] at h5
    cases h5
    omega
theorem out_none (f : Ents) (to : Int) (n : Nat) (h : ¬ (0 ≤ to ∧ to < n)) : findK (knU f n) to = -1 :=
  find_none (by rintro ⟨i, hi, h2, _⟩; omega)
/-- The first unknown one. -/
theorem find_no {f : Ents} {n i : Nat} (he : f i = none) : findK (knU f n) (i : Int) = -1 :=
  find_none (by
    rintro ⟨j, hj, h2, h3⟩
    have : j = i := by omega
    subst this
    rw [he] at h3
    cases h3)
theorem knU_step (g : Ents) (k : Nat) (e : Ent) (h : g k = some e) : (knU g (k + 1)).length = (knU g k).length + 1 ∧ (knU g (k + 1)).flatMap knCells = (knU g k).flatMap knCells ++ knCells (knOf k e) := by
  have hs : knU g (k + 1) = knU g k ++ [knOf k e] := by unfold knU; rw [h]; cases k <;> rfl
  rw [hs]
  simp
theorem knU_skip (g : Ents) (k : Nat) (h : g k = none) : knU g (k + 1) = knU g k := by
  show knU g k ++ (match g k with | none => [] | some e => [knOf k e]) = knU g k
  rw [h, List.append_nil]
abbrev xCells (i : Nat) (th ep tm : Int) : List Value := [.int .i64 i, .int .i64 th, .int .i64 ep, .int .i64 tm]
/-- The loop of Learn, from the block of the new one on. -/
def LoopAt (f : Ents) (i : Nat) (e1 : Ent) (w wr : World) (v : Value) (k : Nat) : Prop :=
  wr.ownsRow w.heap.size 44 4 v (knU (upd f i (some e1)) k).length ((knU (upd f i (some e1)) k).flatMap knCells) ∧ Below w.heap.size w wr

set_option maxRecDepth 100000 in
set_option maxHeartbeats 4000000 in
theorem rlearn_ok (a : Option Addr) (c : Nat) (f : Ents) (i : Nat) (th ep now : Int) (w : World) (hi8 : i < 8) (hA : RowOf knCells 4 w a (knL f)) (hok : lrnOk f (i : Int) ep = true) :
    Calls Try.prog 60 #[.slice a (knL f).length c, .int .i64 i, .int .i64 th, .int .i64 ep, .int .i64 now] w fun e w' => ∃ v, e = .returned (.tuple #[v, .bool true]) ∧ KnB w.heap.size w' v (knL (lrn f i th ep now)) ∧ Below w.heap.size w w' := by
  obtain ⟨i0, hi, hz0, hz1, hz2⟩ := info_parts info_kn
  have hlen8 : (knL f).length ≤ 8 := knU_len f 8
  -- the new entry
  obtain ⟨t1, ht1⟩ : ∃ t1, t1 = (match f i with | none => th | some e => if e.ep = ep then e.th else th) := ⟨_, rfl⟩
  have hlr : lrn f i th ep now = upd f i (some ⟨t1, ep, tck now⟩) := by
    unfold lrn
    rw [if_pos hok, ht1]
    rfl
  rw [hlr]
  obtain ⟨e1, he1⟩ : ∃ e1 : Ent, e1 = ⟨t1, ep, tck now⟩ := ⟨_, rfl⟩
  rw [← he1]
  have j0 : ¬ (i : Int) < 0 := by omega
  have j1 : ¬ (7 : Int) < (i : Int) := by omega
  obtain ⟨W1, hW1⟩ : ∃ W1, W1 = w.alloc (.cells (xCells i t1 ep (tck now)).toArray 44) := ⟨_, rfl⟩
  have hX1 : IsObj W1 w.heap.size 44 (xCells i t1 ep (tck now)) := by rw [hW1]; exact IsObj.new w _ _
  have hb1 : Below w.heap.size w W1 := by rw [hW1]; exact (Below.refl _ _).alloc (Nat.le_refl _) _
  have hT := Lib.hid (fun w => rtick_any now w)
  -- what the first Find says
  have hcase : (findK (knL f) (i : Int) = -1 ∧ t1 = th) ∨ (∃ k : Nat, findK (knL f) (i : Int) = (k : Int) ∧ k < (knL f).length ∧ (nth (knL f) k).ep < ep ∧ t1 = th) ∨ (∃ k : Nat, findK (knL f) (i : Int) = (k : Int) ∧ k < (knL f).length ∧ (nth (knL f) k).ep = ep ∧ t1 = (nth (knL f) k).th) := by
    cases hf : f i with
    | none => exact .inl ⟨find_no hf, by rw [ht1, hf]⟩
    | some e0 =>
      obtain ⟨k, h1, h2, h3⟩ := find_some hi8 hf
      have hle : e0.ep ≤ ep := by
        simp only [lrnOk, Int.toNat_natCast, hf, Bool.and_eq_true, decide_eq_true_eq] at hok
        exact hok.2
      by_cases he : e0.ep = ep
      · refine .inr (.inr ⟨k, h1, h2, ?_, ?_⟩)
        · rw [h3]; exact he
        · rw [ht1, hf, h3]
          show (if e0.ep = ep then e0.th else th) = e0.th
          rw [if_pos he]
      · refine .inr (.inl ⟨k, h1, h2, ?_, ?_⟩)
        · rw [h3]; show e0.ep < ep; omega
        · rw [ht1, hf]
          show (if e0.ep = ep then e0.th else th) = th
          rw [if_neg he]
  have HFd := Lib.hid (fun to w h => rfind_any a c (knL f) to w (Nat.le_trans hlen8 (by decide)) h)
  have HA1 := Lib.hid (hA.same knCells_len hb1)
  have HFi := Lib.hid (fun w h => rfind_any a c (knL f) (i : Int) w (Nat.le_trans hlen8 (by decide)) h)
  have hlt : ∀ b off, a = some ⟨b, off, none⟩ → 0 < (knL f).length → ∀ k, k < (knL f).length → w.cell? ⟨b, off + k * 4, none⟩ = some (.int .i64 (nth (knL f) k).to) ∧ w.cell? ⟨b, off + k * 4 + 1, none⟩ = some (.int .i64 (nth (knL f) k).th) ∧ w.cell? ⟨b, off + k * 4 + 2, none⟩ = some (.int .i64 (nth (knL f) k).ep) := by
    intro b off hab h0 k hk
    rcases hA with h | ⟨b', off', h, hc⟩
    · rw [h] at h0; simp at h0
    · rw [hab] at h
      cases h
      obtain ⟨c0, c1, c2, _⟩ := kn_cells hc k hk
      exact ⟨c0, c1, c2⟩
  have HX1 := Lib.hid hX1
  have HB1 := Lib.hid hb1
  have HAw := Lib.hid hA
  clear hb1 hX1 hlr ht1
  simp only [xCells] at hW1
  rcases hcase with ⟨hF, rfl⟩ | ⟨k0, hF, hk0, hep, rfl⟩ | ⟨k0, hF, hk0, hep, rfl⟩
  · rw [hF] at HFi
    go_enter Try.func60, Try.ntmps60
    go_wp2_with (first | (go_at_call 98; (with_reducible refine (hT.out _).mono ?_); rintro e w' ⟨rfl, rfl⟩) | (go_at_call 99; (with_reducible refine (HFi.out _ (HAw.out.same knCells_len ((Below.refl _ _).alloc (Nat.le_refl _) _))).mono ?_); rintro e w' ⟨rfl, rfl⟩))
    rw [← hW1]
    clear hW1 HFi hF HAw hT j0 j1 hlt
    try clear c0 c1 c2 hbl m1 m2 hk0 hep
    go_loopw [14, 15] (fun v q wr => ∃ k : Nat, k ≤ 8 ∧ q = .int .i64 k ∧ wr.ownsRow W1.heap.size 44 4 v (knU (upd f i (some e1)) k).length ((knU (upd f i (some e1)) k).flatMap knCells) ∧ Below W1.heap.size W1 wr) (fun _ q _ => 8 - (intOf q).toNat)
    case atStart => exact ⟨0, by omega, rfl, World.ownsRow_nil _ _ _ _, Below.refl _ _⟩
    case round =>
      obtain ⟨k, hk8, rfl, hown, hb⟩ := hrel
      have HO := Lib.hid hown
      have HB := Lib.hid hb
      have hsz := hb.size
      have hlenk := knU_len (upd f i (some e1)) k
      have hAr := HA1.out.same knCells_len hb
      have hXr := IsObj.below HX1.out hb HX1.out.lt
      clear hown hb
      by_cases hlt8 : k < 8
      · have i1 : (0 : Int) ≤ (k : Int) := by omega
        have i2 : (k : Int) < 8 := by omega
        have F := HFd.out (k : Int)
        by_cases hki : k = i
        · subst hki
          obtain ⟨L2, F2⟩ := knU_step (upd f k (some e1)) k e1 (upd_same f k (some e1))
          have x0 : wr.cell? ⟨w.heap.size, 0, none⟩ = some (.int .i64 k) := IsObj.cell hXr 0
          have x1 := IsObj.cell hXr 1
          have x2 := IsObj.cell hXr 2
          have x3 := IsObj.cell hXr 3
          have xl := IsObj.lt hXr
          have hkk : knCells (knOf k e1) = [.int .i64 k, .int .i64 t1, .int .i64 ep, .int .i64 (tck now)] := by rw [he1]; rfl
          rw [hkk] at F2
          have HL2 := Lib.hid L2
          have HF2 := Lib.hid F2
          simp only [List.getElem?_cons_zero, List.getElem?_cons_succ] at x1 x2 x3
          obtain ⟨fk, hfk⟩ : ∃ fk, fk = findK (knL f) (k : Int) := ⟨_, rfl⟩
          rw [← hfk] at F
          have HFk := Lib.hid (F wr hAr)
          clear L2 F2 F hfk hAr hXr hkk
          go_wp2_with (first
            | (go_at_call 99; (with_reducible refine (HFk.out).mono ?_); rintro e w' ⟨rfl, rfl⟩)
            | (at_builtin; refine wpList_append_one (by rfl) _ _ 28 (by rfl) W1.heap.size 44 i0 (.agg #[.int .i64 0, .int .i64 0, .int .i64 0, .int .i64 0]) 4 32 Try.underlying28 hi hz0 hz1 hz2 rfl (by decide) _ _ _ _ (by rfl) HO.out (by rfl) (by rfl) (by rfl) (by omega) (by omega) hsz ?_; intro v' w2 hown2 hb2))
          first
            | exact ⟨⟨k + 1, by omega, by go_num, by rw [HL2.out, HF2.out]; exact hown2, HB.out.trans hb2⟩, by simp only [intOf]; omega⟩
            | (go_roundw
               case rel => exact ⟨k + 1, by omega, by go_num, by rw [HL2.out, HF2.out]; exact hown2, HB.out.trans hb2⟩
               case measure => simp [intOf]; omega)
        · have hkb : ((k : Int) == (i : Int)) = false := by simp; omega
          have hu : upd f i (some e1) k = f k := upd_other f i k _ hki
          cases hf : f k with
          | none =>
            rw [find_no hf] at F
            have hs2 := knU_skip (upd f i (some e1)) k (by rw [hu]; exact hf)
            have HS2 := Lib.hid hs2
            have HFk := Lib.hid (F wr hAr)
            clear F hAr hXr hs2 hu hf
            go_wp2_with (first | (go_at_call 99; (with_reducible refine (HFk.out).mono ?_); rintro e w' ⟨rfl, rfl⟩))
            first
              | exact ⟨⟨k + 1, by omega, by go_num, by rw [HS2.out]; exact HO.out, HB.out⟩, by simp only [intOf]; omega⟩
              | (go_roundw
                 case rel => exact ⟨k + 1, by omega, by go_num, by rw [HS2.out]; exact HO.out, HB.out⟩
                 case measure => simp [intOf]; omega)
          | some e2 =>
            obtain ⟨j, hj1, hj2, hj3⟩ := find_some hlt8 hf
            rw [hj1] at F
            obtain ⟨L2, F2⟩ := knU_step (upd f i (some e1)) k e2 (by rw [hu]; exact hf)
            have HL2 := Lib.hid L2
            have HF2 := Lib.hid F2
            have HFk := Lib.hid (F wr hAr)
            rcases hAr with h | ⟨b', off', hab, hc⟩
            · have h' := congrArg List.length h
              simp only [List.length_nil] at h'
              have h2 : (knU f 8).length = 0 := h'
              omega
            obtain ⟨y0, y1, y2, y3⟩ := kn_cells hc j hj2
            rw [hj3] at y0 y1 y2 y3
            have yl := cell_lt y0
            simp only at yl
            have n1 : (0 : Int) ≤ (j : Int) := by omega
            have n2 : (j : Int) < ((knL f).length : Int) := Int.ofNat_lt.2 hj2
            first | subst hab | cases hab
            clear L2 F2 F hXr hu hf hc hj1 hj3
            simp only [knOf] at y0 y1 y2 y3
            go_wp2_with (first
              | (go_at_call 99; (with_reducible refine (HFk.out).mono ?_); rintro e w' ⟨rfl, rfl⟩)
              | (at_builtin; refine wpList_append_one (by rfl) _ _ 28 (by rfl) W1.heap.size 44 i0 (.agg #[.int .i64 0, .int .i64 0, .int .i64 0, .int .i64 0]) 4 32 Try.underlying28 hi hz0 hz1 hz2 rfl (by decide) _ _ _ _ (by rfl) HO.out (by rfl) (by rfl) (by rfl) (by omega) (by omega) hsz ?_; intro v' w2 hown2 hb2))
            first
              | exact ⟨⟨k + 1, by omega, by go_num, by rw [HL2.out, HF2.out]; exact hown2, HB.out.trans hb2⟩, by simp only [intOf]; omega⟩
              | (go_roundw
                 case rel => exact ⟨k + 1, by omega, by go_num, by rw [HL2.out, HF2.out]; exact hown2, HB.out.trans hb2⟩
                 case measure => simp [intOf]; omega)
      · obtain rfl : k = 8 := by omega
        clear hAr hXr
        go_wp2
        go_returns
        exact ⟨_, rfl, knB_of_own HO.out rfl HB1.out.size, HB1.out.trans (HB.out.mono HB1.out.size)⟩
  · obtain ⟨b, off, rfl⟩ : ∃ b off, a = some ⟨b, off, none⟩ := by
      rcases HAw.out with h | ⟨b, off, rfl, _⟩
      · rw [h] at hk0; simp at hk0
      · exact ⟨b, off, rfl⟩
    obtain ⟨c0, c1, c2⟩ := hlt b off rfl (by omega) k0 hk0
    have hbl := cell_lt c0
    simp only at hbl
    rw [hF] at HFi
    have m1 : (0 : Int) ≤ (k0 : Int) := by omega
    have m2 : (k0 : Int) < ((knL f).length : Int) := by omega
    generalize nth (knL f) k0 = e0 at *
    have hd1 : decide (ep < e0.ep) = false := by simp; omega
    have hd2 : (e0.ep == ep) = false := by simp; omega
    go_enter Try.func60, Try.ntmps60
    go_wp2_with (first | (go_at_call 98; (with_reducible refine (hT.out _).mono ?_); rintro e w' ⟨rfl, rfl⟩) | (go_at_call 99; (with_reducible refine (HFi.out _ (HAw.out.same knCells_len ((Below.refl _ _).alloc (Nat.le_refl _) _))).mono ?_); rintro e w' ⟨rfl, rfl⟩))
    rw [← hW1]
    clear hW1 HFi hF HAw hT j0 j1 hlt
    try clear c0 c1 c2 hbl m1 m2 hk0 hep
    go_loopw [14, 15] (fun v q wr => ∃ k : Nat, k ≤ 8 ∧ q = .int .i64 k ∧ wr.ownsRow W1.heap.size 44 4 v (knU (upd f i (some e1)) k).length ((knU (upd f i (some e1)) k).flatMap knCells) ∧ Below W1.heap.size W1 wr) (fun _ q _ => 8 - (intOf q).toNat)
    case atStart => exact ⟨0, by omega, rfl, World.ownsRow_nil _ _ _ _, Below.refl _ _⟩
    case round =>
      obtain ⟨k, hk8, rfl, hown, hb⟩ := hrel
      have HO := Lib.hid hown
      have HB := Lib.hid hb
      have hsz := hb.size
      have hlenk := knU_len (upd f i (some e1)) k
      have hAr := HA1.out.same knCells_len hb
      have hXr := IsObj.below HX1.out hb HX1.out.lt
      clear hown hb
      by_cases hlt8 : k < 8
      · have i1 : (0 : Int) ≤ (k : Int) := by omega
        have i2 : (k : Int) < 8 := by omega
        have F := HFd.out (k : Int)
        by_cases hki : k = i
        · subst hki
          obtain ⟨L2, F2⟩ := knU_step (upd f k (some e1)) k e1 (upd_same f k (some e1))
          have x0 : wr.cell? ⟨w.heap.size, 0, none⟩ = some (.int .i64 k) := IsObj.cell hXr 0
          have x1 := IsObj.cell hXr 1
          have x2 := IsObj.cell hXr 2
          have x3 := IsObj.cell hXr 3
          have xl := IsObj.lt hXr
          have hkk : knCells (knOf k e1) = [.int .i64 k, .int .i64 t1, .int .i64 ep, .int .i64 (tck now)] := by rw [he1]; rfl
          rw [hkk] at F2
          have HL2 := Lib.hid L2
          have HF2 := Lib.hid F2
          simp only [List.getElem?_cons_zero, List.getElem?_cons_succ] at x1 x2 x3
          obtain ⟨fk, hfk⟩ : ∃ fk, fk = findK (knL f) (k : Int) := ⟨_, rfl⟩
          rw [← hfk] at F
          have HFk := Lib.hid (F wr hAr)
          clear L2 F2 F hfk hAr hXr hkk
          go_wp2_with (first
            | (go_at_call 99; (with_reducible refine (HFk.out).mono ?_); rintro e w' ⟨rfl, rfl⟩)
            | (at_builtin; refine wpList_append_one (by rfl) _ _ 28 (by rfl) W1.heap.size 44 i0 (.agg #[.int .i64 0, .int .i64 0, .int .i64 0, .int .i64 0]) 4 32 Try.underlying28 hi hz0 hz1 hz2 rfl (by decide) _ _ _ _ (by rfl) HO.out (by rfl) (by rfl) (by rfl) (by omega) (by omega) hsz ?_; intro v' w2 hown2 hb2))
          first
            | exact ⟨⟨k + 1, by omega, by go_num, by rw [HL2.out, HF2.out]; exact hown2, HB.out.trans hb2⟩, by simp only [intOf]; omega⟩
            | (go_roundw
               case rel => exact ⟨k + 1, by omega, by go_num, by rw [HL2.out, HF2.out]; exact hown2, HB.out.trans hb2⟩
               case measure => simp [intOf]; omega)
        · have hkb : ((k : Int) == (i : Int)) = false := by simp; omega
          have hu : upd f i (some e1) k = f k := upd_other f i k _ hki
          cases hf : f k with
          | none =>
            rw [find_no hf] at F
            have hs2 := knU_skip (upd f i (some e1)) k (by rw [hu]; exact hf)
            have HS2 := Lib.hid hs2
            have HFk := Lib.hid (F wr hAr)
            clear F hAr hXr hs2 hu hf
            go_wp2_with (first | (go_at_call 99; (with_reducible refine (HFk.out).mono ?_); rintro e w' ⟨rfl, rfl⟩))
            first
              | exact ⟨⟨k + 1, by omega, by go_num, by rw [HS2.out]; exact HO.out, HB.out⟩, by simp only [intOf]; omega⟩
              | (go_roundw
                 case rel => exact ⟨k + 1, by omega, by go_num, by rw [HS2.out]; exact HO.out, HB.out⟩
                 case measure => simp [intOf]; omega)
          | some e2 =>
            obtain ⟨j, hj1, hj2, hj3⟩ := find_some hlt8 hf
            rw [hj1] at F
            obtain ⟨L2, F2⟩ := knU_step (upd f i (some e1)) k e2 (by rw [hu]; exact hf)
            have HL2 := Lib.hid L2
            have HF2 := Lib.hid F2
            have HFk := Lib.hid (F wr hAr)
            rcases hAr with h | ⟨b', off', hab, hc⟩
            · have h' := congrArg List.length h
              simp only [List.length_nil] at h'
              have h2 : (knU f 8).length = 0 := h'
              omega
            obtain ⟨y0, y1, y2, y3⟩ := kn_cells hc j hj2
            rw [hj3] at y0 y1 y2 y3
            have yl := cell_lt y0
            simp only at yl
            have n1 : (0 : Int) ≤ (j : Int) := by omega
            have n2 : (j : Int) < ((knL f).length : Int) := Int.ofNat_lt.2 hj2
            first | subst hab | cases hab
            clear L2 F2 F hXr hu hf hc hj1 hj3
            simp only [knOf] at y0 y1 y2 y3
            go_wp2_with (first
              | (go_at_call 99; (with_reducible refine (HFk.out).mono ?_); rintro e w' ⟨rfl, rfl⟩)
              | (at_builtin; refine wpList_append_one (by rfl) _ _ 28 (by rfl) W1.heap.size 44 i0 (.agg #[.int .i64 0, .int .i64 0, .int .i64 0, .int .i64 0]) 4 32 Try.underlying28 hi hz0 hz1 hz2 rfl (by decide) _ _ _ _ (by rfl) HO.out (by rfl) (by rfl) (by rfl) (by omega) (by omega) hsz ?_; intro v' w2 hown2 hb2))
            first
              | exact ⟨⟨k + 1, by omega, by go_num, by rw [HL2.out, HF2.out]; exact hown2, HB.out.trans hb2⟩, by simp only [intOf]; omega⟩
              | (go_roundw
                 case rel => exact ⟨k + 1, by omega, by go_num, by rw [HL2.out, HF2.out]; exact hown2, HB.out.trans hb2⟩
                 case measure => simp [intOf]; omega)
      · obtain rfl : k = 8 := by omega
        clear hAr hXr
        go_wp2
        go_returns
        exact ⟨_, rfl, knB_of_own HO.out rfl HB1.out.size, HB1.out.trans (HB.out.mono HB1.out.size)⟩
  · obtain ⟨b, off, rfl⟩ : ∃ b off, a = some ⟨b, off, none⟩ := by
      rcases HAw.out with h | ⟨b, off, rfl, _⟩
      · rw [h] at hk0; simp at hk0
      · exact ⟨b, off, rfl⟩
    obtain ⟨c0, c1, c2⟩ := hlt b off rfl (by omega) k0 hk0
    have hbl := cell_lt c0
    simp only at hbl
    rw [hF] at HFi
    have m1 : (0 : Int) ≤ (k0 : Int) := by omega
    have m2 : (k0 : Int) < ((knL f).length : Int) := by omega
    generalize nth (knL f) k0 = e0 at *
    go_enter Try.func60, Try.ntmps60
    go_wp2_with (first | (go_at_call 98; (with_reducible refine (hT.out _).mono ?_); rintro e w' ⟨rfl, rfl⟩) | (go_at_call 99; (with_reducible refine (HFi.out _ (HAw.out.same knCells_len ((Below.refl _ _).alloc (Nat.le_refl _) _))).mono ?_); rintro e w' ⟨rfl, rfl⟩))
    rw [← hW1]
    clear hW1 HFi hF HAw hT j0 j1 hlt
    try clear c0 c1 c2 hbl m1 m2 hk0 hep
    go_loopw [14, 15] (fun v q wr => ∃ k : Nat, k ≤ 8 ∧ q = .int .i64 k ∧ wr.ownsRow W1.heap.size 44 4 v (knU (upd f i (some e1)) k).length ((knU (upd f i (some e1)) k).flatMap knCells) ∧ Below W1.heap.size W1 wr) (fun _ q _ => 8 - (intOf q).toNat)
    case atStart => exact ⟨0, by omega, rfl, World.ownsRow_nil _ _ _ _, Below.refl _ _⟩
    case round =>
      obtain ⟨k, hk8, rfl, hown, hb⟩ := hrel
      have HO := Lib.hid hown
      have HB := Lib.hid hb
      have hsz := hb.size
      have hlenk := knU_len (upd f i (some e1)) k
      have hAr := HA1.out.same knCells_len hb
      have hXr := IsObj.below HX1.out hb HX1.out.lt
      clear hown hb
      by_cases hlt8 : k < 8
      · have i1 : (0 : Int) ≤ (k : Int) := by omega
        have i2 : (k : Int) < 8 := by omega
        have F := HFd.out (k : Int)
        by_cases hki : k = i
        · subst hki
          obtain ⟨L2, F2⟩ := knU_step (upd f k (some e1)) k e1 (upd_same f k (some e1))
          have x0 : wr.cell? ⟨w.heap.size, 0, none⟩ = some (.int .i64 k) := IsObj.cell hXr 0
          have x1 := IsObj.cell hXr 1
          have x2 := IsObj.cell hXr 2
          have x3 := IsObj.cell hXr 3
          have xl := IsObj.lt hXr
          have hkk : knCells (knOf k e1) = [.int .i64 k, .int .i64 e0.th, .int .i64 ep, .int .i64 (tck now)] := by rw [he1]; rfl
          rw [hkk] at F2
          have HL2 := Lib.hid L2
          have HF2 := Lib.hid F2
          simp only [List.getElem?_cons_zero, List.getElem?_cons_succ] at x1 x2 x3
          obtain ⟨fk, hfk⟩ : ∃ fk, fk = findK (knL f) (k : Int) := ⟨_, rfl⟩
          rw [← hfk] at F
          have HFk := Lib.hid (F wr hAr)
          clear L2 F2 F hfk hAr hXr hkk
          go_wp2_with (first
            | (go_at_call 99; (with_reducible refine (HFk.out).mono ?_); rintro e w' ⟨rfl, rfl⟩)
            | (at_builtin; refine wpList_append_one (by rfl) _ _ 28 (by rfl) W1.heap.size 44 i0 (.agg #[.int .i64 0, .int .i64 0, .int .i64 0, .int .i64 0]) 4 32 Try.underlying28 hi hz0 hz1 hz2 rfl (by decide) _ _ _ _ (by rfl) HO.out (by rfl) (by rfl) (by rfl) (by omega) (by omega) hsz ?_; intro v' w2 hown2 hb2))
          first
            | exact ⟨⟨k + 1, by omega, by go_num, by rw [HL2.out, HF2.out]; exact hown2, HB.out.trans hb2⟩, by simp only [intOf]; omega⟩
            | (go_roundw
               case rel => exact ⟨k + 1, by omega, by go_num, by rw [HL2.out, HF2.out]; exact hown2, HB.out.trans hb2⟩
               case measure => simp [intOf]; omega)
        · have hkb : ((k : Int) == (i : Int)) = false := by simp; omega
          have hu : upd f i (some e1) k = f k := upd_other f i k _ hki
          cases hf : f k with
          | none =>
            rw [find_no hf] at F
            have hs2 := knU_skip (upd f i (some e1)) k (by rw [hu]; exact hf)
            have HS2 := Lib.hid hs2
            have HFk := Lib.hid (F wr hAr)
            clear F hAr hXr hs2 hu hf
            go_wp2_with (first | (go_at_call 99; (with_reducible refine (HFk.out).mono ?_); rintro e w' ⟨rfl, rfl⟩))
            first
              | exact ⟨⟨k + 1, by omega, by go_num, by rw [HS2.out]; exact HO.out, HB.out⟩, by simp only [intOf]; omega⟩
              | (go_roundw
                 case rel => exact ⟨k + 1, by omega, by go_num, by rw [HS2.out]; exact HO.out, HB.out⟩
                 case measure => simp [intOf]; omega)
          | some e2 =>
            obtain ⟨j, hj1, hj2, hj3⟩ := find_some hlt8 hf
            rw [hj1] at F
            obtain ⟨L2, F2⟩ := knU_step (upd f i (some e1)) k e2 (by rw [hu]; exact hf)
            have HL2 := Lib.hid L2
            have HF2 := Lib.hid F2
            have HFk := Lib.hid (F wr hAr)
            rcases hAr with h | ⟨b', off', hab, hc⟩
            · have h' := congrArg List.length h
              simp only [List.length_nil] at h'
              have h2 : (knU f 8).length = 0 := h'
              omega
            obtain ⟨y0, y1, y2, y3⟩ := kn_cells hc j hj2
            rw [hj3] at y0 y1 y2 y3
            have yl := cell_lt y0
            simp only at yl
            have n1 : (0 : Int) ≤ (j : Int) := by omega
            have n2 : (j : Int) < ((knL f).length : Int) := Int.ofNat_lt.2 hj2
            first | subst hab | cases hab
            clear L2 F2 F hXr hu hf hc hj1 hj3
            simp only [knOf] at y0 y1 y2 y3
            go_wp2_with (first
              | (go_at_call 99; (with_reducible refine (HFk.out).mono ?_); rintro e w' ⟨rfl, rfl⟩)
              | (at_builtin; refine wpList_append_one (by rfl) _ _ 28 (by rfl) W1.heap.size 44 i0 (.agg #[.int .i64 0, .int .i64 0, .int .i64 0, .int .i64 0]) 4 32 Try.underlying28 hi hz0 hz1 hz2 rfl (by decide) _ _ _ _ (by rfl) HO.out (by rfl) (by rfl) (by rfl) (by omega) (by omega) hsz ?_; intro v' w2 hown2 hb2))
            first
              | exact ⟨⟨k + 1, by omega, by go_num, by rw [HL2.out, HF2.out]; exact hown2, HB.out.trans hb2⟩, by simp only [intOf]; omega⟩
              | (go_roundw
                 case rel => exact ⟨k + 1, by omega, by go_num, by rw [HL2.out, HF2.out]; exact hown2, HB.out.trans hb2⟩
                 case measure => simp [intOf]; omega)
      · obtain rfl : k = 8 := by omega
        clear hAr hXr
        go_wp2
        go_returns
        exact ⟨_, rfl, knB_of_own HO.out rfl HB1.out.size, HB1.out.trans (HB.out.mono HB1.out.size)⟩
end Go.Proofs.Ytgkmmoiniidhlaa
