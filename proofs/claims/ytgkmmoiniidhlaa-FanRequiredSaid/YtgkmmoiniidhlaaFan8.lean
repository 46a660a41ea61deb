/-
  The statement FanPlans of layer 33 (fan). No condition.
-/
import Derived.Test.YtgkmmoiniidhlaaFan7
namespace Go.Proofs.Ytgkmmoiniidhlaa
open Go.RowKit
set_option linter.unusedVariables false
set_option linter.unusedSimpArgs false

theorem why_in (c : Cl) (x : Nw) (ttl : Int) (f : Ents) : (stepOf c x ttl f).code = 0 ∨ (stepOf c x ttl f).code = 8 ∨ (stepOf c x ttl f).code = 9 ∨ ((stepOf c x ttl f).code = 11 ∧ (stepOf c x ttl f).req = false) := by
  by_cases h1 : 0 < c.tier ∧ x.tier < c.tier
  · rw [step_dim h1]
    refine .inr (.inr (.inr ⟨rfl, ?_⟩))
    have := h1.1
    simp only [beq_eq_false_iff_ne]
    omega
  · by_cases h2 : spOk x.tick x.dl c.wt c.most = false
    · rw [step_low h1 h2]
      exact .inr (.inr (.inl rfl))
    · have h2' : spOk x.tick x.dl c.wt c.most = true := by simpa using h2
      by_cases h3 : cuts f ttl c.to x.lev x.tick = true
      · rw [step_cut h1 h2' h3]
        exact .inr (.inl rfl)
      · have h3' : cuts f ttl c.to x.lev x.tick = false := by simpa using h3
        rw [step_goes h1 h2' h3']
        exact .inl rfl
theorem code_in (l : List Cl) (x : Nw) (ttl : Int) (f : Ents) : planCode (fun c => stepOf c x ttl f) l = 0 ∨ planCode (fun c => stepOf c x ttl f) l = 8 ∨ planCode (fun c => stepOf c x ttl f) l = 9 := by
  unfold planCode
  cases h : l.find? (bad fun c => stepOf c x ttl f) with
  | none => exact .inl rfl
  | some c =>
    have hb := List.find?_some h
    unfold bad at hb
    rcases why_in c x ttl f with h1 | h1 | h1 | ⟨h1, h2⟩
    · exact .inl h1
    · exact .inr (.inl h1)
    · exact .inr (.inr h1)
    · rw [h2] at hb
      simp at hb
theorem steps_len (g : Cl → Stp) (l : List Cl) : (planSteps g l).length ≤ l.length := by
  unfold planSteps
  split <;> simp

/-- What holds while FanPlans draws the order of one round's operations. -/
structure RegP (wr : World) (ba o H N : Nat) (c : Cl) (x : Nw) (ttl : Int) (v : Value) (W : World) : Prop where
  c0 : W.cell? ⟨ba, o, none⟩ = some (.int .i64 c.to)
  c1 : W.cell? ⟨ba, o + 1, none⟩ = some (.int .i64 c.tier)
  c2 : W.cell? ⟨ba, o + 2, none⟩ = some (.int .i64 c.wt)
  c3 : W.cell? ⟨ba, o + 3, none⟩ = some (.int .i64 c.most)
  x0 : W.cell? ⟨H, 0, none⟩ = some (.int .i64 x.tier)
  x1 : W.cell? ⟨H, 1, none⟩ = some (.int .i64 x.lev)
  x2 : W.cell? ⟨H, 2, none⟩ = some (.int .i64 x.tick)
  x3 : W.cell? ⟨H, 3, none⟩ = some (.int .i64 x.dl)
  n0 : W.cell? ⟨N, 0, none⟩ = some (.int .i64 x.tier)
  n1 : W.cell? ⟨N, 1, none⟩ = some (.int .i64 x.lev)
  n2 : W.cell? ⟨N, 2, none⟩ = some (.int .i64 x.tick)
  n3 : W.cell? ⟨N, 3, none⟩ = some (.int .i64 x.dl)
  n4 : W.cell? ⟨N, 4, none⟩ = some (.int .i64 ttl)
  n5 : W.cell? ⟨N, 5, none⟩ = some v
  b : Below wr.heap.size wr W
theorem RegP.keep {wr : World} {ba o H N : Nat} {c : Cl} {x : Nw} {ttl : Int} {v : Value} {W W1 : World} (h : RegP wr ba o H N c x ttl v W) (hb : Below W.heap.size W W1) : RegP wr ba o H N c x ttl v W1 :=
  ⟨cell_keep hb h.c0, cell_keep hb h.c1, cell_keep hb h.c2, cell_keep hb h.c3, cell_keep hb h.x0, cell_keep hb h.x1, cell_keep hb h.x2, cell_keep hb h.x3, cell_keep hb h.n0, cell_keep hb h.n1, cell_keep hb h.n2, cell_keep hb h.n3, cell_keep hb h.n4, cell_keep hb h.n5, h.b.trans (hb.mono h.b.size)⟩

set_option maxRecDepth 100000 in
set_option maxHeartbeats 4000000 in
theorem fplans_walk (a : Option Addr) (cap : Nat) (l : List Cl) (x : Nw) (a2 : Option Addr) (cap2 : Nat) (l2 : List Td) (w : World) (g1 : l.length ≤ cap) (g2 : cap ≤ 9223372036854775807) (g3 : l2.length ≤ cap2) (g4 : cap2 ≤ 9223372036854775807) (hA : RowOf clCells 4 w a l) (hA2 : RowOf tdCells 4 w a2 l2) :
    Calls Try.prog 4 #[.slice a l.length cap, nwV x, .slice a2 l2.length cap2] w fun e w' => e = .returned (.bool true) ∧ Below w.heap.size w w' := by
  have HZ := Lib.hid awake33
  have HA := Lib.hid hA
  have HA2 := Lib.hid hA2
  clear hA hA2
  by_cases hl : 12 < l.length ∨ 30 < l2.length
  · rcases hl with hl | hl
    · have hd : decide ((12 : Int) < (l.length : Int)) = true := by simp; omega
      go_enter Try.func4, Try.ntmps4
      go_wp2_with (go_at_call 12; refine (HZ.out _).mono ?_; rintro e w1 ⟨rfl, hb⟩)
      go_ret
      exact ⟨rfl, Below.trans ((Below.refl _ _).alloc (Nat.le_refl _) _) (hb.mono (by simp))⟩
    · by_cases hl0 : 12 < l.length
      · have hd : decide ((12 : Int) < (l.length : Int)) = true := by simp; omega
        go_enter Try.func4, Try.ntmps4
        go_wp2_with (go_at_call 12; refine (HZ.out _).mono ?_; rintro e w1 ⟨rfl, hb⟩)
        go_ret
        exact ⟨rfl, Below.trans ((Below.refl _ _).alloc (Nat.le_refl _) _) (hb.mono (by simp))⟩
      · have hd : decide ((12 : Int) < (l.length : Int)) = false := by simp; omega
        have hd2 : decide ((30 : Int) < (l2.length : Int)) = true := by simp; omega
        go_enter Try.func4, Try.ntmps4
        go_wp2_with (go_at_call 12; refine (HZ.out _).mono ?_; rintro e w1 ⟨rfl, hb⟩)
        go_ret
        exact ⟨rfl, Below.trans ((Below.refl _ _).alloc (Nat.le_refl _) _) (hb.mono (by simp))⟩
  · have hd : decide ((12 : Int) < (l.length : Int)) = false := by simp; omega
    have hd2 : decide ((30 : Int) < (l2.length : Int)) = false := by simp; omega
    have l1 : l.length ≤ 12 := by omega
    have l3 : l2.length ≤ 30 := by omega
    clear hl
    go_enter Try.func4, Try.ntmps4
    go_wp2_with fail
    obtain ⟨f, hf⟩ : ∃ f, f = tolds l2 := ⟨_, rfl⟩
    have hO := of_any 20 a2 cap2 l2 x (w.alloc (.cells #[.int .i64 x.tier, .int .i64 x.lev, .int .i64 x.tick, .int .i64 x.dl] 24)) (by decide) (by decide) (by omega) (HA2.out.same tdCells_len ((Below.refl _ _).alloc (Nat.le_refl _) _))
    rw [← hf] at hO
    clear hf HA2
    refine hO.mono ?_
    clear hO
    rintro e w1 ⟨T, v, rfl, hT, hK, hb⟩
    obtain ⟨kn, ka, kc, rfl⟩ : ∃ n a c, v = .slice a n c := by
      obtain ⟨a, c, h, _⟩ := hK
      exact ⟨_, a, c, h⟩
    have hbw : Below w.heap.size w w1 := Below.trans ((Below.refl _ _).alloc (Nat.le_refl _) _) (hb.mono (by simp))
    have HB1 := Lib.hid hbw
    have HT1 := Lib.hid hT
    have HK1 := Lib.hid hK
    have HX1 := Lib.hid (IsObj.below (IsObj.new w 24 [.int .i64 x.tier, .int .i64 x.lev, .int .i64 x.tick, .int .i64 x.dl]) hb (by simp))
    have HA1 := Lib.hid (HA.out.same clCells_len hbw)
    obtain ⟨H, hH⟩ : ∃ H, H = w.heap.size := ⟨_, rfl⟩
    rw [← hH] at HX1 ⊢
    clear hT hK hb hbw HA
    have x0 := HX1.out.cell 0
    have x1 := HX1.out.cell 1
    have x2 := HX1.out.cell 2
    have x3 := HX1.out.cell 3
    simp only [List.getElem?_cons_succ, List.getElem?_cons_zero] at x0 x1 x2 x3
    have hlx := HX1.out.lt
    have HW := Lib.hid hH
    clear hH
    go_wp2_with fail
    obtain ⟨W2, hW2⟩ : ∃ W2, W2 = w1.alloc (.cells #[.int .i64 x.tier, .int .i64 x.lev, .int .i64 x.tick, .int .i64 x.dl, .int .i64 20, .slice ka kn kc] 30) := ⟨_, rfl⟩
    have hb12 : Below w1.heap.size w1 W2 := by rw [hW2]; exact (Below.refl _ _).alloc (Nat.le_refl _) _
    have HN2 : Hid (IsObj W2 w1.heap.size 30 [.int .i64 x.tier, .int .i64 x.lev, .int .i64 x.tick, .int .i64 x.dl, .int .i64 20, .slice ka kn kc]) := by rw [hW2]; exact Lib.hid (IsObj.newAt _ _ _ rfl)
    rw [← hW2]
    clear hW2 x0 x1 x2 x3 hlx
    have HX2 := Lib.hid (HX1.out.below hb12 HX1.out.lt)
    have HT2 := Lib.hid (HT1.out.same hb12)
    have HK2 := Lib.hid (HK1.out.same hb12)
    have HA2 := Lib.hid (HA1.out.same clCells_len hb12)
    have HB2 := Lib.hid (HB1.out.trans (hb12.mono HB1.out.size))
    have hC := plan_any a cap l x T 20 f W2 (by omega) HA2.out HT2.out
    clear HX1 HT1 HK1 HA1 HB1 hb12
    obtain ⟨code, hcode⟩ : ∃ code, code = planCode (fun c => stepOf c x 20 f) l := ⟨_, rfl⟩
    obtain ⟨steps, hsteps⟩ : ∃ steps, steps = planSteps (fun c => stepOf c x 20 f) l := ⟨_, rfl⟩
    have hne : code ≠ 1 := by have := code_in l x 20 f; omega
    have hsl : steps.length ≤ 1000 := by have := steps_len (fun c => stepOf c x 20 f) l; rw [← hsteps] at this; omega
    rw [← hcode, ← hsteps] at hC
    have HCE := Lib.hid hcode
    have HSE := Lib.hid hsteps
    clear hcode hsteps
    generalize w1.heap.size = N at *
    refine hC.mono ?_
    clear hC
    rintro e w3 ⟨v3, rfl, ⟨a3, c3, rfl, -, -, hS3⟩, hb3⟩
    have HX3 := Lib.hid (HX2.out.below hb3 HX2.out.lt)
    have HN3 := Lib.hid (HN2.out.below hb3 HN2.out.lt)
    have HT3 := Lib.hid (HT2.out.same hb3)
    have HK3 := Lib.hid (HK2.out.same hb3)
    have HA3 := Lib.hid (HA2.out.same clCells_len hb3)
    have HB3 := Lib.hid (HB2.out.trans (hb3.mono HB2.out.size))
    have HS3 := Lib.hid hS3
    have n0 := HN3.out.cell 0
    have n1 := HN3.out.cell 1
    have n2 := HN3.out.cell 2
    have n3 := HN3.out.cell 3
    have n4 := HN3.out.cell 4
    have n5 := HN3.out.cell 5
    simp only [List.getElem?_cons_succ, List.getElem?_cons_zero] at n0 n1 n2 n3 n4 n5
    have hln := HN3.out.lt
    clear HX2 HN2 HT2 HK2 HA2 HB2 hS3 hb3
    go_wp2_with fail
    obtain ⟨W4, hW4⟩ : ∃ W4, W4 = w3.alloc (.cells #[.int .i64 code, .slice a3 steps.length c3] 35) := ⟨_, rfl⟩
    have hb34 : Below w3.heap.size w3 W4 := by rw [hW4]; exact (Below.refl _ _).alloc (Nat.le_refl _) _
    have HP4 : Hid (IsObj W4 w3.heap.size 35 [.int .i64 code, .slice a3 steps.length c3]) := by rw [hW4]; exact Lib.hid (IsObj.newAt _ _ _ rfl)
    rw [← hW4]
    clear hW4 n0 n1 n2 n3 n4 n5 hln
    have HX4 := Lib.hid (HX3.out.below hb34 HX3.out.lt)
    have HN4 := Lib.hid (HN3.out.below hb34 HN3.out.lt)
    have HT4 := Lib.hid (HT3.out.same hb34)
    have HK4 := Lib.hid (HK3.out.same hb34)
    have HA4 := Lib.hid (HA3.out.same clCells_len hb34)
    have HB4 := Lib.hid (HB3.out.trans (hb34.mono HB3.out.size))
    have HS4 := Lib.hid (HS3.out.same stpCells_len hb34)
    have hC := rplan_any a cap l x 20 f (.slice ka kn kc) W4 (by omega) HA4.out HK4.out
    clear HX3 HN3 HT3 HK3 HA3 HB3 HS3 hb34
    rw [← HCE.out, ← HSE.out] at hC
    generalize w3.heap.size = Y at *
    refine hC.mono ?_
    clear hC
    rintro e w5 ⟨v5, rfl, ⟨a5, c5, rfl, -, -, hS5⟩, hb5⟩
    have HX5 := Lib.hid (HX4.out.below hb5 HX4.out.lt)
    have HN5 := Lib.hid (HN4.out.below hb5 HN4.out.lt)
    have HP5 := Lib.hid (HP4.out.below hb5 HP4.out.lt)
    have HT5 := Lib.hid (HT4.out.same hb5)
    have HK5 := Lib.hid (HK4.out.same hb5)
    have HA5 := Lib.hid (HA4.out.same clCells_len hb5)
    have HB5 := Lib.hid (HB4.out.trans (hb5.mono HB4.out.size))
    have HS5 := Lib.hid (HS4.out.same stpCells_len hb5)
    have HR5 := Lib.hid hS5
    have p0 := HP5.out.cell 0
    have p1 := HP5.out.cell 1
    simp only [List.getElem?_cons_succ, List.getElem?_cons_zero] at p0 p1
    have hlp := HP5.out.lt
    clear HX4 HN4 HT4 HK4 HA4 HB4 HP4 HS4 hS5 hb5
    go_wp2_with fail
    obtain ⟨W6, hW6⟩ : ∃ W6, W6 = w5.alloc (.cells #[.int .i64 code, .slice a5 steps.length c5] 35) := ⟨_, rfl⟩
    have hb56 : Below w5.heap.size w5 W6 := by rw [hW6]; exact (Below.refl _ _).alloc (Nat.le_refl _) _
    rw [← hW6]
    clear hW6 p0 p1 hlp
    have HX6 := Lib.hid (HX5.out.below hb56 HX5.out.lt)
    have HN6 := Lib.hid (HN5.out.below hb56 HN5.out.lt)
    have HP6 := Lib.hid (HP5.out.below hb56 HP5.out.lt)
    have HT6 := Lib.hid (HT5.out.same hb56)
    have HK6 := Lib.hid (HK5.out.same hb56)
    have HA6 := Lib.hid (HA5.out.same clCells_len hb56)
    have HB6 := Lib.hid (HB5.out.trans (hb56.mono HB5.out.size))
    have HS6 := Lib.hid (HS5.out.same stpCells_len hb56)
    have HR6 := Lib.hid (HR5.out.same stpCells_len hb56)
    clear HX5 HN5 HT5 HK5 HA5 HB5 HP5 HS5 HR5 hb56
    generalize w5.heap.size = Z at *
    refine (rsame33_eq code a3 a5 c3 c5 steps W6 hsl HS6.out HR6.out).mono ?_
    rintro e w7 ⟨rfl, hb7⟩
    have HP7 := Lib.hid (HP6.out.below hb7 HP6.out.lt)
    have hS7 := HS6.out.same stpCells_len hb7
    have hC := fsame_eq code a3 a3 c3 c3 steps w7 hsl hS7 hS7
    have p0 := HP7.out.cell 0
    have p1 := HP7.out.cell 1
    simp only [List.getElem?_cons_succ, List.getElem?_cons_zero] at p0 p1
    have HC := Lib.hid hC
    clear hC hS7
    go_wp2_with fail
    refine HC.out.mono ?_
    rintro e w8 ⟨rfl, hb8⟩
    clear HC p0 p1
    have hP8 := HP7.out.below hb8 HP7.out.lt
    have p0 := hP8.cell 0
    have p1 := hP8.cell 1
    simp only [List.getElem?_cons_succ, List.getElem?_cons_zero] at p0 p1
    clear hP8 HP7
    go_wp2_with fail
    refine (fsame_ne code 1 _ _ w8 hne).mono ?_
    rintro e w9 ⟨rfl, hb9⟩
    have hb69 : Below W6.heap.size W6 w9 := (hb7.trans (hb8.mono hb7.size)).trans (hb9.mono (Nat.le_trans hb7.size hb8.size))
    have HX9 := Lib.hid (HX6.out.below hb69 HX6.out.lt)
    have HN9 := Lib.hid (HN6.out.below hb69 HN6.out.lt)
    have HT9 := Lib.hid (HT6.out.same hb69)
    have HK9 := Lib.hid (HK6.out.same hb69)
    have HA9 := Lib.hid (HA6.out.same clCells_len hb69)
    have HB9 := Lib.hid (HB6.out.trans (hb69.mono HB6.out.size))
    clear p0 p1 HX6 HN6 HT6 HK6 HA6 HB6 HP6 HS6 HR6 hb7 hb8 hb9 hb69 hsl hne
    go_wp2_with fail
    go_loopw [11] (fun i wr => ∃ (k : Nat), k ≤ l.length ∧ i = .int .i64 k ∧ Below w9.heap.size w9 wr) (fun i _ => l.length - (intOf i).toNat)
    case atStart => exact ⟨0, Nat.zero_le _, rfl, Below.refl _ _⟩
    case round =>
      obtain ⟨k, hk, rfl, hP⟩ := hrel
      have HP := Lib.hid hP
      by_cases hlt : k < l.length
      · obtain ⟨ba, off, rfl, hc⟩ : ∃ b off, a = some ⟨b, off, none⟩ ∧ ∀ i, i < l.length → ∀ j, j < 4 → wr.cell? ⟨b, off + i * 4 + j, none⟩ = (clCells (nth l i))[j]? := by
          rcases (HA9.out.same clCells_len hP) with rfl | ⟨b, off, rfl, hc⟩
          · simp at hlt
          · exact ⟨b, off, rfl, hc⟩
        obtain ⟨c0, c1, c2, c3'⟩ := cl_cells hc k hlt
        generalize nth l k = c at *
        have hX := HX9.out.below hP HX9.out.lt
        have hN := HN9.out.below hP HN9.out.lt
        have HT := Lib.hid (HT9.out.same hP)
        have HK := Lib.hid (HK9.out.same hP)
        have x0 := hX.cell 0
        have x1 := hX.cell 1
        have x2 := hX.cell 2
        have x3 := hX.cell 3
        have n0 := hN.cell 0
        have n1 := hN.cell 1
        have n2 := hN.cell 2
        have n3 := hN.cell 3
        have n4 := hN.cell 4
        have n5 := hN.cell 5
        simp only [List.getElem?_cons_succ, List.getElem?_cons_zero] at x0 x1 x2 x3 n0 n1 n2 n3 n4 n5
        have i1 : (0 : Int) ≤ (k : Int) := by omega
        have i2 : (k : Int) < (l.length : Int) := by omega
        obtain ⟨s, hs⟩ : ∃ s, s = stepOf c x 20 f := ⟨_, rfl⟩
        have HS1 := Lib.hid (show ∀ W, TableAt W T 20 f → stepCall c x T W s from fun W h => by rw [hs]; exact step_any c x T 20 f W h)
        have HS2 := Lib.hid (show ∀ W, KnAt W (.slice ka kn kc) (knL f) → Calls Try.prog 21 #[clV c, rnV x 20 (.slice ka kn kc)] W fun e w' => e = .returned (stpV s) ∧ Below W.heap.size W w' from fun W h => by rw [hs]; exact rstep_any c x 20 f _ W h)
        clear hc hP hX hN hs
        go_wp2_with fail
        refine wp_region_held_drew (S := fun W => RegP wr ba (off + k * 4) H N c x 20 (.slice ka kn kc) W) (by kernel_rfl) ?_ (fun hHeld => ?_)
        · (try dsimp only); exact ⟨c0, c1, c2, c3', x0, x1, x2, x3, n0, n1, n2, n3, n4, n5, (Below.refl _ _).drew⟩
        refine wpAnyH_take (i := 0) (oi := ?oi1) (v := ?v1) ?hi1 (by kernel_rfl) (by kernel_rfl) (by kernel_rfl) ?hQ1 ?hy1 (by assumption) ?_
        case hi1 => (simp only [List.getElem?_toArray, List.getElem?_cons_succ, List.getElem?_cons_zero]; rfl)
        case hQ1 => exact fun _ _ _ h => h
        case hy1 => (refine Or.inl ⟨by rfl, ?_⟩; intro w hSw; obtain ⟨d0, d1, d2, d3, e0, e1, e2, e3, m0, m1, m2, m3, m4, m5, _⟩ := hSw; go_simp; try with_reducible rfl)
        try simp only [Act.put, List.setIfInBounds_toArray, List.set_cons_zero, List.set_cons_succ]
        refine wpAnyH_take (i := 1) (oi := ?oi2) (v := ?v2) ?hi2 (by kernel_rfl) (by kernel_rfl) (by kernel_rfl) ?hQ2 ?hy2 (by assumption) ?_
        case hi2 => (simp only [List.getElem?_toArray, List.getElem?_cons_succ, List.getElem?_cons_zero]; rfl)
        case hQ2 => exact fun _ _ _ h => h
        case hy2 => (refine Or.inl ⟨by rfl, ?_⟩; intro w hSw; obtain ⟨d0, d1, d2, d3, e0, e1, e2, e3, m0, m1, m2, m3, m4, m5, _⟩ := hSw; go_simp; try with_reducible rfl)
        try simp only [Act.put, List.setIfInBounds_toArray, List.set_cons_zero, List.set_cons_succ]
        refine wpAnyH_take (i := 2) (oi := ?oi3) (v := ?v3) ?hi3 (by kernel_rfl) (by kernel_rfl) (by kernel_rfl) ?hQ3 ?hy3 (by assumption) ?_
        case hi3 => (simp only [List.getElem?_toArray, List.getElem?_cons_succ, List.getElem?_cons_zero]; rfl)
        case hQ3 => exact fun _ _ _ h => h
        case hy3 => (refine Or.inl ⟨by rfl, ?_⟩; intro w hSw; obtain ⟨d0, d1, d2, d3, e0, e1, e2, e3, m0, m1, m2, m3, m4, m5, _⟩ := hSw; go_simp; try with_reducible rfl)
        try simp only [Act.put, List.setIfInBounds_toArray, List.set_cons_zero, List.set_cons_succ]
        refine wpAnyH_take (i := 3) (oi := ?oi4) (v := ?v4) ?hi4 (by kernel_rfl) (by kernel_rfl) (by kernel_rfl) ?hQ4 ?hy4 (by assumption) ?_
        case hi4 => (simp only [List.getElem?_toArray, List.getElem?_cons_succ, List.getElem?_cons_zero]; rfl)
        case hQ4 => exact fun _ _ _ h => h
        case hy4 => (refine Or.inl ⟨by rfl, ?_⟩; intro w hSw; obtain ⟨d0, d1, d2, d3, e0, e1, e2, e3, m0, m1, m2, m3, m4, m5, _⟩ := hSw; go_simp; try with_reducible rfl)
        try simp only [Act.put, List.setIfInBounds_toArray, List.set_cons_zero, List.set_cons_succ]
        refine wpAnyH_take (i := 4) (oi := ?oi5) (v := ?v5) ?hi5 (by kernel_rfl) (by kernel_rfl) (by kernel_rfl) ?hQ5 ?hy5 (by assumption) ?_
        case hi5 => (simp only [List.getElem?_toArray, List.getElem?_cons_succ, List.getElem?_cons_zero]; rfl)
        case hQ5 => exact fun _ _ _ h => h
        case hy5 => (refine Or.inl ⟨by rfl, ?_⟩; intro w hSw; obtain ⟨d0, d1, d2, d3, e0, e1, e2, e3, m0, m1, m2, m3, m4, m5, _⟩ := hSw; go_simp; try with_reducible rfl)
        try simp only [Act.put, List.setIfInBounds_toArray, List.set_cons_zero, List.set_cons_succ]
        refine wpAnyH_take (i := 5) (oi := ?oi6) (v := ?v6) ?hi6 (by kernel_rfl) (by kernel_rfl) (by kernel_rfl) ?hQ6 ?hy6 (by assumption) ?_
        case hi6 => (simp only [List.getElem?_toArray, List.getElem?_cons_succ, List.getElem?_cons_zero]; rfl)
        case hQ6 => exact fun _ _ _ h => h
        case hy6 => (refine Or.inl ⟨by rfl, ?_⟩; intro w hSw; obtain ⟨d0, d1, d2, d3, e0, e1, e2, e3, m0, m1, m2, m3, m4, m5, _⟩ := hSw; go_simp; try with_reducible rfl)
        try simp only [Act.put, List.setIfInBounds_toArray, List.set_cons_zero, List.set_cons_succ]
        refine wpAnyH_take (i := 7) (oi := ?oi7) (v := ?v7) ?hi7 (by kernel_rfl) (by kernel_rfl) (by kernel_rfl) ?hQ7 ?hy7 (by assumption) ?_
        case hi7 => (simp only [List.getElem?_toArray, List.getElem?_cons_succ, List.getElem?_cons_zero]; rfl)
        case hQ7 => exact fun _ _ _ h => h
        case hy7 => (refine Or.inl ⟨by rfl, ?_⟩; intro w hSw; obtain ⟨d0, d1, d2, d3, e0, e1, e2, e3, m0, m1, m2, m3, m4, m5, _⟩ := hSw; go_simp; try with_reducible rfl)
        try simp only [Act.put, List.setIfInBounds_toArray, List.set_cons_zero, List.set_cons_succ]
        refine wpAnyH_take (i := 8) (oi := ?oi8) (v := ?v8) ?hi8 (by kernel_rfl) (by kernel_rfl) (by kernel_rfl) ?hQ8 ?hy8 (by assumption) ?_
        case hi8 => (simp only [List.getElem?_toArray, List.getElem?_cons_succ, List.getElem?_cons_zero]; rfl)
        case hQ8 => exact fun _ _ _ h => h
        case hy8 => (refine Or.inl ⟨by rfl, ?_⟩; intro w hSw; obtain ⟨d0, d1, d2, d3, e0, e1, e2, e3, m0, m1, m2, m3, m4, m5, _⟩ := hSw; go_simp; try with_reducible rfl)
        try simp only [Act.put, List.setIfInBounds_toArray, List.set_cons_zero, List.set_cons_succ]
        refine wpAnyH_take (i := 9) (oi := ?oi9) (v := ?v9) ?hi9 (by kernel_rfl) (by kernel_rfl) (by kernel_rfl) ?hQ9 ?hy9 (by assumption) ?_
        case hi9 => (simp only [List.getElem?_toArray, List.getElem?_cons_succ, List.getElem?_cons_zero]; rfl)
        case hQ9 => exact fun _ _ _ h => h
        case hy9 => (refine Or.inl ⟨by rfl, ?_⟩; intro w hSw; obtain ⟨d0, d1, d2, d3, e0, e1, e2, e3, m0, m1, m2, m3, m4, m5, _⟩ := hSw; go_simp; try with_reducible rfl)
        try simp only [Act.put, List.setIfInBounds_toArray, List.set_cons_zero, List.set_cons_succ]
        refine wpAnyH_take (i := 10) (oi := ?oi10) (v := ?v10) ?hi10 (by kernel_rfl) (by kernel_rfl) (by kernel_rfl) ?hQ10 ?hy10 (by assumption) ?_
        case hi10 => (simp only [List.getElem?_toArray, List.getElem?_cons_succ, List.getElem?_cons_zero]; rfl)
        case hQ10 => exact fun _ _ _ h => h
        case hy10 => (refine Or.inl ⟨by rfl, ?_⟩; intro w hSw; obtain ⟨d0, d1, d2, d3, e0, e1, e2, e3, m0, m1, m2, m3, m4, m5, _⟩ := hSw; go_simp; try with_reducible rfl)
        try simp only [Act.put, List.setIfInBounds_toArray, List.set_cons_zero, List.set_cons_succ]
        refine wpAnyH_take (i := 11) (oi := ?oi11) (v := ?v11) ?hi11 (by kernel_rfl) (by kernel_rfl) (by kernel_rfl) ?hQ11 ?hy11 (by assumption) ?_
        case hi11 => (simp only [List.getElem?_toArray, List.getElem?_cons_succ, List.getElem?_cons_zero]; rfl)
        case hQ11 => exact fun _ _ _ h => h
        case hy11 => (refine Or.inl ⟨by rfl, ?_⟩; intro w hSw; obtain ⟨d0, d1, d2, d3, e0, e1, e2, e3, m0, m1, m2, m3, m4, m5, _⟩ := hSw; go_simp; try with_reducible rfl)
        try simp only [Act.put, List.setIfInBounds_toArray, List.set_cons_zero, List.set_cons_succ]
        refine wpAnyH_ready (rs := [6]) (by kernel_rfl) (by simp) ?_
        refine AllReadyH.cons (o := ?oi1406) ?ho1406 (fun K hK => ?_) AllReadyH.nil
        case ho1406 => (simp only [List.getElem?_toArray, List.getElem?_cons_succ, List.getElem?_cons_zero]; rfl)
        go_simp
        unfold stepCall at HS1
        go_at_call 20; (with_reducible refine (HS1.out _ (HT.out.same (RegP.b (by assumption)))).mono ?_); rintro e w11 ⟨rfl, hbw11⟩
        refine hK.out _ _ ?_ (fun hHeld => ?_)
        · (try dsimp only); exact RegP.keep (by assumption) hbw11
        clear hK K
        try simp only [Act.put, List.setIfInBounds_toArray, List.set_cons_zero, List.set_cons_succ]
        refine wpAnyH_ready (rs := [12]) (by kernel_rfl) (by simp) ?_
        refine AllReadyH.cons (o := ?oi1312) ?ho1312 (fun K hK => ?_) AllReadyH.nil
        case ho1312 => (simp only [List.getElem?_toArray, List.getElem?_cons_succ, List.getElem?_cons_zero]; rfl)
        go_simp
        go_at_call 21; (with_reducible refine (HS2.out _ (HK.out.same (RegP.b (by assumption)))).mono ?_); rintro e w12 ⟨rfl, hbw12⟩
        refine hK.out _ _ ?_ (fun hHeld => ?_)
        · (try dsimp only); exact RegP.keep (by assumption) hbw12
        clear hK K
        try simp only [Act.put, List.setIfInBounds_toArray, List.set_cons_zero, List.set_cons_succ]
        refine wpAnyH_take (i := 13) (oi := ?oi12) (v := ?v12) ?hi12 (by kernel_rfl) (by kernel_rfl) (by kernel_rfl) ?hQ12 ?hy12 (by assumption) ?_
        case hi12 => (simp only [List.getElem?_toArray, List.getElem?_cons_succ, List.getElem?_cons_zero]; rfl)
        case hQ12 => exact fun _ _ _ h => h
        case hy12 => (refine Or.inl ⟨by rfl, ?_⟩; intro w hSw; obtain ⟨d0, d1, d2, d3, e0, e1, e2, e3, m0, m1, m2, m3, m4, m5, _⟩ := hSw; go_simp; try with_reducible rfl)
        try simp only [Act.put, List.setIfInBounds_toArray, List.set_cons_zero, List.set_cons_succ]
        refine wpAnyH_done (by kernel_rfl) ?_ _
        have hfin : Below wr.heap.size wr w12 := RegP.b (by assumption)
        have HFin := Lib.hid (HP.out.trans (hfin.mono HP.out.size))
        clear hfin
        go_wp2_with fail
        exact ⟨⟨k + 1, by omega, by go_num, HFin.out⟩, by simp only [intOf]; omega⟩
      · obtain rfl : k = l.length := by omega
        go_wp2_with (go_at_call 12; refine (HZ.out _).mono ?_; rintro e w11 ⟨rfl, hb11⟩)
        go_ret
        exact ⟨rfl, HB9.out.trans ((hP.trans (hb11.mono hP.size)).mono HB9.out.size)⟩

theorem opens_cl {W : World} : Opens Try.prog W 48 [IsI .i64, IsI .i64, IsI .i64, IsI .i64] :=
  opens_struct (ss := [[IsI .i64], [IsI .i64], [IsI .i64], [IsI .i64]]) Try.underlying48 (by kernel_rfl)
    ⟨rfl, by kernel_rfl, opens_int Try.underlying3, rfl, by kernel_rfl, opens_int Try.underlying3, rfl, by kernel_rfl, opens_int Try.underlying3, rfl, by kernel_rfl, opens_int Try.underlying3, trivial⟩
theorem opens_td {W : World} : Opens Try.prog W 97 [IsI .i64, IsI .i64, IsI .i64, IsI .i64] :=
  opens_struct (ss := [[IsI .i64], [IsI .i64], [IsI .i64], [IsI .i64]]) Try.underlying97 (by kernel_rfl)
    ⟨rfl, by kernel_rfl, opens_int Try.underlying3, rfl, by kernel_rfl, opens_int Try.underlying3, rfl, by kernel_rfl, opens_int Try.underlying3, rfl, by kernel_rfl, opens_int Try.underlying3, trivial⟩
theorem opens_nw {W : World} : Opens Try.prog W 24 [IsI .i64, IsI .i64, IsI .i64, IsI .i64] :=
  opens_struct (ss := [[IsI .i64], [IsI .i64], [IsI .i64], [IsI .i64]]) Try.underlying24 (by kernel_rfl)
    ⟨rfl, by kernel_rfl, opens_int Try.underlying3, rfl, by kernel_rfl, opens_int Try.underlying3, rfl, by kernel_rfl, opens_int Try.underlying3, rfl, by kernel_rfl, opens_int Try.underlying3, trivial⟩
theorem cl_of (cs : List Value) (h : Fits [IsI .i64, IsI .i64, IsI .i64, IsI .i64] cs) : ∃ x : Cl, cs = clCells x ∧ True := by
  obtain ⟨_, t1, rfl, ⟨n1, rfl, _⟩, h1⟩ := fits_cons h
  obtain ⟨_, t2, rfl, ⟨n2, rfl, _⟩, h2⟩ := fits_cons h1
  obtain ⟨_, t3, rfl, ⟨n3, rfl, _⟩, h3⟩ := fits_cons h2
  obtain ⟨_, t4, rfl, ⟨n4, rfl, _⟩, h4⟩ := fits_cons h3
  obtain rfl := fits_nil h4
  exact ⟨⟨n1, n2, n3, n4⟩, rfl, trivial⟩
theorem td_of (cs : List Value) (h : Fits [IsI .i64, IsI .i64, IsI .i64, IsI .i64] cs) : ∃ x : Td, cs = tdCells x ∧ True := by
  obtain ⟨_, t1, rfl, ⟨n1, rfl, _⟩, h1⟩ := fits_cons h
  obtain ⟨_, t2, rfl, ⟨n2, rfl, _⟩, h2⟩ := fits_cons h1
  obtain ⟨_, t3, rfl, ⟨n3, rfl, _⟩, h3⟩ := fits_cons h2
  obtain ⟨_, t4, rfl, ⟨n4, rfl, _⟩, h4⟩ := fits_cons h3
  obtain rfl := fits_nil h4
  exact ⟨⟨n1, n2, n3, n4⟩, rfl, trivial⟩
theorem came_nw {v : Value} {W : World} (h : Came Try.prog W 24 v) : ∃ x : Nw, v = nwV x := by
  obtain ⟨l0, rfl, h0⟩ := came_struct Try.underlying24 opens_nw h
  obtain ⟨_, t1, rfl, ⟨n1, rfl, _⟩, h1⟩ := fits_cons h0
  obtain ⟨_, t2, rfl, ⟨n2, rfl, _⟩, h2⟩ := fits_cons h1
  obtain ⟨_, t3, rfl, ⟨n3, rfl, _⟩, h3⟩ := fits_cons h2
  obtain ⟨_, t4, rfl, ⟨n4, rfl, _⟩, h4⟩ := fits_cons h3
  obtain rfl := fits_nil h4
  exact ⟨⟨n1, n2, n3, n4⟩, rfl⟩
theorem fplans_done : Walk 4 Try.f4 := by
  intro W args hs hc
  rw [Try.params4] at hs hc
  obtain ⟨l⟩ := args
  match l, hs with
  | [v0, v1, v2], _ =>
    obtain ⟨a, c, l, rfl, g1, g2, _, hl⟩ := row_of_sl (k := 4) (cells := clCells) (fun _ => True) (by omega) cl_of (came_slice Try.underlying22 (ps := [IsI .i64, IsI .i64, IsI .i64, IsI .i64]) (by kernel_rfl) opens_cl (hc 0 22 v0 rfl rfl))
    obtain ⟨x, rfl⟩ := came_nw (hc 1 24 v1 rfl rfl)
    obtain ⟨a2, c2, l2, rfl, g3, g4, _, hl2⟩ := row_of_sl (k := 4) (cells := tdCells) (fun _ => True) (by omega) td_of (came_slice Try.underlying25 (ps := [IsI .i64, IsI .i64, IsI .i64, IsI .i64]) (by kernel_rfl) opens_td (hc 2 25 v2 rfl rfl))
    exact fplans_walk a c l x a2 c2 l2 W g1 g2 g3 g4 hl hl2
end Go.Proofs.Ytgkmmoiniidhlaa
