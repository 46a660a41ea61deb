/-
  The statement PileSorts of layer 12 (pile): the walk. No condition.
-/
import Derived.Test.YtmanmebgmhpilaaAwake12
namespace Go.Proofs.Ytmanmebgmhpilaa
open Go.RowKit
set_option linter.unusedVariables false
set_option linter.unusedSimpArgs false

/-- What the first loop holds. -/
structure SoAt (w1 : World) (p M : Nat) (tv : Value) (T : List It) (wr : World) : Prop where
  h : PAt wr p M 64 tv T
  o : Heap T
  f : Frp p M (.slice none 0 0) tv w1 wr
theorem SoAt.same {w1 wr w' : World} {p M : Nat} {tv : Value} {T : List It} (h : SoAt w1 p M tv T wr) (hb : Below wr.heap.size wr w') : SoAt w1 p M tv T w' := ⟨h.h.same hb, h.o, h.f.trans (Frp.below hb)⟩
theorem wpList_load_if {ops : Array Oper} {rest : List Oper} {op : Oper} {a : Act} {w : World} {Q : Exit → Act → World → Prop} (hw : Region.wanted op (yielded ops a.tmps) = true) (ty : TypeId) (x : Operand) (ho : op.op = .load ty x)
    (b o : Nat) (hx : a.eval x = .pointer (some ⟨b, o, none⟩)) (cs : List Value) (d : TypeDesc) (hc : w.rangeAt b o cs)
    (hu : Try.prog.underlying ty = some d) (hd : d.isRow = true) (hi : (Try.prog.info? ty).map (·.size) = some cs.length)
    (h : wpList Try.prog ops Q rest (a.put op.dst (.agg cs.toArray)) w) : wpList Try.prog ops Q (op :: rest) a w :=
  wpList_step fun K hK => by rw [if_pos hw]; exact wp_load_mid ty x ho b o hx cs d hc hu hd hi (hK _ _ h)
theorem setvar {W : World} {X : Nat} {cs zs : List Value} {ty : TypeId} (o : IsObj W X ty zs) (hl : cs.length = zs.length) : W.there X 0 cs.toArray.size ∧ IsObj (W.setCells X 0 cs.toArray.toList) X ty cs ∧ Only X W (W.setCells X 0 cs.toArray.toList) :=
  ⟨IsObj.there o 0 cs.length (by omega), IsObj.setAll o hl, Only.setCells (b := X) cs 0 (Only.refl X W)⟩
/-- What the second loop holds: the pile, the variable `last`, and what came out. -/
structure SeAt (w1 : World) (p M L : Nat) (tv : Value) (T : List It) (x : It) (j : Nat) (wr : World) : Prop where
  s : SoAt w1 p M tv T wr
  v : IsObj wr L 31 (itCells x)
  a : w1.heap.size ≤ L
  n : L ≠ p ∧ L ≠ M ∧ some L ≠ tv.ownBlock
  r : j = 0 ∨ ∀ y, y ∈ T → Le x y
theorem SeAt.same {w1 wr w' : World} {p M L j : Nat} {tv : Value} {T : List It} {x : It} (h : SeAt w1 p M L tv T x j wr) (hb : Below wr.heap.size wr w') : SeAt w1 p M L tv T x j w' :=
  ⟨h.s.same hb, IsObj.below h.v hb h.v.lt, h.a, h.n, h.r⟩
theorem SeAt.far {wr w' : World} {p M L : Nat} {tv tv' : Value} (f : Frp p M tv tv' wr w') (hl : L < wr.heap.size) (h : L ≠ p ∧ L ≠ M ∧ some L ≠ tv.ownBlock) : L ≠ p ∧ L ≠ M ∧ some L ≠ tv'.ownBlock := by
  refine ⟨h.1, h.2.1, fun e => ?_⟩
  rcases f.own with o | o
  · rw [o] at e; exact h.2.2 e
  · have := o L e.symm
    omega
/-- `last` is written. -/
theorem SeAt.last {w1 wr w' : World} {p M L j : Nat} {tv : Value} {T : List It} {x y : It} (h : SeAt w1 p M L tv T x j wr) (ho : Only L wr w') (hv : IsObj w' L 31 (itCells y)) (hle : ∀ z, z ∈ T → Le y z) (i : Nat) : SeAt w1 p M L tv T y i w' := by
  refine ⟨⟨h.s.h.other ho h.n.1 h.n.2.1 h.n.2.2, h.s.o, h.s.f.late ho h.a⟩, hv, h.a, h.n, .inr hle⟩
theorem u8_id {q : Int} (h : (Lit.int .u8 q).wf = true) : IdOk q := by
  simp only [Lit.wf, Bool.and_eq_true, decide_eq_true_eq, IntKind.min, IntKind.max, IntKind.signed, IntKind.bits] at h
  simp only [IdOk, Lit.wf, Bool.and_eq_true, decide_eq_true_eq, IntKind.min, IntKind.max, IntKind.signed, IntKind.bits]
  simp at h ⊢
  omega
theorem u8_w64 {q : Int} (h : (Lit.int .u8 q).wf = true) : wrap64 q = q := by
  simp only [Lit.wf, Bool.and_eq_true, decide_eq_true_eq, IntKind.min, IntKind.max, IntKind.signed, IntKind.bits] at h
  simp at h
  exact w64_id _ (by omega) (by omega)
theorem heap_nil : Heap [] := ⟨fun k _ h => by simp at h⟩
theorem PAt.len64 {w : World} {p M : Nat} {most : Int} {tv : Value} {T : List It} (h : PAt w p M most tv T) : T.length ≤ 64 := by
  obtain ⟨D, hr, _⟩ := h.raw
  exact hr.len
/-- Push, whatever comes of it. -/
theorem ppush_so {w1 wr : World} {p M : Nat} {tv : Value} {T : List It} (x : It) (h : SoAt w1 p M tv T wr) (hx : IdOk x.id) : Calls Try.prog 12 #[.pointer (some ⟨p, 0, none⟩), itV x] wr fun e w' => ∃ tv' T', SoAt w1 p M tv' T' w' ∧ ((e = .returned (.int .i64 0) ∧ T'.length = T.length + 1) ∨ (e = .returned (.int .i64 8) ∧ T'.length = T.length) ∨ (e = .returned (.int .i64 6) ∧ T'.length = T.length)) := by
  by_cases hm : x.id ∈ T.map It.id
  · obtain ⟨k, hk, e⟩ := mem_nth hm
    refine (ppush_twice k x h.h hk e).mono ?_
    rintro e w' ⟨rfl, hb⟩
    exact ⟨tv, T, ⟨h.h.same hb, h.o, h.f.trans (Frp.below hb)⟩, .inr (.inl ⟨rfl, rfl⟩)⟩
  · by_cases hl : (T.length : Int) < 64
    · refine (ppush_ok x h.h hx hm hl (by omega)).mono ?_
      rintro e w' ⟨rfl, tv', h1, f1⟩
      exact ⟨tv', _, ⟨h1, push_heap h.o x, h.f.trans f1⟩, .inl ⟨rfl, by rw [(upT_perm _ (T ++ [x]) T.length (Nat.le_refl _) (by simp)).length_eq]; simp⟩⟩
    · refine (ppush_full x h.h hx hm (by omega)).mono ?_
      rintro e w' ⟨rfl, hb⟩
      exact ⟨tv, T, ⟨h.h.same hb, h.o, h.f.trans (Frp.below hb)⟩, .inr (.inr ⟨rfl, rfl⟩)⟩
/-- Take, whatever comes of it. -/
theorem ptake_so {w1 wr : World} {p M : Nat} {tv : Value} {T : List It} (id : Int) (h : SoAt w1 p M tv T wr) (hx : IdOk id) : Calls Try.prog 15 #[.pointer (some ⟨p, 0, none⟩), .int .i64 id] wr fun e w' => ∃ tv' T' x, SoAt w1 p M tv' T' w' ∧ (∀ y, y ∈ T' → y ∈ T) ∧ Frp p M tv tv' wr w' ∧ ((e = .returned (.tuple #[.agg (itCells x).toArray, .bool true]) ∧ T'.length + 1 = T.length) ∨ (e = .returned (.tuple #[.agg (itCells x).toArray, .bool false]) ∧ T'.length = T.length)) := by
  by_cases hm : id ∈ T.map It.id
  · obtain ⟨k, hk, e⟩ := mem_nth hm
    subst e
    refine (ptake_in k h.h hk).mono ?_
    rintro e w' ⟨rfl, tv', h1, f1⟩
    exact ⟨tv', _, _, ⟨h1, out_heap h.o hk, h.f.trans f1⟩, fun y hy => (out_perm hk).mem_iff.1 (List.mem_append_left _ hy), f1, .inl ⟨rfl, out_len hk⟩⟩
  · refine (ptake_out id h.h hx hm).mono ?_
    rintro e w' ⟨rfl, hb⟩
    exact ⟨tv, T, _, ⟨h.h.same hb, h.o, h.f.trans (Frp.below hb)⟩, fun y hy => hy, Frp.below hb, .inr ⟨rfl, rfl⟩⟩
/-- Pop takes the first, which is ahead of none that stays. -/
theorem ppop_so {w1 wr : World} {p M : Nat} {tv : Value} {T : List It} (h : SoAt w1 p M tv T wr) (h0 : 0 < T.length) : Calls Try.prog 13 #[.pointer (some ⟨p, 0, none⟩)] wr fun e w' => ∃ tv' T' x, SoAt w1 p M tv' T' w' ∧ (∀ y, y ∈ T' → y ∈ T ∧ Le x y) ∧ x ∈ T ∧ Frp p M tv tv' wr w' ∧ e = .returned (.tuple #[.agg (itCells x).toArray, .bool true]) ∧ T'.length + 1 = T.length := by
  refine (ppop_any h.h h0).mono ?_
  rintro e w' ⟨rfl, tv', h1, f1⟩
  refine ⟨tv', _, _, ⟨h1, out_heap h.o h0, h.f.trans f1⟩, fun y hy => ?_, ?_, f1, rfl, out_len h0⟩
  · have hm := (out_perm h0).mem_iff.1 (List.mem_append_left _ hy)
    obtain ⟨k, hk, rfl⟩ := List.getElem_of_mem hm
    rw [← nth_lt T k hk] at hm ⊢
    exact ⟨hm, h.o.min k hk⟩
  · rw [nth_lt T 0 h0]
    exact List.getElem_mem h0
set_option maxRecDepth 100000 in
set_option maxHeartbeats 4000000 in
theorem sorts_walk (a : Option Addr) (cap : Nat) (l : List It) (sv : Value) (sl : List Int) (w : World) (hsv : KInts .u8 w sv sl) (g1 : l.length ≤ cap) (g2 : cap ≤ 9223372036854775807) (hwf : ∀ i, i < l.length → IdOk (nth l i).id) (hA : RowOf itCells 7 w a l) :
    Calls Try.prog 3 #[.slice a l.length cap, sv] w fun e w' => e = .returned (.bool true) ∧ Below w.heap.size w w' := by
  have HA := Lib.hid hA
  have HW := Lib.hid hwf
  clear hA hwf
  obtain ⟨sa, sc, rfl, sg1, sg2, swf, sat⟩ := hsv
  have HSw := Lib.hid swf
  have HSa := Lib.hid sat
  clear swf sat
  by_cases hl : 64 < l.length
  · have i1 : (64 : Int) < (l.length : Int) := by omega
    go_enter Try.func3, Try.ntmps3
    go_wp2_with fail
    refine (awake12 w).mono ?_
    rintro e w1 ⟨rfl, b1⟩
    have B1 := Lib.hid b1
    clear b1
    go_wp2_with fail
    go_ret
    exact ⟨rfl, B1.out⟩
  · have i1 : (l.length : Int) ≤ 64 := by omega
    obtain ⟨p, hp⟩ : ∃ p, p = w.heap.size + 1 := ⟨_, rfl⟩
    obtain ⟨M, hM⟩ : ∃ M, M = w.heap.size := ⟨_, rfl⟩
    have K0 := pnew_ok 64 w (by decide) (by decide)
    rw [← hp, ← hM] at K0
    have K := Lib.hid K0
    have HM := Lib.hid (And.intro hp hM)
    clear hp hM K0
    go_enter Try.func3, Try.ntmps3
    go_wp2_with fail
    refine K.out.mono ?_
    rintro e w1 ⟨rfl, h1, b1⟩
    have HS0 := Lib.hid (show SoAt w1 p M (.slice none 0 0) [] w1 from ⟨h1, heap_nil, Frp.refl w1⟩)
    have B1 := Lib.hid b1
    clear h1 b1 K
    go_wp2_with fail
    go_loopw [7, 8] (fun s7 s8 wr => ∃ (j : Nat) (T : List It) (tv : Value), s7 = .int .i64 T.length ∧ s8 = .int .i64 j ∧ j ≤ l.length ∧ SoAt w1 p M tv T wr) (fun _ s8 _ => l.length - (intOf s8).toNat)
    case atStart => exact ⟨0, [], _, rfl, rfl, Nat.zero_le _, HS0.out⟩
    case round =>
      obtain ⟨j, T, tv, rfl, rfl, hj, hS⟩ := hrel
      have HS := Lib.hid hS
      have hT64 := hS.h.len64
      clear hS HS0
      by_cases hlt : j < l.length
      · obtain ⟨b, off, rfl, hc⟩ : ∃ b off, a = some ⟨b, off, none⟩ ∧ ∀ i, i < l.length → ∀ q, q < 7 → w.cell? ⟨b, off + i * 7 + q, none⟩ = (itCells (nth l i))[q]? := by
          rcases HA.out with h0 | ⟨b, off, e0, hc⟩
          · rw [h0] at hlt
            simp at hlt
          · exact ⟨b, off, e0, hc⟩
        have hbe := B1.out.trans (HS.out.f.toBelow (H := M) (by omega) (by have := HM.out; omega) (by have h8 := HM.out; have h9 := B1.out.size; omega))
        have RG := Lib.hid (show wr.rangeAt b (off + j * 7) (itCells (nth l j)) by
          intro q v hv
          have hq : q < 7 := by have := (List.getElem?_eq_some_iff.1 hv).1; rwa [itCells_len] at this
          have h0 := (hc j hlt q hq).trans hv
          rw [hbe.cell (p := ⟨b, off + j * 7 + q, none⟩) (by have h8 := cell_lt h0; have h9 := HM.out; have h7 : b < w.heap.size := h8; show b < M; omega)]
          exact h0)
        have i5 : (j : Int) < (l.length : Int) := by omega
        have W1 := Lib.hid (show wrap64 ((T.length : Int) + 1) = (T.length : Int) + 1 ∧ wrap64 ((j : Int) + 1) = (j : Int) + 1 from ⟨w64_id _ (by omega) (by omega), w64_id _ (by omega) (by omega)⟩)
        clear hc hbe
        go_wp2_with (refine wpList_load_mid (by rfl) 31 _ (by rfl) b (off + j * 7) (by rfl) (itCells (nth l j)) _ (by exact RG.out) Try.underlying31 rfl (by kernel_rfl) ?_)
        refine (ppush_so (nth l j) HS.out (HW.out j hlt)).mono ?_
        rintro e w2 ⟨tv2, T2, h2, hh⟩
        have HS2 := Lib.hid h2
        clear h2
        rcases hh with ⟨rfl, e1⟩ | ⟨rfl, e1⟩ | ⟨rfl, e1⟩
        all_goals
          have E1 := Lib.hid e1
          clear e1
          have v1 := W1.out.1
          have v2 := W1.out.2
          go_wp2_with fail
          clear v1 v2
          go_roundw
          case rel => exact ⟨j + 1, T2, tv2, congrArg (Value.int .i64) (by have := E1.out; omega), by go_num, by omega, HS2.out⟩
          case measure => simp [intOf]; omega
      · have i5 : ¬ (j : Int) < (l.length : Int) := by omega
        obtain ⟨L, hL⟩ : ∃ L, L = wr.heap.size := ⟨_, rfl⟩
        have HL := Lib.hid hL
        have b2 : Below wr.heap.size wr (wr.alloc (.cells #[.int .i64 0, .int .i64 0, .int .i64 0, .int .i64 0, .int .i64 0, .int .i64 0, .int .i64 0] 31)) := (Below.refl _ _).alloc (Nat.le_refl _) _
        have HE := Lib.hid (show SeAt w1 p M L tv T it0 0 (wr.alloc (.cells #[.int .i64 0, .int .i64 0, .int .i64 0, .int .i64 0, .int .i64 0, .int .i64 0, .int .i64 0] 31)) from ⟨HS.out.same b2, by rw [hL]; exact IsObj.new wr _ (itCells it0), by have := HS.out.f.size; omega, HS.out.h.young hL, .inl rfl⟩)
        clear hL b2
        go_wp2_with fail
        generalize (wr.alloc (.cells #[.int .i64 0, .int .i64 0, .int .i64 0, .int .i64 0, .int .i64 0, .int .i64 0, .int .i64 0] 31)) = w3 at *
        rw [← HL.out]
        go_loopw [7, 10] (fun s7 s10 wr => ∃ (k : Nat) (U : List It) (tu : Value) (x : It), s7 = .int .i64 U.length ∧ s10 = .int .i64 k ∧ k + U.length ≤ 64 ∧ SeAt w1 p M L tu U x k wr) (fun s7 _ _ => (intOf s7).toNat)
        case atStart => exact ⟨0, T, tv, it0, rfl, rfl, by omega, HE.out⟩
        case round =>
          clear HE HS
          obtain ⟨k, U, tu, x, rfl, rfl, hk, hE⟩ := hrel
          have HE2 := Lib.hid hE
          clear hE
          by_cases h0 : 0 < U.length
          · have i7 : (0 : Int) < (U.length : Int) := by omega
            have W2 := Lib.hid (show wrap64 ((U.length : Int) - 1) = (U.length : Int) - 1 ∧ wrap64 ((k : Int) + 1) = (k : Int) + 1 ∧ wrap64 ((U.length : Int) - 1 - 1) = (U.length : Int) - 1 - 1 from ⟨w64_id _ (by omega) (by omega), w64_id _ (by omega) (by omega), w64_id _ (by omega) (by omega)⟩)
            go_wp2_with fail
            refine (ppop_so HE2.out.s h0).mono ?_
            rintro e w4 ⟨tu2, U2, y, h4, hle, hmem, f4, rfl, e4⟩
            have E4 := Lib.hid e4
            have HLE := Lib.hid (show ∀ z, z ∈ U2 → Le y z from fun z hz => (hle z hz).2)
            have hbf : k = 0 ∨ befo y x = false := HE2.out.r.imp id fun h => befo_false.2 (h y hmem)
            have hNV := newvar w4 (itCells y) [.int .i64 0, .int .i64 0, .int .i64 0, .int .i64 0, .int .i64 0, .int .i64 0, .int .i64 0] 31 rfl
            obtain ⟨X, hX⟩ : ∃ X, X = w4.heap.size := ⟨_, rfl⟩
            have HX := Lib.hid hX
            have TH := Lib.hid hNV.1
            have v4 : IsObj w4 L 31 (itCells x) := f4.isObj HE2.out.v HE2.out.n.1 HE2.out.n.2.1 HE2.out.n.2.2
            have HE5 := Lib.hid (show SeAt w1 p M L tu2 U2 x k ((w4.alloc (.cells #[.int .i64 0, .int .i64 0, .int .i64 0, .int .i64 0, .int .i64 0, .int .i64 0, .int .i64 0] 31)).setCells w4.heap.size 0 (itCells y).toArray.toList) from ⟨h4.same hNV.2.2, IsObj.below v4 hNV.2.2 v4.lt, HE2.out.a, SeAt.far f4 HE2.out.v.lt HE2.out.n, HE2.out.r.imp id fun h z hz => h z (hle z hz).1⟩)
            have VX := Lib.hid (show IsObj ((w4.alloc (.cells #[.int .i64 0, .int .i64 0, .int .i64 0, .int .i64 0, .int .i64 0, .int .i64 0, .int .i64 0] 31)).setCells w4.heap.size 0 (itCells y).toArray.toList) X 31 (itCells y) by rw [hX]; exact hNV.2.1)
            clear hNV h4 hle hmem f4 hX v4 e4 HE2
            go_upto_region 15 with (refine wpList_store_mid (by rfl) 31 _ _ (by rfl) w4.heap.size 0 (itCells y).toArray (by rfl) (by rfl) (by exact TH.out) (by kernel_rfl) (it_one _) ?_; generalize (w4.alloc (.cells #[.int .i64 0, .int .i64 0, .int .i64 0, .int .i64 0, .int .i64 0, .int .i64 0, .int .i64 0] 31)).setCells w4.heap.size 0 (itCells y).toArray.toList = w5 at *)
            rw [← HX.out]
            clear TH
            by_cases hk0 : 0 < k
            · have i8 : (0 : Int) < (k : Int) := by omega
              have hbf2 : befo y x = false := hbf.resolve_left (by omega)
              have HB := Lib.hid hbf2
              clear hbf hbf2
              have RGL := Lib.hid (IsObj.range HE5.out.v)
              have RGX0 := Lib.hid (IsObj.range VX.out)
              go_upto_region 17 with (first | (refine wpList_load_if (by rfl) 31 _ (by rfl) X 0 (by rfl) (itCells y) _ (by exact RGX0.out) Try.underlying31 rfl (by kernel_rfl) ?_) | (refine wpList_load_if (by rfl) 31 _ (by rfl) L 0 (by rfl) (itCells x) _ (by exact RGL.out) Try.underlying31 rfl (by kernel_rfl) ?_) | (go_at_call 14; refine (rbefore_any y x w5).mono ?_; rintro e w9 ⟨rfl, b9⟩; rw [HB.out]; have HE9 := Lib.hid (HE5.out.same b9); have VX9 := Lib.hid (IsObj.below VX.out b9 VX.out.lt); clear b9 HE5 VX))
              clear RGL RGX0
              have RGX := Lib.hid (IsObj.range VX9.out)
              have hSV := setvar (cs := itCells y) HE9.out.v rfl
              have TH2 := Lib.hid hSV.1
              have HE6 := Lib.hid (HE9.out.last hSV.2.2 hSV.2.1 HLE.out (k + 1))
              clear hSV
              go_upto_region 18 with (first | (refine wpList_load_mid (by rfl) 31 _ (by rfl) X 0 (by rfl) (itCells y) _ (by exact RGX.out) Try.underlying31 rfl (by kernel_rfl) ?_) | (refine wpList_store_mid (by rfl) 31 _ _ (by rfl) L 0 (itCells y).toArray (by rfl) (by rfl) (by exact TH2.out) (by kernel_rfl) (it_one _) ?_; generalize w9.setCells L 0 (itCells y).toArray.toList = w6 at *))
              clear TH2 RGX
              by_cases hk4 : k < sl.length
              · obtain ⟨b2, off2, rfl, hc2⟩ : ∃ b off, sa = some ⟨b, off, none⟩ ∧ ∀ i, i < sl.length → w.cell? ⟨b, off + i, none⟩ = some (.int .u8 (nth sl i)) := by
                  rcases HSa.out with h0 | h0
                  · rw [h0] at hk4; simp at hk4
                  · exact h0
                have hbe := B1.out.trans (HE6.out.s.f.toBelow (H := M) (by omega) (by have := HM.out; omega) (by have h8 := HM.out; have h9 := B1.out.size; omega))
                have hx : w6.cell? ⟨b2, off2 + k, none⟩ = some (.int .u8 (nth sl k)) := (hbe.cell (p := ⟨b2, off2 + k, none⟩) (by have h8 := cell_lt (hc2 k hk4); have h9 := HM.out; have h7 : b2 < w.heap.size := h8; show b2 < M; omega)).trans (hc2 k hk4)
                have hwf := HSw.out k hk4
                have i8 : (k : Int) < (sl.length : Int) := by omega
                have hid := u8_id hwf
                have v5 := u8_w64 hwf
                clear hc2 hbe
                generalize nth sl k = q at *
                have HID := Lib.hid hid
                clear hid
                simp only [Lit.wf] at hwf
                have v1 := W2.out.1
                have v2 := W2.out.2.1
                have v3 := W2.out.2.2
                go_wp2_with fail
                clear v1 v2 v3 v5
                refine (ptake_so q HE6.out.s HID.out).mono ?_
                rintro e w7 ⟨tu3, U3, z, h7, hsub, f7, hh⟩
                have HE7 := Lib.hid (show SeAt w1 p M L tu3 U3 y (k + 1) w7 from ⟨h7, f7.isObj HE6.out.v HE6.out.n.1 HE6.out.n.2.1 HE6.out.n.2.2, HE6.out.a, SeAt.far f7 HE6.out.v.lt HE6.out.n, .inr fun z hz => HLE.out z (hsub z hz)⟩)
                clear h7 hsub f7 hx hwf
                rcases hh with ⟨rfl, e5⟩ | ⟨rfl, e5⟩
                all_goals
                  have E5 := Lib.hid e5
                  clear e5
                  have hNV := newvar w7 (itCells z) [.int .i64 0, .int .i64 0, .int .i64 0, .int .i64 0, .int .i64 0, .int .i64 0, .int .i64 0] 31 rfl
                  have TH := Lib.hid hNV.1
                  have HE8 := Lib.hid (HE7.out.same hNV.2.2)
                  clear hNV
                  go_upto_region 21 with (refine wpList_store_mid (by rfl) 31 _ _ (by rfl) w7.heap.size 0 (itCells z).toArray (by rfl) (by rfl) (by exact TH.out) (by kernel_rfl) (it_one _) ?_; generalize (w7.alloc (.cells #[.int .i64 0, .int .i64 0, .int .i64 0, .int .i64 0, .int .i64 0, .int .i64 0, .int .i64 0] 31)).setCells w7.heap.size 0 (itCells z).toArray.toList = w8 at *)
                  clear TH
                  have v1 := W2.out.1
                  have v2 := W2.out.2.1
                  have v3 := W2.out.2.2
                  have e6 := E4.out
                  go_wp2_with fail
                  clear v1 v2 v3
                  go_roundw
                  case rel => exact ⟨k + 1, U3, tu3, y, congrArg (Value.int .i64) (by have := E5.out; have := E4.out; have q1 := W2.out.1; have q2 := W2.out.2.2; first | omega | (rw [q1]; omega)), by go_num, by have := E5.out; have := E4.out; omega, HE8.out⟩
                  case measure => have := E5.out; have := E4.out; have q1 := W2.out.1; have q2 := W2.out.2.2; simp [intOf]; first | omega | (rw [q1]; omega)
              · have i8 : ¬ (k : Int) < (sl.length : Int) := by omega
                have v1 := W2.out.1
                have v2 := W2.out.2.1
                go_wp2_with fail
                clear v1 v2
                go_roundw
                case rel => exact ⟨k + 1, U2, tu2, y, congrArg (Value.int .i64) (by have := E4.out; omega), by go_num, by have := E4.out; omega, HE6.out⟩
                case measure => have := E4.out; simp [intOf]; omega
            · have i8 : ¬ (0 : Int) < (k : Int) := by omega
              clear hbf
              go_upto_region 17 with fail
              have RGX := Lib.hid (IsObj.range VX.out)
              have hSV := setvar (cs := itCells y) HE5.out.v rfl
              have TH2 := Lib.hid hSV.1
              have HE6 := Lib.hid (HE5.out.last hSV.2.2 hSV.2.1 HLE.out (k + 1))
              clear hSV
              go_upto_region 18 with (first | (refine wpList_load_mid (by rfl) 31 _ (by rfl) X 0 (by rfl) (itCells y) _ (by exact RGX.out) Try.underlying31 rfl (by kernel_rfl) ?_) | (refine wpList_store_mid (by rfl) 31 _ _ (by rfl) L 0 (itCells y).toArray (by rfl) (by rfl) (by exact TH2.out) (by kernel_rfl) (it_one _) ?_; generalize w5.setCells L 0 (itCells y).toArray.toList = w6 at *))
              clear TH2 RGX
              by_cases hk4 : k < sl.length
              · obtain ⟨b2, off2, rfl, hc2⟩ : ∃ b off, sa = some ⟨b, off, none⟩ ∧ ∀ i, i < sl.length → w.cell? ⟨b, off + i, none⟩ = some (.int .u8 (nth sl i)) := by
                  rcases HSa.out with h0 | h0
                  · rw [h0] at hk4; simp at hk4
                  · exact h0
                have hbe := B1.out.trans (HE6.out.s.f.toBelow (H := M) (by omega) (by have := HM.out; omega) (by have h8 := HM.out; have h9 := B1.out.size; omega))
                have hx : w6.cell? ⟨b2, off2 + k, none⟩ = some (.int .u8 (nth sl k)) := (hbe.cell (p := ⟨b2, off2 + k, none⟩) (by have h8 := cell_lt (hc2 k hk4); have h9 := HM.out; have h7 : b2 < w.heap.size := h8; show b2 < M; omega)).trans (hc2 k hk4)
                have hwf := HSw.out k hk4
                have i8 : (k : Int) < (sl.length : Int) := by omega
                have hid := u8_id hwf
                have v5 := u8_w64 hwf
                clear hc2 hbe
                generalize nth sl k = q at *
                have HID := Lib.hid hid
                clear hid
                simp only [Lit.wf] at hwf
                have v1 := W2.out.1
                have v2 := W2.out.2.1
                have v3 := W2.out.2.2
                go_wp2_with fail
                clear v1 v2 v3 v5
                refine (ptake_so q HE6.out.s HID.out).mono ?_
                rintro e w7 ⟨tu3, U3, z, h7, hsub, f7, hh⟩
                have HE7 := Lib.hid (show SeAt w1 p M L tu3 U3 y (k + 1) w7 from ⟨h7, f7.isObj HE6.out.v HE6.out.n.1 HE6.out.n.2.1 HE6.out.n.2.2, HE6.out.a, SeAt.far f7 HE6.out.v.lt HE6.out.n, .inr fun z hz => HLE.out z (hsub z hz)⟩)
                clear h7 hsub f7 hx hwf
                rcases hh with ⟨rfl, e5⟩ | ⟨rfl, e5⟩
                all_goals
                  have E5 := Lib.hid e5
                  clear e5
                  have hNV := newvar w7 (itCells z) [.int .i64 0, .int .i64 0, .int .i64 0, .int .i64 0, .int .i64 0, .int .i64 0, .int .i64 0] 31 rfl
                  have TH := Lib.hid hNV.1
                  have HE8 := Lib.hid (HE7.out.same hNV.2.2)
                  clear hNV
                  go_upto_region 21 with (refine wpList_store_mid (by rfl) 31 _ _ (by rfl) w7.heap.size 0 (itCells z).toArray (by rfl) (by rfl) (by exact TH.out) (by kernel_rfl) (it_one _) ?_; generalize (w7.alloc (.cells #[.int .i64 0, .int .i64 0, .int .i64 0, .int .i64 0, .int .i64 0, .int .i64 0, .int .i64 0] 31)).setCells w7.heap.size 0 (itCells z).toArray.toList = w8 at *)
                  clear TH
                  have v1 := W2.out.1
                  have v2 := W2.out.2.1
                  have v3 := W2.out.2.2
                  have e6 := E4.out
                  go_wp2_with fail
                  clear v1 v2 v3
                  go_roundw
                  case rel => exact ⟨k + 1, U3, tu3, y, congrArg (Value.int .i64) (by have := E5.out; have := E4.out; have q1 := W2.out.1; have q2 := W2.out.2.2; first | omega | (rw [q1]; omega)), by go_num, by have := E5.out; have := E4.out; omega, HE8.out⟩
                  case measure => have := E5.out; have := E4.out; have q1 := W2.out.1; have q2 := W2.out.2.2; simp [intOf]; first | omega | (rw [q1]; omega)
              · have i8 : ¬ (k : Int) < (sl.length : Int) := by omega
                have v1 := W2.out.1
                have v2 := W2.out.2.1
                go_wp2_with fail
                clear v1 v2
                go_roundw
                case rel => exact ⟨k + 1, U2, tu2, y, congrArg (Value.int .i64) (by have := E4.out; omega), by go_num, by have := E4.out; omega, HE6.out⟩
                case measure => have := E4.out; simp [intOf]; omega
          · have i7 : ¬ (0 : Int) < (U.length : Int) := by omega
            have h9 := HE2.out.s.h
            rw [List.length_eq_zero_iff.1 (show U.length = 0 by omega)] at h9
            have H9 := Lib.hid h9
            clear h9
            go_wp2_with fail
            refine (ppop_empty H9.out).mono ?_
            rintro e w4 ⟨rfl, b4⟩
            have hNV := newvar w4 (itCells it0) [.int .i64 0, .int .i64 0, .int .i64 0, .int .i64 0, .int .i64 0, .int .i64 0, .int .i64 0] 31 rfl
            have TH := Lib.hid hNV.1
            have HE5 := Lib.hid ((HE2.out.same b4).same hNV.2.2)
            have H5 := Lib.hid ((H9.out.same b4).same hNV.2.2)
            clear hNV b4
            go_upto_region 24 with (refine wpList_store_mid (by rfl) 31 _ _ (by rfl) w4.heap.size 0 (itCells it0).toArray (by rfl) (by rfl) (by exact TH.out) (by kernel_rfl) (it_one _) ?_; generalize (w4.alloc (.cells #[.int .i64 0, .int .i64 0, .int .i64 0, .int .i64 0, .int .i64 0, .int .i64 0, .int .i64 0] 31)).setCells w4.heap.size 0 (itCells it0).toArray.toList = w5 at *)
            clear TH H9 HE2
            have KL0 : Calls Try.prog 16 #[.pointer (some ⟨p, 0, none⟩)] w5 fun e w' => e = .returned (.int .i64 0) ∧ w5 = w' := plen_any H5.out
            have KL := Lib.hid KL0
            clear KL0
            have BF := Lib.hid (show Below w.heap.size w w5 from (B1.out.trans (HE5.out.s.f.toBelow (H := M) (by omega) (by have := HM.out; omega) (by have h8 := HM.out; have h9 := B1.out.size; omega))).mono (by have := HM.out; omega))
            go_wp2_with (first | ((go_at_call 16; (with_reducible refine (KL.out).mono ?_); rintro e w' ⟨rfl, rfl⟩)) | (go_at_call 10; refine (awake12 w5).mono ?_; rintro e w10 ⟨rfl, b10⟩; have BG := Lib.hid (BF.out.trans (b10.mono BF.out.size)); clear b10))
            go_ret
            exact ⟨rfl, BG.out⟩
end Go.Proofs.Ytmanmebgmhpilaa
