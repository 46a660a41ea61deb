/-
  Layer 13 (queue): Sweep: what a round leaves.
-/
import Derived.Test.YtmanmebgmhpilaaQue5
namespace Go.Proofs.Ytmanmebgmhpilaa
open Go.RowKit
set_option linter.unusedVariables false
set_option linter.unusedSimpArgs false

/-- What a waiting one comes to. -/
def endV (x : It) (now : Int) : Int := if x.dl ≤ now then 3 else if x.bud < bLeft now x.since then 4 else 0
theorem ends_any (x : It) (now : Int) (w : World) : Calls Try.prog 51 #[itV x, .int .i64 now] w fun e w' => e = .returned (.int .i64 (endV x now)) ∧ Below w.heap.size w w' := by
  unfold endV
  by_cases h : x.dl ≤ now
  · rw [if_pos h]; exact ends_late x now w h
  · rw [if_neg h]; exact ends_wait x now w (by omega)

theorem wpList_run_append {P : Program} {ops : Array Oper} {rest : List Oper} {o : Oper} {a : Act} {w w' : World} {v v' u : Value} {Q : Exit → Act → World → Prop} (hgd : o.guard = none) (s x : Operand) (t : TypeId)
    (ho : o.op = .call { callee := .builtin .append, args := #[s, x], argTypes := #[t, t] }) (hs : a.eval s = v) (hx : a.eval x = u) (hr : (Builtin.append_ #[t, t] o.type #[v, u]).run P w = .ok v' w') (h : wpList P ops Q rest (a.put o.dst v') w') : wpList P ops Q (o :: rest) a w := by
  refine wpList_plain hgd fun K hK => ?_
  unfold Oper.wp execOp
  simp only [ho, resolve, invoke, builtin, Sem.run_bind, Sem.run_pure, Result.andThen_ok, List.map_toArray, List.map_cons, List.map_nil, hs, hx, hr]
  exact hK _ _ h
theorem QAt.other {w w' : World} {q p M H : Nat} {most : Int} {tv : Value} {T : List It} (h : QAt w q p M most tv T) (ho : Only H w w') (h0 : H ≠ q) (h1 : H ≠ p) (h2 : H ≠ M) (h3 : some H ≠ tv.ownBlock) : QAt w' q p M most tv T :=
  ⟨(ho.block q h.o.lt (fun e => h0 (by cases e; rfl))).trans h.o, h.h.other ho h1 h2 h3, h.ap⟩

structure SwAt (w wr : World) (q p M : Nat) (most : Int) (tv0 tv : Value) (T : List It) (nb qb ov : Nat) (now : Int) (v : Value) (O : List It) : Prop where
  Q : QAt wr q p M most tv T
  f : Frp p M tv0 tv w wr
  n : IsObj wr nb 3 [.int .i64 now]
  u : IsObj wr qb 62 [.pointer (some ⟨q, 0, none⟩)]
  o : IsObj wr ov 22 [v]
  r : wr.ownsRow (ov + 1) 31 7 v O.length (O.flatMap itCells)
  ord : w.heap.size ≤ ov ∧ nb < ov ∧ qb < ov ∧ w.heap.size ≤ nb ∧ w.heap.size ≤ qb
  ap : ∀ g, (g = nb ∨ g = qb ∨ g = ov ∨ v.ownBlock = some g) → g ≠ q ∧ g ≠ p ∧ g ≠ M ∧ some g ≠ tv.ownBlock
theorem SwAt.same {w wr w' : World} {q p M : Nat} {most : Int} {tv0 tv : Value} {T : List It} {nb qb ov : Nat} {now : Int} {v : Value} {O : List It} (h : SwAt w wr q p M most tv0 tv T nb qb ov now v O) (hb : Below wr.heap.size wr w') : SwAt w w' q p M most tv0 tv T nb qb ov now v O :=
  ⟨h.Q.same hb, h.f.trans (Frp.below hb), IsObj.below h.n hb h.n.lt, IsObj.below h.u hb h.u.lt, IsObj.below h.o hb h.o.lt, own_below h.r hb, h.ord, h.ap⟩
theorem SwAt.frp {w wr w' : World} {q p M : Nat} {most : Int} {tv0 tv tv' : Value} {T T' : List It} {nb qb ov : Nat} {now : Int} {v : Value} {O : List It} (h : SwAt w wr q p M most tv0 tv T nb qb ov now v O) (f : Frp p M tv tv' wr w') (hq : QAt w' q p M most tv' T') : SwAt w w' q p M most tv0 tv' T' nb qb ov now v O := by
  have a1 := h.ap nb (.inl rfl)
  have a2 := h.ap qb (.inr (.inl rfl))
  have a3 := h.ap ov (.inr (.inr (.inl rfl)))
  refine ⟨hq, h.f.trans f, f.isObj h.n a1.2.1 a1.2.2.1 a1.2.2.2, f.isObj h.u a2.2.1 a2.2.2.1 a2.2.2.2, f.isObj h.o a3.2.1 a3.2.2.1 a3.2.2.2, own_at h.r (fun g hg he => ?_), h.ord, fun g hg => ?_⟩
  · have a4 := h.ap g (.inr (.inr (.inr he)))
    exact f.block g (h.r.lt g he).2 a4.2.1 a4.2.2.1 a4.2.2.2
  · have hl : g < wr.heap.size := by
      rcases hg with rfl | rfl | rfl | he
      · exact h.n.lt
      · exact h.u.lt
      · exact h.o.lt
      · exact (h.r.lt g he).2
    have a5 := h.ap g hg
    exact ⟨a5.1, SeAt.far f hl a5.2⟩

set_option maxRecDepth 100000 in
set_option maxHeartbeats 1000000 in
theorem sweep1_stay {w wr : World} {q p M : Nat} {most : Int} {tv0 tv : Value} {T : List It} {nb qb ov : Nat} {now : Int} {v : Value} {O : List It} (x : It) (h : SwAt w wr q p M most tv0 tv T nb qb ov now v O) (he : endV x now = 0) :
    Calls Try.prog 58 #[itV x, .pointer (some ⟨nb, 0, none⟩), .pointer (some ⟨qb, 0, none⟩), .pointer (some ⟨ov, 0, none⟩)] wr fun e w' => e = .returned (.tuple #[]) ∧ Below wr.heap.size wr w' := by
  have B0 := Lib.hid (show Below wr.heap.size wr (wr.alloc (.cells #[.int .i64 x.id, .int .i64 x.lev, .int .i64 x.frm, .int .i64 x.dl, .int .i64 x.bud, .int .i64 x.since, .int .i64 x.seq] 31)) from (Below.refl _ wr).alloc (Nat.le_refl _) _)
  have h0 := h.same B0.out
  have n0 : (wr.alloc (.cells #[.int .i64 x.id, .int .i64 x.lev, .int .i64 x.frm, .int .i64 x.dl, .int .i64 x.bud, .int .i64 x.since, .int .i64 x.seq] 31)).cell? ⟨nb, 0, none⟩ = some (.int .i64 now) := h0.n.cell 0
  have KE := ends_any x now (wr.alloc (.cells #[.int .i64 x.id, .int .i64 x.lev, .int .i64 x.frm, .int .i64 x.dl, .int .i64 x.bud, .int .i64 x.since, .int .i64 x.seq] 31))
  rw [he] at KE
  clear h h0 he
  go_enter Try.func58, Try.ntmps58
  go_wp2_with (go_at_call 51; refine KE.mono ?_; rintro e w1 ⟨rfl, b1⟩)
  go_end0
  exact ⟨rfl, B0.out.trans (b1.mono B0.out.size)⟩
theorem QAt.grown {w w' : World} {q p M : Nat} {most : Int} {tv : Value} {T : List It} {row : Option Nat} (h : QAt w q p M most tv T) (hg : w.grownBy w' row) (hr : ∀ g, row = some g → g ≠ q ∧ g ≠ p ∧ g ≠ M ∧ some g ≠ tv.ownBlock) : QAt w' q p M most tv T := by
  cases row with
  | none => exact h.same ⟨hg.os, hg.tape, hg.output, hg.size, fun k hk => hg.block k hk (by simp)⟩
  | some g =>
    obtain ⟨h1, h2, h3, h4⟩ := hr g rfl
    exact h.other hg h1 h2 h3 h4
theorem IsObj.grown {w w' : World} {b : Nat} {ty : TypeId} {cs : List Value} {row : Option Nat} (h : IsObj w b ty cs) (hg : w.grownBy w' row) (hr : row ≠ some b) : IsObj w' b ty cs := (hg.block b h.lt (fun e => hr e.symm)).trans h
theorem Frp.grown {p M : Nat} {tv tv1 : Value} {u w w' : World} {row : Option Nat} (f : Frp p M tv tv1 u w) (hg : w.grownBy w' row) (hr : ∀ g, row = some g → u.heap.size ≤ g) : Frp p M tv tv1 u w' := by
  cases row with
  | none => exact f.trans (Frp.below ⟨hg.os, hg.tape, hg.output, hg.size, fun k hk => hg.block k hk (by simp)⟩)
  | some g => exact f.late hg (hr g rfl)
theorem RowX.grown {w w' : World} {p M : Nat} {tv : Value} {ax : Option Addr} {cx : Nat} {X : List It} {row : Option Nat} (h : RowX w p M tv ax cx X) (hg : w.grownBy w' row) (hr : ∀ b off, ax = some ⟨b, off, none⟩ → 0 < X.length → row ≠ some b) : RowX w' p M tv ax cx X := by
  refine ⟨?_, h.cap, fun b off e h0 => by obtain ⟨h1, h2⟩ := h.ap b off e h0; exact ⟨Nat.lt_of_lt_of_le h1 hg.size, h2⟩⟩
  rcases h.row with rfl | ⟨b, off, rfl, hc⟩
  · exact .inl rfl
  · refine .inr ⟨b, off, rfl, fun i hi j hj => ?_⟩
    obtain ⟨h1, _⟩ := h.ap b off rfl (by omega)
    rw [← hc i hi j hj]
    exact World.cell?_of_block (w := w) (hg.block b h1 (fun e => hr b off rfl (by omega) e.symm))
abbrev Far (ax : Option Addr) (X : List It) (ov : Nat) (v : Value) : Prop := ∀ b off, ax = some ⟨b, off, none⟩ → 0 < X.length → b ≠ ov ∧ v.ownBlock ≠ some b
theorem SwAt.push {w w2 w4 : World} {q p M : Nat} {most : Int} {tv0 tv : Value} {T : List It} {nb qb ov : Nat} {now : Int} {v v' : Value} {O : List It} (x : It) (h : SwAt w w2 q p M most tv0 tv T nb qb ov now v O) (hg : w2.grownBy w4 v.ownBlock) (hr : w4.ownsRow (ov + 1) 31 7 v' (O.length + 1) (O.flatMap itCells ++ itCells x)) (hob : v'.ownBlock = v.ownBlock ∨ v'.ownBlock = some w2.heap.size) :
    SwAt w (w4.setCell ⟨ov, 0, none⟩ v') q p M most tv0 tv T nb qb ov now v' (O ++ [x]) := by
  have hv : ∀ g, v.ownBlock = some g → ov + 1 ≤ g := fun g e => (h.r.lt g e).1
  have hO := h.ord
  have Q4 := h.Q.grown hg (fun g e => h.ap g (.inr (.inr (.inr e))))
  have n4 := h.n.grown hg (fun e => by have := hv nb e; omega)
  have u4 := h.u.grown hg (fun e => by have := hv qb e; omega)
  have o4 := h.o.grown hg (fun e => by have := hv ov e; omega)
  have f4 := h.f.grown hg (fun g e => by have := hv g e; omega)
  have ho : Only ov w4 (w4.setCell ⟨ov, 0, none⟩ v') := (Only.refl ov w4).setCell (.inl rfl) _
  have a := h.ap ov (.inr (.inr (.inl rfl)))
  refine ⟨Q4.other ho a.1 a.2.1 a.2.2.1 a.2.2.2, f4.late ho hO.1, n4.only ho (by omega), u4.only ho (by omega), IsObj.set o4 0 v', ?_, hO, fun g hgg => ?_⟩
  · have h1 : w4.ownsRow (ov + 1) 31 7 v' (O ++ [x]).length ((O ++ [x]).flatMap itCells) := by
      rw [List.length_append, List.flatMap_append, List.flatMap_cons, List.flatMap_nil, List.append_nil]
      exact hr
    exact own_at h1 (fun g h2 he => ho.block g (h1.lt g he).2 (fun e => by cases e; omega))
  · rcases hgg with h1 | h1 | h1 | h1
    · exact h.ap g (.inl h1)
    · exact h.ap g (.inr (.inl h1))
    · exact h.ap g (.inr (.inr (.inl h1)))
    · rcases hob with h2 | h2
      · exact h.ap g (.inr (.inr (.inr (by rw [← h2]; exact h1))))
      · rw [h2] at h1
        cases h1
        have hy := h.Q.h.young rfl
        exact ⟨by have := h.Q.o.lt; omega, hy⟩
set_option maxRecDepth 100000 in
set_option maxHeartbeats 2000000 in
theorem sweep1_goes {w wr : World} {q p M : Nat} {most : Int} {tv0 tv : Value} {T : List It} {nb qb ov : Nat} {now : Int} {v : Value} {O : List It} (x : It) (j : Nat) (h : SwAt w wr q p M most tv0 tv T nb qb ov now v O) (he : endV x now ≠ 0) (hj : j < T.length) (hxj : nth T j = x) (h64 : O.length ≤ 64) {ax : Option Addr} {cx : Nat} {X : List It} (hrow : RowX wr p M tv ax cx X) (hfar : Far ax X ov v) :
    Calls Try.prog 58 #[itV x, .pointer (some ⟨nb, 0, none⟩), .pointer (some ⟨qb, 0, none⟩), .pointer (some ⟨ov, 0, none⟩)] wr fun e w' => e = .returned (.tuple #[]) ∧ ∃ tv' v', SwAt w w' q p M most tv0 tv' (outT T j) nb qb ov now v' (O ++ [x]) ∧ RowX w' p M tv' ax cx X ∧ Far ax X ov v' := by
  obtain ⟨i0, hi, hz0, hz1, hz2⟩ := info_parts item_parts
  obtain ⟨B, hB⟩ : ∃ B, B = wr.heap.size := ⟨_, rfl⟩
  have HB := Lib.hid hB
  have B0 := Lib.hid (show Below wr.heap.size wr (wr.alloc (.cells #[.int .i64 x.id, .int .i64 x.lev, .int .i64 x.frm, .int .i64 x.dl, .int .i64 x.bud, .int .i64 x.since, .int .i64 x.seq] 31)) from (Below.refl _ wr).alloc (Nat.le_refl _) _)
  have VX0 := Lib.hid (show IsObj (wr.alloc (.cells #[.int .i64 x.id, .int .i64 x.lev, .int .i64 x.frm, .int .i64 x.dl, .int .i64 x.bud, .int .i64 x.since, .int .i64 x.seq] 31)) B 31 (itCells x) by rw [hB]; exact IsObj.new wr _ (itCells x))
  have H0 := Lib.hid (h.same B0.out)
  have R0 := Lib.hid (hrow.same B0.out)
  have HFAR := Lib.hid hfar
  have hBy := h.Q.h.young hB
  have HBY := Lib.hid hBy
  generalize hev : endV x now = ev
  have KE := fun W => ends_any x now W
  rw [hev] at KE he
  have HXJ := Lib.hid hxj
  clear h hev hBy hB hxj hrow hfar
  go_enter Try.func58, Try.ntmps58
  go_upto_region 1 with (fail)
  rw [← HB.out]
  generalize wr.alloc (.cells #[.int .i64 x.id, .int .i64 x.lev, .int .i64 x.frm, .int .i64 x.dl, .int .i64 x.bud, .int .i64 x.since, .int .i64 x.seq] 31) = w0 at *
  have n0 : w0.cell? ⟨nb, 0, none⟩ = some (.int .i64 now) := H0.out.n.cell 0
  have x0 : w0.cell? ⟨B, 0, none⟩ = some (.int .i64 x.id) := VX0.out.cell 0
  have x1 : w0.cell? ⟨B, 1, none⟩ = some (.int .i64 x.lev) := VX0.out.cell 1
  have x2 : w0.cell? ⟨B, 2, none⟩ = some (.int .i64 x.frm) := VX0.out.cell 2
  have x3 : w0.cell? ⟨B, 3, none⟩ = some (.int .i64 x.dl) := VX0.out.cell 3
  have x4 : w0.cell? ⟨B, 4, none⟩ = some (.int .i64 x.bud) := VX0.out.cell 4
  have x5 : w0.cell? ⟨B, 5, none⟩ = some (.int .i64 x.since) := VX0.out.cell 5
  have x6 : w0.cell? ⟨B, 6, none⟩ = some (.int .i64 x.seq) := VX0.out.cell 6
  go_wp2_with fail
  refine (KE _).mono ?_
  rintro e w1 ⟨rfl, b1⟩
  have H1 := Lib.hid (H0.out.same b1)
  have R1 := Lib.hid (R0.out.same b1)
  have VX1 := Lib.hid (IsObj.below VX0.out b1 VX0.out.lt)
  clear b1 H0 VX0 B0 R0 n0 x0 x1 x2 x3 x4 x5 x6 KE
  have u0 : w1.cell? ⟨qb, 0, none⟩ = some (.pointer (some ⟨q, 0, none⟩)) := H1.out.u.cell 0
  have x0 : w1.cell? ⟨B, 0, none⟩ = some (.int .i64 x.id) := VX1.out.cell 0
  have KT := qtake_in j H1.out.Q hj
  rw [HXJ.out] at KT
  go_wp2_with fail
  refine KT.mono ?_
  rintro e w2 ⟨rfl, tv2, hq2, f2⟩
  have H2 := Lib.hid (H1.out.frp f2 hq2)
  have R2 := Lib.hid (R1.out.frp f2)
  have VX2 := Lib.hid (f2.isObj VX1.out HBY.out.1 HBY.out.2.1 HBY.out.2.2)
  clear hq2 f2 H1 VX1 R1 u0 x0 KT
  have o0 : w2.cell? ⟨ov, 0, none⟩ = some v := H2.out.o.cell 0
  have x0 : w2.cell? ⟨B, 0, none⟩ = some (.int .i64 x.id) := VX2.out.cell 0
  have x1 : w2.cell? ⟨B, 1, none⟩ = some (.int .i64 x.lev) := VX2.out.cell 1
  have x2 : w2.cell? ⟨B, 2, none⟩ = some (.int .i64 x.frm) := VX2.out.cell 2
  have x3 : w2.cell? ⟨B, 3, none⟩ = some (.int .i64 x.dl) := VX2.out.cell 3
  have x4 : w2.cell? ⟨B, 4, none⟩ = some (.int .i64 x.bud) := VX2.out.cell 4
  have x5 : w2.cell? ⟨B, 5, none⟩ = some (.int .i64 x.since) := VX2.out.cell 5
  have x6 : w2.cell? ⟨B, 6, none⟩ = some (.int .i64 x.seq) := VX2.out.cell 6
  have b3 : Below w2.heap.size w2 (w2.alloc (.cells #[.int .i64 x.id, .int .i64 x.lev, .int .i64 x.frm, .int .i64 x.dl, .int .i64 x.bud, .int .i64 x.since, .int .i64 x.seq] 31)) := (Below.refl _ w2).alloc (Nat.le_refl _) _
  have H3 := Lib.hid (H2.out.same b3)
  have R3 := Lib.hid (R2.out.same b3)
  have hnews : ∀ j u, (itCells x)[j]? = some u → (w2.alloc (.cells #[.int .i64 x.id, .int .i64 x.lev, .int .i64 x.frm, .int .i64 x.dl, .int .i64 x.bud, .int .i64 x.since, .int .i64 x.seq] 31)).cell? ((⟨w2.heap.size, 0, none⟩ : Addr).add j) = some u := fun j u hu => by rw [addr_add, Nat.zero_add]; exact ((IsObj.new w2 31 (itCells x)).cell j).trans hu
  obtain ⟨v', w4, hra, hown4, hg4, hnil, hob⟩ := run_append_own_at (P := Try.prog) (w2.alloc (.cells #[.int .i64 x.id, .int .i64 x.lev, .int .i64 x.frm, .int .i64 x.dl, .int .i64 x.bud, .int .i64 x.since, .int .i64 x.seq] 31)) (ov + 1) 22 22 31 i0 (.agg #[.int .i64 0, .int .i64 0, .int .i64 0, .int .i64 0, .int .i64 0, .int .i64 0, .int .i64 0]) 7 56 Try.underlying22 hi hz0 hz1 hz2 rfl (by decide) v O.length (O.flatMap itCells) H3.out.r ⟨w2.heap.size, 0, none⟩ 1 1 (itCells x) (by rw [itCells_len]) hnews (it_cells1 x) (by unfold maxLen; omega) (by omega) (by have := H3.out.o.lt; omega)
  obtain ⟨av, mv, cv, rfl⟩ := own_sl7 hown4
  have H5 := Lib.hid (H3.out.push x hg4 hown4 hob)
  have R5 := Lib.hid ((R3.out.grown hg4 (fun b off e h0 => (HFAR.out b off e h0).2)).grown ((Only.refl ov w4).setCell (p := ⟨ov, 0, none⟩) (.inl rfl) (.slice av mv cv)) (fun b off e h0 he => by cases he; exact (HFAR.out _ off e h0).1 rfl))
  have F5 := Lib.hid (show Far ax X ov (.slice av mv cv) from fun b off e h0 => ⟨(HFAR.out b off e h0).1, fun he => by
    rcases hob with h1 | h1
    · exact (HFAR.out b off e h0).2 (by rw [← h1]; exact he)
    · rw [h1] at he
      have h2 := (R2.out.ap b off e h0).1
      have h3 := Option.some.inj he
      rw [World.size_alloc] at h3
      omega⟩)
  have o4 := IsObj.grown H3.out.o hg4 (fun e => by have := (H3.out.r.lt ov e).1; omega)
  have c4 : w4.cell? ⟨ov, 0, none⟩ = some v := o4.cell 0
  have fr4 := IsObj.free o4 0
  clear b3 hnews hown4 hg4 hnil hob o4 H3
  go_wp2_with (at_builtin; refine wpList_run_append (by rfl) _ _ 22 (by rfl) (by rfl) (by rfl) hra ?_)
  go_end0
  exact ⟨rfl, tv2, _, H5.out, R5.out, F5.out⟩
end Go.Proofs.Ytmanmebgmhpilaa
